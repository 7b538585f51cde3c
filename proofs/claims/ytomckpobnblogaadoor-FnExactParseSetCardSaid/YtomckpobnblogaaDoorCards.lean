/-
  DERIVED. GIVEN WITH THE SEED: THE CARDS: each row of YtomckpobnblogaaDoorRows.lean that lists a variable, with what it lists TIED to the program's text (the seventh form; the later family's looks); each row that meets fmt, with fmt's text TOLD by the authors' own Lean function (tested against real Go, not proved from fmt's source: count such statements apart). THE CARD IS WHAT COUNTS. Prove the row's statement (the work); the ties are given (YtomckpobnblogaaDoorTie.lean); close each card by the builder's one call (the guide's Derived/Test/ToyasCard.lean, 'card_holds'). Laid BY PROGRAM, IN A SANDBOX (cutbox-door.mjs). By AI agents, Wed Nov 11 2026. No macro, syntax, notation, axiom, sorry.
-/
import Derived.Test.YtomckpobnblogaaDoorRows
import GoSem.ClaimSeven
namespace Go.Proofs.YtomckpobnblogaaDoor
namespace Rows

/-- THE TIED CARD OF 'laws.FnExactParseSet'. -/
def fnExactParseSetCard : Claim7 := { stood := { row := fnExactParseSetRow, standIns := [], harness := (true, "7fd139b0f5e5f82d96763c5234f03cf411d23e0c369770ace3f5c5891f5076ca"), looks := true }, kinds := [], alts := [], laidByText := true, laidKinds := [.data, .data, .data, .data, .sentinel, .sentinel, .pinned], laidTests := true, laidLooks := .later }
def FnExactParseSetCardSaid : Prop := Claim7.holds Tryd.pinned (.plain (OpenSpec.ofChange fnExactParseSetSpec)) fnExactParseSetCard

/-- THE SECOND FORM's CARD OF 'laws.FnExactParseSet'. -/
def fnExactParseSetUptoCard : Claim7 := { stood := { row := fnExactParseSetUptoRow, standIns := [], harness := (true, "7fd139b0f5e5f82d96763c5234f03cf411d23e0c369770ace3f5c5891f5076ca"), looks := true }, kinds := [], alts := [], laidByText := true, laidKinds := [.data, .data, .data, .data, .sentinel, .sentinel, .pinned], laidTests := true, laidLooks := .later }
def FnExactParseSetUptoCardSaid : Prop := Claim7.holds Tryd.pinned (.plain (OpenSpec.upto fnExactParseSetSpec)) fnExactParseSetUptoCard
end Rows
end Go.Proofs.YtomckpobnblogaaDoor
