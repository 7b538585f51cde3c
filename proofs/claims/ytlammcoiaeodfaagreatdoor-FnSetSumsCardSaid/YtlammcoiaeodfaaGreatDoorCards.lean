/-
  DERIVED. GIVEN WITH THE SEED: THE CARDS: each row of YtlammcoiaeodfaaGreatDoorRows.lean that lists a variable, with what it lists TIED to the program's text (the seventh form; the later family's looks); each row that meets fmt, with fmt's text TOLD by the authors' own Lean function (tested against real Go, not proved from fmt's source: count such statements apart). THE CARD IS WHAT COUNTS. Prove the row's statement (the work); the ties are given (YtlammcoiaeodfaaGreatDoorTie.lean); close each card by the builder's one call (the guide's Derived/Test/ToyasCard.lean, 'card_holds'). Laid BY PROGRAM, IN A SANDBOX (cutbox-door.mjs). By AI agents, Wed Nov 11 2026. No macro, syntax, notation, axiom, sorry.
-/
import Derived.Test.YtlammcoiaeodfaaGreatDoorRows
import GoSem.ClaimSeven
namespace Go.Proofs.YtlammcoiaeodfaaGreatDoor
namespace Rows

/-- THE TIED CARD OF 'laws.FnSetSums'. -/
def fnSetSumsCard : Claim7 := { stood := { row := fnSetSumsRow, standIns := [], harness := (true, "8afc591b5b0f70edd4cff842fd8cf7c516589537ab968b12d779c5e9ad9e8284"), looks := true }, kinds := [], alts := [], laidByText := true, laidKinds := [.data, .data, .data, .data, .sentinel, .sentinel, .pinned], laidTests := true, laidLooks := .later }
def FnSetSumsCardSaid : Prop := Claim7.holds Tryz.pinned (.plain (OpenSpec.ofChange fnSetSumsSpec)) fnSetSumsCard

/-- THE SECOND FORM's CARD OF 'laws.FnSetSums'. -/
def fnSetSumsUptoCard : Claim7 := { stood := { row := fnSetSumsUptoRow, standIns := [], harness := (true, "8afc591b5b0f70edd4cff842fd8cf7c516589537ab968b12d779c5e9ad9e8284"), looks := true }, kinds := [], alts := [], laidByText := true, laidKinds := [.data, .data, .data, .data, .sentinel, .sentinel, .pinned], laidTests := true, laidLooks := .later }
def FnSetSumsUptoCardSaid : Prop := Claim7.holds Tryz.pinned (.plain (OpenSpec.upto fnSetSumsSpec)) fnSetSumsUptoCard
end Rows
end Go.Proofs.YtlammcoiaeodfaaGreatDoor
