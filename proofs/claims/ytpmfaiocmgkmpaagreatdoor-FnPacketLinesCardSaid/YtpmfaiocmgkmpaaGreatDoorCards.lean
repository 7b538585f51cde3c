/-
  DERIVED. GIVEN WITH THE SEED: THE CARDS: each row of YtpmfaiocmgkmpaaGreatDoorRows.lean that lists a variable, with what it lists TIED to the program's text (the seventh form; the later family's looks); each row that meets fmt, with fmt's text TOLD by the authors' own Lean function (tested against real Go, not proved from fmt's source: count such statements apart). THE CARD IS WHAT COUNTS. Prove the row's statement (the work); the ties are given (YtpmfaiocmgkmpaaGreatDoorTie.lean); close each card by the builder's one call (the guide's Derived/Test/ToyasCard.lean, 'card_holds'). Laid BY PROGRAM, IN A SANDBOX (cutbox-door.mjs). By AI agents, Wed Nov 11 2026. No macro, syntax, notation, axiom, sorry.
-/
import Derived.Test.YtpmfaiocmgkmpaaGreatDoorRows
import GoSem.ClaimSeven
namespace Go.Proofs.YtpmfaiocmgkmpaaGreatDoor
namespace Rows

/-- THE TIED CARD OF 'laws.FnPacketLines'. -/
def fnPacketLinesCard : Claim7 := { stood := { row := fnPacketLinesRow, standIns := [], harness := (true, "1ea581919c4536f5b4441c5b85f56b3bf685debefcc873f418dc719497d54fa8"), looks := true }, kinds := [], alts := [], laidByText := true, laidKinds := [.data, .data, .data, .data, .sentinel, .sentinel, .widerDeep, .pinned], laidTests := true, laidLooks := .later }
def FnPacketLinesCardSaid : Prop := Claim7.holds Tryz.pinned (.plain (OpenSpec.ofChange fnPacketLinesSpec)) fnPacketLinesCard

/-- THE SECOND FORM's CARD OF 'laws.FnPacketLines'. -/
def fnPacketLinesUptoCard : Claim7 := { stood := { row := fnPacketLinesUptoRow, standIns := [], harness := (true, "1ea581919c4536f5b4441c5b85f56b3bf685debefcc873f418dc719497d54fa8"), looks := true }, kinds := [], alts := [], laidByText := true, laidKinds := [.data, .data, .data, .data, .sentinel, .sentinel, .widerDeep, .pinned], laidTests := true, laidLooks := .later }
def FnPacketLinesUptoCardSaid : Prop := Claim7.holds Tryz.pinned (.plain (OpenSpec.upto fnPacketLinesSpec)) fnPacketLinesUptoCard
end Rows
end Go.Proofs.YtpmfaiocmgkmpaaGreatDoor
