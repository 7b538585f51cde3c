/-
  DERIVED. GIVEN WITH THE SEED: THE CARDS: each row of YtnabiehbecojlaaDoorRows.lean that lists a variable, with what it lists TIED to the program's text (the seventh form; the later family's looks); each row that meets fmt, with fmt's text TOLD by the authors' own Lean function (tested against real Go, not proved from fmt's source: count such statements apart). THE CARD IS WHAT COUNTS. Prove the row's statement (the work); the ties are given (YtnabiehbecojlaaDoorTie.lean); close each card by the builder's one call (the guide's Derived/Test/ToyasCard.lean, 'card_holds'). Laid BY PROGRAM, IN A SANDBOX (cutbox-door.mjs). By AI agents, Wed Nov 11 2026. No macro, syntax, notation, axiom, sorry.
-/
import Derived.Test.YtnabiehbecojlaaDoorRows
import GoSem.ClaimSeven
namespace Go.Proofs.YtnabiehbecojlaaDoor
namespace Rows

/-- THE TIED CARD OF 'laws.FnExactEncodePacket'. -/
def fnExactEncodePacketCard : Claim7 := { stood := { row := fnExactEncodePacketRow, standIns := [], harness := (true, "40fc49082e737888253f7be5b97fe44793fa4af1eb9f57ac42a8d1ad4ec8f49f"), looks := true }, kinds := [], alts := [], laidByText := true, laidKinds := [.data, .pinned], laidTests := true, laidLooks := .later }
def FnExactEncodePacketCardSaid : Prop := Claim7.holds Tryd.pinned (.plain (OpenSpec.ofChange fnExactEncodePacketSpec)) fnExactEncodePacketCard

/-- THE TIED CARD OF 'laws.FnExactDecodePacket'. -/
def fnExactDecodePacketCard : Claim7 := { stood := { row := fnExactDecodePacketRow, standIns := [], harness := (true, "40fc49082e737888253f7be5b97fe44793fa4af1eb9f57ac42a8d1ad4ec8f49f"), looks := true }, kinds := [], alts := [], laidByText := true, laidKinds := [.data, .pinned], laidTests := true, laidLooks := .later }
def FnExactDecodePacketCardSaid : Prop := Claim7.holds Tryd.pinned (.plain (OpenSpec.ofChange fnExactDecodePacketSpec)) fnExactDecodePacketCard

/-- THE TIED CARD OF 'laws.FnExactPacketLine'. -/
def fnExactPacketLineCard : Claim7 := { stood := { row := fnExactPacketLineRow, standIns := [], harness := (true, "40fc49082e737888253f7be5b97fe44793fa4af1eb9f57ac42a8d1ad4ec8f49f"), looks := true }, kinds := [], alts := [], laidByText := true, laidKinds := [.data, .data, .data, .data, .widerDeep, .pinned], laidTests := true, laidLooks := .later }
def FnExactPacketLineCardSaid : Prop := Claim7.holds Tryd.pinned (.plain (OpenSpec.ofChange fnExactPacketLineSpec)) fnExactPacketLineCard

/-- THE TIED CARD OF 'laws.FnExactParsePacketLine'. -/
def fnExactParsePacketLineCard : Claim7 := { stood := { row := fnExactParsePacketLineRow, standIns := [], harness := (true, "40fc49082e737888253f7be5b97fe44793fa4af1eb9f57ac42a8d1ad4ec8f49f"), looks := true }, kinds := [], alts := [], laidByText := true, laidKinds := [.data, .data, .data, .data, .sentinel, .sentinel, .widerDeep, .pinned], laidTests := true, laidLooks := .later }
def FnExactParsePacketLineCardSaid : Prop := Claim7.holds Tryd.pinned (.plain (OpenSpec.ofChange fnExactParsePacketLineSpec)) fnExactParsePacketLineCard

/-- THE TIED CARD OF 'laws.FnPackets'. -/
def fnPacketsCard : Claim7 := { stood := { row := fnPacketsRow, standIns := [], harness := (true, "40fc49082e737888253f7be5b97fe44793fa4af1eb9f57ac42a8d1ad4ec8f49f"), looks := true }, kinds := [], alts := [], laidByText := true, laidKinds := [.data, .pinned], laidTests := true, laidLooks := .later }
def FnPacketsCardSaid : Prop := Claim7.holds Tryd.pinned (.plain (OpenSpec.ofChange fnPacketsSpec)) fnPacketsCard

/-- THE SECOND FORM's CARD OF 'laws.FnExactEncodePacket'. -/
def fnExactEncodePacketUptoCard : Claim7 := { stood := { row := fnExactEncodePacketUptoRow, standIns := [], harness := (true, "40fc49082e737888253f7be5b97fe44793fa4af1eb9f57ac42a8d1ad4ec8f49f"), looks := true }, kinds := [], alts := [], laidByText := true, laidKinds := [.data, .pinned], laidTests := true, laidLooks := .later }
def FnExactEncodePacketUptoCardSaid : Prop := Claim7.holds Tryd.pinned (.plain (OpenSpec.upto fnExactEncodePacketSpec)) fnExactEncodePacketUptoCard

/-- THE SECOND FORM's CARD OF 'laws.FnExactDecodePacket'. -/
def fnExactDecodePacketUptoCard : Claim7 := { stood := { row := fnExactDecodePacketUptoRow, standIns := [], harness := (true, "40fc49082e737888253f7be5b97fe44793fa4af1eb9f57ac42a8d1ad4ec8f49f"), looks := true }, kinds := [], alts := [], laidByText := true, laidKinds := [.data, .pinned], laidTests := true, laidLooks := .later }
def FnExactDecodePacketUptoCardSaid : Prop := Claim7.holds Tryd.pinned (.plain (OpenSpec.upto fnExactDecodePacketSpec)) fnExactDecodePacketUptoCard

/-- THE SECOND FORM's CARD OF 'laws.FnExactPacketLine'. -/
def fnExactPacketLineUptoCard : Claim7 := { stood := { row := fnExactPacketLineUptoRow, standIns := [], harness := (true, "40fc49082e737888253f7be5b97fe44793fa4af1eb9f57ac42a8d1ad4ec8f49f"), looks := true }, kinds := [], alts := [], laidByText := true, laidKinds := [.data, .data, .data, .data, .widerDeep, .pinned], laidTests := true, laidLooks := .later }
def FnExactPacketLineUptoCardSaid : Prop := Claim7.holds Tryd.pinned (.plain (OpenSpec.upto fnExactPacketLineSpec)) fnExactPacketLineUptoCard

/-- THE SECOND FORM's CARD OF 'laws.FnExactParsePacketLine'. -/
def fnExactParsePacketLineUptoCard : Claim7 := { stood := { row := fnExactParsePacketLineUptoRow, standIns := [], harness := (true, "40fc49082e737888253f7be5b97fe44793fa4af1eb9f57ac42a8d1ad4ec8f49f"), looks := true }, kinds := [], alts := [], laidByText := true, laidKinds := [.data, .data, .data, .data, .sentinel, .sentinel, .widerDeep, .pinned], laidTests := true, laidLooks := .later }
def FnExactParsePacketLineUptoCardSaid : Prop := Claim7.holds Tryd.pinned (.plain (OpenSpec.upto fnExactParsePacketLineSpec)) fnExactParsePacketLineUptoCard

/-- THE SECOND FORM's CARD OF 'laws.FnPackets'. -/
def fnPacketsUptoCard : Claim7 := { stood := { row := fnPacketsUptoRow, standIns := [], harness := (true, "40fc49082e737888253f7be5b97fe44793fa4af1eb9f57ac42a8d1ad4ec8f49f"), looks := true }, kinds := [], alts := [], laidByText := true, laidKinds := [.data, .pinned], laidTests := true, laidLooks := .later }
def FnPacketsUptoCardSaid : Prop := Claim7.holds Tryd.pinned (.plain (OpenSpec.upto fnPacketsSpec)) fnPacketsUptoCard
end Rows
end Go.Proofs.YtnabiehbecojlaaDoor
