/-
  No cell of these rows narrows 'for every input' (looked for: loops, veiled, ifaces, maps, wideKeys, modest, calm, conditions, laid).
  DERIVED. THE GIVEN ROWS OF THIS SEAT. 12 by the template 'for every input the law returns true; each argument reads behind the call as it read before'; 0 by the template 'total and deterministic' (their statements: YtnaklabbadfcfaaTotals.lean).
  GIVEN WITH THE SEED: the statements are not yours to turn. If you find one false, say at which input.
  Laid BY PROGRAM, IN A SANDBOX (cutbox-rows.mjs): the forced cells as the released guide's own fill.sh prints them over the translation 8455713558916f62… (all of the seat's roots in one cut). By AI agents, Wed Nov 11 2026. No macro, syntax, notation, axiom, sorry.
-/
import Derived.Test.YtnaklabbadfcfaaChecked
import GoSem.Claim
import GoSem.ClaimJoined
import GoSem.ClaimMapViews
import Derived.JoinedTies
import Derived.KernelRfl
namespace Go.Proofs.Ytnaklabbadfcfaa
/- THE CELL 'sum', in the pinned program and in every row, IS THE sha256 OF THE DUMP (.gsa) THAT YtnaklabbadfcfaaProg.lean LOADS. Nothing in Lean hashes anything: it is a label: what it is worth is what the hold of that sum in a sandbox is worth. -/
noncomputable def Try.pinned : Pinned := { name := "ytnaklabbadfcfaa", sum := "8455713558916f62d1f30b85973e1da22735de12f616ac358f73d0a2c8e2998e", checked := Try.checked }
namespace Rows
def none {H : Type} : Left H := { results := [], args := [] }

/-- 'laws.FnExactConstants': WHATEVER THE INPUT: true; the input reads as it did. -/
def fnExactConstantsSpec : ChangeSpec := { name := "fnExactConstants", fn := fun _ => fun
  | [] => { results := [.lit (.bool true)], args := [] }
  | _ => none }
def fnExactConstantsRow : OpenClaim := { program := "ytnaklabbadfcfaa", sum := "8455713558916f62d1f30b85973e1da22735de12f616ac358f73d0a2c8e2998e", func := "loop.example/g00840/laws.FnExactConstants", spec := "fnExactConstants", apart := false }
def FnExactConstantsSaid : Prop := fnExactConstantsRow.holds Try.pinned (OpenSpec.ofChange fnExactConstantsSpec)

/-- ITS FALSE NEIGHBOUR: 'it returns false'. Refute it at one input. -/
def fnExactConstantsWrong : ChangeSpec := { name := "fnExactConstants", fn := fun _ => fun
  | [] => { results := [.lit (.bool false)], args := [] }
  | _ => none }
def FnExactConstantsWrongFalsely : Prop := fnExactConstantsRow.holds Try.pinned (OpenSpec.ofChange fnExactConstantsWrong)

/-- 'laws.FnExactLessString': WHATEVER THE INPUT: true; the input reads as it did. -/
def fnExactLessStringSpec : ChangeSpec := { name := "fnExactLessString", fn := fun _ => fun
  | [d1, d2] => { results := [.lit (.bool true)], args := [d1, d2] }
  | _ => none }
def fnExactLessStringRow : OpenClaim := { program := "ytnaklabbadfcfaa", sum := "8455713558916f62d1f30b85973e1da22735de12f616ac358f73d0a2c8e2998e", func := "loop.example/g00840/laws.FnExactLessString", spec := "fnExactLessString", apart := false }
def FnExactLessStringSaid : Prop := fnExactLessStringRow.holds Try.pinned (OpenSpec.ofChange fnExactLessStringSpec)

/-- ITS FALSE NEIGHBOUR: 'it returns false'. Refute it at one input. -/
def fnExactLessStringWrong : ChangeSpec := { name := "fnExactLessString", fn := fun _ => fun
  | [d1, d2] => { results := [.lit (.bool false)], args := [d1, d2] }
  | _ => none }
def FnExactLessStringWrongFalsely : Prop := fnExactLessStringRow.holds Try.pinned (OpenSpec.ofChange fnExactLessStringWrong)

/-- 'laws.FnExactIsSerial': WHATEVER THE INPUT: true; the input reads as it did. -/
def fnExactIsSerialSpec : ChangeSpec := { name := "fnExactIsSerial", fn := fun _ => fun
  | [d] => { results := [.lit (.bool true)], args := [d] }
  | _ => none }
def fnExactIsSerialRow : OpenClaim := { program := "ytnaklabbadfcfaa", sum := "8455713558916f62d1f30b85973e1da22735de12f616ac358f73d0a2c8e2998e", func := "loop.example/g00840/laws.FnExactIsSerial", spec := "fnExactIsSerial", apart := false }
def FnExactIsSerialSaid : Prop := fnExactIsSerialRow.holds Try.pinned (OpenSpec.ofChange fnExactIsSerialSpec)

/-- ITS FALSE NEIGHBOUR: 'it returns false'. Refute it at one input. -/
def fnExactIsSerialWrong : ChangeSpec := { name := "fnExactIsSerial", fn := fun _ => fun
  | [d] => { results := [.lit (.bool false)], args := [d] }
  | _ => none }
def FnExactIsSerialWrongFalsely : Prop := fnExactIsSerialRow.holds Try.pinned (OpenSpec.ofChange fnExactIsSerialWrong)

/-- 'laws.FnExactSwapWord': WHATEVER THE INPUT: true; the input reads as it did. -/
def fnExactSwapWordSpec : ChangeSpec := { name := "fnExactSwapWord", fn := fun _ => fun
  | [d] => { results := [.lit (.bool true)], args := [d] }
  | _ => none }
def fnExactSwapWordRow : OpenClaim := { program := "ytnaklabbadfcfaa", sum := "8455713558916f62d1f30b85973e1da22735de12f616ac358f73d0a2c8e2998e", func := "loop.example/g00840/laws.FnExactSwapWord", spec := "fnExactSwapWord", apart := false }
def FnExactSwapWordSaid : Prop := fnExactSwapWordRow.holds Try.pinned (OpenSpec.ofChange fnExactSwapWordSpec)

/-- ITS FALSE NEIGHBOUR: 'it returns false'. Refute it at one input. -/
def fnExactSwapWordWrong : ChangeSpec := { name := "fnExactSwapWord", fn := fun _ => fun
  | [d] => { results := [.lit (.bool false)], args := [d] }
  | _ => none }
def FnExactSwapWordWrongFalsely : Prop := fnExactSwapWordRow.holds Try.pinned (OpenSpec.ofChange fnExactSwapWordWrong)

/-- 'laws.FnExactAfterSerial': WHATEVER THE INPUT: true; the input reads as it did. -/
def fnExactAfterSerialSpec : ChangeSpec := { name := "fnExactAfterSerial", fn := fun _ => fun
  | [d1, d2] => { results := [.lit (.bool true)], args := [d1, d2] }
  | _ => none }
def fnExactAfterSerialRow : OpenClaim := { program := "ytnaklabbadfcfaa", sum := "8455713558916f62d1f30b85973e1da22735de12f616ac358f73d0a2c8e2998e", func := "loop.example/g00840/laws.FnExactAfterSerial", spec := "fnExactAfterSerial", apart := false }
def FnExactAfterSerialSaid : Prop := fnExactAfterSerialRow.holds Try.pinned (OpenSpec.ofChange fnExactAfterSerialSpec)

/-- ITS FALSE NEIGHBOUR: 'it returns false'. Refute it at one input. -/
def fnExactAfterSerialWrong : ChangeSpec := { name := "fnExactAfterSerial", fn := fun _ => fun
  | [d1, d2] => { results := [.lit (.bool false)], args := [d1, d2] }
  | _ => none }
def FnExactAfterSerialWrongFalsely : Prop := fnExactAfterSerialRow.holds Try.pinned (OpenSpec.ofChange fnExactAfterSerialWrong)

/-- 'laws.FnExactInSpan': WHATEVER THE INPUT: true; the input reads as it did. -/
def fnExactInSpanSpec : ChangeSpec := { name := "fnExactInSpan", fn := fun _ => fun
  | [d1, d2, d3] => { results := [.lit (.bool true)], args := [d1, d2, d3] }
  | _ => none }
def fnExactInSpanRow : OpenClaim := { program := "ytnaklabbadfcfaa", sum := "8455713558916f62d1f30b85973e1da22735de12f616ac358f73d0a2c8e2998e", func := "loop.example/g00840/laws.FnExactInSpan", spec := "fnExactInSpan", apart := false }
def FnExactInSpanSaid : Prop := fnExactInSpanRow.holds Try.pinned (OpenSpec.ofChange fnExactInSpanSpec)

/-- ITS FALSE NEIGHBOUR: 'it returns false'. Refute it at one input. -/
def fnExactInSpanWrong : ChangeSpec := { name := "fnExactInSpan", fn := fun _ => fun
  | [d1, d2, d3] => { results := [.lit (.bool false)], args := [d1, d2, d3] }
  | _ => none }
def FnExactInSpanWrongFalsely : Prop := fnExactInSpanRow.holds Try.pinned (OpenSpec.ofChange fnExactInSpanWrong)

/-- 'laws.FnExactSerialGap': WHATEVER THE INPUT: true; the input reads as it did. -/
def fnExactSerialGapSpec : ChangeSpec := { name := "fnExactSerialGap", fn := fun _ => fun
  | [d1, d2] => { results := [.lit (.bool true)], args := [d1, d2] }
  | _ => none }
def fnExactSerialGapRow : OpenClaim := { program := "ytnaklabbadfcfaa", sum := "8455713558916f62d1f30b85973e1da22735de12f616ac358f73d0a2c8e2998e", func := "loop.example/g00840/laws.FnExactSerialGap", spec := "fnExactSerialGap", apart := false }
def FnExactSerialGapSaid : Prop := fnExactSerialGapRow.holds Try.pinned (OpenSpec.ofChange fnExactSerialGapSpec)

/-- ITS FALSE NEIGHBOUR: 'it returns false'. Refute it at one input. -/
def fnExactSerialGapWrong : ChangeSpec := { name := "fnExactSerialGap", fn := fun _ => fun
  | [d1, d2] => { results := [.lit (.bool false)], args := [d1, d2] }
  | _ => none }
def FnExactSerialGapWrongFalsely : Prop := fnExactSerialGapRow.holds Try.pinned (OpenSpec.ofChange fnExactSerialGapWrong)

/-- 'laws.FnExactIsBefore': WHATEVER THE INPUT: true; the input reads as it did. -/
def fnExactIsBeforeSpec : ChangeSpec := { name := "fnExactIsBefore", fn := fun _ => fun
  | [d1, d2] => { results := [.lit (.bool true)], args := [d1, d2] }
  | _ => none }
def fnExactIsBeforeRow : OpenClaim := { program := "ytnaklabbadfcfaa", sum := "8455713558916f62d1f30b85973e1da22735de12f616ac358f73d0a2c8e2998e", func := "loop.example/g00840/laws.FnExactIsBefore", spec := "fnExactIsBefore", apart := false }
def FnExactIsBeforeSaid : Prop := fnExactIsBeforeRow.holds Try.pinned (OpenSpec.ofChange fnExactIsBeforeSpec)

/-- ITS FALSE NEIGHBOUR: 'it returns false'. Refute it at one input. -/
def fnExactIsBeforeWrong : ChangeSpec := { name := "fnExactIsBefore", fn := fun _ => fun
  | [d1, d2] => { results := [.lit (.bool false)], args := [d1, d2] }
  | _ => none }
def FnExactIsBeforeWrongFalsely : Prop := fnExactIsBeforeRow.holds Try.pinned (OpenSpec.ofChange fnExactIsBeforeWrong)

/-- 'laws.FnExactChecksum': WHATEVER THE INPUT: true; the input reads as it did. -/
def fnExactChecksumSpec : ChangeSpec := { name := "fnExactChecksum", fn := fun _ => fun
  | [d] => { results := [.lit (.bool true)], args := [d] }
  | _ => none }
def fnExactChecksumRow : OpenClaim := { program := "ytnaklabbadfcfaa", sum := "8455713558916f62d1f30b85973e1da22735de12f616ac358f73d0a2c8e2998e", func := "loop.example/g00840/laws.FnExactChecksum", spec := "fnExactChecksum", apart := false }
def FnExactChecksumSaid : Prop := fnExactChecksumRow.holds Try.pinned (OpenSpec.ofChange fnExactChecksumSpec)

/-- ITS FALSE NEIGHBOUR: 'it returns false'. Refute it at one input. -/
def fnExactChecksumWrong : ChangeSpec := { name := "fnExactChecksum", fn := fun _ => fun
  | [d] => { results := [.lit (.bool false)], args := [d] }
  | _ => none }
def FnExactChecksumWrongFalsely : Prop := fnExactChecksumRow.holds Try.pinned (OpenSpec.ofChange fnExactChecksumWrong)

/-- 'laws.FnExactLaterSerial': WHATEVER THE INPUT: true; the input reads as it did. -/
def fnExactLaterSerialSpec : ChangeSpec := { name := "fnExactLaterSerial", fn := fun _ => fun
  | [d1, d2] => { results := [.lit (.bool true)], args := [d1, d2] }
  | _ => none }
def fnExactLaterSerialRow : OpenClaim := { program := "ytnaklabbadfcfaa", sum := "8455713558916f62d1f30b85973e1da22735de12f616ac358f73d0a2c8e2998e", func := "loop.example/g00840/laws.FnExactLaterSerial", spec := "fnExactLaterSerial", apart := false }
def FnExactLaterSerialSaid : Prop := fnExactLaterSerialRow.holds Try.pinned (OpenSpec.ofChange fnExactLaterSerialSpec)

/-- ITS FALSE NEIGHBOUR: 'it returns false'. Refute it at one input. -/
def fnExactLaterSerialWrong : ChangeSpec := { name := "fnExactLaterSerial", fn := fun _ => fun
  | [d1, d2] => { results := [.lit (.bool false)], args := [d1, d2] }
  | _ => none }
def FnExactLaterSerialWrongFalsely : Prop := fnExactLaterSerialRow.holds Try.pinned (OpenSpec.ofChange fnExactLaterSerialWrong)

/-- 'laws.FnExactAddWords': WHATEVER THE INPUT: true; the input reads as it did. -/
def fnExactAddWordsSpec : ChangeSpec := { name := "fnExactAddWords", fn := fun _ => fun
  | [d1, d2] => { results := [.lit (.bool true)], args := [d1, d2] }
  | _ => none }
def fnExactAddWordsRow : OpenClaim := { program := "ytnaklabbadfcfaa", sum := "8455713558916f62d1f30b85973e1da22735de12f616ac358f73d0a2c8e2998e", func := "loop.example/g00840/laws.FnExactAddWords", spec := "fnExactAddWords", apart := false }
def FnExactAddWordsSaid : Prop := fnExactAddWordsRow.holds Try.pinned (OpenSpec.ofChange fnExactAddWordsSpec)

/-- ITS FALSE NEIGHBOUR: 'it returns false'. Refute it at one input. -/
def fnExactAddWordsWrong : ChangeSpec := { name := "fnExactAddWords", fn := fun _ => fun
  | [d1, d2] => { results := [.lit (.bool false)], args := [d1, d2] }
  | _ => none }
def FnExactAddWordsWrongFalsely : Prop := fnExactAddWordsRow.holds Try.pinned (OpenSpec.ofChange fnExactAddWordsWrong)

/-- 'laws.FnExactUpdateCheck': WHATEVER THE INPUT: true; the input reads as it did. -/
def fnExactUpdateCheckSpec : ChangeSpec := { name := "fnExactUpdateCheck", fn := fun _ => fun
  | [d1, d2, d3] => { results := [.lit (.bool true)], args := [d1, d2, d3] }
  | _ => none }
def fnExactUpdateCheckRow : OpenClaim := { program := "ytnaklabbadfcfaa", sum := "8455713558916f62d1f30b85973e1da22735de12f616ac358f73d0a2c8e2998e", func := "loop.example/g00840/laws.FnExactUpdateCheck", spec := "fnExactUpdateCheck", apart := false }
def FnExactUpdateCheckSaid : Prop := fnExactUpdateCheckRow.holds Try.pinned (OpenSpec.ofChange fnExactUpdateCheckSpec)

/-- ITS FALSE NEIGHBOUR: 'it returns false'. Refute it at one input. -/
def fnExactUpdateCheckWrong : ChangeSpec := { name := "fnExactUpdateCheck", fn := fun _ => fun
  | [d1, d2, d3] => { results := [.lit (.bool false)], args := [d1, d2, d3] }
  | _ => none }
def FnExactUpdateCheckWrongFalsely : Prop := fnExactUpdateCheckRow.holds Try.pinned (OpenSpec.ofChange fnExactUpdateCheckWrong)

/- THE SECOND FORM. 'bulk': how many values and letters a reading holds, each counted each time it is reached (what is shared counts as often as it is met; a slice's spare places count too). A statement '..UptoSaid' is the law's where the arguments, and the package variables that the reading takes, are together of bulk at most 1048576: NARROWER than '..Said'. Prove '..Said' where nothing that the law and all that it calls make is longer than what came in: it says more and counts as full. Else prove '..UptoSaid'. A law counts once. -/
mutual
def uptoBulk {H : Type} : DataW H → Nat
  | .lit (.string bytes) => bytes.length + 1
  | .lit _ => 1
  | .nil => 1
  | .ptr d => uptoBulk d + 1
  | .slice elems spare => uptoBulkAll elems + uptoBulkAll spare + 1
  | .agg parts => uptoBulkAll parts + 1
  | .iface _ d => uptoBulk d + 1
  | .map entries => uptoBulkEntries entries + 1
  | .held _ => 1
def uptoBulkAll {H : Type} : List (DataW H) → Nat
  | [] => 0
  | d :: r => uptoBulk d + uptoBulkAll r
def uptoBulkEntries {H : Type} : List (Lit × DataW H) → Nat
  | [] => 0
  | x :: r => uptoBulkEntry x + uptoBulkEntries r
def uptoBulkEntry {H : Type} : Lit × DataW H → Nat
  | (.string bytes, d) => bytes.length + uptoBulk d + 1
  | (_, d) => uptoBulk d + 1
 end
def uptoSmall : (H : Type) → List (DataW H) → Bool := fun _ ds => decide (uptoBulkAll ds ≤ 1048576)
def OpenSpec.upto (s : _root_.Go.ChangeSpec) : _root_.Go.OpenSpec := { _root_.Go.OpenSpec.ofChange s with cond := some uptoSmall }

/-- 'laws.FnExactConstants', WHERE WHAT IT READS IS OF BULK AT MOST 1048576: true; the input reads as it did. -/
def fnExactConstantsUptoRow : OpenClaim := { program := "ytnaklabbadfcfaa", sum := "8455713558916f62d1f30b85973e1da22735de12f616ac358f73d0a2c8e2998e", func := "loop.example/g00840/laws.FnExactConstants", spec := "fnExactConstants", apart := false, narrowed := true }
def FnExactConstantsUptoSaid : Prop := fnExactConstantsUptoRow.holds Try.pinned (OpenSpec.upto fnExactConstantsSpec)

/-- 'laws.FnExactLessString', WHERE WHAT IT READS IS OF BULK AT MOST 1048576: true; the input reads as it did. -/
def fnExactLessStringUptoRow : OpenClaim := { program := "ytnaklabbadfcfaa", sum := "8455713558916f62d1f30b85973e1da22735de12f616ac358f73d0a2c8e2998e", func := "loop.example/g00840/laws.FnExactLessString", spec := "fnExactLessString", apart := false, narrowed := true }
def FnExactLessStringUptoSaid : Prop := fnExactLessStringUptoRow.holds Try.pinned (OpenSpec.upto fnExactLessStringSpec)

/-- 'laws.FnExactIsSerial', WHERE WHAT IT READS IS OF BULK AT MOST 1048576: true; the input reads as it did. -/
def fnExactIsSerialUptoRow : OpenClaim := { program := "ytnaklabbadfcfaa", sum := "8455713558916f62d1f30b85973e1da22735de12f616ac358f73d0a2c8e2998e", func := "loop.example/g00840/laws.FnExactIsSerial", spec := "fnExactIsSerial", apart := false, narrowed := true }
def FnExactIsSerialUptoSaid : Prop := fnExactIsSerialUptoRow.holds Try.pinned (OpenSpec.upto fnExactIsSerialSpec)

/-- 'laws.FnExactSwapWord', WHERE WHAT IT READS IS OF BULK AT MOST 1048576: true; the input reads as it did. -/
def fnExactSwapWordUptoRow : OpenClaim := { program := "ytnaklabbadfcfaa", sum := "8455713558916f62d1f30b85973e1da22735de12f616ac358f73d0a2c8e2998e", func := "loop.example/g00840/laws.FnExactSwapWord", spec := "fnExactSwapWord", apart := false, narrowed := true }
def FnExactSwapWordUptoSaid : Prop := fnExactSwapWordUptoRow.holds Try.pinned (OpenSpec.upto fnExactSwapWordSpec)

/-- 'laws.FnExactAfterSerial', WHERE WHAT IT READS IS OF BULK AT MOST 1048576: true; the input reads as it did. -/
def fnExactAfterSerialUptoRow : OpenClaim := { program := "ytnaklabbadfcfaa", sum := "8455713558916f62d1f30b85973e1da22735de12f616ac358f73d0a2c8e2998e", func := "loop.example/g00840/laws.FnExactAfterSerial", spec := "fnExactAfterSerial", apart := false, narrowed := true }
def FnExactAfterSerialUptoSaid : Prop := fnExactAfterSerialUptoRow.holds Try.pinned (OpenSpec.upto fnExactAfterSerialSpec)

/-- 'laws.FnExactInSpan', WHERE WHAT IT READS IS OF BULK AT MOST 1048576: true; the input reads as it did. -/
def fnExactInSpanUptoRow : OpenClaim := { program := "ytnaklabbadfcfaa", sum := "8455713558916f62d1f30b85973e1da22735de12f616ac358f73d0a2c8e2998e", func := "loop.example/g00840/laws.FnExactInSpan", spec := "fnExactInSpan", apart := false, narrowed := true }
def FnExactInSpanUptoSaid : Prop := fnExactInSpanUptoRow.holds Try.pinned (OpenSpec.upto fnExactInSpanSpec)

/-- 'laws.FnExactSerialGap', WHERE WHAT IT READS IS OF BULK AT MOST 1048576: true; the input reads as it did. -/
def fnExactSerialGapUptoRow : OpenClaim := { program := "ytnaklabbadfcfaa", sum := "8455713558916f62d1f30b85973e1da22735de12f616ac358f73d0a2c8e2998e", func := "loop.example/g00840/laws.FnExactSerialGap", spec := "fnExactSerialGap", apart := false, narrowed := true }
def FnExactSerialGapUptoSaid : Prop := fnExactSerialGapUptoRow.holds Try.pinned (OpenSpec.upto fnExactSerialGapSpec)

/-- 'laws.FnExactIsBefore', WHERE WHAT IT READS IS OF BULK AT MOST 1048576: true; the input reads as it did. -/
def fnExactIsBeforeUptoRow : OpenClaim := { program := "ytnaklabbadfcfaa", sum := "8455713558916f62d1f30b85973e1da22735de12f616ac358f73d0a2c8e2998e", func := "loop.example/g00840/laws.FnExactIsBefore", spec := "fnExactIsBefore", apart := false, narrowed := true }
def FnExactIsBeforeUptoSaid : Prop := fnExactIsBeforeUptoRow.holds Try.pinned (OpenSpec.upto fnExactIsBeforeSpec)

/-- 'laws.FnExactChecksum', WHERE WHAT IT READS IS OF BULK AT MOST 1048576: true; the input reads as it did. -/
def fnExactChecksumUptoRow : OpenClaim := { program := "ytnaklabbadfcfaa", sum := "8455713558916f62d1f30b85973e1da22735de12f616ac358f73d0a2c8e2998e", func := "loop.example/g00840/laws.FnExactChecksum", spec := "fnExactChecksum", apart := false, narrowed := true }
def FnExactChecksumUptoSaid : Prop := fnExactChecksumUptoRow.holds Try.pinned (OpenSpec.upto fnExactChecksumSpec)

/-- 'laws.FnExactLaterSerial', WHERE WHAT IT READS IS OF BULK AT MOST 1048576: true; the input reads as it did. -/
def fnExactLaterSerialUptoRow : OpenClaim := { program := "ytnaklabbadfcfaa", sum := "8455713558916f62d1f30b85973e1da22735de12f616ac358f73d0a2c8e2998e", func := "loop.example/g00840/laws.FnExactLaterSerial", spec := "fnExactLaterSerial", apart := false, narrowed := true }
def FnExactLaterSerialUptoSaid : Prop := fnExactLaterSerialUptoRow.holds Try.pinned (OpenSpec.upto fnExactLaterSerialSpec)

/-- 'laws.FnExactAddWords', WHERE WHAT IT READS IS OF BULK AT MOST 1048576: true; the input reads as it did. -/
def fnExactAddWordsUptoRow : OpenClaim := { program := "ytnaklabbadfcfaa", sum := "8455713558916f62d1f30b85973e1da22735de12f616ac358f73d0a2c8e2998e", func := "loop.example/g00840/laws.FnExactAddWords", spec := "fnExactAddWords", apart := false, narrowed := true }
def FnExactAddWordsUptoSaid : Prop := fnExactAddWordsUptoRow.holds Try.pinned (OpenSpec.upto fnExactAddWordsSpec)

/-- 'laws.FnExactUpdateCheck', WHERE WHAT IT READS IS OF BULK AT MOST 1048576: true; the input reads as it did. -/
def fnExactUpdateCheckUptoRow : OpenClaim := { program := "ytnaklabbadfcfaa", sum := "8455713558916f62d1f30b85973e1da22735de12f616ac358f73d0a2c8e2998e", func := "loop.example/g00840/laws.FnExactUpdateCheck", spec := "fnExactUpdateCheck", apart := false, narrowed := true }
def FnExactUpdateCheckUptoSaid : Prop := fnExactUpdateCheckUptoRow.holds Try.pinned (OpenSpec.upto fnExactUpdateCheckSpec)

end Rows
end Go.Proofs.Ytnaklabbadfcfaa
