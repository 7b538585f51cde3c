/-
  No cell of these rows narrows 'for every input' (looked for: loops, veiled, ifaces, maps, wideKeys, modest, calm, conditions, laid).
  DERIVED. THE GIVEN ROWS OF THIS SEAT. 12 by the template 'for every input the law returns true; each argument reads behind the call as it read before'; 0 by the template 'total and deterministic' (their statements: YtechmknclefenaaTotals.lean).
  GIVEN WITH THE SEED: the statements are not yours to turn. If you find one false, say at which input.
  Laid BY PROGRAM, IN A SANDBOX (cutbox-rows.mjs): the forced cells as the released guide's own fill.sh prints them over the translation ec3a77afbd678278… (all of the seat's roots in one cut). By AI agents, Wed Nov 11 2026. No macro, syntax, notation, axiom, sorry.
-/
import Derived.Test.YtechmknclefenaaChecked
import GoSem.Claim
import GoSem.ClaimJoined
import GoSem.ClaimMapViews
import Derived.JoinedTies
import Derived.KernelRfl
namespace Go.Proofs.Ytechmknclefenaa
/- THE CELL 'sum', in the pinned program and in every row, IS THE sha256 OF THE DUMP (.gsa) THAT YtechmknclefenaaProg.lean LOADS. Nothing in Lean hashes anything: it is a label: what it is worth is what the hold of that sum in a sandbox is worth. -/
noncomputable def Try.pinned : Pinned := { name := "ytechmknclefenaa", sum := "ec3a77afbd678278c68419160edef78b88aa919f55c4e91de34c593927aa966a", checked := Try.checked }
namespace Rows
def none {H : Type} : Left H := { results := [], args := [] }

/-- 'laws.FnExactWordsOf': WHATEVER THE INPUT: true; the input reads as it did. -/
def fnExactWordsOfSpec : ChangeSpec := { name := "fnExactWordsOf", fn := fun _ => fun
  | [d] => { results := [.lit (.bool true)], args := [d] }
  | _ => none }
def fnExactWordsOfRow : OpenClaim := { program := "ytechmknclefenaa", sum := "ec3a77afbd678278c68419160edef78b88aa919f55c4e91de34c593927aa966a", func := "loop.example/g00840/laws.FnExactWordsOf", spec := "fnExactWordsOf", apart := false }
def FnExactWordsOfSaid : Prop := fnExactWordsOfRow.holds Try.pinned (OpenSpec.ofChange fnExactWordsOfSpec)

/-- ITS FALSE NEIGHBOUR: 'it returns false'. Refute it at one input. -/
def fnExactWordsOfWrong : ChangeSpec := { name := "fnExactWordsOf", fn := fun _ => fun
  | [d] => { results := [.lit (.bool false)], args := [d] }
  | _ => none }
def FnExactWordsOfWrongFalsely : Prop := fnExactWordsOfRow.holds Try.pinned (OpenSpec.ofChange fnExactWordsOfWrong)

/-- 'laws.FnExactSerialSpan': WHATEVER THE INPUT: true; the input reads as it did. -/
def fnExactSerialSpanSpec : ChangeSpec := { name := "fnExactSerialSpan", fn := fun _ => fun
  | [d1, d2] => { results := [.lit (.bool true)], args := [d1, d2] }
  | _ => none }
def fnExactSerialSpanRow : OpenClaim := { program := "ytechmknclefenaa", sum := "ec3a77afbd678278c68419160edef78b88aa919f55c4e91de34c593927aa966a", func := "loop.example/g00840/laws.FnExactSerialSpan", spec := "fnExactSerialSpan", apart := false }
def FnExactSerialSpanSaid : Prop := fnExactSerialSpanRow.holds Try.pinned (OpenSpec.ofChange fnExactSerialSpanSpec)

/-- ITS FALSE NEIGHBOUR: 'it returns false'. Refute it at one input. -/
def fnExactSerialSpanWrong : ChangeSpec := { name := "fnExactSerialSpan", fn := fun _ => fun
  | [d1, d2] => { results := [.lit (.bool false)], args := [d1, d2] }
  | _ => none }
def FnExactSerialSpanWrongFalsely : Prop := fnExactSerialSpanRow.holds Try.pinned (OpenSpec.ofChange fnExactSerialSpanWrong)

/-- 'laws.FnExactTextSum': WHATEVER THE INPUT: true; the input reads as it did. -/
def fnExactTextSumSpec : ChangeSpec := { name := "fnExactTextSum", fn := fun _ => fun
  | [d1, d2] => { results := [.lit (.bool true)], args := [d1, d2] }
  | _ => none }
def fnExactTextSumRow : OpenClaim := { program := "ytechmknclefenaa", sum := "ec3a77afbd678278c68419160edef78b88aa919f55c4e91de34c593927aa966a", func := "loop.example/g00840/laws.FnExactTextSum", spec := "fnExactTextSum", apart := false }
def FnExactTextSumSaid : Prop := fnExactTextSumRow.holds Try.pinned (OpenSpec.ofChange fnExactTextSumSpec)

/-- ITS FALSE NEIGHBOUR: 'it returns false'. Refute it at one input. -/
def fnExactTextSumWrong : ChangeSpec := { name := "fnExactTextSum", fn := fun _ => fun
  | [d1, d2] => { results := [.lit (.bool false)], args := [d1, d2] }
  | _ => none }
def FnExactTextSumWrongFalsely : Prop := fnExactTextSumRow.holds Try.pinned (OpenSpec.ofChange fnExactTextSumWrong)

/-- 'laws.FnExactIsRangeSet': WHATEVER THE INPUT: true; the input reads as it did. -/
def fnExactIsRangeSetSpec : ChangeSpec := { name := "fnExactIsRangeSet", fn := fun _ => fun
  | [d] => { results := [.lit (.bool true)], args := [d] }
  | _ => none }
def fnExactIsRangeSetRow : OpenClaim := { program := "ytechmknclefenaa", sum := "ec3a77afbd678278c68419160edef78b88aa919f55c4e91de34c593927aa966a", func := "loop.example/g00840/laws.FnExactIsRangeSet", spec := "fnExactIsRangeSet", apart := false }
def FnExactIsRangeSetSaid : Prop := fnExactIsRangeSetRow.holds Try.pinned (OpenSpec.ofChange fnExactIsRangeSetSpec)

/-- ITS FALSE NEIGHBOUR: 'it returns false'. Refute it at one input. -/
def fnExactIsRangeSetWrong : ChangeSpec := { name := "fnExactIsRangeSet", fn := fun _ => fun
  | [d] => { results := [.lit (.bool false)], args := [d] }
  | _ => none }
def FnExactIsRangeSetWrongFalsely : Prop := fnExactIsRangeSetRow.holds Try.pinned (OpenSpec.ofChange fnExactIsRangeSetWrong)

/-- 'laws.FnExactCheckOf': WHATEVER THE INPUT: true; the input reads as it did. -/
def fnExactCheckOfSpec : ChangeSpec := { name := "fnExactCheckOf", fn := fun _ => fun
  | [d] => { results := [.lit (.bool true)], args := [d] }
  | _ => none }
def fnExactCheckOfRow : OpenClaim := { program := "ytechmknclefenaa", sum := "ec3a77afbd678278c68419160edef78b88aa919f55c4e91de34c593927aa966a", func := "loop.example/g00840/laws.FnExactCheckOf", spec := "fnExactCheckOf", unfollowed := true, recurses := true, apart := false }
def FnExactCheckOfSaid : Prop := fnExactCheckOfRow.holds Try.pinned (OpenSpec.ofChange fnExactCheckOfSpec)

/-- ITS FALSE NEIGHBOUR: 'it returns false'. Refute it at one input. -/
def fnExactCheckOfWrong : ChangeSpec := { name := "fnExactCheckOf", fn := fun _ => fun
  | [d] => { results := [.lit (.bool false)], args := [d] }
  | _ => none }
def FnExactCheckOfWrongFalsely : Prop := fnExactCheckOfRow.holds Try.pinned (OpenSpec.ofChange fnExactCheckOfWrong)

/-- 'laws.FnExactIsValidTree': WHATEVER THE INPUT: true; the input reads as it did. -/
def fnExactIsValidTreeSpec : ChangeSpec := { name := "fnExactIsValidTree", fn := fun _ => fun
  | [d] => { results := [.lit (.bool true)], args := [d] }
  | _ => none }
def fnExactIsValidTreeRow : OpenClaim := { program := "ytechmknclefenaa", sum := "ec3a77afbd678278c68419160edef78b88aa919f55c4e91de34c593927aa966a", func := "loop.example/g00840/laws.FnExactIsValidTree", spec := "fnExactIsValidTree", apart := false }
def FnExactIsValidTreeSaid : Prop := fnExactIsValidTreeRow.holds Try.pinned (OpenSpec.ofChange fnExactIsValidTreeSpec)

/-- ITS FALSE NEIGHBOUR: 'it returns false'. Refute it at one input. -/
def fnExactIsValidTreeWrong : ChangeSpec := { name := "fnExactIsValidTree", fn := fun _ => fun
  | [d] => { results := [.lit (.bool false)], args := [d] }
  | _ => none }
def FnExactIsValidTreeWrongFalsely : Prop := fnExactIsValidTreeRow.holds Try.pinned (OpenSpec.ofChange fnExactIsValidTreeWrong)

/-- 'laws.FnExactSetSize': WHATEVER THE INPUT: true; the input reads as it did. -/
def fnExactSetSizeSpec : ChangeSpec := { name := "fnExactSetSize", fn := fun _ => fun
  | [d] => { results := [.lit (.bool true)], args := [d] }
  | _ => none }
def fnExactSetSizeRow : OpenClaim := { program := "ytechmknclefenaa", sum := "ec3a77afbd678278c68419160edef78b88aa919f55c4e91de34c593927aa966a", func := "loop.example/g00840/laws.FnExactSetSize", spec := "fnExactSetSize", apart := false }
def FnExactSetSizeSaid : Prop := fnExactSetSizeRow.holds Try.pinned (OpenSpec.ofChange fnExactSetSizeSpec)

/-- ITS FALSE NEIGHBOUR: 'it returns false'. Refute it at one input. -/
def fnExactSetSizeWrong : ChangeSpec := { name := "fnExactSetSize", fn := fun _ => fun
  | [d] => { results := [.lit (.bool false)], args := [d] }
  | _ => none }
def FnExactSetSizeWrongFalsely : Prop := fnExactSetSizeRow.holds Try.pinned (OpenSpec.ofChange fnExactSetSizeWrong)

/-- 'laws.FnExactIsSoundList': WHATEVER THE INPUT: true; the input reads as it did. -/
def fnExactIsSoundListSpec : ChangeSpec := { name := "fnExactIsSoundList", fn := fun _ => fun
  | [d] => { results := [.lit (.bool true)], args := [d] }
  | _ => none }
def fnExactIsSoundListRow : OpenClaim := { program := "ytechmknclefenaa", sum := "ec3a77afbd678278c68419160edef78b88aa919f55c4e91de34c593927aa966a", func := "loop.example/g00840/laws.FnExactIsSoundList", spec := "fnExactIsSoundList", unfollowed := true, recurses := true, apart := false }
def FnExactIsSoundListSaid : Prop := fnExactIsSoundListRow.holds Try.pinned (OpenSpec.ofChange fnExactIsSoundListSpec)

/-- ITS FALSE NEIGHBOUR: 'it returns false'. Refute it at one input. -/
def fnExactIsSoundListWrong : ChangeSpec := { name := "fnExactIsSoundList", fn := fun _ => fun
  | [d] => { results := [.lit (.bool false)], args := [d] }
  | _ => none }
def FnExactIsSoundListWrongFalsely : Prop := fnExactIsSoundListRow.holds Try.pinned (OpenSpec.ofChange fnExactIsSoundListWrong)

/-- 'laws.FnExactWordCheck': WHATEVER THE INPUT: true; the input reads as it did. -/
def fnExactWordCheckSpec : ChangeSpec := { name := "fnExactWordCheck", fn := fun _ => fun
  | [d] => { results := [.lit (.bool true)], args := [d] }
  | _ => none }
def fnExactWordCheckRow : OpenClaim := { program := "ytechmknclefenaa", sum := "ec3a77afbd678278c68419160edef78b88aa919f55c4e91de34c593927aa966a", func := "loop.example/g00840/laws.FnExactWordCheck", spec := "fnExactWordCheck", unfollowed := true, recurses := true, apart := false }
def FnExactWordCheckSaid : Prop := fnExactWordCheckRow.holds Try.pinned (OpenSpec.ofChange fnExactWordCheckSpec)

/-- ITS FALSE NEIGHBOUR: 'it returns false'. Refute it at one input. -/
def fnExactWordCheckWrong : ChangeSpec := { name := "fnExactWordCheck", fn := fun _ => fun
  | [d] => { results := [.lit (.bool false)], args := [d] }
  | _ => none }
def FnExactWordCheckWrongFalsely : Prop := fnExactWordCheckRow.holds Try.pinned (OpenSpec.ofChange fnExactWordCheckWrong)

/-- 'laws.FnExactWordSum': WHATEVER THE INPUT: true; the input reads as it did. -/
def fnExactWordSumSpec : ChangeSpec := { name := "fnExactWordSum", fn := fun _ => fun
  | [d] => { results := [.lit (.bool true)], args := [d] }
  | _ => none }
def fnExactWordSumRow : OpenClaim := { program := "ytechmknclefenaa", sum := "ec3a77afbd678278c68419160edef78b88aa919f55c4e91de34c593927aa966a", func := "loop.example/g00840/laws.FnExactWordSum", spec := "fnExactWordSum", unfollowed := true, recurses := true, apart := false }
def FnExactWordSumSaid : Prop := fnExactWordSumRow.holds Try.pinned (OpenSpec.ofChange fnExactWordSumSpec)

/-- ITS FALSE NEIGHBOUR: 'it returns false'. Refute it at one input. -/
def fnExactWordSumWrong : ChangeSpec := { name := "fnExactWordSum", fn := fun _ => fun
  | [d] => { results := [.lit (.bool false)], args := [d] }
  | _ => none }
def FnExactWordSumWrongFalsely : Prop := fnExactWordSumRow.holds Try.pinned (OpenSpec.ofChange fnExactWordSumWrong)

/-- 'laws.FnExactSpanOf': WHATEVER THE INPUT: true; the input reads as it did. -/
def fnExactSpanOfSpec : ChangeSpec := { name := "fnExactSpanOf", fn := fun _ => fun
  | [d] => { results := [.lit (.bool true)], args := [d] }
  | _ => none }
def fnExactSpanOfRow : OpenClaim := { program := "ytechmknclefenaa", sum := "ec3a77afbd678278c68419160edef78b88aa919f55c4e91de34c593927aa966a", func := "loop.example/g00840/laws.FnExactSpanOf", spec := "fnExactSpanOf", unfollowed := true, recurses := true, apart := false }
def FnExactSpanOfSaid : Prop := fnExactSpanOfRow.holds Try.pinned (OpenSpec.ofChange fnExactSpanOfSpec)

/-- ITS FALSE NEIGHBOUR: 'it returns false'. Refute it at one input. -/
def fnExactSpanOfWrong : ChangeSpec := { name := "fnExactSpanOf", fn := fun _ => fun
  | [d] => { results := [.lit (.bool false)], args := [d] }
  | _ => none }
def FnExactSpanOfWrongFalsely : Prop := fnExactSpanOfRow.holds Try.pinned (OpenSpec.ofChange fnExactSpanOfWrong)

/-- 'laws.FnExactNextMissing': WHATEVER THE INPUT: true; the input reads as it did. -/
def fnExactNextMissingSpec : ChangeSpec := { name := "fnExactNextMissing", fn := fun _ => fun
  | [d1, d2] => { results := [.lit (.bool true)], args := [d1, d2] }
  | _ => none }
def fnExactNextMissingRow : OpenClaim := { program := "ytechmknclefenaa", sum := "ec3a77afbd678278c68419160edef78b88aa919f55c4e91de34c593927aa966a", func := "loop.example/g00840/laws.FnExactNextMissing", spec := "fnExactNextMissing", apart := false }
def FnExactNextMissingSaid : Prop := fnExactNextMissingRow.holds Try.pinned (OpenSpec.ofChange fnExactNextMissingSpec)

/-- ITS FALSE NEIGHBOUR: 'it returns false'. Refute it at one input. -/
def fnExactNextMissingWrong : ChangeSpec := { name := "fnExactNextMissing", fn := fun _ => fun
  | [d1, d2] => { results := [.lit (.bool false)], args := [d1, d2] }
  | _ => none }
def FnExactNextMissingWrongFalsely : Prop := fnExactNextMissingRow.holds Try.pinned (OpenSpec.ofChange fnExactNextMissingWrong)

/- THE SECOND FORM. 'bulk': how many values and letters a reading holds, each counted each time it is reached (what is shared counts as often as it is met; a slice's spare places count too). A statement '..UptoSaid' is the law's where the arguments, and the package variables that the reading takes, are together of bulk at most 1048576: NARROWER than '..Said'. Prove '..Said' where nothing that the law and all that it calls make is longer than what came in: it says more and counts as full. Else prove '..UptoSaid'. A law counts once. -/
mutual
def uptoBulk {H : Type} : DataW H → Nat
  | .lit (.string bytes) => bytes.length + 1
  | .lit _ => 1
  | .nil => 1
  | .ptr d => uptoBulk d + 1
  | .slice elems spare => uptoBulkAll elems + uptoBulkAll spare + 1
  | .agg parts => uptoBulkAll parts + 1
  | .iface _ d => uptoBulk d + 1
  | .map entries => uptoBulkEntries entries + 1
  | .held _ => 1
def uptoBulkAll {H : Type} : List (DataW H) → Nat
  | [] => 0
  | d :: r => uptoBulk d + uptoBulkAll r
def uptoBulkEntries {H : Type} : List (Lit × DataW H) → Nat
  | [] => 0
  | x :: r => uptoBulkEntry x + uptoBulkEntries r
def uptoBulkEntry {H : Type} : Lit × DataW H → Nat
  | (.string bytes, d) => bytes.length + uptoBulk d + 1
  | (_, d) => uptoBulk d + 1
 end
def uptoSmall : (H : Type) → List (DataW H) → Bool := fun _ ds => decide (uptoBulkAll ds ≤ 1048576)
def OpenSpec.upto (s : _root_.Go.ChangeSpec) : _root_.Go.OpenSpec := { _root_.Go.OpenSpec.ofChange s with cond := some uptoSmall }

/-- 'laws.FnExactWordsOf', WHERE WHAT IT READS IS OF BULK AT MOST 1048576: true; the input reads as it did. -/
def fnExactWordsOfUptoRow : OpenClaim := { program := "ytechmknclefenaa", sum := "ec3a77afbd678278c68419160edef78b88aa919f55c4e91de34c593927aa966a", func := "loop.example/g00840/laws.FnExactWordsOf", spec := "fnExactWordsOf", apart := false, narrowed := true }
def FnExactWordsOfUptoSaid : Prop := fnExactWordsOfUptoRow.holds Try.pinned (OpenSpec.upto fnExactWordsOfSpec)

/-- 'laws.FnExactSerialSpan', WHERE WHAT IT READS IS OF BULK AT MOST 1048576: true; the input reads as it did. -/
def fnExactSerialSpanUptoRow : OpenClaim := { program := "ytechmknclefenaa", sum := "ec3a77afbd678278c68419160edef78b88aa919f55c4e91de34c593927aa966a", func := "loop.example/g00840/laws.FnExactSerialSpan", spec := "fnExactSerialSpan", apart := false, narrowed := true }
def FnExactSerialSpanUptoSaid : Prop := fnExactSerialSpanUptoRow.holds Try.pinned (OpenSpec.upto fnExactSerialSpanSpec)

/-- 'laws.FnExactTextSum', WHERE WHAT IT READS IS OF BULK AT MOST 1048576: true; the input reads as it did. -/
def fnExactTextSumUptoRow : OpenClaim := { program := "ytechmknclefenaa", sum := "ec3a77afbd678278c68419160edef78b88aa919f55c4e91de34c593927aa966a", func := "loop.example/g00840/laws.FnExactTextSum", spec := "fnExactTextSum", apart := false, narrowed := true }
def FnExactTextSumUptoSaid : Prop := fnExactTextSumUptoRow.holds Try.pinned (OpenSpec.upto fnExactTextSumSpec)

/-- 'laws.FnExactIsRangeSet', WHERE WHAT IT READS IS OF BULK AT MOST 1048576: true; the input reads as it did. -/
def fnExactIsRangeSetUptoRow : OpenClaim := { program := "ytechmknclefenaa", sum := "ec3a77afbd678278c68419160edef78b88aa919f55c4e91de34c593927aa966a", func := "loop.example/g00840/laws.FnExactIsRangeSet", spec := "fnExactIsRangeSet", apart := false, narrowed := true }
def FnExactIsRangeSetUptoSaid : Prop := fnExactIsRangeSetUptoRow.holds Try.pinned (OpenSpec.upto fnExactIsRangeSetSpec)

/-- 'laws.FnExactCheckOf', WHERE WHAT IT READS IS OF BULK AT MOST 1048576: true; the input reads as it did. -/
def fnExactCheckOfUptoRow : OpenClaim := { program := "ytechmknclefenaa", sum := "ec3a77afbd678278c68419160edef78b88aa919f55c4e91de34c593927aa966a", func := "loop.example/g00840/laws.FnExactCheckOf", spec := "fnExactCheckOf", unfollowed := true, recurses := true, apart := false, narrowed := true }
def FnExactCheckOfUptoSaid : Prop := fnExactCheckOfUptoRow.holds Try.pinned (OpenSpec.upto fnExactCheckOfSpec)

/-- 'laws.FnExactIsValidTree', WHERE WHAT IT READS IS OF BULK AT MOST 1048576: true; the input reads as it did. -/
def fnExactIsValidTreeUptoRow : OpenClaim := { program := "ytechmknclefenaa", sum := "ec3a77afbd678278c68419160edef78b88aa919f55c4e91de34c593927aa966a", func := "loop.example/g00840/laws.FnExactIsValidTree", spec := "fnExactIsValidTree", apart := false, narrowed := true }
def FnExactIsValidTreeUptoSaid : Prop := fnExactIsValidTreeUptoRow.holds Try.pinned (OpenSpec.upto fnExactIsValidTreeSpec)

/-- 'laws.FnExactSetSize', WHERE WHAT IT READS IS OF BULK AT MOST 1048576: true; the input reads as it did. -/
def fnExactSetSizeUptoRow : OpenClaim := { program := "ytechmknclefenaa", sum := "ec3a77afbd678278c68419160edef78b88aa919f55c4e91de34c593927aa966a", func := "loop.example/g00840/laws.FnExactSetSize", spec := "fnExactSetSize", apart := false, narrowed := true }
def FnExactSetSizeUptoSaid : Prop := fnExactSetSizeUptoRow.holds Try.pinned (OpenSpec.upto fnExactSetSizeSpec)

/-- 'laws.FnExactIsSoundList', WHERE WHAT IT READS IS OF BULK AT MOST 1048576: true; the input reads as it did. -/
def fnExactIsSoundListUptoRow : OpenClaim := { program := "ytechmknclefenaa", sum := "ec3a77afbd678278c68419160edef78b88aa919f55c4e91de34c593927aa966a", func := "loop.example/g00840/laws.FnExactIsSoundList", spec := "fnExactIsSoundList", unfollowed := true, recurses := true, apart := false, narrowed := true }
def FnExactIsSoundListUptoSaid : Prop := fnExactIsSoundListUptoRow.holds Try.pinned (OpenSpec.upto fnExactIsSoundListSpec)

/-- 'laws.FnExactWordCheck', WHERE WHAT IT READS IS OF BULK AT MOST 1048576: true; the input reads as it did. -/
def fnExactWordCheckUptoRow : OpenClaim := { program := "ytechmknclefenaa", sum := "ec3a77afbd678278c68419160edef78b88aa919f55c4e91de34c593927aa966a", func := "loop.example/g00840/laws.FnExactWordCheck", spec := "fnExactWordCheck", unfollowed := true, recurses := true, apart := false, narrowed := true }
def FnExactWordCheckUptoSaid : Prop := fnExactWordCheckUptoRow.holds Try.pinned (OpenSpec.upto fnExactWordCheckSpec)

/-- 'laws.FnExactWordSum', WHERE WHAT IT READS IS OF BULK AT MOST 1048576: true; the input reads as it did. -/
def fnExactWordSumUptoRow : OpenClaim := { program := "ytechmknclefenaa", sum := "ec3a77afbd678278c68419160edef78b88aa919f55c4e91de34c593927aa966a", func := "loop.example/g00840/laws.FnExactWordSum", spec := "fnExactWordSum", unfollowed := true, recurses := true, apart := false, narrowed := true }
def FnExactWordSumUptoSaid : Prop := fnExactWordSumUptoRow.holds Try.pinned (OpenSpec.upto fnExactWordSumSpec)

/-- 'laws.FnExactSpanOf', WHERE WHAT IT READS IS OF BULK AT MOST 1048576: true; the input reads as it did. -/
def fnExactSpanOfUptoRow : OpenClaim := { program := "ytechmknclefenaa", sum := "ec3a77afbd678278c68419160edef78b88aa919f55c4e91de34c593927aa966a", func := "loop.example/g00840/laws.FnExactSpanOf", spec := "fnExactSpanOf", unfollowed := true, recurses := true, apart := false, narrowed := true }
def FnExactSpanOfUptoSaid : Prop := fnExactSpanOfUptoRow.holds Try.pinned (OpenSpec.upto fnExactSpanOfSpec)

/-- 'laws.FnExactNextMissing', WHERE WHAT IT READS IS OF BULK AT MOST 1048576: true; the input reads as it did. -/
def fnExactNextMissingUptoRow : OpenClaim := { program := "ytechmknclefenaa", sum := "ec3a77afbd678278c68419160edef78b88aa919f55c4e91de34c593927aa966a", func := "loop.example/g00840/laws.FnExactNextMissing", spec := "fnExactNextMissing", apart := false, narrowed := true }
def FnExactNextMissingUptoSaid : Prop := fnExactNextMissingUptoRow.holds Try.pinned (OpenSpec.upto fnExactNextMissingSpec)

end Rows
end Go.Proofs.Ytechmknclefenaa
