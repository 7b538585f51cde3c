/-
  No cell of these rows narrows 'for every input' (looked for: loops, veiled, ifaces, maps, wideKeys, modest, calm, conditions, laid).
  DERIVED. THE GIVEN ROWS OF THIS SEAT. 6 by the template 'for every input the law returns true; each argument reads behind the call as it read before'; 0 by the template 'total and deterministic' (their statements: YtomckpobnblogaaTotals.lean).
  GIVEN WITH THE SEED: the statements are not yours to turn. If you find one false, say at which input.
  Laid BY PROGRAM, IN A SANDBOX (cutbox-rows.mjs): the forced cells as the released guide's own fill.sh prints them over the translation db6f39169c87c689… (all of the seat's roots in one cut). By AI agents, Wed Nov 11 2026. No macro, syntax, notation, axiom, sorry.
-/
import Derived.Test.YtomckpobnblogaaChecked
import GoSem.Claim
import GoSem.ClaimJoined
import GoSem.ClaimMapViews
import Derived.JoinedTies
import Derived.KernelRfl
namespace Go.Proofs.Ytomckpobnblogaa
/- THE CELL 'sum', in the pinned program and in every row, IS THE sha256 OF THE DUMP (.gsa) THAT YtomckpobnblogaaProg.lean LOADS. Nothing in Lean hashes anything: it is a label: what it is worth is what the hold of that sum in a sandbox is worth. -/
noncomputable def Try.pinned : Pinned := { name := "ytomckpobnblogaa", sum := "db6f39169c87c689cf28f0d1cae5d7400ab5378edff0c09e1999c34ee88c6ba9", checked := Try.checked }
namespace Rows
def none {H : Type} : Left H := { results := [], args := [] }

/-- 'laws.FnExactUnionOf': WHATEVER THE INPUT: true; the input reads as it did. -/
def fnExactUnionOfSpec : ChangeSpec := { name := "fnExactUnionOf", fn := fun _ => fun
  | [d1, d2] => { results := [.lit (.bool true)], args := [d1, d2] }
  | _ => none }
def fnExactUnionOfRow : OpenClaim := { program := "ytomckpobnblogaa", sum := "db6f39169c87c689cf28f0d1cae5d7400ab5378edff0c09e1999c34ee88c6ba9", func := "loop.example/g00840/laws.FnExactUnionOf", spec := "fnExactUnionOf", unfollowed := true, recurses := true, apart := false }
def FnExactUnionOfSaid : Prop := fnExactUnionOfRow.holds Try.pinned (OpenSpec.ofChange fnExactUnionOfSpec)

/-- ITS FALSE NEIGHBOUR: 'it returns false'. Refute it at one input. -/
def fnExactUnionOfWrong : ChangeSpec := { name := "fnExactUnionOf", fn := fun _ => fun
  | [d1, d2] => { results := [.lit (.bool false)], args := [d1, d2] }
  | _ => none }
def FnExactUnionOfWrongFalsely : Prop := fnExactUnionOfRow.holds Try.pinned (OpenSpec.ofChange fnExactUnionOfWrong)

/-- 'laws.FnExactAddRange': WHATEVER THE INPUT: true; the input reads as it did. -/
def fnExactAddRangeSpec : ChangeSpec := { name := "fnExactAddRange", fn := fun _ => fun
  | [d1, d2, d3] => { results := [.lit (.bool true)], args := [d1, d2, d3] }
  | _ => none }
def fnExactAddRangeRow : OpenClaim := { program := "ytomckpobnblogaa", sum := "db6f39169c87c689cf28f0d1cae5d7400ab5378edff0c09e1999c34ee88c6ba9", func := "loop.example/g00840/laws.FnExactAddRange", spec := "fnExactAddRange", unfollowed := true, recurses := true, apart := false }
def FnExactAddRangeSaid : Prop := fnExactAddRangeRow.holds Try.pinned (OpenSpec.ofChange fnExactAddRangeSpec)

/-- ITS FALSE NEIGHBOUR: 'it returns false'. Refute it at one input. -/
def fnExactAddRangeWrong : ChangeSpec := { name := "fnExactAddRange", fn := fun _ => fun
  | [d1, d2, d3] => { results := [.lit (.bool false)], args := [d1, d2, d3] }
  | _ => none }
def FnExactAddRangeWrongFalsely : Prop := fnExactAddRangeRow.holds Try.pinned (OpenSpec.ofChange fnExactAddRangeWrong)

/-- 'laws.FnExactRemoveRange': WHATEVER THE INPUT: true; the input reads as it did. -/
def fnExactRemoveRangeSpec : ChangeSpec := { name := "fnExactRemoveRange", fn := fun _ => fun
  | [d1, d2, d3] => { results := [.lit (.bool true)], args := [d1, d2, d3] }
  | _ => none }
def fnExactRemoveRangeRow : OpenClaim := { program := "ytomckpobnblogaa", sum := "db6f39169c87c689cf28f0d1cae5d7400ab5378edff0c09e1999c34ee88c6ba9", func := "loop.example/g00840/laws.FnExactRemoveRange", spec := "fnExactRemoveRange", unfollowed := true, recurses := true, apart := false }
def FnExactRemoveRangeSaid : Prop := fnExactRemoveRangeRow.holds Try.pinned (OpenSpec.ofChange fnExactRemoveRangeSpec)

/-- ITS FALSE NEIGHBOUR: 'it returns false'. Refute it at one input. -/
def fnExactRemoveRangeWrong : ChangeSpec := { name := "fnExactRemoveRange", fn := fun _ => fun
  | [d1, d2, d3] => { results := [.lit (.bool false)], args := [d1, d2, d3] }
  | _ => none }
def FnExactRemoveRangeWrongFalsely : Prop := fnExactRemoveRangeRow.holds Try.pinned (OpenSpec.ofChange fnExactRemoveRangeWrong)

/-- 'laws.FnExactCommonOf': WHATEVER THE INPUT: true; the input reads as it did. -/
def fnExactCommonOfSpec : ChangeSpec := { name := "fnExactCommonOf", fn := fun _ => fun
  | [d1, d2] => { results := [.lit (.bool true)], args := [d1, d2] }
  | _ => none }
def fnExactCommonOfRow : OpenClaim := { program := "ytomckpobnblogaa", sum := "db6f39169c87c689cf28f0d1cae5d7400ab5378edff0c09e1999c34ee88c6ba9", func := "loop.example/g00840/laws.FnExactCommonOf", spec := "fnExactCommonOf", unfollowed := true, recurses := true, apart := false }
def FnExactCommonOfSaid : Prop := fnExactCommonOfRow.holds Try.pinned (OpenSpec.ofChange fnExactCommonOfSpec)

/-- ITS FALSE NEIGHBOUR: 'it returns false'. Refute it at one input. -/
def fnExactCommonOfWrong : ChangeSpec := { name := "fnExactCommonOf", fn := fun _ => fun
  | [d1, d2] => { results := [.lit (.bool false)], args := [d1, d2] }
  | _ => none }
def FnExactCommonOfWrongFalsely : Prop := fnExactCommonOfRow.holds Try.pinned (OpenSpec.ofChange fnExactCommonOfWrong)

/-- 'laws.FnExactWithoutOf': WHATEVER THE INPUT: true; the input reads as it did. -/
def fnExactWithoutOfSpec : ChangeSpec := { name := "fnExactWithoutOf", fn := fun _ => fun
  | [d1, d2] => { results := [.lit (.bool true)], args := [d1, d2] }
  | _ => none }
def fnExactWithoutOfRow : OpenClaim := { program := "ytomckpobnblogaa", sum := "db6f39169c87c689cf28f0d1cae5d7400ab5378edff0c09e1999c34ee88c6ba9", func := "loop.example/g00840/laws.FnExactWithoutOf", spec := "fnExactWithoutOf", unfollowed := true, recurses := true, apart := false }
def FnExactWithoutOfSaid : Prop := fnExactWithoutOfRow.holds Try.pinned (OpenSpec.ofChange fnExactWithoutOfSpec)

/-- ITS FALSE NEIGHBOUR: 'it returns false'. Refute it at one input. -/
def fnExactWithoutOfWrong : ChangeSpec := { name := "fnExactWithoutOf", fn := fun _ => fun
  | [d1, d2] => { results := [.lit (.bool false)], args := [d1, d2] }
  | _ => none }
def FnExactWithoutOfWrongFalsely : Prop := fnExactWithoutOfRow.holds Try.pinned (OpenSpec.ofChange fnExactWithoutOfWrong)

/-- 'laws.FnRangeSets': WHATEVER THE INPUT: true; the input reads as it did. -/
def fnRangeSetsSpec : ChangeSpec := { name := "fnRangeSets", fn := fun _ => fun
  | [d] => { results := [.lit (.bool true)], args := [d] }
  | _ => none }
def fnRangeSetsRow : OpenClaim := { program := "ytomckpobnblogaa", sum := "db6f39169c87c689cf28f0d1cae5d7400ab5378edff0c09e1999c34ee88c6ba9", func := "loop.example/g00840/laws.FnRangeSets", spec := "fnRangeSets", unfollowed := true, recurses := true, apart := false }
def FnRangeSetsSaid : Prop := fnRangeSetsRow.holds Try.pinned (OpenSpec.ofChange fnRangeSetsSpec)

/-- ITS FALSE NEIGHBOUR: 'it returns false'. Refute it at one input. -/
def fnRangeSetsWrong : ChangeSpec := { name := "fnRangeSets", fn := fun _ => fun
  | [d] => { results := [.lit (.bool false)], args := [d] }
  | _ => none }
def FnRangeSetsWrongFalsely : Prop := fnRangeSetsRow.holds Try.pinned (OpenSpec.ofChange fnRangeSetsWrong)

/- THE SECOND FORM. 'bulk': how many values and letters a reading holds, each counted each time it is reached (what is shared counts as often as it is met; a slice's spare places count too). A statement '..UptoSaid' is the law's where the arguments, and the package variables that the reading takes, are together of bulk at most 1048576: NARROWER than '..Said'. Prove '..Said' where nothing that the law and all that it calls make is longer than what came in: it says more and counts as full. Else prove '..UptoSaid'. A law counts once. -/
mutual
def uptoBulk {H : Type} : DataW H → Nat
  | .lit (.string bytes) => bytes.length + 1
  | .lit _ => 1
  | .nil => 1
  | .ptr d => uptoBulk d + 1
  | .slice elems spare => uptoBulkAll elems + uptoBulkAll spare + 1
  | .agg parts => uptoBulkAll parts + 1
  | .iface _ d => uptoBulk d + 1
  | .map entries => uptoBulkEntries entries + 1
  | .held _ => 1
def uptoBulkAll {H : Type} : List (DataW H) → Nat
  | [] => 0
  | d :: r => uptoBulk d + uptoBulkAll r
def uptoBulkEntries {H : Type} : List (Lit × DataW H) → Nat
  | [] => 0
  | x :: r => uptoBulkEntry x + uptoBulkEntries r
def uptoBulkEntry {H : Type} : Lit × DataW H → Nat
  | (.string bytes, d) => bytes.length + uptoBulk d + 1
  | (_, d) => uptoBulk d + 1
 end
def uptoSmall : (H : Type) → List (DataW H) → Bool := fun _ ds => decide (uptoBulkAll ds ≤ 1048576)
def OpenSpec.upto (s : _root_.Go.ChangeSpec) : _root_.Go.OpenSpec := { _root_.Go.OpenSpec.ofChange s with cond := some uptoSmall }

/-- 'laws.FnExactUnionOf', WHERE WHAT IT READS IS OF BULK AT MOST 1048576: true; the input reads as it did. -/
def fnExactUnionOfUptoRow : OpenClaim := { program := "ytomckpobnblogaa", sum := "db6f39169c87c689cf28f0d1cae5d7400ab5378edff0c09e1999c34ee88c6ba9", func := "loop.example/g00840/laws.FnExactUnionOf", spec := "fnExactUnionOf", unfollowed := true, recurses := true, apart := false, narrowed := true }
def FnExactUnionOfUptoSaid : Prop := fnExactUnionOfUptoRow.holds Try.pinned (OpenSpec.upto fnExactUnionOfSpec)

/-- 'laws.FnExactAddRange', WHERE WHAT IT READS IS OF BULK AT MOST 1048576: true; the input reads as it did. -/
def fnExactAddRangeUptoRow : OpenClaim := { program := "ytomckpobnblogaa", sum := "db6f39169c87c689cf28f0d1cae5d7400ab5378edff0c09e1999c34ee88c6ba9", func := "loop.example/g00840/laws.FnExactAddRange", spec := "fnExactAddRange", unfollowed := true, recurses := true, apart := false, narrowed := true }
def FnExactAddRangeUptoSaid : Prop := fnExactAddRangeUptoRow.holds Try.pinned (OpenSpec.upto fnExactAddRangeSpec)

/-- 'laws.FnExactRemoveRange', WHERE WHAT IT READS IS OF BULK AT MOST 1048576: true; the input reads as it did. -/
def fnExactRemoveRangeUptoRow : OpenClaim := { program := "ytomckpobnblogaa", sum := "db6f39169c87c689cf28f0d1cae5d7400ab5378edff0c09e1999c34ee88c6ba9", func := "loop.example/g00840/laws.FnExactRemoveRange", spec := "fnExactRemoveRange", unfollowed := true, recurses := true, apart := false, narrowed := true }
def FnExactRemoveRangeUptoSaid : Prop := fnExactRemoveRangeUptoRow.holds Try.pinned (OpenSpec.upto fnExactRemoveRangeSpec)

/-- 'laws.FnExactCommonOf', WHERE WHAT IT READS IS OF BULK AT MOST 1048576: true; the input reads as it did. -/
def fnExactCommonOfUptoRow : OpenClaim := { program := "ytomckpobnblogaa", sum := "db6f39169c87c689cf28f0d1cae5d7400ab5378edff0c09e1999c34ee88c6ba9", func := "loop.example/g00840/laws.FnExactCommonOf", spec := "fnExactCommonOf", unfollowed := true, recurses := true, apart := false, narrowed := true }
def FnExactCommonOfUptoSaid : Prop := fnExactCommonOfUptoRow.holds Try.pinned (OpenSpec.upto fnExactCommonOfSpec)

/-- 'laws.FnExactWithoutOf', WHERE WHAT IT READS IS OF BULK AT MOST 1048576: true; the input reads as it did. -/
def fnExactWithoutOfUptoRow : OpenClaim := { program := "ytomckpobnblogaa", sum := "db6f39169c87c689cf28f0d1cae5d7400ab5378edff0c09e1999c34ee88c6ba9", func := "loop.example/g00840/laws.FnExactWithoutOf", spec := "fnExactWithoutOf", unfollowed := true, recurses := true, apart := false, narrowed := true }
def FnExactWithoutOfUptoSaid : Prop := fnExactWithoutOfUptoRow.holds Try.pinned (OpenSpec.upto fnExactWithoutOfSpec)

/-- 'laws.FnRangeSets', WHERE WHAT IT READS IS OF BULK AT MOST 1048576: true; the input reads as it did. -/
def fnRangeSetsUptoRow : OpenClaim := { program := "ytomckpobnblogaa", sum := "db6f39169c87c689cf28f0d1cae5d7400ab5378edff0c09e1999c34ee88c6ba9", func := "loop.example/g00840/laws.FnRangeSets", spec := "fnRangeSets", unfollowed := true, recurses := true, apart := false, narrowed := true }
def FnRangeSetsUptoSaid : Prop := fnRangeSetsUptoRow.holds Try.pinned (OpenSpec.upto fnRangeSetsSpec)

end Rows
end Go.Proofs.Ytomckpobnblogaa
