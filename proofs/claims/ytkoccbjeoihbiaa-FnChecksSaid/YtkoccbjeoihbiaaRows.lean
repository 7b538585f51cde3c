/-
  No cell of these rows narrows 'for every input' (looked for: loops, veiled, ifaces, maps, wideKeys, modest, calm, conditions, laid).
  DERIVED. THE GIVEN ROWS OF THIS SEAT. 12 by the template 'for every input the law returns true; each argument reads behind the call as it read before'; 0 by the template 'total and deterministic' (their statements: YtkoccbjeoihbiaaTotals.lean).
  GIVEN WITH THE SEED: the statements are not yours to turn. If you find one false, say at which input.
  Laid BY PROGRAM, IN A SANDBOX (cutbox-rows.mjs): the forced cells as the released guide's own fill.sh prints them over the translation ac1163e24e020027… (all of the seat's roots in one cut). By AI agents, Wed Nov 11 2026. No macro, syntax, notation, axiom, sorry.
-/
import Derived.Test.YtkoccbjeoihbiaaChecked
import GoSem.Claim
import GoSem.ClaimJoined
import GoSem.ClaimMapViews
import Derived.JoinedTies
import Derived.KernelRfl
namespace Go.Proofs.Ytkoccbjeoihbiaa
/- THE CELL 'sum', in the pinned program and in every row, IS THE sha256 OF THE DUMP (.gsa) THAT YtkoccbjeoihbiaaProg.lean LOADS. Nothing in Lean hashes anything: it is a label: what it is worth is what the hold of that sum in a sandbox is worth. -/
noncomputable def Try.pinned : Pinned := { name := "ytkoccbjeoihbiaa", sum := "ac1163e24e020027438b1475370428002b03611623fd63ff22286ea8d2669195", checked := Try.checked }
namespace Rows
def none {H : Type} : Left H := { results := [], args := [] }

/-- 'laws.FnExactHasNumber': WHATEVER THE INPUT: true; the input reads as it did. -/
def fnExactHasNumberSpec : ChangeSpec := { name := "fnExactHasNumber", fn := fun _ => fun
  | [d1, d2] => { results := [.lit (.bool true)], args := [d1, d2] }
  | _ => none }
def fnExactHasNumberRow : OpenClaim := { program := "ytkoccbjeoihbiaa", sum := "ac1163e24e020027438b1475370428002b03611623fd63ff22286ea8d2669195", func := "loop.example/g00840/laws.FnExactHasNumber", spec := "fnExactHasNumber", unfollowed := true, recurses := true, apart := false }
def FnExactHasNumberSaid : Prop := fnExactHasNumberRow.holds Try.pinned (OpenSpec.ofChange fnExactHasNumberSpec)

/-- ITS FALSE NEIGHBOUR: 'it returns false'. Refute it at one input. -/
def fnExactHasNumberWrong : ChangeSpec := { name := "fnExactHasNumber", fn := fun _ => fun
  | [d1, d2] => { results := [.lit (.bool false)], args := [d1, d2] }
  | _ => none }
def FnExactHasNumberWrongFalsely : Prop := fnExactHasNumberRow.holds Try.pinned (OpenSpec.ofChange fnExactHasNumberWrong)

/-- 'laws.FnExactSealWords': WHATEVER THE INPUT: true; the input reads as it did. -/
def fnExactSealWordsSpec : ChangeSpec := { name := "fnExactSealWords", fn := fun _ => fun
  | [d] => { results := [.lit (.bool true)], args := [d] }
  | _ => none }
def fnExactSealWordsRow : OpenClaim := { program := "ytkoccbjeoihbiaa", sum := "ac1163e24e020027438b1475370428002b03611623fd63ff22286ea8d2669195", func := "loop.example/g00840/laws.FnExactSealWords", spec := "fnExactSealWords", unfollowed := true, recurses := true, apart := false }
def FnExactSealWordsSaid : Prop := fnExactSealWordsRow.holds Try.pinned (OpenSpec.ofChange fnExactSealWordsSpec)

/-- ITS FALSE NEIGHBOUR: 'it returns false'. Refute it at one input. -/
def fnExactSealWordsWrong : ChangeSpec := { name := "fnExactSealWords", fn := fun _ => fun
  | [d] => { results := [.lit (.bool false)], args := [d] }
  | _ => none }
def FnExactSealWordsWrongFalsely : Prop := fnExactSealWordsRow.holds Try.pinned (OpenSpec.ofChange fnExactSealWordsWrong)

/-- 'laws.FnSerials': WHATEVER THE INPUT: true; the input reads as it did. -/
def fnSerialsSpec : ChangeSpec := { name := "fnSerials", fn := fun _ => fun
  | [d] => { results := [.lit (.bool true)], args := [d] }
  | _ => none }
def fnSerialsRow : OpenClaim := { program := "ytkoccbjeoihbiaa", sum := "ac1163e24e020027438b1475370428002b03611623fd63ff22286ea8d2669195", func := "loop.example/g00840/laws.FnSerials", spec := "fnSerials", apart := false }
def FnSerialsSaid : Prop := fnSerialsRow.holds Try.pinned (OpenSpec.ofChange fnSerialsSpec)

/-- ITS FALSE NEIGHBOUR: 'it returns false'. Refute it at one input. -/
def fnSerialsWrong : ChangeSpec := { name := "fnSerials", fn := fun _ => fun
  | [d] => { results := [.lit (.bool false)], args := [d] }
  | _ => none }
def FnSerialsWrongFalsely : Prop := fnSerialsRow.holds Try.pinned (OpenSpec.ofChange fnSerialsWrong)

/-- 'laws.FnExactAddLeaf': WHATEVER THE INPUT: true; the input reads as it did. -/
def fnExactAddLeafSpec : ChangeSpec := { name := "fnExactAddLeaf", fn := fun _ => fun
  | [d1, d2] => { results := [.lit (.bool true)], args := [d1, d2] }
  | _ => none }
def fnExactAddLeafRow : OpenClaim := { program := "ytkoccbjeoihbiaa", sum := "ac1163e24e020027438b1475370428002b03611623fd63ff22286ea8d2669195", func := "loop.example/g00840/laws.FnExactAddLeaf", spec := "fnExactAddLeaf", unfollowed := true, recurses := true, apart := false }
def FnExactAddLeafSaid : Prop := fnExactAddLeafRow.holds Try.pinned (OpenSpec.ofChange fnExactAddLeafSpec)

/-- ITS FALSE NEIGHBOUR: 'it returns false'. Refute it at one input. -/
def fnExactAddLeafWrong : ChangeSpec := { name := "fnExactAddLeaf", fn := fun _ => fun
  | [d1, d2] => { results := [.lit (.bool false)], args := [d1, d2] }
  | _ => none }
def FnExactAddLeafWrongFalsely : Prop := fnExactAddLeafRow.holds Try.pinned (OpenSpec.ofChange fnExactAddLeafWrong)

/-- 'laws.FnExactChildrenOf': WHATEVER THE INPUT: true; the input reads as it did. -/
def fnExactChildrenOfSpec : ChangeSpec := { name := "fnExactChildrenOf", fn := fun _ => fun
  | [d1, d2] => { results := [.lit (.bool true)], args := [d1, d2] }
  | _ => none }
def fnExactChildrenOfRow : OpenClaim := { program := "ytkoccbjeoihbiaa", sum := "ac1163e24e020027438b1475370428002b03611623fd63ff22286ea8d2669195", func := "loop.example/g00840/laws.FnExactChildrenOf", spec := "fnExactChildrenOf", unfollowed := true, recurses := true, apart := false }
def FnExactChildrenOfSaid : Prop := fnExactChildrenOfRow.holds Try.pinned (OpenSpec.ofChange fnExactChildrenOfSpec)

/-- ITS FALSE NEIGHBOUR: 'it returns false'. Refute it at one input. -/
def fnExactChildrenOfWrong : ChangeSpec := { name := "fnExactChildrenOf", fn := fun _ => fun
  | [d1, d2] => { results := [.lit (.bool false)], args := [d1, d2] }
  | _ => none }
def FnExactChildrenOfWrongFalsely : Prop := fnExactChildrenOfRow.holds Try.pinned (OpenSpec.ofChange fnExactChildrenOfWrong)

/-- 'laws.FnExactFaceTo': WHATEVER THE INPUT: true; the input reads as it did. -/
def fnExactFaceToSpec : ChangeSpec := { name := "fnExactFaceTo", fn := fun _ => fun
  | [d1, d2, d3] => { results := [.lit (.bool true)], args := [d1, d2, d3] }
  | _ => none }
def fnExactFaceToRow : OpenClaim := { program := "ytkoccbjeoihbiaa", sum := "ac1163e24e020027438b1475370428002b03611623fd63ff22286ea8d2669195", func := "loop.example/g00840/laws.FnExactFaceTo", spec := "fnExactFaceTo", unfollowed := true, recurses := true, apart := false }
def FnExactFaceToSaid : Prop := fnExactFaceToRow.holds Try.pinned (OpenSpec.ofChange fnExactFaceToSpec)

/-- ITS FALSE NEIGHBOUR: 'it returns false'. Refute it at one input. -/
def fnExactFaceToWrong : ChangeSpec := { name := "fnExactFaceTo", fn := fun _ => fun
  | [d1, d2, d3] => { results := [.lit (.bool false)], args := [d1, d2, d3] }
  | _ => none }
def FnExactFaceToWrongFalsely : Prop := fnExactFaceToRow.holds Try.pinned (OpenSpec.ofChange fnExactFaceToWrong)

/-- 'laws.FnExactPathTo': WHATEVER THE INPUT: true; the input reads as it did. -/
def fnExactPathToSpec : ChangeSpec := { name := "fnExactPathTo", fn := fun _ => fun
  | [d1, d2] => { results := [.lit (.bool true)], args := [d1, d2] }
  | _ => none }
def fnExactPathToRow : OpenClaim := { program := "ytkoccbjeoihbiaa", sum := "ac1163e24e020027438b1475370428002b03611623fd63ff22286ea8d2669195", func := "loop.example/g00840/laws.FnExactPathTo", spec := "fnExactPathTo", unfollowed := true, recurses := true, apart := false }
def FnExactPathToSaid : Prop := fnExactPathToRow.holds Try.pinned (OpenSpec.ofChange fnExactPathToSpec)

/-- ITS FALSE NEIGHBOUR: 'it returns false'. Refute it at one input. -/
def fnExactPathToWrong : ChangeSpec := { name := "fnExactPathTo", fn := fun _ => fun
  | [d1, d2] => { results := [.lit (.bool false)], args := [d1, d2] }
  | _ => none }
def FnExactPathToWrongFalsely : Prop := fnExactPathToRow.holds Try.pinned (OpenSpec.ofChange fnExactPathToWrong)

/-- 'laws.FnExactLeavesOf': WHATEVER THE INPUT: true; the input reads as it did. -/
def fnExactLeavesOfSpec : ChangeSpec := { name := "fnExactLeavesOf", fn := fun _ => fun
  | [d] => { results := [.lit (.bool true)], args := [d] }
  | _ => none }
def fnExactLeavesOfRow : OpenClaim := { program := "ytkoccbjeoihbiaa", sum := "ac1163e24e020027438b1475370428002b03611623fd63ff22286ea8d2669195", func := "loop.example/g00840/laws.FnExactLeavesOf", spec := "fnExactLeavesOf", apart := false }
def FnExactLeavesOfSaid : Prop := fnExactLeavesOfRow.holds Try.pinned (OpenSpec.ofChange fnExactLeavesOfSpec)

/-- ITS FALSE NEIGHBOUR: 'it returns false'. Refute it at one input. -/
def fnExactLeavesOfWrong : ChangeSpec := { name := "fnExactLeavesOf", fn := fun _ => fun
  | [d] => { results := [.lit (.bool false)], args := [d] }
  | _ => none }
def FnExactLeavesOfWrongFalsely : Prop := fnExactLeavesOfRow.holds Try.pinned (OpenSpec.ofChange fnExactLeavesOfWrong)

/-- 'laws.FnWordSums': WHATEVER THE INPUT: true; the input reads as it did. -/
def fnWordSumsSpec : ChangeSpec := { name := "fnWordSums", fn := fun _ => fun
  | [d] => { results := [.lit (.bool true)], args := [d] }
  | _ => none }
def fnWordSumsRow : OpenClaim := { program := "ytkoccbjeoihbiaa", sum := "ac1163e24e020027438b1475370428002b03611623fd63ff22286ea8d2669195", func := "loop.example/g00840/laws.FnWordSums", spec := "fnWordSums", unfollowed := true, recurses := true, apart := false }
def FnWordSumsSaid : Prop := fnWordSumsRow.holds Try.pinned (OpenSpec.ofChange fnWordSumsSpec)

/-- ITS FALSE NEIGHBOUR: 'it returns false'. Refute it at one input. -/
def fnWordSumsWrong : ChangeSpec := { name := "fnWordSums", fn := fun _ => fun
  | [d] => { results := [.lit (.bool false)], args := [d] }
  | _ => none }
def FnWordSumsWrongFalsely : Prop := fnWordSumsRow.holds Try.pinned (OpenSpec.ofChange fnWordSumsWrong)

/-- 'laws.FnChecks': WHATEVER THE INPUT: true; the input reads as it did. -/
def fnChecksSpec : ChangeSpec := { name := "fnChecks", fn := fun _ => fun
  | [d] => { results := [.lit (.bool true)], args := [d] }
  | _ => none }
def fnChecksRow : OpenClaim := { program := "ytkoccbjeoihbiaa", sum := "ac1163e24e020027438b1475370428002b03611623fd63ff22286ea8d2669195", func := "loop.example/g00840/laws.FnChecks", spec := "fnChecks", unfollowed := true, recurses := true, apart := false }
def FnChecksSaid : Prop := fnChecksRow.holds Try.pinned (OpenSpec.ofChange fnChecksSpec)

/-- ITS FALSE NEIGHBOUR: 'it returns false'. Refute it at one input. -/
def fnChecksWrong : ChangeSpec := { name := "fnChecks", fn := fun _ => fun
  | [d] => { results := [.lit (.bool false)], args := [d] }
  | _ => none }
def FnChecksWrongFalsely : Prop := fnChecksRow.holds Try.pinned (OpenSpec.ofChange fnChecksWrong)

/-- 'laws.FnExactSortSerials': WHATEVER THE INPUT: true; the input reads as it did. -/
def fnExactSortSerialsSpec : ChangeSpec := { name := "fnExactSortSerials", fn := fun _ => fun
  | [d1, d2] => { results := [.lit (.bool true)], args := [d1, d2] }
  | _ => none }
def fnExactSortSerialsRow : OpenClaim := { program := "ytkoccbjeoihbiaa", sum := "ac1163e24e020027438b1475370428002b03611623fd63ff22286ea8d2669195", func := "loop.example/g00840/laws.FnExactSortSerials", spec := "fnExactSortSerials", unfollowed := true, recurses := true, apart := false }
def FnExactSortSerialsSaid : Prop := fnExactSortSerialsRow.holds Try.pinned (OpenSpec.ofChange fnExactSortSerialsSpec)

/-- ITS FALSE NEIGHBOUR: 'it returns false'. Refute it at one input. -/
def fnExactSortSerialsWrong : ChangeSpec := { name := "fnExactSortSerials", fn := fun _ => fun
  | [d1, d2] => { results := [.lit (.bool false)], args := [d1, d2] }
  | _ => none }
def FnExactSortSerialsWrongFalsely : Prop := fnExactSortSerialsRow.holds Try.pinned (OpenSpec.ofChange fnExactSortSerialsWrong)

/-- 'laws.FnSpans': WHATEVER THE INPUT: true; the input reads as it did. -/
def fnSpansSpec : ChangeSpec := { name := "fnSpans", fn := fun _ => fun
  | [d] => { results := [.lit (.bool true)], args := [d] }
  | _ => none }
def fnSpansRow : OpenClaim := { program := "ytkoccbjeoihbiaa", sum := "ac1163e24e020027438b1475370428002b03611623fd63ff22286ea8d2669195", func := "loop.example/g00840/laws.FnSpans", spec := "fnSpans", unfollowed := true, recurses := true, apart := false }
def FnSpansSaid : Prop := fnSpansRow.holds Try.pinned (OpenSpec.ofChange fnSpansSpec)

/-- ITS FALSE NEIGHBOUR: 'it returns false'. Refute it at one input. -/
def fnSpansWrong : ChangeSpec := { name := "fnSpans", fn := fun _ => fun
  | [d] => { results := [.lit (.bool false)], args := [d] }
  | _ => none }
def FnSpansWrongFalsely : Prop := fnSpansRow.holds Try.pinned (OpenSpec.ofChange fnSpansWrong)

/- THE SECOND FORM. 'bulk': how many values and letters a reading holds, each counted each time it is reached (what is shared counts as often as it is met; a slice's spare places count too). A statement '..UptoSaid' is the law's where the arguments, and the package variables that the reading takes, are together of bulk at most 1048576: NARROWER than '..Said'. Prove '..Said' where nothing that the law and all that it calls make is longer than what came in: it says more and counts as full. Else prove '..UptoSaid'. A law counts once. -/
mutual
def uptoBulk {H : Type} : DataW H → Nat
  | .lit (.string bytes) => bytes.length + 1
  | .lit _ => 1
  | .nil => 1
  | .ptr d => uptoBulk d + 1
  | .slice elems spare => uptoBulkAll elems + uptoBulkAll spare + 1
  | .agg parts => uptoBulkAll parts + 1
  | .iface _ d => uptoBulk d + 1
  | .map entries => uptoBulkEntries entries + 1
  | .held _ => 1
def uptoBulkAll {H : Type} : List (DataW H) → Nat
  | [] => 0
  | d :: r => uptoBulk d + uptoBulkAll r
def uptoBulkEntries {H : Type} : List (Lit × DataW H) → Nat
  | [] => 0
  | x :: r => uptoBulkEntry x + uptoBulkEntries r
def uptoBulkEntry {H : Type} : Lit × DataW H → Nat
  | (.string bytes, d) => bytes.length + uptoBulk d + 1
  | (_, d) => uptoBulk d + 1
 end
def uptoSmall : (H : Type) → List (DataW H) → Bool := fun _ ds => decide (uptoBulkAll ds ≤ 1048576)
def OpenSpec.upto (s : _root_.Go.ChangeSpec) : _root_.Go.OpenSpec := { _root_.Go.OpenSpec.ofChange s with cond := some uptoSmall }

/-- 'laws.FnExactHasNumber', WHERE WHAT IT READS IS OF BULK AT MOST 1048576: true; the input reads as it did. -/
def fnExactHasNumberUptoRow : OpenClaim := { program := "ytkoccbjeoihbiaa", sum := "ac1163e24e020027438b1475370428002b03611623fd63ff22286ea8d2669195", func := "loop.example/g00840/laws.FnExactHasNumber", spec := "fnExactHasNumber", unfollowed := true, recurses := true, apart := false, narrowed := true }
def FnExactHasNumberUptoSaid : Prop := fnExactHasNumberUptoRow.holds Try.pinned (OpenSpec.upto fnExactHasNumberSpec)

/-- 'laws.FnExactSealWords', WHERE WHAT IT READS IS OF BULK AT MOST 1048576: true; the input reads as it did. -/
def fnExactSealWordsUptoRow : OpenClaim := { program := "ytkoccbjeoihbiaa", sum := "ac1163e24e020027438b1475370428002b03611623fd63ff22286ea8d2669195", func := "loop.example/g00840/laws.FnExactSealWords", spec := "fnExactSealWords", unfollowed := true, recurses := true, apart := false, narrowed := true }
def FnExactSealWordsUptoSaid : Prop := fnExactSealWordsUptoRow.holds Try.pinned (OpenSpec.upto fnExactSealWordsSpec)

/-- 'laws.FnSerials', WHERE WHAT IT READS IS OF BULK AT MOST 1048576: true; the input reads as it did. -/
def fnSerialsUptoRow : OpenClaim := { program := "ytkoccbjeoihbiaa", sum := "ac1163e24e020027438b1475370428002b03611623fd63ff22286ea8d2669195", func := "loop.example/g00840/laws.FnSerials", spec := "fnSerials", apart := false, narrowed := true }
def FnSerialsUptoSaid : Prop := fnSerialsUptoRow.holds Try.pinned (OpenSpec.upto fnSerialsSpec)

/-- 'laws.FnExactAddLeaf', WHERE WHAT IT READS IS OF BULK AT MOST 1048576: true; the input reads as it did. -/
def fnExactAddLeafUptoRow : OpenClaim := { program := "ytkoccbjeoihbiaa", sum := "ac1163e24e020027438b1475370428002b03611623fd63ff22286ea8d2669195", func := "loop.example/g00840/laws.FnExactAddLeaf", spec := "fnExactAddLeaf", unfollowed := true, recurses := true, apart := false, narrowed := true }
def FnExactAddLeafUptoSaid : Prop := fnExactAddLeafUptoRow.holds Try.pinned (OpenSpec.upto fnExactAddLeafSpec)

/-- 'laws.FnExactChildrenOf', WHERE WHAT IT READS IS OF BULK AT MOST 1048576: true; the input reads as it did. -/
def fnExactChildrenOfUptoRow : OpenClaim := { program := "ytkoccbjeoihbiaa", sum := "ac1163e24e020027438b1475370428002b03611623fd63ff22286ea8d2669195", func := "loop.example/g00840/laws.FnExactChildrenOf", spec := "fnExactChildrenOf", unfollowed := true, recurses := true, apart := false, narrowed := true }
def FnExactChildrenOfUptoSaid : Prop := fnExactChildrenOfUptoRow.holds Try.pinned (OpenSpec.upto fnExactChildrenOfSpec)

/-- 'laws.FnExactFaceTo', WHERE WHAT IT READS IS OF BULK AT MOST 1048576: true; the input reads as it did. -/
def fnExactFaceToUptoRow : OpenClaim := { program := "ytkoccbjeoihbiaa", sum := "ac1163e24e020027438b1475370428002b03611623fd63ff22286ea8d2669195", func := "loop.example/g00840/laws.FnExactFaceTo", spec := "fnExactFaceTo", unfollowed := true, recurses := true, apart := false, narrowed := true }
def FnExactFaceToUptoSaid : Prop := fnExactFaceToUptoRow.holds Try.pinned (OpenSpec.upto fnExactFaceToSpec)

/-- 'laws.FnExactPathTo', WHERE WHAT IT READS IS OF BULK AT MOST 1048576: true; the input reads as it did. -/
def fnExactPathToUptoRow : OpenClaim := { program := "ytkoccbjeoihbiaa", sum := "ac1163e24e020027438b1475370428002b03611623fd63ff22286ea8d2669195", func := "loop.example/g00840/laws.FnExactPathTo", spec := "fnExactPathTo", unfollowed := true, recurses := true, apart := false, narrowed := true }
def FnExactPathToUptoSaid : Prop := fnExactPathToUptoRow.holds Try.pinned (OpenSpec.upto fnExactPathToSpec)

/-- 'laws.FnExactLeavesOf', WHERE WHAT IT READS IS OF BULK AT MOST 1048576: true; the input reads as it did. -/
def fnExactLeavesOfUptoRow : OpenClaim := { program := "ytkoccbjeoihbiaa", sum := "ac1163e24e020027438b1475370428002b03611623fd63ff22286ea8d2669195", func := "loop.example/g00840/laws.FnExactLeavesOf", spec := "fnExactLeavesOf", apart := false, narrowed := true }
def FnExactLeavesOfUptoSaid : Prop := fnExactLeavesOfUptoRow.holds Try.pinned (OpenSpec.upto fnExactLeavesOfSpec)

/-- 'laws.FnWordSums', WHERE WHAT IT READS IS OF BULK AT MOST 1048576: true; the input reads as it did. -/
def fnWordSumsUptoRow : OpenClaim := { program := "ytkoccbjeoihbiaa", sum := "ac1163e24e020027438b1475370428002b03611623fd63ff22286ea8d2669195", func := "loop.example/g00840/laws.FnWordSums", spec := "fnWordSums", unfollowed := true, recurses := true, apart := false, narrowed := true }
def FnWordSumsUptoSaid : Prop := fnWordSumsUptoRow.holds Try.pinned (OpenSpec.upto fnWordSumsSpec)

/-- 'laws.FnChecks', WHERE WHAT IT READS IS OF BULK AT MOST 1048576: true; the input reads as it did. -/
def fnChecksUptoRow : OpenClaim := { program := "ytkoccbjeoihbiaa", sum := "ac1163e24e020027438b1475370428002b03611623fd63ff22286ea8d2669195", func := "loop.example/g00840/laws.FnChecks", spec := "fnChecks", unfollowed := true, recurses := true, apart := false, narrowed := true }
def FnChecksUptoSaid : Prop := fnChecksUptoRow.holds Try.pinned (OpenSpec.upto fnChecksSpec)

/-- 'laws.FnExactSortSerials', WHERE WHAT IT READS IS OF BULK AT MOST 1048576: true; the input reads as it did. -/
def fnExactSortSerialsUptoRow : OpenClaim := { program := "ytkoccbjeoihbiaa", sum := "ac1163e24e020027438b1475370428002b03611623fd63ff22286ea8d2669195", func := "loop.example/g00840/laws.FnExactSortSerials", spec := "fnExactSortSerials", unfollowed := true, recurses := true, apart := false, narrowed := true }
def FnExactSortSerialsUptoSaid : Prop := fnExactSortSerialsUptoRow.holds Try.pinned (OpenSpec.upto fnExactSortSerialsSpec)

/-- 'laws.FnSpans', WHERE WHAT IT READS IS OF BULK AT MOST 1048576: true; the input reads as it did. -/
def fnSpansUptoRow : OpenClaim := { program := "ytkoccbjeoihbiaa", sum := "ac1163e24e020027438b1475370428002b03611623fd63ff22286ea8d2669195", func := "loop.example/g00840/laws.FnSpans", spec := "fnSpans", unfollowed := true, recurses := true, apart := false, narrowed := true }
def FnSpansUptoSaid : Prop := fnSpansUptoRow.holds Try.pinned (OpenSpec.upto fnSpansSpec)

end Rows
end Go.Proofs.Ytkoccbjeoihbiaa
