/- What the laws do with lists of ranges: copied, compared, written, read again. -/
import Derived.Test.YtlammcoiaeodfaaGreatDoorLists
import Derived.StillTailTactics
namespace Go.Proofs.YtlammcoiaeodfaaGreatDoor
open Go.RowKit
set_option linter.unusedVariables false
set_option maxRecDepth 100000

theorem rng_info : (Tryz.prog.info? 47).map (fun i => (i.zero, i.size, i.bytes)) = some (some (.agg #[.int .i64 0, .int .i64 0]), 2, 16) := by kernel_rfl
/-- A slice of the call's own (from block B on) that holds the ranges rs. -/
def OwnR (w : World) (B : Nat) (A : Option Addr) (cap : Nat) (rs : List (Int × Int)) : Prop := w.ownsRow B 47 2 (.slice A rs.length cap) rs.length (rcells rs)
theorem OwnR.rngs {w : World} {B cap : Nat} {A : Option Addr} {rs : List (Int × Int)} (h : OwnR w B A cap rs) : Rngs w w.heap.size A rs := Lies.of_own h
end Go.Proofs.YtlammcoiaeodfaaGreatDoor
