/- The reference's draws of serials: what is drawn lies in its range. -/
import Derived.Test.YtlammcoiaeodfaaGreatDoorCur
import Derived.Test.YtlammcoiaeodfaaGreatDoorSer
namespace Go.Proofs.YtlammcoiaeodfaaGreatDoor
open Go.RowKit
set_option linter.unusedVariables false
set_option maxRecDepth 100000

theorem grown_below {w w' : World} {row : Option Nat} (h : Below w.heap.size w w') : w.grownBy w' row := ⟨h.os, h.tape, h.output, h.size, fun k hk _ => h.block k hk⟩
theorem grown_alloc (w : World) (o : Obj) (row : Option Nat) : w.grownBy (w.alloc o) row := grown_below ((Below.refl _ _).alloc (Nat.le_refl _) _)
theorem Cur.push {w : World} {b N : Nat} (h : Cur w b N) (o : Obj) : Cur (w.alloc o) b N := h.keep ((Below.refl w.heap.size w).alloc (Nat.le_refl _) o) h.inside
theorem BytesAt.nil (w : World) (H : Nat) (A : Option Addr) : BytesAt w H A 0 := fun i hi => absurd hi (by omega)
theorem cur_new (w : World) (A : Option Addr) (n cap : Nat) (hB : BytesAt w w.heap.size A n) (hn : n ≤ 100000) : Cur (w.alloc (.cells #[.slice A n cap, .int .i64 0, .int .u64 0] 41)) w.heap.size 0 := by
  refine ⟨by simp, by simp [go_sem], by simp [go_sem], by simp [go_sem], A, n, cap, 0, 0, hB.keep ((Below.refl _ _).alloc (Nat.le_refl _) _), hn, by omega, by simp, by simp [go_sem], by simp [go_sem], by simp [go_sem]⟩
/-- The frame of a call that made a cursor of its own. -/
theorem below_cur {w w0 w' : World} {b : Nat} (h0 : Below w.heap.size w w0) (hb : w.heap.size ≤ b) (h : w0.grownBy w' (some b)) : Below w.heap.size w w' :=
  h0.grown h h0.size (fun k hk => by cases hk; exact hb)
theorem ne_new {b n : Nat} (h : b < n) : ∀ ad : Addr, (some ⟨n, 0, none⟩ : Option Addr) = some ad → (some b : Option Nat) ≠ some ad.block := fun ad e e2 => by
  injection e with e
  subst e
  injection e2 with e2
  have e3 : b = n := e2
  omega
def Drawn2 (B : Int) (w : World) (e : Ending) (w' : World) : Prop := ∃ x y : Int, e = .returned (.tuple #[.int .i64 x, .int .i64 y]) ∧ -B ≤ x ∧ x ≤ B ∧ -B ≤ y ∧ y ≤ B ∧ Below w.heap.size w w'
def Drawn3 (B : Int) (w : World) (e : Ending) (w' : World) : Prop := ∃ x y z : Int, e = .returned (.tuple #[.int .i64 x, .int .i64 y, .int .i64 z]) ∧ (-B ≤ x ∧ x ≤ B) ∧ (-B ≤ y ∧ y ≤ B) ∧ (-B ≤ z ∧ z ≤ B) ∧ Below w.heap.size w w'
end Go.Proofs.YtlammcoiaeodfaaGreatDoor
