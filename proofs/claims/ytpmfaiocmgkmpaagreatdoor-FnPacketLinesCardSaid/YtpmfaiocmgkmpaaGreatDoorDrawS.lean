/- The reference's draws of serials: what is drawn lies in its range. -/
import Derived.Test.YtpmfaiocmgkmpaaGreatDoorCur
import Derived.Test.YtpmfaiocmgkmpaaGreatDoorSer
namespace Go.Proofs.YtpmfaiocmgkmpaaGreatDoor
open Go.RowKit
set_option linter.unusedVariables false
set_option maxRecDepth 100000

theorem grown_below {w w' : World} {row : Option Nat} (h : Below w.heap.size w w') : w.grownBy w' row := ⟨h.os, h.tape, h.output, h.size, fun k hk _ => h.block k hk⟩
theorem grown_alloc (w : World) (o : Obj) (row : Option Nat) : w.grownBy (w.alloc o) row := grown_below ((Below.refl _ _).alloc (Nat.le_refl _) _)
theorem Cur.push {w : World} {b N : Nat} (h : Cur w b N) (o : Obj) : Cur (w.alloc o) b N := h.keep ((Below.refl w.heap.size w).alloc (Nat.le_refl _) o) h.inside
theorem BytesAt.nil (w : World) (H : Nat) (A : Option Addr) : BytesAt w H A 0 := fun i hi => absurd hi (by omega)
theorem cur_new (w : World) (A : Option Addr) (n cap : Nat) (hB : BytesAt w w.heap.size A n) (hn : n ≤ 100000) : Cur (w.alloc (.cells #[.slice A n cap, .int .i64 0, .int .u64 0] 53)) w.heap.size 0 := by
  refine ⟨by simp, by simp [go_sem], by simp [go_sem], by simp [go_sem], A, n, cap, 0, 0, hB.keep ((Below.refl _ _).alloc (Nat.le_refl _) _), hn, by omega, by simp, by simp [go_sem], by simp [go_sem], by simp [go_sem]⟩
/-- The frame of a call that made a cursor of its own. -/
theorem below_cur {w w0 w' : World} {b : Nat} (h0 : Below w.heap.size w w0) (hb : w.heap.size ≤ b) (h : w0.grownBy w' (some b)) : Below w.heap.size w w' :=
  h0.grown h h0.size (fun k hk => by cases hk; exact hb)
theorem ne_new {b n : Nat} (h : b < n) : ∀ ad : Addr, (some ⟨n, 0, none⟩ : Option Addr) = some ad → (some b : Option Nat) ≠ some ad.block := fun ad e e2 => by
  injection e with e
  subst e
  injection e2 with e2
  have e3 : b = n := e2
  omega
set_option maxHeartbeats 1000000 in
theorem c_serial (b N : Nat) (w : World) (h : Cur w b N) (hN : N ≤ 900000) :
    Calls Tryz.prog 52 #[.pointer (some ⟨b, 0, none⟩)] w (Draws b (N + 4) (fun x => 0 ≤ x ∧ x ≤ 65535) w) := by
  have H := Lib.hid h
  clear h
  go_enter Tryz.func52, Tryz.ntmps52
  go_wp2_with fail
  refine (c_among b N (w.heap.size + 1) (fun x => 0 ≤ x ∧ x ≤ 65535) _ _ [0, 1, 100, 32767, 32768, 65535, 65530, 4660] _ (H.out.push _) (by omega) (ints_lit w _) (by simp) (ne_new H.out.inside) (by decide) (by decide) (by decide)).mono ?_
  rintro e w1 ⟨x, rfl, ⟨hx0, hx1⟩, k1, g1⟩
  have H1 := Lib.hid k1
  have G1 := Lib.hid (grown_trans (grown_alloc _ _ _) g1)
  clear k1 g1
  go_wp2_with fail
  refine (c_pick b (N + 2) 12 _ H1.out (by omega) (by omega) (by omega)).mono ?_
  rintro e w2 ⟨y, rfl, ⟨hy0, hy1⟩, k2, g2⟩
  have H2 := Lib.hid k2
  have G2 := Lib.hid (grown_trans G1.out g2)
  clear k2 g2
  go_wp2_with fail
  refine (c_l2After x y _ (by omega) (by omega) (by omega) (by omega)).mono ?_
  rintro e _ ⟨rfl, rfl⟩
  have hr := aftV_rng x y
  generalize aftV x y = z at *
  go_wp2
  go_ret
  exact ⟨_, rfl, hr, H2.out, G2.out⟩
set_option maxHeartbeats 1000000 in
theorem c_anySerial (b N : Nat) (w : World) (h : Cur w b N) (hN : N ≤ 800000) :
    Calls Tryz.prog 32 #[.pointer (some ⟨b, 0, none⟩)] w (Draws b (N + 6) (fun x => -1 ≤ x ∧ x ≤ 65536) w) := by
  have H := Lib.hid h
  clear h
  go_enter Tryz.func32, Tryz.ntmps32
  go_wp2_with fail
  refine (c_one b N 20 _ H.out (by omega) (by omega) (by omega)).mono ?_
  rintro e w1 ⟨x, rfl, k1, g1⟩
  have H1 := Lib.hid k1
  have G1 := Lib.hid g1
  clear k1 g1
  cases x
  · go_wp2_with fail
    refine (c_serial b (N + 2) _ H1.out (by omega)).mono ?_
    rintro e w2 ⟨y, rfl, ⟨hy0, hy1⟩, k2, g2⟩
    have H2 := Lib.hid k2
    have G2 := Lib.hid (grown_trans G1.out g2)
    clear k2 g2
    go_wp2
    go_ret
    exact ⟨_, rfl, ⟨by omega, by omega⟩, H2.out, G2.out⟩
  · go_wp2_with fail
    refine (c_among b (N + 2) (w1.heap.size + 1) (fun x => -1 ≤ x ∧ x ≤ 65536) _ _ [-1, 65536, 65535] _ (H1.out.push _) (by omega) (ints_lit w1 _) (by simp) (ne_new H1.out.inside) (by decide) (by decide) (by decide)).mono ?_
    rintro e w2 ⟨y, rfl, ⟨hy0, hy1⟩, k2, g2⟩
    have H2 := Lib.hid k2
    have G2 := Lib.hid (grown_trans G1.out (grown_trans (grown_alloc _ _ _) g2))
    clear k2 g2
    go_wp2
    go_ret
    exact ⟨_, rfl, ⟨by omega, by omega⟩, H2.out.more (by omega), G2.out⟩
def Drawn2 (B : Int) (w : World) (e : Ending) (w' : World) : Prop := ∃ x y : Int, e = .returned (.tuple #[.int .i64 x, .int .i64 y]) ∧ -B ≤ x ∧ x ≤ B ∧ -B ≤ y ∧ y ≤ B ∧ Below w.heap.size w w'
def Drawn3 (B : Int) (w : World) (e : Ending) (w' : World) : Prop := ∃ x y z : Int, e = .returned (.tuple #[.int .i64 x, .int .i64 y, .int .i64 z]) ∧ (-B ≤ x ∧ x ≤ B) ∧ (-B ≤ y ∧ y ≤ B) ∧ (-B ≤ z ∧ z ≤ B) ∧ Below w.heap.size w w'
end Go.Proofs.YtpmfaiocmgkmpaaGreatDoor
