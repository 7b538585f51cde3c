/- What the laws do with lists of ranges: copied, compared, written, read again. -/
import Derived.Test.YtomckpobnblogaaDoorLists
import Derived.StillTailTactics
namespace Go.Proofs.YtomckpobnblogaaDoor
open Go.RowKit
set_option linter.unusedVariables false
set_option maxRecDepth 100000

theorem rng_info : (Tryd.prog.info? 34).map (fun i => (i.zero, i.size, i.bytes)) = some (some (.agg #[.int .i64 0, .int .i64 0]), 2, 16) := by kernel_rfl
/-- A slice of the call's own (from block B on) that holds the ranges rs. -/
def OwnR (w : World) (B : Nat) (A : Option Addr) (cap : Nat) (rs : List (Int × Int)) : Prop := w.ownsRow B 34 2 (.slice A rs.length cap) rs.length (rcells rs)
theorem OwnR.rngs {w : World} {B cap : Nat} {A : Option Addr} {rs : List (Int × Int)} (h : OwnR w B A cap rs) : Rngs w w.heap.size A rs := Lies.of_own h
theorem c_eqRange (a b : Int) (w : World) :
    Calls Tryd.prog 18 #[.agg #[.int .i64 a, .int .i64 b], .agg #[.int .i64 a, .int .i64 b]] w fun e w' => e = .returned (.bool true) ∧ Below w.heap.size w w' := by
  go_enter Tryd.func18, Tryd.ntmps18
  go_wp2
  go_ret
  exact ⟨rfl, by go_grown⟩
set_option maxHeartbeats 400000 in
theorem c_eqRangeS {H K : Nat} (A B : Option Addr) (cap cap' : Nat) (xs : List (Int × Int)) (w : World) (h : Rngs w H A xs) (h' : Rngs w K B xs) (hH : H ≤ w.heap.size) (hK : K ≤ w.heap.size) (hl : xs.length ≤ 100000000) :
    Calls Tryd.prog 6 #[.slice A xs.length cap, .slice B xs.length cap'] w fun e w' => e = .returned (.bool true) ∧ Below w.heap.size w w' := by
  go_enter Tryd.func6, Tryd.ntmps6
  go_wp2
  go_loopw [5] (fun i wr => ∃ k : Nat, k ≤ xs.length ∧ i = .int .i64 k ∧ Below w.heap.size w wr) (fun i _ => xs.length - (intOf i).toNat)
  case atStart => exact ⟨0, Nat.zero_le _, rfl, Below.refl _ _⟩
  case round =>
    obtain ⟨k, hk, rfl, hbel⟩ := hrel
    by_cases hlt : k < xs.length
    · obtain ⟨ad, rfl, hadb, hc0, hc1⟩ := h.at_ hlt
      obtain ⟨ad', rfl, hadb', hc0', hc1'⟩ := h'.at_ hlt
      have hc : wr.cell? (ad.add (k * 2)) = some (.int .i64 (xs.getD k (0, 0)).1) := (hbel.cell (by rw [block_of_add]; omega)).trans hc0
      have hd : wr.cell? ⟨(ad.add (k * 2)).block, (ad.add (k * 2)).off + 1, none⟩ = some (.int .i64 (xs.getD k (0, 0)).2) := (hbel.cell (by simp only [block_of_add]; omega)).trans hc1
      have hc' : wr.cell? (ad'.add (k * 2)) = some (.int .i64 (xs.getD k (0, 0)).1) := (hbel.cell (by rw [block_of_add]; omega)).trans hc0'
      have hd' : wr.cell? ⟨(ad'.add (k * 2)).block, (ad'.add (k * 2)).off + 1, none⟩ = some (.int .i64 (xs.getD k (0, 0)).2) := (hbel.cell (by simp only [block_of_add]; omega)).trans hc1'
      have HB := Lib.hid hbel
      have hi : (k : Int) < (xs.length : Int) := by omega
      clear hbel hc0 hc0' hc1 hc1' h h'
      generalize xs.getD k (0, 0) = r at *
      obtain ⟨x, y⟩ := r
      go_wp2
      go_still_tail 8, (by kernel_rfl)
      go_wp2_with fail
      refine (c_eqRange _ _ _).mono ?_
      rintro e w2 ⟨rfl, hb2⟩
      have HB2 := Lib.hid (HB.out.drew.trans (hb2.mono HB.out.size))
      clear hb2 hc hd hc' hd' HB hi
      go_wp2
      go_roundw
      case rel => exact ⟨k + 1, by omega, by go_num, HB2.out⟩
      case measure => simp [intOf]; omega
    · obtain rfl : k = xs.length := by omega
      go_wp2
      go_ret
      exact ⟨rfl, hbel⟩
end Go.Proofs.YtomckpobnblogaaDoor
