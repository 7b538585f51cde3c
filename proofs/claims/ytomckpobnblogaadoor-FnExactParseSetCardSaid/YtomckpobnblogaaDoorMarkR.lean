/- Lists of ranges: written, and read again. -/
import Derived.Test.YtomckpobnblogaaDoorRapp
namespace Go.Proofs.YtomckpobnblogaaDoor
open Go.RowKit
set_option linter.unusedVariables false
set_option maxRecDepth 100000

/-- (k, k + 1), (k + 2, k + 3), .. : n ranges. -/
def seqR (k : Int) (n : Nat) : List (Int × Int) := (List.range n).map fun (i : Nat) => (k + 2 * (i : Int), k + 2 * (i : Int) + 1)
theorem seqR_length (k : Int) (n : Nat) : (seqR k n).length = n := by simp [seqR]
theorem seqR_getD (k : Int) (n i : Nat) (h : i < n) : (seqR k n).getD i (0, 0) = (k + 2 * (i : Int), k + 2 * (i : Int) + 1) := by simp [seqR, h]
theorem seqR_snoc (k : Int) (n : Nat) : seqR k (n + 1) = seqR k n ++ [(k + 2 * (n : Int), k + 2 * (n : Int) + 1)] := by simp [seqR, List.range_succ]
set_option maxHeartbeats 1000000 in
theorem c_markRangeS {B : Nat} (A : Option Addr) (cap : Nat) (rs : List (Int × Int)) (k0 : Int) (w : World) (h : OwnR w B A cap rs) (hl : rs.length ≤ 10000000) (h1 : 0 ≤ k0) (h2 : k0 ≤ 100000000) :
    Calls Tryd.prog 7 #[.slice A rs.length cap, .int .i64 k0] w fun e w' => e = .returned (.int .i64 (k0 + 2 * rs.length)) ∧ OwnR w' B A cap (seqR k0 rs.length) ∧ Below B w w' ∧ w'.heap.size = w.heap.size ∧ w.grownBy w' (Value.ownBlock (.slice A rs.length cap)) := by
  go_enter Tryd.func7, Tryd.ntmps7
  go_wp2
  go_loopw [5, 1] (fun i q wr => ∃ k : Nat, k ≤ rs.length ∧ i = .int .i64 k ∧ q = .int .i64 (k0 + 2 * (k : Int)) ∧ (∃ ys, wr.ownsRow B 34 2 (.slice A rs.length cap) rs.length (rcells (seqR k0 k) ++ ys)) ∧ Below B w wr ∧ wr.heap.size = w.heap.size ∧ w.grownBy wr (Value.ownBlock (.slice A rs.length cap))) (fun i _ _ => rs.length - (intOf i).toNat)
  case atStart => exact ⟨0, Nat.zero_le _, rfl, by simp, ⟨rcells rs, h⟩, Below.refl _ _, rfl, World.grownBy.refl _ _⟩
  case round =>
    clear h
    obtain ⟨k, hk, rfl, rfl, ⟨ys, hown⟩, hbel, hsz, hgr⟩ := hrel
    by_cases hlt : k < rs.length
    · obtain ⟨g, rfl, hgB⟩ := own_head hown (by omega)
      obtain ⟨⟨u0, hu0⟩, ⟨u1, hu1⟩⟩ := own_rcell hown k hlt
      have f0 := hown.frozenAt (k * 2)
      have f1 := hown.frozenAt (k * 2 + 1)
      have hst := own_rset hown (by rw [seqR_length]; exact hlt) (k0 + 2 * (k : Int)) (k0 + 2 * (k : Int) + 1)
      rw [seqR_length, ← seqR_snoc] at hst
      have hg1 : w.grownBy ((wr.setCell ⟨g, k * 2, none⟩ (.int .i64 (k0 + 2 * (k : Int)))).setCell ⟨g, k * 2 + 1, none⟩ (.int .i64 (k0 + 2 * (k : Int) + 1))) (some g) := by
        have e : Value.ownBlock (.slice (some ⟨g, 0, none⟩) rs.length cap) = some g := rfl
        rw [e] at hgr
        have s1 := fun (W : World) (a : Addr) (ha : a.block = g) (v : Value) => (⟨rfl, rfl, rfl, by simp [World.setCell], fun j _ hj => Below.heap_setCell _ _ _ j (fun e => hj (by rw [e, ha]))⟩ : W.grownBy (W.setCell a v) (some g))
        exact grown_trans (grown_trans hgr (s1 _ _ rfl _)) (s1 _ _ rfl _)
      have HST := Lib.hid hst
      have HG := Lib.hid hg1
      have HB := Lib.hid ((hbel.setCell (p := ⟨g, k * 2, none⟩) hgB (.int .i64 (k0 + 2 * (k : Int)))).setCell (p := ⟨g, k * 2 + 1, none⟩) hgB (.int .i64 (k0 + 2 * (k : Int) + 1)))
      have HZ := Lib.hid hsz
      have hi : (k : Int) < (rs.length : Int) := by omega
      clear hst hg1 hown hbel hsz hgr
      go_wp2
      go_roundw
      case rel => exact ⟨k + 1, by omega, by go_num, by go_num, ⟨_, HST.out⟩, HB.out, by simpa [World.setCell] using HZ.out, HG.out⟩
      case measure => simp [intOf]; omega
    · obtain rfl : k = rs.length := by omega
      have hys : ys = [] := by
        have hl := hown.1
        rw [List.length_append, rcells_length, seqR_length] at hl
        exact List.eq_nil_of_length_eq_zero (by omega)
      subst hys
      rw [List.append_nil] at hown
      go_wp2
      go_ret
      exact ⟨rfl, by unfold OwnR; rw [seqR_length]; exact hown, hbel, hsz, hgr⟩
set_option maxHeartbeats 1000000 in
theorem c_heldRangeS {H : Nat} (A : Option Addr) (cap : Nat) (n : Nat) (k0 : Int) (w : World) (h : Rngs w H A (seqR k0 n)) (hl : n ≤ 10000000) (h1 : 0 ≤ k0) (h2 : k0 ≤ 100000000) :
    Calls Tryd.prog 8 #[.slice A n cap, .int .i64 k0] w fun e w' => e = .returned (.int .i64 (k0 + 2 * n)) ∧ w = w' := by
  go_enter Tryd.func8, Tryd.ntmps8
  go_wp2
  go_loop [5, 1] (fun i q => ∃ k : Nat, k ≤ n ∧ i = .int .i64 k ∧ q = .int .i64 (k0 + 2 * (k : Int))) (fun i _ => n - (intOf i).toNat)
  case atStart => exact ⟨0, Nat.zero_le _, rfl, by simp⟩
  case round =>
    obtain ⟨k, hk, rfl, rfl⟩ := hrel
    by_cases hlt : k < n
    · obtain ⟨ad, rfl, hadb, hc0, hc1⟩ := h.at_ (k := k) (by rw [seqR_length]; exact hlt)
      rw [seqR_getD k0 n k hlt] at hc0 hc1
      simp only at hc0 hc1
      have hi : (k : Int) < (n : Int) := by omega
      clear h
      go_wp2
      go_round
      case rel => exact ⟨k + 1, by omega, by go_num, by go_num⟩
      case measure => simp [intOf]; omega
    · obtain rfl : k = n := by omega
      go_wp2
      go_ret
      exact ⟨rfl, rfl⟩
end Go.Proofs.YtomckpobnblogaaDoor
