/- What the laws do with lists of ranges: copied, compared, written, read again. -/
import Derived.Test.YtomckpobnblogaaLists
import Derived.StillTailTactics
namespace Go.Proofs.Ytomckpobnblogaa
open Go.RowKit
set_option linter.unusedVariables false
set_option maxRecDepth 100000

theorem c_toRange (a b : Int) (w : World) :
    Calls Try.prog 38 #[.agg #[.int .i64 a, .int .i64 b]] w fun e w' => e = .returned (.agg #[.int .i64 a, .int .i64 b]) ∧ Below w.heap.size w w' := by
  go_enter Try.func38, Try.ntmps38
  go_wp2
  exact bodyPost_ret (v := .agg #[.int .i64 a, .int .i64 b]) (by simp [results, Try.results38, go_sem]) rfl ⟨rfl, by go_grown⟩
theorem c_eqRange (a b : Int) (w : World) :
    Calls Try.prog 42 #[.agg #[.int .i64 a, .int .i64 b], .agg #[.int .i64 a, .int .i64 b]] w fun e w' => e = .returned (.bool true) ∧ Below w.heap.size w w' := by
  go_enter Try.func42, Try.ntmps42
  go_wp2
  go_ret
  exact ⟨rfl, by go_grown⟩
theorem c_szRangeS (A : Option Addr) (n cap : Nat) (k : Int) (w : World) (hn : n ≤ 9223372036854775807) (h1 : 0 ≤ k) (h2 : k ≤ 100000000) :
    Calls Try.prog 9 #[.slice A n cap, .int .i64 k] w fun e w' => e = .returned (.int .i64 (if k - (n : Int) < 0 then -1 else k - n)) ∧ w = w' := by
  by_cases h : k - (n : Int) < 0
  · rw [if_pos h]
    go_enter Try.func9, Try.ntmps9
    go_wp2
    go_ret
    exact ⟨rfl, rfl⟩
  · rw [if_neg h]
    go_enter Try.func9, Try.ntmps9
    go_wp2
    go_ret
    exact ⟨rfl, rfl⟩
theorem rng_info : (Try.prog.info? 47).map (fun i => (i.zero, i.size, i.bytes)) = some (some (.agg #[.int .i64 0, .int .i64 0]), 2, 16) := by kernel_rfl
/-- A slice of the call's own (from block B on) that holds the ranges rs. -/
def OwnR (w : World) (B : Nat) (A : Option Addr) (cap : Nat) (rs : List (Int × Int)) : Prop := w.ownsRow B 47 2 (.slice A rs.length cap) rs.length (rcells rs)
theorem OwnR.rngs {w : World} {B cap : Nat} {A : Option Addr} {rs : List (Int × Int)} (h : OwnR w B A cap rs) : Rngs w w.heap.size A rs := Lies.of_own h
set_option maxHeartbeats 400000 in
theorem c_toRangeS {H : Nat} (A : Option Addr) (cap : Nat) (rs : List (Int × Int)) (w : World) (h : Rngs w H A rs) (hH : H ≤ w.heap.size) (hl : rs.length ≤ 100000000) :
    Calls Try.prog 11 #[.slice A rs.length cap] w fun e w' => ∃ A' cap', e = .returned (.slice A' rs.length cap') ∧ OwnR w' w.heap.size A' cap' rs ∧ Below w.heap.size w w' := by
  obtain ⟨i0, hi, hz0, hz1, hz2⟩ := info_parts rng_info
  have hb : i0.bytes * rs.length ≤ 281474976710656 := by rw [hz2]; omega
  clear hz2
  have HB := Lib.hid hb
  clear hb
  go_enter Try.func11, Try.ntmps11
  go_wp2_with (at_make; refine wpList_make_full _ rfl _ _ _ rfl w.heap.size 47 i0 (.agg #[.int .i64 0, .int .i64 0]) 2 Try.underlying24 hi hz0 hz1 _ _ _ _ rs.length rfl rfl rfl rfl HB.out (by unfold maxLen; omega) (Nat.le_refl _) ?_; intro w1 hown hgrow)
  have hbel : Below w.heap.size w w1 := (Below.refl _ _).grown hgrow (Nat.le_refl _) (fun k hk => by cases hk)
  clear hgrow HB hi hz0 hz1
  go_loopw [4] (fun i wr => ∃ k : Nat, k ≤ rs.length ∧ i = .int .i64 k ∧ (∃ ys, wr.ownsRow w.heap.size 47 2 (.slice (some ⟨w.heap.size, 0, none⟩) rs.length rs.length) rs.length (rcells (rs.take k) ++ ys)) ∧ Below w.heap.size w wr) (fun i _ => rs.length - (intOf i).toNat)
  case atStart => exact ⟨0, Nat.zero_le _, rfl, ⟨_, by simpa [rcells] using hown⟩, hbel⟩
  case round =>
    clear hown hbel
    obtain ⟨k, hk, rfl, ⟨ys, hown⟩, hbel⟩ := hrel
    by_cases hlt : k < rs.length
    · obtain ⟨ad, rfl, hadb, hc0, hc1⟩ := h.at_ hlt
      have hc : wr.cell? (ad.add (k * 2)) = some (.int .i64 (rs.getD k (0, 0)).1) := (hbel.cell (by rw [block_of_add]; omega)).trans hc0
      have hc' : wr.cell? ⟨(ad.add (k * 2)).block, (ad.add (k * 2)).off + 1, none⟩ = some (.int .i64 (rs.getD k (0, 0)).2) := (hbel.cell (by simp only [block_of_add]; omega)).trans hc1
      have HB := Lib.hid hbel
      have HO := Lib.hid hown
      clear hc0 hc1 h hbel hown
      have HT := Lib.hid (take_snoc_r rs k hlt)
      have htl : (rs.take k).length = k := by simp; omega
      generalize rs.getD k (0, 0) = r at *
      obtain ⟨x, y⟩ := r
      go_wp2_with fail
      refine (c_toRange _ _ _).mono ?_
      rintro e w2 ⟨rfl, hb2⟩
      have hown2 := World.ownsRow.kept HO.out (grownBy_of_below hb2) (by simp [Value.ownBlock])
      have hset := own_rset hown2 (by omega) x y
      rw [← HT.out, htl] at hset
      obtain ⟨⟨u0, hu0⟩, ⟨u1, hu1⟩⟩ := own_rcell hown2 k hlt
      have f0 := hown2.frozenAt (k * 2)
      have f1 := hown2.frozenAt (k * 2 + 1)
      have HS := Lib.hid hset
      have HB2 := Lib.hid (HB.out.trans (hb2.mono HB.out.size))
      clear hset hown2 hb2 hc hc' HT htl HO HB
      go_wp2
      go_roundw
      case rel => exact ⟨k + 1, by omega, by go_num, ⟨_, HS.out⟩, (HB2.out.setCell (Nat.le_refl _) _).setCell (Nat.le_refl _) _⟩
      case measure => simp [intOf]; omega
    · obtain rfl : k = rs.length := by omega
      have hys : ys = [] := by
        have hl := hown.1
        rw [List.length_append, rcells_length, List.take_length] at hl
        exact List.eq_nil_of_length_eq_zero (by omega)
      subst hys
      rw [List.take_length, List.append_nil] at hown
      go_wp2
      go_ret
      exact ⟨_, _, rfl, hown, hbel⟩
set_option maxHeartbeats 400000 in
theorem c_eqRangeS {H K : Nat} (A B : Option Addr) (cap cap' : Nat) (xs : List (Int × Int)) (w : World) (h : Rngs w H A xs) (h' : Rngs w K B xs) (hH : H ≤ w.heap.size) (hK : K ≤ w.heap.size) (hl : xs.length ≤ 100000000) :
    Calls Try.prog 13 #[.slice A xs.length cap, .slice B xs.length cap'] w fun e w' => e = .returned (.bool true) ∧ Below w.heap.size w w' := by
  go_enter Try.func13, Try.ntmps13
  go_wp2
  go_loopw [5] (fun i wr => ∃ k : Nat, k ≤ xs.length ∧ i = .int .i64 k ∧ Below w.heap.size w wr) (fun i _ => xs.length - (intOf i).toNat)
  case atStart => exact ⟨0, Nat.zero_le _, rfl, Below.refl _ _⟩
  case round =>
    obtain ⟨k, hk, rfl, hbel⟩ := hrel
    by_cases hlt : k < xs.length
    · obtain ⟨ad, rfl, hadb, hc0, hc1⟩ := h.at_ hlt
      obtain ⟨ad', rfl, hadb', hc0', hc1'⟩ := h'.at_ hlt
      have hc : wr.cell? (ad.add (k * 2)) = some (.int .i64 (xs.getD k (0, 0)).1) := (hbel.cell (by rw [block_of_add]; omega)).trans hc0
      have hd : wr.cell? ⟨(ad.add (k * 2)).block, (ad.add (k * 2)).off + 1, none⟩ = some (.int .i64 (xs.getD k (0, 0)).2) := (hbel.cell (by simp only [block_of_add]; omega)).trans hc1
      have hc' : wr.cell? (ad'.add (k * 2)) = some (.int .i64 (xs.getD k (0, 0)).1) := (hbel.cell (by rw [block_of_add]; omega)).trans hc0'
      have hd' : wr.cell? ⟨(ad'.add (k * 2)).block, (ad'.add (k * 2)).off + 1, none⟩ = some (.int .i64 (xs.getD k (0, 0)).2) := (hbel.cell (by simp only [block_of_add]; omega)).trans hc1'
      have HB := Lib.hid hbel
      have hi : (k : Int) < (xs.length : Int) := by omega
      clear hbel hc0 hc0' hc1 hc1' h h'
      generalize xs.getD k (0, 0) = r at *
      obtain ⟨x, y⟩ := r
      go_wp2
      go_still_tail 8, (by kernel_rfl)
      go_wp2_with fail
      refine (c_eqRange _ _ _).mono ?_
      rintro e w2 ⟨rfl, hb2⟩
      have HB2 := Lib.hid (HB.out.drew.trans (hb2.mono HB.out.size))
      clear hb2 hc hd hc' hd' HB hi
      go_wp2
      go_roundw
      case rel => exact ⟨k + 1, by omega, by go_num, HB2.out⟩
      case measure => simp [intOf]; omega
    · obtain rfl : k = xs.length := by omega
      go_wp2
      go_ret
      exact ⟨rfl, hbel⟩
end Go.Proofs.Ytomckpobnblogaa
