/- Whether a list of ranges is a set: the reference's and the program's question, answered alike. -/
import Derived.Test.YtlammcoiaeodfaaGreatDoorRngs
namespace Go.Proofs.YtlammcoiaeodfaaGreatDoor
open Go.RowKit
set_option linter.unusedVariables false
set_option maxRecDepth 100000

def prevT (rs : List (Int × Int)) (k : Nat) : Int := (rs.getD (k - 1) (0, 0)).2
def okAt (rs : List (Int × Int)) (k : Nat) : Bool :=
  inR (rs.getD k (0, 0)).1 0 65535 && inR (rs.getD k (0, 0)).2 0 65535 && decide ((rs.getD k (0, 0)).1 ≤ (rs.getD k (0, 0)).2) && (decide (k = 0) || decide (prevT rs k + 1 < (rs.getD k (0, 0)).1))
theorem okAt_eq (rs : List (Int × Int)) (k : Nat) : okAt rs k = (inR (rs.getD k (0, 0)).1 0 65535 && inR (rs.getD k (0, 0)).2 0 65535 && decide ((rs.getD k (0, 0)).1 ≤ (rs.getD k (0, 0)).2) && (decide (k = 0) || decide (prevT rs k + 1 < (rs.getD k (0, 0)).1))) := rfl
/-- A set: at most ten ranges of words, each behind the one before it and not next to it. -/
def setB (rs : List (Int × Int)) : Bool := decide (rs.length ≤ 10) && (List.range rs.length).all (okAt rs)
theorem setB_bad {rs : List (Int × Int)} {k : Nat} (hk : k < rs.length) (h : okAt rs k = false) : setB rs = false := by
  simp only [setB, Bool.and_eq_false_iff]
  right
  rw [List.all_eq_false]
  exact ⟨k, List.mem_range.2 hk, by simp [h]⟩
theorem setB_all {rs : List (Int × Int)} (h : ∀ j, j < rs.length → okAt rs j = true) : setB rs = decide ((rs.length : Int) ≤ 10) := by
  have : (List.range rs.length).all (okAt rs) = true := by
    rw [List.all_eq_true]
    intro j hj
    exact h j (List.mem_range.1 hj)
  simp only [setB, this, Bool.and_true]
  rw [Bool.eq_iff_iff]
  simp
  omega
theorem setB_t {rs : List (Int × Int)} (h : setB rs = true) : rs.length ≤ 10 ∧ ∀ j, j < rs.length → okAt rs j = true := by
  simp only [setB, Bool.and_eq_true, decide_eq_true_eq, List.all_eq_true] at h
  exact ⟨h.1, fun j hj => h.2 j (List.mem_range.2 hj)⟩
theorem all_snoc {p : Nat → Bool} {k : Nat} (h : ∀ j, j < k → p j = true) (hk : p k = true) : ∀ j, j < k + 1 → p j = true := fun j hj => by
  by_cases e : j = k
  · subst e; exact hk
  · exact h j (by omega)
theorem okAt_prev {rs : List (Int × Int)} {j : Nat} (h : okAt rs j = true) : 0 ≤ prevT rs (j + 1) ∧ prevT rs (j + 1) ≤ 65535 := by
  simp only [okAt, Bool.and_eq_true] at h
  exact inR_t h.1.1.2
set_option maxHeartbeats 1600000 in
theorem c_l5Good {H : Nat} (A : Option Addr) (cap : Nat) (rs : List (Int × Int)) (w : World) (h : Rngs w H A rs) (hH : H ≤ w.heap.size) (hl : rs.length ≤ 100000000) :
    Calls Tryz.prog 27 #[.slice A rs.length cap] w fun e w' => e = .returned (.bool (setB rs)) ∧ Below w.heap.size w w' := by
  go_enter Tryz.func27, Tryz.ntmps27
  go_wp2
  go_loopw [3] (fun i wr => ∃ k : Nat, k ≤ rs.length ∧ i = .int .i64 k ∧ Hid (∀ j, j < k → okAt rs j = true) ∧ Below w.heap.size w wr) (fun i _ => rs.length - (intOf i).toNat)
  case atStart => exact ⟨0, Nat.zero_le _, rfl, Lib.hid (fun j hj => absurd hj (by omega)), Below.refl _ _⟩
  case round =>
    obtain ⟨k, hk, rfl, HJ, hbel⟩ := hrel
    by_cases hlt : k < rs.length
    · obtain ⟨ad, rfl, hadb, hc0, hc1⟩ := h.at_ hlt
      have hc : wr.cell? (ad.add (k * 2)) = some (.int .i64 (rs.getD k (0, 0)).1) := (hbel.cell (by rw [block_of_add]; omega)).trans hc0
      have hd : wr.cell? ⟨(ad.add (k * 2)).block, (ad.add (k * 2)).off + 1, none⟩ = some (.int .i64 (rs.getD k (0, 0)).2) := (hbel.cell (by simp only [block_of_add]; omega)).trans hc1
      have HB := Lib.hid hbel
      have hi : (k : Int) < (rs.length : Int) := by omega
      have HO := Lib.hid (okAt_eq rs k)
      clear hbel hc0 hc1
      generalize rs.getD k (0, 0) = r at *
      obtain ⟨x, y⟩ := r
      cases gf : inR x 0 65535
      · have HG := Lib.hid (setB_bad hlt (by rw [HO.out]; simp [gf]))
        clear h
        go_wp2
        go_quiet ((go_at_call 49; exact quiet_left (c_l3Word _ _)))
        go_wp2
        go_ret
        exact ⟨ret_b HG.out.symm, below_drewN HB.out _⟩
      cases gt : inR y 0 65535
      · have HG := Lib.hid (setB_bad hlt (by rw [HO.out]; simp [gf, gt]))
        clear h
        go_wp2
        go_quiet ((go_at_call 49; exact quiet_left (c_l3Word _ _)))
        go_wp2
        go_ret
        exact ⟨ret_b HG.out.symm, below_drewN HB.out _⟩
      by_cases hxy : x ≤ y
      rotate_left
      · have hxy' : y < x := by omega
        clear hxy
        have HG := Lib.hid (setB_bad hlt (by rw [HO.out]; simp [gf, gt]; omega))
        clear h
        go_wp2
        go_quiet ((go_at_call 49; exact quiet_left (c_l3Word _ _)))
        go_wp2
        go_ret
        exact ⟨ret_b HG.out.symm, below_drewN HB.out _⟩
      have hyx : decide (y < x) = false := by simp; omega
      have b0 := inR_t gf
      have b1 := inR_t gt
      by_cases hk0 : k = 0
      · have HG := Lib.hid (show okAt rs k = true from by rw [HO.out]; simp [gf, gt, hk0]; omega)
        have hk1 : decide (0 < k) = false := by simp; omega
        clear h hk0
        go_wp2
        go_quiet ((go_at_call 49; exact quiet_left (c_l3Word _ _)))
        go_wp2
        go_roundw
        case rel => exact ⟨k + 1, by omega, by go_num, Lib.hid (all_snoc HJ.out HG.out), below_drewN HB.out _⟩
        case measure => simp [intOf]; omega
      · obtain ⟨j, rfl⟩ : ∃ j, k = j + 1 := ⟨k - 1, by omega⟩
        obtain ⟨ad2, e2, hadb2, _, hc2⟩ := h.at_ (k := j) (by omega)
        simp only [Option.some.injEq] at e2
        subst e2
        have hd2 : wr.cell? ⟨(ad.add (j * 2)).block, (ad.add (j * 2)).off + 1, none⟩ = some (.int .i64 (prevT rs (j + 1))) := (HB.out.cell (by simp only [block_of_add]; omega)).trans hc2
        have b2 := okAt_prev (HJ.out j (by omega))
        clear hc2 h
        generalize hp : prevT rs (j + 1) = z at *
        clear hp
        by_cases hz : z + 1 < x
        · have HG := Lib.hid (show okAt rs (j + 1) = true from by rw [HO.out]; simp [gf, gt, hz]; omega)
          have hz' : decide (x ≤ z + 1) = false := by simp; omega
          go_wp2
          go_quiet ((go_at_call 49; exact quiet_left (c_l3Word _ _)))
          go_wp2
          go_roundw
          case rel => exact ⟨j + 1 + 1, by omega, by go_num, Lib.hid (all_snoc HJ.out HG.out), below_drewN HB.out _⟩
          case measure => simp [intOf]; omega
        · have hz' : x ≤ z + 1 := by omega
          have HG := Lib.hid (setB_bad hlt (by rw [HO.out]; simp; intros; omega))
          clear hz
          go_wp2
          go_quiet ((go_at_call 49; exact quiet_left (c_l3Word _ _)))
          go_wp2
          go_ret
          exact ⟨ret_b HG.out.symm, below_drewN HB.out _⟩
    · obtain rfl : k = rs.length := by omega
      clear h
      have HG := Lib.hid (setB_all HJ.out)
      go_wp2
      go_ret
      exact ⟨ret_b HG.out.symm, hbel⟩
set_option maxHeartbeats 1600000 in
theorem c_isRangeSet {H : Nat} (A : Option Addr) (cap : Nat) (rs : List (Int × Int)) (w : World) (h : Rngs w H A rs) (hH : H ≤ w.heap.size) (hl : rs.length ≤ 100000000) :
    Calls Tryz.prog 17 #[.slice A rs.length cap] w fun e w' => e = .returned (.bool (setB rs)) ∧ Below w.heap.size w w' := by
  go_enter Tryz.func17, Tryz.ntmps17
  go_wp2
  go_loopw [7] (fun i wr => ∃ k : Nat, k ≤ rs.length ∧ i = .int .i64 k ∧ Hid (∀ j, j < k → okAt rs j = true) ∧ Below w.heap.size w wr) (fun i _ => rs.length - (intOf i).toNat)
  case atStart => exact ⟨0, Nat.zero_le _, rfl, Lib.hid (fun j hj => absurd hj (by omega)), Below.refl _ _⟩
  case round =>
    obtain ⟨k, hk, rfl, HJ, hbel⟩ := hrel
    by_cases hlt : k < rs.length
    · obtain ⟨ad, rfl, hadb, hc0, hc1⟩ := h.at_ hlt
      have hc : wr.cell? (ad.add (k * 2)) = some (.int .i64 (rs.getD k (0, 0)).1) := (hbel.cell (by rw [block_of_add]; omega)).trans hc0
      have hd : wr.cell? ⟨(ad.add (k * 2)).block, (ad.add (k * 2)).off + 1, none⟩ = some (.int .i64 (rs.getD k (0, 0)).2) := (hbel.cell (by simp only [block_of_add]; omega)).trans hc1
      have HB := Lib.hid hbel
      have hi : (k : Int) < (rs.length : Int) := by omega
      have HO := Lib.hid (okAt_eq rs k)
      clear hbel hc0 hc1
      generalize rs.getD k (0, 0) = r at *
      obtain ⟨x, y⟩ := r
      cases gf : inR x 0 65535
      · have HG := Lib.hid (setB_bad hlt (by rw [HO.out]; simp [gf]))
        clear h
        go_wp2
        go_quiet ((go_at_call 34; exact quiet_left (c_isWord _ _)))
        go_wp2
        go_ret
        exact ⟨ret_b HG.out.symm, below_drewN (HB.out.alloc HB.out.size _) _⟩
      cases gt : inR y 0 65535
      · have HG := Lib.hid (setB_bad hlt (by rw [HO.out]; simp [gf, gt]))
        clear h
        go_wp2
        go_quiet ((go_at_call 34; exact quiet_left (c_isWord _ _)))
        go_wp2
        go_ret
        exact ⟨ret_b HG.out.symm, below_drewN (HB.out.alloc HB.out.size _) _⟩
      by_cases hxy : x ≤ y
      rotate_left
      · have hxy' : y < x := by omega
        clear hxy
        have HG := Lib.hid (setB_bad hlt (by rw [HO.out]; simp [gf, gt]; omega))
        clear h
        go_wp2
        go_quiet ((go_at_call 34; exact quiet_left (c_isWord _ _)))
        go_wp2
        go_ret
        exact ⟨ret_b HG.out.symm, below_drewN (HB.out.alloc HB.out.size _) _⟩
      have hyx : decide (y < x) = false := by simp; omega
      have b0 := inR_t gf
      have b1 := inR_t gt
      by_cases hk0 : k = 0
      · have HG := Lib.hid (show okAt rs k = true from by rw [HO.out]; simp [gf, gt, hk0]; omega)
        have hk1 : decide (0 < k) = false := by simp; omega
        clear h hk0
        go_wp2
        go_quiet ((go_at_call 34; exact quiet_left (c_isWord _ _)))
        go_wp2
        go_roundw
        case rel => exact ⟨k + 1, by omega, by go_num, Lib.hid (all_snoc HJ.out HG.out), below_drewN (HB.out.alloc HB.out.size _) _⟩
        case measure => simp [intOf]; omega
      · obtain ⟨j, rfl⟩ : ∃ j, k = j + 1 := ⟨k - 1, by omega⟩
        obtain ⟨ad2, e2, hadb2, _, hc2⟩ := h.at_ (k := j) (by omega)
        simp only [Option.some.injEq] at e2
        subst e2
        have hd2 : wr.cell? ⟨(ad.add (j * 2)).block, (ad.add (j * 2)).off + 1, none⟩ = some (.int .i64 (prevT rs (j + 1))) := (HB.out.cell (by simp only [block_of_add]; omega)).trans hc2
        have b2 := okAt_prev (HJ.out j (by omega))
        clear hc2 h
        generalize hp : prevT rs (j + 1) = z at *
        clear hp
        have hd3 : ∀ o, (wr.alloc o).cell? ⟨(ad.add (j * 2)).block, (ad.add (j * 2)).off + 1, none⟩ = some (.int .i64 z) := fun o => (World.cell?_alloc_lt wr o _ (World.block_lt_of_cell? _ _ hd2)).trans hd2
        have hjl : j < rs.length := by omega
        have hji : (j : Int) < (rs.length : Int) := by omega
        have hw1 := Lib.hid (IntWalk.i64_in (j : Int) (by omega))
        have hw2 := Lib.hid (IntWalk.i64_in (z + 1) (by omega))
        by_cases hz : z + 1 < x
        · have HG := Lib.hid (show okAt rs (j + 1) = true from by rw [HO.out]; simp [gf, gt, hz]; omega)
          have hz' : decide (x ≤ z + 1) = false := by simp; omega
          have hw3 := hw1.out
          have hw4 := hw2.out
          go_wp2
          go_quiet ((go_at_call 34; exact quiet_left (c_isWord _ _)))
          clear hw3 hw4
          go_wp2
          go_roundw
          case rel => exact ⟨j + 1 + 1, by omega, by go_num, Lib.hid (all_snoc HJ.out HG.out), below_drewN (HB.out.alloc HB.out.size _) _⟩
          case measure => simp [intOf]; omega
        · have hz' : x ≤ z + 1 := by omega
          have HG := Lib.hid (setB_bad hlt (by rw [HO.out]; simp; intros; omega))
          clear hz
          have hw3 := hw1.out
          have hw4 := hw2.out
          go_wp2
          go_quiet ((go_at_call 34; exact quiet_left (c_isWord _ _)))
          clear hw3 hw4
          go_wp2
          go_ret
          exact ⟨ret_b HG.out.symm, below_drewN (HB.out.alloc HB.out.size _) _⟩
    · obtain rfl : k = rs.length := by omega
      clear h
      have HG := Lib.hid (setB_all HJ.out)
      go_wp2
      go_ret
      exact ⟨ret_b HG.out.symm, hbel⟩
theorem c_implIsRangeSet {H : Nat} (A : Option Addr) (cap : Nat) (rs : List (Int × Int)) (w : World) (h : Rngs w H A rs) (hH : H ≤ w.heap.size) (hl : rs.length ≤ 100000000) :
    Calls Tryz.prog 17 #[.slice A rs.length cap] w fun e w' => e = .returned (.bool (setB rs)) ∧ Below w.heap.size w w' := c_isRangeSet A cap rs w h hH hl
end Go.Proofs.YtlammcoiaeodfaaGreatDoor
