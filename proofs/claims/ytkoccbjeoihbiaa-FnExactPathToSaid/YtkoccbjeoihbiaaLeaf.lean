/- The leaves of a tree, as the program and as the reference list them; slices.Index and Contains over whole numbers. -/
import Derived.Test.YtkoccbjeoihbiaaKids
namespace Go.Proofs.Ytkoccbjeoihbiaa
open Go.RowKit
set_option linter.unusedVariables false
set_option maxRecDepth 100000

set_option maxHeartbeats 400000 in
theorem c_indexI {H : Nat} (A : Option Addr) (cap : Nat) (zs : List Int) (x : Int) (w : World) (h : Ints w H A zs) (hl : zs.length ≤ 100000000) :
    Calls Try.prog 128 #[.slice A zs.length cap, .int .i64 x] w fun e w' => ∃ r, e = .returned (.int .i64 r) ∧ FoundI (fun y => x == y) zs r ∧ w = w' := by
  go_enter Try.func128, Try.ntmps128
  go_wp2
  go_loop [8] (fun i => ∃ k : Nat, k ≤ zs.length ∧ i = .int .i64 k ∧ Hid (∀ j, j < k → (x == zs.getD j 0) = false)) (fun i => zs.length - (intOf i).toNat)
  case atStart => exact ⟨0, Nat.zero_le _, rfl, Lib.hid (fun j hj => absurd hj (by omega))⟩
  case round =>
    obtain ⟨k, hk, rfl, HJ⟩ := hrel
    by_cases hlt : k < zs.length
    · obtain ⟨ad, rfl, hadb, hc⟩ := h.at_ hlt
      clear h
      obtain ⟨y, hx⟩ : ∃ y, y = zs.getD k 0 := ⟨_, rfl⟩
      rw [← hx] at hc
      have HX := Lib.hid hx
      clear hx
      cases hpx : (x == y)
      · go_wp2
        go_round
        case rel => exact ⟨k + 1, by omega, by go_num, Lib.hid (fun j hj => by
          by_cases hjk : j = k
          · subst hjk; rw [← HX.out]; exact hpx
          · exact HJ.out j (by omega))⟩
        case measure => simp [intOf]; omega
      · have HF := Lib.hid (show FoundI (fun y => x == y) zs k from .inr ⟨k, rfl, hlt, by rw [← HX.out]; exact hpx, HJ.out⟩)
        go_wp2
        go_ret
        exact ⟨_, rfl, HF.out, rfl⟩
    · obtain rfl : k = zs.length := by omega
      go_wp2
      go_ret
      exact ⟨_, rfl, .inl ⟨rfl, HJ.out⟩, rfl⟩
theorem c_containsI {H : Nat} (A : Option Addr) (cap : Nat) (zs : List Int) (x : Int) (w : World) (h : Ints w H A zs) (hl : zs.length ≤ 100000000) :
    Calls Try.prog 161 #[.slice A zs.length cap, .int .i64 x] w fun e w' => e = .returned (.bool (zs.any fun y => x == y)) ∧ w = w' := by
  have HC := Lib.hid (c_indexI A cap zs x w h hl)
  clear h
  go_enter Try.func161, Try.ntmps161
  go_wp2_with fail
  refine HC.out.mono ?_
  rintro e w' ⟨r, rfl, hr, rfl⟩
  have HR := Lib.hid hr.any
  clear hr
  go_wp2
  go_ret
  exact ⟨ret_b HR.out, rfl⟩
def leafV (zs : List Int) (x : Int) : Bool := !(zs.any fun y => x == y)
def leavesK (zs : List Int) : Nat → List Int
  | 0 => []
  | k + 1 => if leafV zs k = true then leavesK zs k ++ [(k : Int)] else leavesK zs k
def leavesL (zs : List Int) : List Int := leavesK zs zs.length
theorem leavesK_len (zs : List Int) (k : Nat) : (leavesK zs k).length ≤ k := by
  induction k with
  | zero => simp [leavesK]
  | succ k ih =>
    simp only [leavesK]
    split
    · simp; omega
    · omega
theorem c_isLeaf {H : Nat} (A : Option Addr) (cap : Nat) (zs : List Int) (x : Int) (w : World) (h : Ints w H A zs) (hH : H ≤ w.heap.size) (hl : zs.length ≤ 100000000) :
    Calls Try.prog 155 #[.agg #[.slice A zs.length cap], .int .i64 x] w fun e w' => e = .returned (.bool (leafV zs x)) ∧ Below w.heap.size w w' := by
  have b1 := (Below.refl w.heap.size w).alloc (Nat.le_refl _) (.cells #[.slice A zs.length cap] 51)
  have C := Lib.hid (c_containsI A cap zs x _ ((h.more hH).keep b1) hl)
  have HB := Lib.hid b1
  clear h b1
  go_enter Try.func155, Try.ntmps155
  go_wp2_with fail
  refine C.out.mono ?_
  rintro e _ ⟨rfl, rfl⟩
  go_wp2
  go_ret
  exact ⟨rfl, HB.out⟩
set_option maxHeartbeats 1000000 in
theorem c_leaves {H : Nat} (A : Option Addr) (cap : Nat) (zs : List Int) (w : World) (h : Ints w H A zs) (hH : H ≤ w.heap.size) (hl : zs.length ≤ 1000) :
    Calls Try.prog 132 #[.agg #[.slice A zs.length cap]] w fun e w' => ∃ A' cap', e = .returned (.slice A' (leavesL zs).length cap') ∧ OwnI w' w.heap.size A' cap' (leavesL zs) ∧ Below w.heap.size w w' := by
  obtain ⟨X, hX⟩ : ∃ X, X = w.alloc (.cells #[.slice A zs.length cap] 51) := ⟨_, rfl⟩
  have b1 : Below w.heap.size w X := by rw [hX]; exact (Below.refl _ _).alloc (Nat.le_refl _) _
  have hlt : w.heap.size < X.heap.size := by rw [hX]; simp
  have hc : X.cell? ⟨w.heap.size, 0, none⟩ = some (.slice A zs.length cap) := by rw [hX]; exact new1_cell _ _ _
  have h1 := Lib.hid (((h.more hH).keep b1).more b1.size)
  have HX := Lib.hid hX
  have HB1 := Lib.hid b1
  have HCC := Lib.hid hc
  clear h hX b1 hc
  go_enter Try.func132, Try.ntmps132
  go_wp2
  rw [← HX.out]
  clear HX
  go_loopw [3, 8] (fun v i wr => ∃ k : Nat, k ≤ zs.length ∧ i = .int .i64 k ∧ (∃ A' cap', v = .slice A' (leavesK zs k).length cap' ∧ Hid (OwnI wr X.heap.size A' cap' (leavesK zs k))) ∧ Below X.heap.size X wr) (fun _ i _ => zs.length - (intOf i).toNat)
  case atStart => exact ⟨0, Nat.zero_le _, rfl, ⟨none, 0, rfl, OwnI.nil _ _⟩, Below.refl _ _⟩
  case round =>
    obtain ⟨k, hk, rfl, ⟨A', cap', rfl, HO⟩, hbel⟩ := hrel
    have HLen := Lib.hid (leavesK_len zs k)
    have hcb := (hbel.cell (p := ⟨w.heap.size, 0, none⟩) hlt).trans HCC.out
    have HB := Lib.hid hbel
    clear hbel
    by_cases hlt2 : k < zs.length
    · have HS := Lib.hid (show leavesK zs (k + 1) = if leafV zs k = true then leavesK zs k ++ [(k : Int)] else leavesK zs k from rfl)
      cases hy : leafV zs k
      · rw [hy, if_neg (by simp)] at HS
        go_wp2_with fail
        refine (c_isLeaf A cap zs k _ (h1.out.keep HB.out) HB.out.size (by omega)).mono ?_
        rintro e w1 ⟨rfl, b2⟩
        have HB2 := Lib.hid (HB.out.trans (b2.mono HB.out.size))
        have HO2 := Lib.hid (HO.out.keep b2)
        clear b2 HB HO hcb
        go_wp2
        go_roundw
        case rel => exact ⟨k + 1, by omega, by go_num, ⟨A', cap', by rw [HS.out], by rw [HS.out]; exact HO2⟩, HB2.out⟩
        case measure => simp [intOf]; omega
      · rw [hy, if_pos rfl] at HS
        go_wp2_with fail
        refine (c_isLeaf A cap zs k _ (h1.out.keep HB.out) HB.out.size (by omega)).mono ?_
        rintro e w1 ⟨rfl, b2⟩
        have HB2 := Lib.hid (HB.out.trans (b2.mono HB.out.size))
        have HO2 := Lib.hid (HO.out.keep b2)
        clear b2 HB HO hcb
        go_wp2_with (at_builtin; refine wpList_appI _ rfl _ _ rfl X.heap.size A' cap' (leavesK zs k) rfl (HO2.out.push _) _ _ rfl (new1_cell _ _ _) (by have := HLen.out; omega) (by have := HB2.out.size; simp; omega) ?_; intro A2 cap2 w2 hown' hb')
        rw [← HS.out] at hown'
        have HO3 := Lib.hid hown'
        have HB3 := Lib.hid ((HB2.out.alloc HB2.out.size _).trans hb')
        clear hown' hb' HO2 HB2
        go_wp2
        go_roundw
        case rel => exact ⟨k + 1, by omega, by go_num, ⟨A2, cap2, by rw [HS.out, List.length_append]; rfl, HO3⟩, HB3.out⟩
        case measure => simp [intOf]; omega
    · obtain rfl : k = zs.length := by omega
      go_wp2
      go_ret
      exact ⟨A', cap', rfl, HO.out.base HB1.out.size, HB1.out.trans (HB.out.mono HB1.out.size)⟩
theorem kids_nil {zs : List Int} {x : Int} : ∀ k, k ≤ zs.length → ((kidsK zs x k).length = 0 ↔ ∀ j, j < k → zs.getD j 0 ≠ x) := by
  intro k
  induction k with
  | zero => intro _; simp [kidsK]
  | succ k ih =>
    intro hk
    have := ih (by omega)
    simp only [kidsK]
    split
    · rename_i h
      constructor
      · intro e; simp at e
      · intro e; exact absurd h (e k (by omega))
    · rename_i h
      rw [this]
      constructor
      · intro e j hj
        by_cases hjk : j = k
        · subst hjk; exact h
        · exact e j (by omega)
      · intro e j hj; exact e j (by omega)
theorem leaf_kids (zs : List Int) (x : Int) : leafV zs x = (((kidsL zs x).length : Int) == 0) := by
  have h := kids_nil (zs := zs) (x := x) zs.length (Nat.le_refl _)
  rw [Bool.eq_iff_iff]
  simp only [leafV, Bool.not_eq_true', List.any_eq_false, beq_iff_eq, kidsL]
  constructor
  · intro e
    have : (kidsK zs x zs.length).length = 0 := h.2 (fun j hj e' => e zs[j] (List.getElem_mem hj) (by rw [← e']; simp [hj]))
    omega
  · intro e y hy he
    obtain ⟨j, hj, rfl⟩ := List.getElem_of_mem hy
    have := h.1 (by omega) j hj
    exact this (by simp [hj, he])
theorem leaves_one {zs : List Int} (h : treeB zs = true) : leavesK zs 1 = [] := by
  have hl := (treeB_t h).1
  have h1 := (treeB_t h).2 1 (by omega)
  simp only [okT] at h1
  rw [if_neg (by omega)] at h1
  have h2 := inR_t h1
  have h3 : zs.getD 1 0 = 0 := by omega
  have h4 : leafV zs ((0 : Nat) : Int) = false := by
    simp only [leafV, Bool.not_eq_false', List.any_eq_true, beq_iff_eq]
    have hj : 1 < zs.length := by omega
    exact ⟨zs[1], List.getElem_mem hj, by simp [hj] at h3; rw [h3]; rfl⟩
  show (if leafV zs ((0 : Nat) : Int) = true then leavesK zs 0 ++ [((0 : Nat) : Int)] else leavesK zs 0) = []
  rw [h4]
  rfl
set_option maxHeartbeats 1000000 in
theorem c_l6Leaves {H : Nat} (A : Option Addr) (cap : Nat) (zs : List Int) (w : World) (h : Ints w H A zs) (hH : H ≤ w.heap.size) (ht : treeB zs = true) :
    Calls Try.prog 130 #[.agg #[.slice A zs.length cap]] w fun e w' => ∃ A' cap', e = .returned (.slice A' (leavesL zs).length cap') ∧ OwnI w' w.heap.size A' cap' (leavesL zs) ∧ Below w.heap.size w w' := by
  have hl := (treeB_t ht).1
  have HK1 := Lib.hid (leaves_one ht)
  obtain ⟨X, hX⟩ : ∃ X, X = w.alloc (.cells #[.slice A zs.length cap] 51) := ⟨_, rfl⟩
  have b1 : Below w.heap.size w X := by rw [hX]; exact (Below.refl _ _).alloc (Nat.le_refl _) _
  have hlt : w.heap.size < X.heap.size := by rw [hX]; simp
  have hc : X.cell? ⟨w.heap.size, 0, none⟩ = some (.slice A zs.length cap) := by rw [hX]; exact new1_cell _ _ _
  have h1 := Lib.hid (((h.more hH).keep b1).more b1.size)
  have HX := Lib.hid hX
  have HB1 := Lib.hid b1
  have HCC := Lib.hid hc
  have HSZ := Lib.hid (show X.heap.size = w.heap.size + 1 from by rw [hX]; simp)
  have HT := Lib.hid ht
  clear h hX b1 hc ht
  go_enter Try.func130, Try.ntmps130
  go_wp2
  rw [← HX.out, ← HSZ.out]
  clear HX
  go_loopw [3, 4] (fun v i wr => ∃ k : Nat, k ≤ zs.length ∧ 1 ≤ k ∧ i = .int .i64 k ∧ (∃ A' cap', v = .slice A' (leavesK zs k).length cap' ∧ Hid (OwnI wr X.heap.size A' cap' (leavesK zs k))) ∧ Below X.heap.size X wr) (fun _ i _ => zs.length - (intOf i).toNat)
  case atStart => exact ⟨1, by omega, by omega, rfl, ⟨_, _, by rw [HK1.out]; rfl, by rw [HK1.out]; exact OwnI.empty X _ (Nat.le_refl _)⟩, (Below.refl _ _).alloc (Nat.le_refl _) _⟩
  case round =>
    obtain ⟨k, hk, hk1, rfl, ⟨A', cap', rfl, HO⟩, hbel⟩ := hrel
    have HLen := Lib.hid (leavesK_len zs k)
    have hcb := (hbel.cell (p := ⟨w.heap.size, 0, none⟩) hlt).trans HCC.out
    have HB := Lib.hid hbel
    clear hbel
    by_cases hlt2 : k < zs.length
    · have HS := Lib.hid (show leavesK zs (k + 1) = if leafV zs k = true then leavesK zs k ++ [(k : Int)] else leavesK zs k from rfl)
      have HLK := Lib.hid (leaf_kids zs k)
      cases hy : leafV zs k
      · rw [hy, if_neg (by simp)] at HS
        have e1 : (((kidsL zs k).length : Int) == 0) = false := by rw [← HLK.out]; exact hy
        go_wp2_with fail
        refine (c_l6Children A cap zs k _ (h1.out.keep HB.out) HB.out.size HT.out (by omega)).mono ?_
        rintro e w1 ⟨A3, c3, rfl, _, b2⟩
        have HB2 := Lib.hid (HB.out.trans (b2.mono HB.out.size))
        have HO2 := Lib.hid (HO.out.keep b2)
        clear b2 HB HO hcb
        go_wp2
        go_roundw
        case rel => exact ⟨k + 1, by omega, by omega, by go_num, ⟨A', cap', by rw [HS.out], by rw [HS.out]; exact HO2⟩, HB2.out⟩
        case measure => simp [intOf]; omega
      · rw [hy, if_pos rfl] at HS
        have e1 : (((kidsL zs k).length : Int) == 0) = true := by rw [← HLK.out]; exact hy
        go_wp2_with fail
        refine (c_l6Children A cap zs k _ (h1.out.keep HB.out) HB.out.size HT.out (by omega)).mono ?_
        rintro e w1 ⟨A3, c3, rfl, _, b2⟩
        have HB2 := Lib.hid (HB.out.trans (b2.mono HB.out.size))
        have HO2 := Lib.hid (HO.out.keep b2)
        clear b2 HB HO hcb
        go_wp2_with (at_builtin; refine wpList_appI _ rfl _ _ rfl X.heap.size A' cap' (leavesK zs k) rfl (HO2.out.push _) _ _ rfl (new1_cell _ _ _) (by have := HLen.out; omega) (by have := HB2.out.size; simp; omega) ?_; intro A2 cap2 w2 hown' hb')
        rw [← HS.out] at hown'
        have HO3 := Lib.hid hown'
        have HB3 := Lib.hid ((HB2.out.alloc HB2.out.size _).trans hb')
        clear hown' hb' HO2 HB2
        go_wp2
        go_roundw
        case rel => exact ⟨k + 1, by omega, by omega, by go_num, ⟨A2, cap2, by rw [HS.out, List.length_append]; rfl, HO3⟩, HB3.out⟩
        case measure => simp [intOf]; omega
    · obtain rfl : k = zs.length := by omega
      go_wp2
      go_ret
      exact ⟨A', cap', rfl, HO.out.base HB1.out.size, HB1.out.trans (HB.out.mono HB1.out.size)⟩
def leavesR (zs : List Int) : List Int := if treeB zs then leavesL zs else []
theorem leavesR_len (zs : List Int) : (leavesR zs).length ≤ 100000 := by
  unfold leavesR
  split
  · rename_i h
    have h1 := (treeB_t h).1
    have := leavesK_len zs zs.length
    unfold leavesL
    omega
  · simp
set_option maxHeartbeats 1000000 in
theorem c_specLeavesOf {H : Nat} (A : Option Addr) (cap : Nat) (zs : List Int) (w : World) (h : Ints w H A zs) (hH : H ≤ w.heap.size) (hl : zs.length ≤ 100000000) :
    Calls Try.prog 54 #[.agg #[.slice A zs.length cap]] w fun e w' => ∃ A' cap', e = .returned (.tuple #[.slice A' (leavesR zs).length cap', .bool (treeB zs)]) ∧ OwnI w' w.heap.size A' cap' (leavesR zs) ∧ Below w.heap.size w w' := by
  obtain ⟨X, hX⟩ : ∃ X, X = w.alloc (.cells #[.slice A zs.length cap] 51) := ⟨_, rfl⟩
  have b1 : Below w.heap.size w X := by rw [hX]; exact (Below.refl _ _).alloc (Nat.le_refl _) _
  have hlt : w.heap.size < X.heap.size := by rw [hX]; simp
  have hc : X.cell? ⟨w.heap.size, 0, none⟩ = some (.slice A zs.length cap) := by rw [hX]; exact new1_cell _ _ _
  have i1 := (h.more hH).keep b1
  have C1 := Lib.hid (c_l6Good A cap zs X i1 b1.size hl)
  have HX := Lib.hid hX
  clear h hX
  cases g0 : treeB zs
  · rw [show leavesR zs = [] from by simp [leavesR, g0]]
    go_enter Try.func54, Try.ntmps54
    go_wp2_with fail
    rw [← HX.out]
    refine C1.out.mono ?_
    rintro e w1 ⟨rfl, b2⟩
    have HB := Lib.hid (b1.trans (b2.mono b1.size))
    clear b1 b2 hc i1
    go_wp2
    go_ret2
    exact ⟨_, _, rfl, OwnI.empty _ _ HB.out.size, HB.out.alloc HB.out.size _⟩
  · rw [show leavesR zs = leavesL zs from by simp [leavesR, g0]]
    have HT := Lib.hid g0
    have HN := Lib.hid (treeB_t g0).1
    go_enter Try.func54, Try.ntmps54
    go_wp2_with fail
    rw [← HX.out]
    refine C1.out.mono ?_
    rintro e w1 ⟨rfl, b2⟩
    have hc1 := (b2.cell (p := ⟨w.heap.size, 0, none⟩) hlt).trans hc
    have i2 := i1.keep (b2.mono b1.size)
    have HB := Lib.hid (b1.trans (b2.mono b1.size))
    clear b1 b2 hc i1
    go_wp2_with fail
    refine (c_l6Leaves A cap zs _ i2 HB.out.size HT.out).mono ?_
    rintro e w2 ⟨A2, c2, rfl, o2, b3⟩
    have HO := Lib.hid (o2.base HB.out.size)
    have HB2 := Lib.hid (HB.out.trans (b3.mono HB.out.size))
    clear o2 b3 i2 hc1
    go_wp2
    go_ret2
    exact ⟨A2, c2, rfl, HO.out, HB2.out⟩
set_option maxHeartbeats 1000000 in
theorem c_implLeavesOf {H : Nat} (A : Option Addr) (cap : Nat) (zs : List Int) (w : World) (h : Ints w H A zs) (hH : H ≤ w.heap.size) (hl : zs.length ≤ 100000000) :
    Calls Try.prog 55 #[.agg #[.slice A zs.length cap]] w fun e w' => ∃ A' cap', e = .returned (.tuple #[.slice A' (leavesR zs).length cap', .bool (treeB zs)]) ∧ OwnI w' w.heap.size A' cap' (leavesR zs) ∧ Below w.heap.size w w' := by
  obtain ⟨X, hX⟩ : ∃ X, X = w.alloc (.cells #[.slice A zs.length cap] 51) := ⟨_, rfl⟩
  have b1 : Below w.heap.size w X := by rw [hX]; exact (Below.refl _ _).alloc (Nat.le_refl _) _
  have hlt : w.heap.size < X.heap.size := by rw [hX]; simp
  have hc : X.cell? ⟨w.heap.size, 0, none⟩ = some (.slice A zs.length cap) := by rw [hX]; exact new1_cell _ _ _
  have i1 := (h.more hH).keep b1
  have C1 := Lib.hid (c_implIsValidTree A cap zs X i1 b1.size hl)
  have HX := Lib.hid hX
  clear h hX
  cases g0 : treeB zs
  · rw [show leavesR zs = [] from by simp [leavesR, g0]]
    go_enter Try.func55, Try.ntmps55
    go_wp2_with fail
    rw [← HX.out]
    refine C1.out.mono ?_
    rintro e w1 ⟨rfl, b2⟩
    have HB := Lib.hid (b1.trans (b2.mono b1.size))
    clear b1 b2 hc i1
    go_wp2
    go_ret2
    exact ⟨_, _, rfl, OwnI.nil _ _, HB.out⟩
  · rw [show leavesR zs = leavesL zs from by simp [leavesR, g0]]
    have HT := Lib.hid g0
    have HN := Lib.hid (treeB_t g0).1
    go_enter Try.func55, Try.ntmps55
    go_wp2_with fail
    rw [← HX.out]
    refine C1.out.mono ?_
    rintro e w1 ⟨rfl, b2⟩
    have hc1 := (b2.cell (p := ⟨w.heap.size, 0, none⟩) hlt).trans hc
    have i2 := i1.keep (b2.mono b1.size)
    have HB := Lib.hid (b1.trans (b2.mono b1.size))
    clear b1 b2 hc i1
    go_wp2_with fail
    refine (c_leaves A cap zs _ i2 HB.out.size (by have := HN.out; omega)).mono ?_
    rintro e w2 ⟨A2, c2, rfl, o2, b3⟩
    have HO := Lib.hid (o2.base HB.out.size)
    have HB2 := Lib.hid (HB.out.trans (b3.mono HB.out.size))
    clear o2 b3 i2 hc1
    go_wp2
    go_ret2
    exact ⟨A2, c2, rfl, HO.out, HB2.out⟩
end Go.Proofs.Ytkoccbjeoihbiaa
