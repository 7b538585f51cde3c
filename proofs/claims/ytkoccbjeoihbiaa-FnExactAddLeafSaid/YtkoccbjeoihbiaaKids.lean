/- The children of a node and the leaves of a tree, as the program and as the reference list them. -/
import Derived.Test.YtkoccbjeoihbiaaNodes
namespace Go.Proofs.Ytkoccbjeoihbiaa
open Go.RowKit
set_option linter.unusedVariables false
set_option maxRecDepth 100000

def kidsK (zs : List Int) (x : Int) : Nat → List Int
  | 0 => []
  | k + 1 => if zs.getD k 0 = x then kidsK zs x k ++ [(k : Int)] else kidsK zs x k
def kidsL (zs : List Int) (x : Int) : List Int := kidsK zs x zs.length
theorem kidsK_len (zs : List Int) (x : Int) (k : Nat) : (kidsK zs x k).length ≤ k := by
  induction k with
  | zero => simp [kidsK]
  | succ k ih =>
    simp only [kidsK]
    split
    · simp; omega
    · omega
set_option maxHeartbeats 1000000 in
theorem c_children {H : Nat} (A : Option Addr) (cap : Nat) (zs : List Int) (x : Int) (w : World) (h : Ints w H A zs) (hH : H ≤ w.heap.size) (hl : zs.length ≤ 1000) :
    Calls Try.prog 125 #[.agg #[.slice A zs.length cap], .int .i64 x] w fun e w' => ∃ A' cap', e = .returned (.slice A' (kidsL zs x).length cap') ∧ OwnI w' w.heap.size A' cap' (kidsL zs x) ∧ Below w.heap.size w w' := by
  obtain ⟨X, hX⟩ : ∃ X, X = w.alloc (.cells #[.slice A zs.length cap] 51) := ⟨_, rfl⟩
  have b1 : Below w.heap.size w X := by rw [hX]; exact (Below.refl _ _).alloc (Nat.le_refl _) _
  have hlt : w.heap.size < X.heap.size := by rw [hX]; simp
  have hc : X.cell? ⟨w.heap.size, 0, none⟩ = some (.slice A zs.length cap) := by rw [hX]; exact new1_cell _ _ _
  have h1 := Lib.hid (((h.more hH).keep b1).more b1.size)
  have HX := Lib.hid hX
  have HB1 := Lib.hid b1
  have HCC := Lib.hid hc
  clear h hX b1 hc
  go_enter Try.func125, Try.ntmps125
  go_wp2
  rw [← HX.out]
  clear HX
  go_loopw [5, 11] (fun v i wr => ∃ k : Nat, k ≤ zs.length ∧ i = .int .i64 k ∧ (∃ A' cap', v = .slice A' (kidsK zs x k).length cap' ∧ Hid (OwnI wr X.heap.size A' cap' (kidsK zs x k))) ∧ Below X.heap.size X wr) (fun _ i _ => zs.length - (intOf i).toNat)
  case atStart => exact ⟨0, Nat.zero_le _, rfl, ⟨none, 0, rfl, OwnI.nil _ _⟩, Below.refl _ _⟩
  case round =>
    obtain ⟨k, hk, rfl, ⟨A', cap', rfl, HO⟩, hbel⟩ := hrel
    have HLen := Lib.hid (kidsK_len zs x k)
    by_cases hlt2 : k < zs.length
    · obtain ⟨ad, rfl, hadb, hcz⟩ := (h1.out.keep hbel).at_ hlt2
      have hcb := (hbel.cell (p := ⟨w.heap.size, 0, none⟩) hlt).trans HCC.out
      have HB := Lib.hid hbel
      clear hbel
      have HS := Lib.hid (show kidsK zs x (k + 1) = if zs.getD k 0 = x then kidsK zs x k ++ [(k : Int)] else kidsK zs x k from rfl)
      generalize zs.getD k 0 = y at *
      by_cases hy : y = x
      · have e1 : (y == x) = true := beq_iff_eq.2 hy
        rw [if_pos hy] at HS
        clear hy
        go_wp2_with (at_builtin; refine wpList_appI _ rfl _ _ rfl X.heap.size A' cap' (kidsK zs x k) rfl (HO.out.push _) _ _ rfl (new1_cell _ _ _) (by have := HLen.out; omega) (by have := HB.out.size; simp; omega) ?_; intro A2 cap2 w2 hown' hb')
        rw [← HS.out] at hown'
        have HO2 := Lib.hid hown'
        have HB2 := Lib.hid ((HB.out.alloc HB.out.size _).trans hb')
        clear hown' hb' HO HB hcz hcb
        go_wp2
        go_roundw
        case rel => exact ⟨k + 1, by omega, by go_num, ⟨A2, cap2, by rw [HS.out, List.length_append]; rfl, HO2⟩, HB2.out⟩
        case measure => simp [intOf]; omega
      · have e1 : (y == x) = false := beq_eq_false_iff_ne.2 hy
        rw [if_neg hy] at HS
        clear hy
        go_wp2
        go_roundw
        case rel => exact ⟨k + 1, by omega, by go_num, ⟨A', cap', by rw [HS.out], by rw [HS.out]; exact HO⟩, HB.out⟩
        case measure => simp [intOf]; omega
    · obtain rfl : k = zs.length := by omega
      go_wp2
      go_ret
      exact ⟨A', cap', rfl, HO.out.base HB1.out.size, HB1.out.trans (hbel.mono HB1.out.size)⟩
theorem kids_one {zs : List Int} {x : Int} (h : treeB zs = true) (hx : 0 ≤ x) : kidsK zs x 1 = [] := by
  have h0 := (treeB_t h).2 0 (by have := (treeB_t h).1; omega)
  simp only [okT] at h0
  have h1 : zs.getD 0 0 = -1 := by simpa using h0
  show (if zs.getD 0 0 = x then kidsK zs x 0 ++ [((0 : Nat) : Int)] else kidsK zs x 0) = []
  rw [if_neg (by omega)]
  rfl
set_option maxHeartbeats 1000000 in
theorem c_l6Children {H : Nat} (A : Option Addr) (cap : Nat) (zs : List Int) (x : Int) (w : World) (h : Ints w H A zs) (hH : H ≤ w.heap.size) (ht : treeB zs = true) (hx : 0 ≤ x) :
    Calls Try.prog 124 #[.agg #[.slice A zs.length cap], .int .i64 x] w fun e w' => ∃ A' cap', e = .returned (.slice A' (kidsL zs x).length cap') ∧ OwnI w' w.heap.size A' cap' (kidsL zs x) ∧ Below w.heap.size w w' := by
  have hl := (treeB_t ht).1
  have HK1 := Lib.hid (kids_one ht hx)
  obtain ⟨X, hX⟩ : ∃ X, X = w.alloc (.cells #[.slice A zs.length cap] 51) := ⟨_, rfl⟩
  have b1 : Below w.heap.size w X := by rw [hX]; exact (Below.refl _ _).alloc (Nat.le_refl _) _
  have hlt : w.heap.size < X.heap.size := by rw [hX]; simp
  have hc : X.cell? ⟨w.heap.size, 0, none⟩ = some (.slice A zs.length cap) := by rw [hX]; exact new1_cell _ _ _
  have h1 := Lib.hid (((h.more hH).keep b1).more b1.size)
  have HX := Lib.hid hX
  have HB1 := Lib.hid b1
  have HCC := Lib.hid hc
  have HSZ := Lib.hid (show X.heap.size = w.heap.size + 1 from by rw [hX]; simp)
  clear h hX b1 hc ht
  go_enter Try.func124, Try.ntmps124
  go_wp2
  rw [← HX.out, ← HSZ.out]
  clear HX
  go_loopw [5, 6] (fun v i wr => ∃ k : Nat, k ≤ zs.length ∧ 1 ≤ k ∧ i = .int .i64 k ∧ (∃ A' cap', v = .slice A' (kidsK zs x k).length cap' ∧ Hid (OwnI wr X.heap.size A' cap' (kidsK zs x k))) ∧ Below X.heap.size X wr) (fun _ i _ => zs.length - (intOf i).toNat)
  case atStart => exact ⟨1, by omega, by omega, rfl, ⟨_, _, by rw [HK1.out]; rfl, by rw [HK1.out]; exact OwnI.empty X _ (Nat.le_refl _)⟩, (Below.refl _ _).alloc (Nat.le_refl _) _⟩
  case round =>
    obtain ⟨k, hk, hk1, rfl, ⟨A', cap', rfl, HO⟩, hbel⟩ := hrel
    have HLen := Lib.hid (kidsK_len zs x k)
    by_cases hlt2 : k < zs.length
    · obtain ⟨ad, rfl, hadb, hcz⟩ := (h1.out.keep hbel).at_ hlt2
      have hcb := (hbel.cell (p := ⟨w.heap.size, 0, none⟩) hlt).trans HCC.out
      have HB := Lib.hid hbel
      clear hbel
      have HS := Lib.hid (show kidsK zs x (k + 1) = if zs.getD k 0 = x then kidsK zs x k ++ [(k : Int)] else kidsK zs x k from rfl)
      generalize zs.getD k 0 = y at *
      by_cases hy : y = x
      · have e1 : (y == x) = true := beq_iff_eq.2 hy
        rw [if_pos hy] at HS
        clear hy
        go_wp2_with (at_builtin; refine wpList_appI _ rfl _ _ rfl X.heap.size A' cap' (kidsK zs x k) rfl (HO.out.push _) _ _ rfl (new1_cell _ _ _) (by have := HLen.out; omega) (by have := HB.out.size; simp; omega) ?_; intro A2 cap2 w2 hown' hb')
        rw [← HS.out] at hown'
        have HO2 := Lib.hid hown'
        have HB2 := Lib.hid ((HB.out.alloc HB.out.size _).trans hb')
        clear hown' hb' HO HB hcz hcb
        go_wp2
        go_roundw
        case rel => exact ⟨k + 1, by omega, by omega, by go_num, ⟨A2, cap2, by rw [HS.out, List.length_append]; rfl, HO2⟩, HB2.out⟩
        case measure => simp [intOf]; omega
      · have e1 : (y == x) = false := beq_eq_false_iff_ne.2 hy
        rw [if_neg hy] at HS
        clear hy
        go_wp2
        go_roundw
        case rel => exact ⟨k + 1, by omega, by omega, by go_num, ⟨A', cap', by rw [HS.out], by rw [HS.out]; exact HO⟩, HB.out⟩
        case measure => simp [intOf]; omega
    · obtain rfl : k = zs.length := by omega
      have hcb := (hbel.cell (p := ⟨w.heap.size, 0, none⟩) hlt).trans HCC.out
      have HB := Lib.hid hbel
      clear hbel
      go_wp2
      go_ret
      exact ⟨A', cap', rfl, HO.out.base HB1.out.size, HB1.out.trans (HB.out.mono HB1.out.size)⟩
def kidsOk (zs : List Int) (x : Int) : Bool := nodeB zs x
def kidsR (zs : List Int) (x : Int) : List Int := if kidsOk zs x then kidsL zs x else []
theorem nodeB_t {zs : List Int} {x : Int} (h : nodeB zs x = true) : treeB zs = true ∧ 0 ≤ x ∧ x < zs.length := by
  simp only [nodeB, Bool.and_eq_true] at h
  have := inR_t h.2
  exact ⟨h.1, by omega, by omega⟩
theorem kidsR_len (zs : List Int) (x : Int) : (kidsR zs x).length ≤ 100000 := by
  unfold kidsR
  split
  · rename_i h
    have h1 := (treeB_t (nodeB_t h).1).1
    have := kidsK_len zs x zs.length
    unfold kidsL
    omega
  · simp
theorem nodesB_one (zs : List Int) (x : Int) : nodesB zs [x] = nodeB zs x := by simp [nodesB, nodeB]
theorem ints_new1 (w : World) (x : Int) (t : TypeId) : Ints (w.alloc (.cells #[.int .i64 x] t)) (w.heap.size + 1) (some ⟨w.heap.size, 0, none⟩) [x] := fun _ => by
  refine ⟨_, rfl, by simp, fun j u hu => ?_⟩
  match j, hu with
  | 0, hu => simp at hu; subst hu; simp [go_sem]
  | n + 1, hu => simp at hu
set_option maxHeartbeats 1000000 in
theorem c_specChildrenOf {H : Nat} (A : Option Addr) (cap : Nat) (zs : List Int) (x : Int) (w : World) (h : Ints w H A zs) (hH : H ≤ w.heap.size) (hl : zs.length ≤ 100000000) :
    Calls Try.prog 48 #[.agg #[.slice A zs.length cap], .int .i64 x] w fun e w' => ∃ A' cap', e = .returned (.tuple #[.slice A' (kidsR zs x).length cap', .bool (kidsOk zs x)]) ∧ OwnI w' w.heap.size A' cap' (kidsR zs x) ∧ Below w.heap.size w w' := by
  obtain ⟨X, hX⟩ : ∃ X, X = w.alloc (.cells #[.slice A zs.length cap] 51) := ⟨_, rfl⟩
  have b1 : Below w.heap.size w X := by rw [hX]; exact (Below.refl _ _).alloc (Nat.le_refl _) _
  have hlt : w.heap.size < X.heap.size := by rw [hX]; simp
  have hc : X.cell? ⟨w.heap.size, 0, none⟩ = some (.slice A zs.length cap) := by rw [hX]; exact new1_cell _ _ _
  have i1 := (h.more hH).keep b1
  have C1 := Lib.hid (c_l6Node A cap zs x X i1 b1.size hl)
  have HX := Lib.hid hX
  clear h hX
  cases g0 : nodeB zs x
  · rw [show kidsOk zs x = false from g0, show kidsR zs x = [] from by simp [kidsR, kidsOk, g0]]
    go_enter Try.func48, Try.ntmps48
    go_wp2_with fail
    rw [← HX.out]
    refine C1.out.mono ?_
    rintro e w1 ⟨rfl, b2⟩
    have HB := Lib.hid (b1.trans (b2.mono b1.size))
    have HE := Lib.hid (OwnI.empty w1 w.heap.size HB.out.size)
    clear b1 b2 hc i1
    go_wp2
    go_ret2
    exact ⟨_, _, rfl, HE.out, HB.out.alloc HB.out.size _⟩
  · rw [show kidsOk zs x = true from g0, show kidsR zs x = kidsL zs x from by simp [kidsR, kidsOk, g0]]
    have HN := Lib.hid (nodeB_t g0)
    go_enter Try.func48, Try.ntmps48
    go_wp2_with fail
    rw [← HX.out]
    refine C1.out.mono ?_
    rintro e w1 ⟨rfl, b2⟩
    have hc1 := (b2.cell (p := ⟨w.heap.size, 0, none⟩) hlt).trans hc
    have i2 := i1.keep (b2.mono b1.size)
    have HB := Lib.hid (b1.trans (b2.mono b1.size))
    clear b1 b2 hc i1
    go_wp2_with fail
    refine (c_l6Children A cap zs x _ i2 HB.out.size HN.out.1 HN.out.2.1).mono ?_
    rintro e w2 ⟨A2, c2, rfl, o2, b3⟩
    have HO := Lib.hid (o2.base HB.out.size)
    have HB2 := Lib.hid (HB.out.trans (b3.mono HB.out.size))
    clear o2 b3 i2 hc1
    go_wp2
    go_ret2
    exact ⟨A2, c2, rfl, HO.out, HB2.out⟩
set_option maxHeartbeats 1000000 in
theorem c_implChildrenOf {H : Nat} (A : Option Addr) (cap : Nat) (zs : List Int) (x : Int) (w : World) (h : Ints w H A zs) (hH : H ≤ w.heap.size) (hl : zs.length ≤ 100000000) :
    Calls Try.prog 49 #[.agg #[.slice A zs.length cap], .int .i64 x] w fun e w' => ∃ A' cap', e = .returned (.tuple #[.slice A' (kidsR zs x).length cap', .bool (kidsOk zs x)]) ∧ OwnI w' w.heap.size A' cap' (kidsR zs x) ∧ Below w.heap.size w w' := by
  obtain ⟨X, hX⟩ : ∃ X, X = (w.alloc (.cells #[.slice A zs.length cap] 51)).alloc (.cells #[.int .i64 x] 3) := ⟨_, rfl⟩
  have b0 : Below w.heap.size w (w.alloc (.cells #[.slice A zs.length cap] 51)) := (Below.refl _ _).alloc (Nat.le_refl _) _
  have b1 : Below w.heap.size w X := by rw [hX]; exact b0.alloc b0.size _
  have hlt : w.heap.size < X.heap.size := by rw [hX]; simp; omega
  have hc : X.cell? ⟨w.heap.size, 0, none⟩ = some (.slice A zs.length cap) := by
    rw [hX, World.cell?_alloc_lt _ _ _ (by simp)]
    exact new1_cell _ _ _
  have i1 := (h.more hH).keep b1
  have ix : Ints X X.heap.size (some ⟨w.heap.size + 1, 0, none⟩) [x] := by
    rw [hX]
    have := ints_new1 (w.alloc (.cells #[.slice A zs.length cap] 51)) x 3
    simp only [World.size_alloc] at this ⊢
    exact this
  have C1 := Lib.hid (c_hasNodes A cap zs (some ⟨w.heap.size + 1, 0, none⟩) 1 [x] X i1 ix b1.size (Nat.le_refl _) hl (by simp))
  rw [nodesB_one] at C1
  have HX := Lib.hid hX
  clear h hX b0 ix
  cases g0 : nodeB zs x
  · rw [show kidsOk zs x = false from g0, show kidsR zs x = [] from by simp [kidsR, kidsOk, g0]]
    go_enter Try.func49, Try.ntmps49
    go_wp2_with fail
    rw [← HX.out]
    refine C1.out.mono ?_
    rintro e w1 ⟨rfl, b2⟩
    have HB := Lib.hid (b1.trans (b2.mono b1.size))
    clear b1 b2 hc i1
    go_wp2
    go_ret2
    exact ⟨_, _, rfl, OwnI.nil _ _, HB.out⟩
  · rw [show kidsOk zs x = true from g0, show kidsR zs x = kidsL zs x from by simp [kidsR, kidsOk, g0]]
    have HN := Lib.hid (treeB_t (nodeB_t g0).1).1
    go_enter Try.func49, Try.ntmps49
    go_wp2_with fail
    rw [← HX.out]
    refine C1.out.mono ?_
    rintro e w1 ⟨rfl, b2⟩
    have hc1 := (b2.cell (p := ⟨w.heap.size, 0, none⟩) hlt).trans hc
    have i2 := i1.keep (b2.mono b1.size)
    have HB := Lib.hid (b1.trans (b2.mono b1.size))
    clear b1 b2 hc i1
    go_wp2_with fail
    refine (c_children A cap zs x _ i2 HB.out.size (by have := HN.out; omega)).mono ?_
    rintro e w2 ⟨A2, c2, rfl, o2, b3⟩
    have HO := Lib.hid (o2.base HB.out.size)
    have HB2 := Lib.hid (HB.out.trans (b3.mono HB.out.size))
    clear o2 b3 i2 hc1
    go_wp2
    go_ret2
    exact ⟨A2, c2, rfl, HO.out, HB2.out⟩
end Go.Proofs.Ytkoccbjeoihbiaa
