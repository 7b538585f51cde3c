/- SortSerials: the reference's insertion. -/
import Derived.Test.YtkoccbjeoihbiaaSort
namespace Go.Proofs.Ytkoccbjeoihbiaa
open Go.RowKit
set_option linter.unusedVariables false
set_option maxRecDepth 100000

theorem take_cells {W : World} {g : Nat} {S : List Int} (h : ∀ j u, (S.map (Value.int .i64))[j]? = some u → W.cell? ((⟨g, 0, none⟩ : Addr).add j) = some u) (t : Nat) :
    ∀ j u, ((S.take t).map (Value.int .i64))[j]? = some u → W.cell? ((⟨g, 0, none⟩ : Addr).add j) = some u := fun j u hu => h j u (by
  rw [List.map_take, List.getElem?_take] at hu
  split at hu
  · exact hu
  · cases hu)
theorem drop_cells {W : World} {g : Nat} {S : List Int} (h : ∀ j u, (S.map (Value.int .i64))[j]? = some u → W.cell? ((⟨g, 0, none⟩ : Addr).add j) = some u) (t : Nat) :
    ∀ j u, ((S.drop t).map (Value.int .i64))[j]? = some u → W.cell? ((⟨g, t, none⟩ : Addr).add j) = some u := fun j u hu => by
  rw [List.map_drop, List.getElem?_drop] at hu
  have := h _ u hu
  rw [add_lit] at this
  rw [← this]
  unfold Addr.add
  split
  · rename_i h0; subst h0; rfl
  · rfl
theorem one_cell {W : World} {x : Int} {ad : Addr} (h : W.cell? ad = some (.int .i64 x)) : ∀ j u, ([x].map (Value.int .i64))[j]? = some u → W.cell? (ad.add j) = some u := fun j u hu => by
  match j, hu with
  | 0, hu => simp at hu; subst hu; rw [add_zero']; exact h
  | j + 1, hu => simp at hu
theorem own_empty_at (w : World) (B n : Nat) (hB : B ≤ w.heap.size) (hn : w.heap.size = n) : OwnI (w.alloc (.cells #[] 3)) B (some ⟨n, 0, none⟩) 0 [] := by
  subst hn
  exact OwnI.empty _ _ hB
theorem own_len {w : World} {B c n : Nat} {A : Option Addr} {L : List Int} (h : OwnI w B A c L) (hn : L.length = n) : w.ownsRow B 3 1 (.slice A n c) n (L.map (Value.int .i64)) := by
  subst hn
  exact h
theorem sort_next {f : Int → Int} {S X : List Int} {x : Int} {k t : Nat} (h : X = insP f S x) (hl : S.length = k) (hp : posK f S x k = t) : S.take t ++ [x] ++ S.drop t = X := by
  rw [h]
  unfold insP
  rw [hl, hp]
  unfold arrT
  simp
theorem none_cells {S : List Int} (h : S = []) (W : World) (ad : Addr) : ∀ j u, (S.map (Value.int .i64))[j]? = some u → W.cell? (ad.add j) = some u := fun j u hu => by
  subst h
  simp at hu
set_option maxHeartbeats 4000000 in
theorem c_specSortSerials {H : Nat} (A : Option Addr) (cap : Nat) (zs : List Int) (fr : Int) (w : World) (h : Ints w H A zs) (hH : H ≤ w.heap.size) (hl : zs.length ≤ 100000000) :
    Calls Try.prog 82 #[.slice A zs.length cap, .int .i64 fr] w fun e w' => ∃ A' cap', e = .returned (.tuple #[.slice A' (ssL zs fr).length cap', .bool (ssB zs fr)]) ∧ OwnI w' w.heap.size A' cap' (ssL zs fr) ∧ Below w.heap.size w w' := by
  obtain ⟨X, hX⟩ : ∃ X, X = w.alloc (.cells #[] 3) := ⟨_, rfl⟩
  have b1 : Below w.heap.size w X := by rw [hX]; exact (Below.refl _ _).alloc (Nat.le_refl _) _
  have o1 : OwnI X w.heap.size (some ⟨w.heap.size, 0, none⟩) 0 [] := by rw [hX]; exact OwnI.empty _ _ (Nat.le_refl _)
  have HW := Lib.hid (h.more hH)
  have i1 := (h.more hH).keep b1
  have C1 := Lib.hid (c_l2List A cap zs X i1 hl)
  have HX := Lib.hid hX
  clear h hX
  cases g0 : goodB 20 65535 zs
  · rw [show ssB zs fr = false from by simp [ssB, g0], show ssL zs fr = [] from by simp [ssL, ssB, g0]]
    go_enter Try.func82, Try.ntmps82
    go_wp2_with fail
    rw [← HX.out]
    refine C1.out.mono ?_
    rintro e _ ⟨rfl, rfl⟩
    rw [g0]
    have HB := Lib.hid b1
    have HO := Lib.hid o1
    clear b1 i1 o1
    go_wp2
    go_ret2
    exact ⟨_, 0, rfl, HO.out, HB.out⟩
  · cases g1 : inR fr 0 65535
    · rw [show ssB zs fr = false from by simp [ssB, g1], show ssL zs fr = [] from by simp [ssL, ssB, g1]]
      go_enter Try.func82, Try.ntmps82
      go_wp2_with fail
      rw [← HX.out]
      refine C1.out.mono ?_
      rintro e _ ⟨rfl, rfl⟩
      rw [g0]
      have HB := Lib.hid b1
      have HO := Lib.hid o1
      clear b1 i1 o1
      go_wp2_with fail
      refine (c_l2Good _ _).mono ?_
      rintro e _ ⟨rfl, rfl⟩
      rw [g1]
      go_wp2
      go_ret2
      exact ⟨_, 0, rfl, HO.out, HB.out⟩
    · rw [show ssB zs fr = true from by simp [ssB, g0, g1], show ssL zs fr = sortL (gapV fr) zs from by simp [ssL, ssB, g0, g1]]
      have HG := Lib.hid (goodB_t g0)
      have HF := Lib.hid (inR_t g1)
      have HR := Lib.hid (sortK_rng (gapV fr) zs (fun i hi => inR_t (HG.out.2 i hi)))
      go_enter Try.func82, Try.ntmps82
      go_wp2_with fail
      rw [← HX.out]
      refine C1.out.mono ?_
      rintro e _ ⟨rfl, rfl⟩
      rw [g0]
      have HB1 := Lib.hid b1
      have HI := Lib.hid i1
      have HO1 := Lib.hid o1
      have HXS := Lib.hid b1.size
      clear b1 i1 o1
      go_wp2_with fail
      refine (c_l2Good _ _).mono ?_
      rintro e _ ⟨rfl, rfl⟩
      rw [g1]
      go_wp2
      go_loopw [6, 7] (fun v i wr => ∃ k : Nat, k ≤ zs.length ∧ i = .int .i64 k ∧ (∃ g c, v = .slice (some ⟨g, 0, none⟩) k c ∧ wr.ownsRow w.heap.size 3 1 (.slice (some ⟨g, 0, none⟩) k c) k ((sortK (gapV fr) zs k).map (Value.int .i64))) ∧ Below w.heap.size w wr) (fun _ i _ => zs.length - (intOf i).toNat)
      case atStart => exact ⟨0, by omega, rfl, ⟨_, _, rfl, HO1.out⟩, HB1.out⟩
      case round =>
        obtain ⟨k, hk, rfl, ⟨g, c, rfl, hown⟩, hbel⟩ := hrel
        by_cases hlt : k < zs.length
        · obtain ⟨ad, rfl, hadb, hcz⟩ := (HW.out.keep hbel).at_ hlt
          have hx := inR_t (HG.out.2 k hlt)
          have HRK := Lib.hid (HR.out k hk)
          have HSL := Lib.hid (sortK_len (gapV fr) zs k)
          have HNX := Lib.hid (show sortK (gapV fr) zs (k + 1) = insP (gapV fr) (sortK (gapV fr) zs k) (zs.getD k 0) from rfl)
          have hf := HF.out
          generalize hS : sortK (gapV fr) zs k = S at *
          generalize zs.getD k 0 = x at *
          clear hS
          have HO := Lib.hid hown
          have HB := Lib.hid hbel
          clear hown hbel
          go_wp2
          go_loopw [8] (fun j w' => ∃ t q : Nat, t ≤ k ∧ j = .int .i64 t ∧ Hid (posK (gapV fr) S x t = posK (gapV fr) S x k) ∧ w' = wr.drewN q) (fun j _ => (intOf j).toNat)
          case atStart => exact ⟨k, 0, Nat.le_refl _, rfl, Lib.hid rfl, rfl⟩
          case round =>
            obtain ⟨t, q, ht, rfl, HP, rfl⟩ := hrel
            have HO5 := Lib.hid (drewN_own HO.out q)
            have HB5 := Lib.hid (drewN_below HB.out q)
            have hcz5 : (wr.drewN q).cell? (ad.add k) = some (.int .i64 x) := hcz
            generalize hw5 : wr.drewN q = w5 at *
            have HW5 := Lib.hid hw5
            clear hw5 hcz
            have hgw : g < w5.heap.size := by
              have := World.ownsRow.lt HO5.out g rfl
              exact this.2
            have hkc : k ≤ c := own_cap HO5.out
            by_cases ht0 : 0 < t
            · obtain ⟨s, hts⟩ : ∃ s, t = s + 1 := ⟨t - 1, by omega⟩
              have hsS : s < S.length := by have := HSL.out; omega
              have hcs : w5.cell? ⟨g, s, none⟩ = some (.int .i64 (S.getD s 0)) := by
                refine (HO5.out.cellAt s (by omega)).trans ?_
                rw [List.getElem?_map, List.getElem?_eq_getElem hsS]
                simp [hsS]
              have hy := HRK.out (S.getD s 0) (by rw [show S.getD s 0 = S[s] from by simp [hsS]]; exact List.getElem_mem _)
              have HPS := Lib.hid (show posK (gapV fr) S x (s + 1) = if gapV fr x < gapV fr (S.getD s 0) then posK (gapV fr) S x s else s + 1 from rfl)
              rw [← hts] at HPS
              generalize S.getD s 0 = y at *
              have e1 : (t : Int) - 1 = s := by omega
              have e2 := IntWalk.i64_in (s : Int) (by omega)
              have l1 : s < k := by omega
              have HTS := Lib.hid hts
              clear hts hsS
              by_cases hneg : gapV fr x < gapV fr y
              · have HQ := Lib.hid (show posK (gapV fr) S x s = posK (gapV fr) S x k from by
                  have h1 := HPS.out
                  rw [if_pos hneg] at h1
                  rw [← h1]; exact HP.out)
                go_wp2_with fail
                go_quiet ((go_at_call 120; exact quiet_left (c_l2Gap _ _ _ (by omega) (by omega) (by omega) (by omega))))
                go_wp2
                go_roundw
                case rel => exact ⟨s, q + nq, by omega, by go_num, HQ, by rw [← HW5.out]; simp⟩
                case measure => simp [intOf]; have := HTS.out; omega
              · have HQ := Lib.hid (show posK (gapV fr) S x k = t from by
                  have h1 := HPS.out
                  rw [if_neg hneg] at h1
                  rw [← HP.out]; have := HTS.out; omega)
                go_wp2_with fail
                go_quiet ((go_at_call 120; exact quiet_left (c_l2Gap _ _ _ (by omega) (by omega) (by omega) (by omega))))
                have HO6 := Lib.hid (drewN_own HO5.out nq)
                have HB6 := Lib.hid (drewN_below HB5.out nq)
                have hcz6 : (w5.drewN nq).cell? (ad.add k) = some (.int .i64 x) := hcz5
                have hgw6 : g < (w5.drewN nq).heap.size := hgw
                clear HO5 HB5 hcz5 HW5 hgw
                generalize w5.drewN nq = w6 at *
                go_wp2_with fail
                clear hcs HPS e1 e2 l1 HTS hneg hy ht0
                have hs6 : w.heap.size ≤ w6.heap.size := HB6.out.size
                have HHQ := HQ
                clear HQ HP HW HI C1 HO HB
                by_cases hct : c = t
                · obtain rfl : k = c := by omega
                  obtain rfl : k = t := by omega
                  clear hct
                  have HTK := Lib.hid (show (S.take k).length = k by have := HSL.out; simp; omega)
                  have HDK := Lib.hid (show (S.drop k).length = 0 by rw [List.length_drop, HSL.out]; exact Nat.sub_self _)
                  have HFIN := Lib.hid (sort_next HNX.out HSL.out HHQ.out)
                  have HLEN := Lib.hid (show (S.take k ++ [x] ++ S.drop k).length = k + 1 by rw [List.length_append, List.length_append, HTK.out, HDK.out, List.length_singleton] <;> omega)
                  have CF := Lib.hid (fun (W : World) (b : Below w6.heap.size w6 W) => (⟨(b.cell (by rw [block_of_add]; omega)).trans hcz6, fun j u hu => (b.cell (by rw [block_of_add]; exact hgw6)).trans (HO6.out.cells (g := g) rfl j u hu), Nat.le_trans hs6 b.size, HB6.out.trans (b.mono hs6)⟩ :
                    W.cell? (ad.add k) = some (.int .i64 x) ∧ (∀ j u, (S.map (Value.int .i64))[j]? = some u → W.cell? ((⟨g, 0, none⟩ : Addr).add j) = some u) ∧ w.heap.size ≤ W.heap.size ∧ Below w.heap.size w W))
                  obtain ⟨b10, b20, b30⟩ : (0 : Int) ≤ (k : Int) ∧ (k : Int) ≤ (k : Int) ∧ (k : Int) ≤ (k : Int) := ⟨by omega, by omega, by omega⟩
                  have b40 : (0 : Int) ≤ (k : Int) := by omega
                  have b50 : (k : Int) < (zs.length : Int) := by omega
                  have bD := (Below.refl w6.heap.size w6).drew
                  have bL0 := bD.alloc bD.size (.cells #[] 3)
                  have bLX := bD.alloc bD.size (.cells #[.int .i64 x] 3)
                  have bL0X := bL0.alloc bL0.size (.cells #[.int .i64 x] 3)
                  have bLX0 := bLX.alloc bLX.size (.cells #[] 3)
                  have HE0 := Lib.hid (OwnI.empty w6.drew w6.heap.size (Nat.le_refl _))
                  have HE0X := Lib.hid (HE0.out.push (.cells #[.int .i64 x] 3))
                  have HEX0 := Lib.hid (own_empty_at (w6.drew.alloc (.cells #[.int .i64 x] 3)) w6.heap.size (w6.heap.size + 1) (by simp) (by simp))
                  have HX1 := Lib.hid (show ((w6.drew.alloc (.cells #[] 3)).alloc (.cells #[.int .i64 x] 3)).cell? ⟨w6.heap.size + 1, 0, none⟩ = some (.int .i64 x) by simp [go_sem])
                  have HX0 := Lib.hid (show ((w6.drew.alloc (.cells #[.int .i64 x] 3)).alloc (.cells #[] 3)).cell? ⟨w6.heap.size, 0, none⟩ = some (.int .i64 x) from (World.cell?_alloc_lt _ _ _ (by simp)).trans (new1_cell w6.drew (.int .i64 x) 3))
                  have hlt1 : w6.heap.size + 1 < ((w6.drew.alloc (.cells #[] 3)).alloc (.cells #[.int .i64 x] 3)).heap.size := by simp
                  have hlt0 : w6.heap.size < ((w6.drew.alloc (.cells #[.int .i64 x] 3)).alloc (.cells #[] 3)).heap.size := by simp; omega
                  have hy1 := Lib.hid (fun (W : World) (b : Below w6.heap.size w6 W) => (take_cells (CF.out W b).2.1 k))
                  have hy3 := Lib.hid (fun (W : World) (b : Below w6.heap.size w6 W) => (none_cells (S := S.drop k) (List.drop_of_length_le (Nat.le_of_eq HSL.out)) W ⟨g, 0, none⟩))
                  go_region_held_law (fun W => W.cell? (ad.add k) = some (.int .i64 x)) (first | assumption | go_keep)
                    (first
                      | (refine step_appN _ (by rfl) _ _ (by rfl) w6.heap.size A2 c2 (S.take k ++ [x]) (S.drop k) (k + 1) (0) (k + 1) (by rw [List.length_append, HTK.out]; rfl) HDK.out (by omega) (by rfl) o2 ⟨g, 0, none⟩ _ (by rfl) (hy3.out _ bF) (by omega) bF.size ?_; intro A3 c3 w9 o3 b3 g3; have bG := bF.trans b3; obtain ⟨hcG, _, hsG, hBG⟩ := CF.out _ bG)
                      | (refine step_appN _ (by rfl) _ _ (by rfl) w6.heap.size A1 c1 (S.take k) [x] k 1 (k + 1) HTK.out rfl rfl (by rfl) HOL.out _ _ (by rfl) (one_cell hll) (by omega) bE.size ?_; intro A2 c2 w8 o2 b2 g2; have bF := bE.trans b2; have hcB := (CF.out _ bF).1)
                      | (refine step_appN _ (by rfl) _ _ (by rfl) w6.heap.size (some ⟨w6.heap.size, 0, none⟩) 0 [] (S.take k) 0 k k rfl HTK.out (by omega) (by rfl) HE0.out ⟨g, 0, none⟩ k (by rfl) (hy1.out _ bL0) (by omega) bL0.size ?_; intro A1 c1 w7 o1 b1 g1; have bC := bL0.trans b1; have hcA := (CF.out _ bC).1; have HOL := Lib.hid (o1.push (.cells #[.int .i64 x] 3)); have hll := new1_cell w7 (.int .i64 x) 3; have bE := bC.alloc bC.size (.cells #[.int .i64 x] 3))
                      | (refine step_appN _ (by rfl) _ _ (by rfl) w6.heap.size (some ⟨w6.heap.size, 0, none⟩) 0 [] (S.take k) 0 k k rfl HTK.out (by omega) (by rfl) HE0X.out ⟨g, 0, none⟩ k (by rfl) (hy1.out _ bL0X) (by omega) bL0X.size ?_; intro A1 c1 w7 o1 b1 g1; have bE := bL0X.trans b1; have hcA := (CF.out _ bE).1; have HOL := Lib.hid o1; have hll := (g1.cell_far (a := ⟨w6.heap.size + 1, 0, none⟩) hlt1 (by simp [Value.ownBlock])).trans HX1.out)
                      | (refine step_appN _ (by rfl) _ _ (by rfl) w6.heap.size (some ⟨w6.heap.size + 1, 0, none⟩) 0 [] (S.take k) 0 k k rfl HTK.out (by omega) (by rfl) HEX0.out ⟨g, 0, none⟩ k (by rfl) (hy1.out _ bLX0) (by omega) bLX0.size ?_; intro A1 c1 w7 o1 b1 g1; have bE := bLX0.trans b1; have hcA := (CF.out _ bE).1; have HOL := Lib.hid o1; have hll := (g1.cell_far (a := ⟨w6.heap.size, 0, none⟩) hlt0 (by simp [Value.ownBlock])).trans HX0.out))
                  all_goals
                    obtain ⟨g9, rfl, hg9⟩ := own_head o3 (by rw [HLEN.out]; omega)
                    have HO9 := Lib.hid (own_base (own_len o3 HLEN.out) hs6)
                    rw [HFIN.out] at HO9
                    have HB9 := Lib.hid hBG
                    clear o3 hBG hsG hcG g3 b3 bG HOL hll bE bF hcA hcB CF HX1 HX0 hlt1 hlt0 hy1 hy3 HE0 HE0X HEX0 bD bL0 bLX bL0X bLX0
                    go_wp2
                    go_roundw
                    case rel => exact ⟨k + 1, by omega, by go_num, ⟨g9, c3, rfl, HO9.out⟩, HB9.out⟩
                    case measure => simp [intOf]; omega
                · have HTK := Lib.hid (show (S.take t).length = t by have := HSL.out; simp; omega)
                  have HDK := Lib.hid (show (S.drop t).length = k - t by rw [List.length_drop, HSL.out])
                  have HFIN := Lib.hid (sort_next HNX.out HSL.out HHQ.out)
                  have HLEN := Lib.hid (show (S.take t ++ [x] ++ S.drop t).length = k + 1 by rw [List.length_append, List.length_append, HTK.out, HDK.out, List.length_singleton] <;> omega)
                  have CF := Lib.hid (fun (W : World) (b : Below w6.heap.size w6 W) => (⟨(b.cell (by rw [block_of_add]; omega)).trans hcz6, fun j u hu => (b.cell (by rw [block_of_add]; exact hgw6)).trans (HO6.out.cells (g := g) rfl j u hu), Nat.le_trans hs6 b.size, HB6.out.trans (b.mono hs6)⟩ :
                    W.cell? (ad.add k) = some (.int .i64 x) ∧ (∀ j u, (S.map (Value.int .i64))[j]? = some u → W.cell? ((⟨g, 0, none⟩ : Addr).add j) = some u) ∧ w.heap.size ≤ W.heap.size ∧ Below w.heap.size w W))
                  obtain ⟨b10, b20, b30⟩ : (0 : Int) ≤ (t : Int) ∧ (t : Int) ≤ (k : Int) ∧ (t : Int) ≤ (c : Int) := ⟨by omega, by omega, by omega⟩
                  have b40 : (0 : Int) ≤ (k : Int) := by omega
                  have b50 : (k : Int) < (zs.length : Int) := by omega
                  have bD := (Below.refl w6.heap.size w6).drew
                  have bL0 := bD.alloc bD.size (.cells #[] 3)
                  have bLX := bD.alloc bD.size (.cells #[.int .i64 x] 3)
                  have bL0X := bL0.alloc bL0.size (.cells #[.int .i64 x] 3)
                  have bLX0 := bLX.alloc bLX.size (.cells #[] 3)
                  have HE0 := Lib.hid (OwnI.empty w6.drew w6.heap.size (Nat.le_refl _))
                  have HE0X := Lib.hid (HE0.out.push (.cells #[.int .i64 x] 3))
                  have HEX0 := Lib.hid (own_empty_at (w6.drew.alloc (.cells #[.int .i64 x] 3)) w6.heap.size (w6.heap.size + 1) (by simp) (by simp))
                  have HX1 := Lib.hid (show ((w6.drew.alloc (.cells #[] 3)).alloc (.cells #[.int .i64 x] 3)).cell? ⟨w6.heap.size + 1, 0, none⟩ = some (.int .i64 x) by simp [go_sem])
                  have HX0 := Lib.hid (show ((w6.drew.alloc (.cells #[.int .i64 x] 3)).alloc (.cells #[] 3)).cell? ⟨w6.heap.size, 0, none⟩ = some (.int .i64 x) from (World.cell?_alloc_lt _ _ _ (by simp)).trans (new1_cell w6.drew (.int .i64 x) 3))
                  have hlt1 : w6.heap.size + 1 < ((w6.drew.alloc (.cells #[] 3)).alloc (.cells #[.int .i64 x] 3)).heap.size := by simp
                  have hlt0 : w6.heap.size < ((w6.drew.alloc (.cells #[.int .i64 x] 3)).alloc (.cells #[] 3)).heap.size := by simp; omega
                  have hy1 := Lib.hid (fun (W : World) (b : Below w6.heap.size w6 W) => (take_cells (CF.out W b).2.1 t))
                  have hy3 := Lib.hid (fun (W : World) (b : Below w6.heap.size w6 W) => (drop_cells (CF.out W b).2.1 t))
                  go_region_held_law (fun W => W.cell? (ad.add k) = some (.int .i64 x)) (first | assumption | go_keep)
                    (first
                      | (refine step_appN _ (by rfl) _ _ (by rfl) w6.heap.size A2 c2 (S.take t ++ [x]) (S.drop t) (t + 1) (k - t) (k + 1) (by rw [List.length_append, HTK.out]; rfl) HDK.out (by omega) (by rfl) o2 ⟨g, t, none⟩ _ (by rfl) (hy3.out _ bF) (by omega) bF.size ?_; intro A3 c3 w9 o3 b3 g3; have bG := bF.trans b3; obtain ⟨hcG, _, hsG, hBG⟩ := CF.out _ bG)
                      | (refine step_appN _ (by rfl) _ _ (by rfl) w6.heap.size A1 c1 (S.take t) [x] t 1 (t + 1) HTK.out rfl rfl (by rfl) HOL.out _ _ (by rfl) (one_cell hll) (by omega) bE.size ?_; intro A2 c2 w8 o2 b2 g2; have bF := bE.trans b2; have hcB := (CF.out _ bF).1)
                      | (refine step_appN _ (by rfl) _ _ (by rfl) w6.heap.size (some ⟨w6.heap.size, 0, none⟩) 0 [] (S.take t) 0 t t rfl HTK.out (by omega) (by rfl) HE0.out ⟨g, 0, none⟩ c (by rfl) (hy1.out _ bL0) (by omega) bL0.size ?_; intro A1 c1 w7 o1 b1 g1; have bC := bL0.trans b1; have hcA := (CF.out _ bC).1; have HOL := Lib.hid (o1.push (.cells #[.int .i64 x] 3)); have hll := new1_cell w7 (.int .i64 x) 3; have bE := bC.alloc bC.size (.cells #[.int .i64 x] 3))
                      | (refine step_appN _ (by rfl) _ _ (by rfl) w6.heap.size (some ⟨w6.heap.size, 0, none⟩) 0 [] (S.take t) 0 t t rfl HTK.out (by omega) (by rfl) HE0X.out ⟨g, 0, none⟩ c (by rfl) (hy1.out _ bL0X) (by omega) bL0X.size ?_; intro A1 c1 w7 o1 b1 g1; have bE := bL0X.trans b1; have hcA := (CF.out _ bE).1; have HOL := Lib.hid o1; have hll := (g1.cell_far (a := ⟨w6.heap.size + 1, 0, none⟩) hlt1 (by simp [Value.ownBlock])).trans HX1.out)
                      | (refine step_appN _ (by rfl) _ _ (by rfl) w6.heap.size (some ⟨w6.heap.size + 1, 0, none⟩) 0 [] (S.take t) 0 t t rfl HTK.out (by omega) (by rfl) HEX0.out ⟨g, 0, none⟩ c (by rfl) (hy1.out _ bLX0) (by omega) bLX0.size ?_; intro A1 c1 w7 o1 b1 g1; have bE := bLX0.trans b1; have hcA := (CF.out _ bE).1; have HOL := Lib.hid o1; have hll := (g1.cell_far (a := ⟨w6.heap.size, 0, none⟩) hlt0 (by simp [Value.ownBlock])).trans HX0.out))
                  all_goals
                    obtain ⟨g9, rfl, hg9⟩ := own_head o3 (by rw [HLEN.out]; omega)
                    have HO9 := Lib.hid (own_base (own_len o3 HLEN.out) hs6)
                    rw [HFIN.out] at HO9
                    have HB9 := Lib.hid hBG
                    clear o3 hBG hsG hcG g3 b3 bG HOL hll bE bF hcA hcB CF HX1 HX0 hlt1 hlt0 hy1 hy3 HE0 HE0X HEX0 bD bL0 bLX bL0X bLX0
                    go_wp2
                    go_roundw
                    case rel => exact ⟨k + 1, by omega, by go_num, ⟨g9, c3, rfl, HO9.out⟩, HB9.out⟩
                    case measure => simp [intOf]; omega
            · have HQ := Lib.hid (show posK (gapV fr) S x k = t from by
                obtain rfl : t = 0 := by omega
                exact HP.out.symm)
              have hd0 : decide (0 < t) = false := by simp; omega
              go_wp2_with fail
              go_quiet (fail)
              have HO6 := Lib.hid (drewN_own HO5.out nq)
              have HB6 := Lib.hid (drewN_below HB5.out nq)
              have hcz6 : (w5.drewN nq).cell? (ad.add k) = some (.int .i64 x) := hcz5
              have hgw6 : g < (w5.drewN nq).heap.size := hgw
              clear HO5 HB5 hcz5 HW5 hgw
              generalize w5.drewN nq = w6 at *
              go_wp2_with fail
              clear hd0 ht0
              have hs6 : w.heap.size ≤ w6.heap.size := HB6.out.size
              have HHQ := HQ
              clear HQ HP HW HI C1 HO HB
              by_cases hct : c = t
              · obtain rfl : k = c := by omega
                obtain rfl : k = t := by omega
                clear hct
                have HTK := Lib.hid (show (S.take k).length = k by have := HSL.out; simp; omega)
                have HDK := Lib.hid (show (S.drop k).length = 0 by rw [List.length_drop, HSL.out]; exact Nat.sub_self _)
                have HFIN := Lib.hid (sort_next HNX.out HSL.out HHQ.out)
                have HLEN := Lib.hid (show (S.take k ++ [x] ++ S.drop k).length = k + 1 by rw [List.length_append, List.length_append, HTK.out, HDK.out, List.length_singleton] <;> omega)
                have CF := Lib.hid (fun (W : World) (b : Below w6.heap.size w6 W) => (⟨(b.cell (by rw [block_of_add]; omega)).trans hcz6, fun j u hu => (b.cell (by rw [block_of_add]; exact hgw6)).trans (HO6.out.cells (g := g) rfl j u hu), Nat.le_trans hs6 b.size, HB6.out.trans (b.mono hs6)⟩ :
                  W.cell? (ad.add k) = some (.int .i64 x) ∧ (∀ j u, (S.map (Value.int .i64))[j]? = some u → W.cell? ((⟨g, 0, none⟩ : Addr).add j) = some u) ∧ w.heap.size ≤ W.heap.size ∧ Below w.heap.size w W))
                obtain ⟨b10, b20, b30⟩ : (0 : Int) ≤ (k : Int) ∧ (k : Int) ≤ (k : Int) ∧ (k : Int) ≤ (k : Int) := ⟨by omega, by omega, by omega⟩
                have b40 : (0 : Int) ≤ (k : Int) := by omega
                have b50 : (k : Int) < (zs.length : Int) := by omega
                have bD := (Below.refl w6.heap.size w6).drew
                have bL0 := bD.alloc bD.size (.cells #[] 3)
                have bLX := bD.alloc bD.size (.cells #[.int .i64 x] 3)
                have bL0X := bL0.alloc bL0.size (.cells #[.int .i64 x] 3)
                have bLX0 := bLX.alloc bLX.size (.cells #[] 3)
                have HE0 := Lib.hid (OwnI.empty w6.drew w6.heap.size (Nat.le_refl _))
                have HE0X := Lib.hid (HE0.out.push (.cells #[.int .i64 x] 3))
                have HEX0 := Lib.hid (own_empty_at (w6.drew.alloc (.cells #[.int .i64 x] 3)) w6.heap.size (w6.heap.size + 1) (by simp) (by simp))
                have HX1 := Lib.hid (show ((w6.drew.alloc (.cells #[] 3)).alloc (.cells #[.int .i64 x] 3)).cell? ⟨w6.heap.size + 1, 0, none⟩ = some (.int .i64 x) by simp [go_sem])
                have HX0 := Lib.hid (show ((w6.drew.alloc (.cells #[.int .i64 x] 3)).alloc (.cells #[] 3)).cell? ⟨w6.heap.size, 0, none⟩ = some (.int .i64 x) from (World.cell?_alloc_lt _ _ _ (by simp)).trans (new1_cell w6.drew (.int .i64 x) 3))
                have hlt1 : w6.heap.size + 1 < ((w6.drew.alloc (.cells #[] 3)).alloc (.cells #[.int .i64 x] 3)).heap.size := by simp
                have hlt0 : w6.heap.size < ((w6.drew.alloc (.cells #[.int .i64 x] 3)).alloc (.cells #[] 3)).heap.size := by simp; omega
                have hy1 := Lib.hid (fun (W : World) (b : Below w6.heap.size w6 W) => (take_cells (CF.out W b).2.1 k))
                have hy3 := Lib.hid (fun (W : World) (b : Below w6.heap.size w6 W) => (none_cells (S := S.drop k) (List.drop_of_length_le (Nat.le_of_eq HSL.out)) W ⟨g, 0, none⟩))
                go_region_held_law (fun W => W.cell? (ad.add k) = some (.int .i64 x)) (first | assumption | go_keep)
                  (first
                    | (refine step_appN _ (by rfl) _ _ (by rfl) w6.heap.size A2 c2 (S.take k ++ [x]) (S.drop k) (k + 1) (0) (k + 1) (by rw [List.length_append, HTK.out]; rfl) HDK.out (by omega) (by rfl) o2 ⟨g, 0, none⟩ _ (by rfl) (hy3.out _ bF) (by omega) bF.size ?_; intro A3 c3 w9 o3 b3 g3; have bG := bF.trans b3; obtain ⟨hcG, _, hsG, hBG⟩ := CF.out _ bG)
                    | (refine step_appN _ (by rfl) _ _ (by rfl) w6.heap.size A1 c1 (S.take k) [x] k 1 (k + 1) HTK.out rfl rfl (by rfl) HOL.out _ _ (by rfl) (one_cell hll) (by omega) bE.size ?_; intro A2 c2 w8 o2 b2 g2; have bF := bE.trans b2; have hcB := (CF.out _ bF).1)
                    | (refine step_appN _ (by rfl) _ _ (by rfl) w6.heap.size (some ⟨w6.heap.size, 0, none⟩) 0 [] (S.take k) 0 k k rfl HTK.out (by omega) (by rfl) HE0.out ⟨g, 0, none⟩ k (by rfl) (hy1.out _ bL0) (by omega) bL0.size ?_; intro A1 c1 w7 o1 b1 g1; have bC := bL0.trans b1; have hcA := (CF.out _ bC).1; have HOL := Lib.hid (o1.push (.cells #[.int .i64 x] 3)); have hll := new1_cell w7 (.int .i64 x) 3; have bE := bC.alloc bC.size (.cells #[.int .i64 x] 3))
                    | (refine step_appN _ (by rfl) _ _ (by rfl) w6.heap.size (some ⟨w6.heap.size, 0, none⟩) 0 [] (S.take k) 0 k k rfl HTK.out (by omega) (by rfl) HE0X.out ⟨g, 0, none⟩ k (by rfl) (hy1.out _ bL0X) (by omega) bL0X.size ?_; intro A1 c1 w7 o1 b1 g1; have bE := bL0X.trans b1; have hcA := (CF.out _ bE).1; have HOL := Lib.hid o1; have hll := (g1.cell_far (a := ⟨w6.heap.size + 1, 0, none⟩) hlt1 (by simp [Value.ownBlock])).trans HX1.out)
                    | (refine step_appN _ (by rfl) _ _ (by rfl) w6.heap.size (some ⟨w6.heap.size + 1, 0, none⟩) 0 [] (S.take k) 0 k k rfl HTK.out (by omega) (by rfl) HEX0.out ⟨g, 0, none⟩ k (by rfl) (hy1.out _ bLX0) (by omega) bLX0.size ?_; intro A1 c1 w7 o1 b1 g1; have bE := bLX0.trans b1; have hcA := (CF.out _ bE).1; have HOL := Lib.hid o1; have hll := (g1.cell_far (a := ⟨w6.heap.size, 0, none⟩) hlt0 (by simp [Value.ownBlock])).trans HX0.out))
                all_goals
                  obtain ⟨g9, rfl, hg9⟩ := own_head o3 (by rw [HLEN.out]; omega)
                  have HO9 := Lib.hid (own_base (own_len o3 HLEN.out) hs6)
                  rw [HFIN.out] at HO9
                  have HB9 := Lib.hid hBG
                  clear o3 hBG hsG hcG g3 b3 bG HOL hll bE bF hcA hcB CF HX1 HX0 hlt1 hlt0 hy1 hy3 HE0 HE0X HEX0 bD bL0 bLX bL0X bLX0
                  go_wp2
                  go_roundw
                  case rel => exact ⟨k + 1, by omega, by go_num, ⟨g9, c3, rfl, HO9.out⟩, HB9.out⟩
                  case measure => simp [intOf]; omega
              · have HTK := Lib.hid (show (S.take t).length = t by have := HSL.out; simp; omega)
                have HDK := Lib.hid (show (S.drop t).length = k - t by rw [List.length_drop, HSL.out])
                have HFIN := Lib.hid (sort_next HNX.out HSL.out HHQ.out)
                have HLEN := Lib.hid (show (S.take t ++ [x] ++ S.drop t).length = k + 1 by rw [List.length_append, List.length_append, HTK.out, HDK.out, List.length_singleton] <;> omega)
                have CF := Lib.hid (fun (W : World) (b : Below w6.heap.size w6 W) => (⟨(b.cell (by rw [block_of_add]; omega)).trans hcz6, fun j u hu => (b.cell (by rw [block_of_add]; exact hgw6)).trans (HO6.out.cells (g := g) rfl j u hu), Nat.le_trans hs6 b.size, HB6.out.trans (b.mono hs6)⟩ :
                  W.cell? (ad.add k) = some (.int .i64 x) ∧ (∀ j u, (S.map (Value.int .i64))[j]? = some u → W.cell? ((⟨g, 0, none⟩ : Addr).add j) = some u) ∧ w.heap.size ≤ W.heap.size ∧ Below w.heap.size w W))
                obtain ⟨b10, b20, b30⟩ : (0 : Int) ≤ (t : Int) ∧ (t : Int) ≤ (k : Int) ∧ (t : Int) ≤ (c : Int) := ⟨by omega, by omega, by omega⟩
                have b40 : (0 : Int) ≤ (k : Int) := by omega
                have b50 : (k : Int) < (zs.length : Int) := by omega
                have bD := (Below.refl w6.heap.size w6).drew
                have bL0 := bD.alloc bD.size (.cells #[] 3)
                have bLX := bD.alloc bD.size (.cells #[.int .i64 x] 3)
                have bL0X := bL0.alloc bL0.size (.cells #[.int .i64 x] 3)
                have bLX0 := bLX.alloc bLX.size (.cells #[] 3)
                have HE0 := Lib.hid (OwnI.empty w6.drew w6.heap.size (Nat.le_refl _))
                have HE0X := Lib.hid (HE0.out.push (.cells #[.int .i64 x] 3))
                have HEX0 := Lib.hid (own_empty_at (w6.drew.alloc (.cells #[.int .i64 x] 3)) w6.heap.size (w6.heap.size + 1) (by simp) (by simp))
                have HX1 := Lib.hid (show ((w6.drew.alloc (.cells #[] 3)).alloc (.cells #[.int .i64 x] 3)).cell? ⟨w6.heap.size + 1, 0, none⟩ = some (.int .i64 x) by simp [go_sem])
                have HX0 := Lib.hid (show ((w6.drew.alloc (.cells #[.int .i64 x] 3)).alloc (.cells #[] 3)).cell? ⟨w6.heap.size, 0, none⟩ = some (.int .i64 x) from (World.cell?_alloc_lt _ _ _ (by simp)).trans (new1_cell w6.drew (.int .i64 x) 3))
                have hlt1 : w6.heap.size + 1 < ((w6.drew.alloc (.cells #[] 3)).alloc (.cells #[.int .i64 x] 3)).heap.size := by simp
                have hlt0 : w6.heap.size < ((w6.drew.alloc (.cells #[.int .i64 x] 3)).alloc (.cells #[] 3)).heap.size := by simp; omega
                have hy1 := Lib.hid (fun (W : World) (b : Below w6.heap.size w6 W) => (take_cells (CF.out W b).2.1 t))
                have hy3 := Lib.hid (fun (W : World) (b : Below w6.heap.size w6 W) => (drop_cells (CF.out W b).2.1 t))
                go_region_held_law (fun W => W.cell? (ad.add k) = some (.int .i64 x)) (first | assumption | go_keep)
                  (first
                    | (refine step_appN _ (by rfl) _ _ (by rfl) w6.heap.size A2 c2 (S.take t ++ [x]) (S.drop t) (t + 1) (k - t) (k + 1) (by rw [List.length_append, HTK.out]; rfl) HDK.out (by omega) (by rfl) o2 ⟨g, t, none⟩ _ (by rfl) (hy3.out _ bF) (by omega) bF.size ?_; intro A3 c3 w9 o3 b3 g3; have bG := bF.trans b3; obtain ⟨hcG, _, hsG, hBG⟩ := CF.out _ bG)
                    | (refine step_appN _ (by rfl) _ _ (by rfl) w6.heap.size A1 c1 (S.take t) [x] t 1 (t + 1) HTK.out rfl rfl (by rfl) HOL.out _ _ (by rfl) (one_cell hll) (by omega) bE.size ?_; intro A2 c2 w8 o2 b2 g2; have bF := bE.trans b2; have hcB := (CF.out _ bF).1)
                    | (refine step_appN _ (by rfl) _ _ (by rfl) w6.heap.size (some ⟨w6.heap.size, 0, none⟩) 0 [] (S.take t) 0 t t rfl HTK.out (by omega) (by rfl) HE0.out ⟨g, 0, none⟩ c (by rfl) (hy1.out _ bL0) (by omega) bL0.size ?_; intro A1 c1 w7 o1 b1 g1; have bC := bL0.trans b1; have hcA := (CF.out _ bC).1; have HOL := Lib.hid (o1.push (.cells #[.int .i64 x] 3)); have hll := new1_cell w7 (.int .i64 x) 3; have bE := bC.alloc bC.size (.cells #[.int .i64 x] 3))
                    | (refine step_appN _ (by rfl) _ _ (by rfl) w6.heap.size (some ⟨w6.heap.size, 0, none⟩) 0 [] (S.take t) 0 t t rfl HTK.out (by omega) (by rfl) HE0X.out ⟨g, 0, none⟩ c (by rfl) (hy1.out _ bL0X) (by omega) bL0X.size ?_; intro A1 c1 w7 o1 b1 g1; have bE := bL0X.trans b1; have hcA := (CF.out _ bE).1; have HOL := Lib.hid o1; have hll := (g1.cell_far (a := ⟨w6.heap.size + 1, 0, none⟩) hlt1 (by simp [Value.ownBlock])).trans HX1.out)
                    | (refine step_appN _ (by rfl) _ _ (by rfl) w6.heap.size (some ⟨w6.heap.size + 1, 0, none⟩) 0 [] (S.take t) 0 t t rfl HTK.out (by omega) (by rfl) HEX0.out ⟨g, 0, none⟩ c (by rfl) (hy1.out _ bLX0) (by omega) bLX0.size ?_; intro A1 c1 w7 o1 b1 g1; have bE := bLX0.trans b1; have hcA := (CF.out _ bE).1; have HOL := Lib.hid o1; have hll := (g1.cell_far (a := ⟨w6.heap.size, 0, none⟩) hlt0 (by simp [Value.ownBlock])).trans HX0.out))
                all_goals
                  obtain ⟨g9, rfl, hg9⟩ := own_head o3 (by rw [HLEN.out]; omega)
                  have HO9 := Lib.hid (own_base (own_len o3 HLEN.out) hs6)
                  rw [HFIN.out] at HO9
                  have HB9 := Lib.hid hBG
                  clear o3 hBG hsG hcG g3 b3 bG HOL hll bE bF hcA hcB CF HX1 HX0 hlt1 hlt0 hy1 hy3 HE0 HE0X HEX0 bD bL0 bLX bL0X bLX0
                  go_wp2
                  go_roundw
                  case rel => exact ⟨k + 1, by omega, by go_num, ⟨g9, c3, rfl, HO9.out⟩, HB9.out⟩
                  case measure => simp [intOf]; omega
        · obtain rfl : k = zs.length := by omega
          go_wp2
          go_ret2
          exact ⟨_, c, by unfold sortL; rw [sortK_len]; rfl, by unfold OwnI sortL; rw [sortK_len]; exact hown, hbel⟩
end Go.Proofs.Ytkoccbjeoihbiaa
