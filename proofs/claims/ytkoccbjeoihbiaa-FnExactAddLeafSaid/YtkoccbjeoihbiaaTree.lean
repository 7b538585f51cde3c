/- Trees: copied, compared, and whether they are valid. -/
import Derived.Test.YtkoccbjeoihbiaaLists
namespace Go.Proofs.Ytkoccbjeoihbiaa
open Go.RowKit
set_option linter.unusedVariables false
set_option maxRecDepth 100000

theorem c_szIntS (A : Option Addr) (n cap : Nat) (k : Int) (w : World) (hn : n ≤ 9223372036854775807) (h1 : 0 ≤ k) (h2 : k ≤ 100000000) :
    Calls Try.prog 121 #[.slice A n cap, .int .i64 k] w fun e w' => e = .returned (.int .i64 (if k - (n : Int) < 0 then -1 else k - n)) ∧ w = w' := by
  by_cases h : k - (n : Int) < 0
  · rw [if_pos h]
    go_enter Try.func121, Try.ntmps121
    go_wp2
    go_ret
    exact ⟨rfl, rfl⟩
  · rw [if_neg h]
    go_enter Try.func121, Try.ntmps121
    go_wp2
    go_ret
    exact ⟨rfl, rfl⟩
theorem c_szTree (A : Option Addr) (n cap : Nat) (k : Int) (w : World) (hn : n ≤ 9223372036854775807) (h1 : 0 ≤ k) (h2 : k ≤ 100000000) :
    Calls Try.prog 41 #[.agg #[.slice A n cap], .int .i64 k] w fun e w' => e = .returned (.int .i64 (if k - (n : Int) < 0 then -1 else k - n)) ∧ Below w.heap.size w w' := by
  have C := fun W => c_szIntS A n cap k W hn h1 h2
  by_cases h : k - (n : Int) < 0
  · rw [if_pos h] at C ⊢
    have HC := Lib.hid C
    clear C
    go_enter Try.func41, Try.ntmps41
    go_wp2_with fail
    refine (HC.out _).mono ?_
    rintro e _ ⟨rfl, rfl⟩
    go_wp2
    go_ret
    exact ⟨rfl, by go_grown⟩
  · rw [if_neg h] at C ⊢
    have HC := Lib.hid C
    clear C
    go_enter Try.func41, Try.ntmps41
    go_wp2_with fail
    refine (HC.out _).mono ?_
    rintro e _ ⟨rfl, rfl⟩
    go_wp2
    go_ret
    exact ⟨rfl, by go_grown⟩
theorem c_toTree {H : Nat} (A : Option Addr) (cap : Nat) (zs : List Int) (w : World) (h : Ints w H A zs) (hH : H ≤ w.heap.size) (hl : zs.length ≤ 100000000) :
    Calls Try.prog 43 #[.agg #[.slice A zs.length cap]] w fun e w' => ∃ A' cap', e = .returned (.agg #[.slice A' zs.length cap']) ∧ OwnI w' w.heap.size A' cap' zs ∧ Below w.heap.size w w' := by
  have h1 := fun o1 o2 o3 => ((h.more hH).keep ((((Below.refl _ w).alloc (Nat.le_refl _) o1).alloc (by simp) o2).alloc (by simp only [World.size_alloc]; omega) o3)).more (show w.heap.size ≤ (((w.alloc o1).alloc o2).alloc o3).heap.size by simp only [World.size_alloc]; omega)
  have H1 := Lib.hid h1
  clear h h1
  go_enter Try.func43, Try.ntmps43
  go_wp2_with fail
  refine (c_toIntS _ _ zs _ (H1.out _ _ _) (Nat.le_refl _) hl).mono ?_
  rintro e w1 ⟨A', cap', rfl, hown, hb⟩
  obtain ⟨hc, hf⟩ := bcell hb
  have hz : w.heap.size + 3 ≤ w1.heap.size := by have := hb.size; simp only [World.size_alloc] at this; omega
  have hown' : w1.ownsRow (w.heap.size + 3) 3 1 (.slice A' zs.length cap') zs.length (zs.map (Value.int .i64)) := by
    have := hown; unfold OwnI at this; simp only [World.size_alloc] at this; exact this
  have HO := Lib.hid hown'
  have HB := Lib.hid (((((Below.refl _ w).alloc (Nat.le_refl _) _).alloc (by simp) _).alloc (by simp only [World.size_alloc]; omega) _).trans (hb.mono (by simp only [World.size_alloc]; omega)))
  clear hown hown' hb H1
  go_wp2
  refine bodyPost_ret (v := .agg #[.slice A' zs.length cap']) (by simp [results, Try.results43, go_sem, hc]) rfl ⟨A', cap', rfl, ?_, ?_⟩
  · exact own_base (Go.RowKit.ownsRow_setCell_below (Go.RowKit.ownsRow_setCell_below HO.out (by simp) _) (by simp) _) (by omega)
  · exact (HB.out.setCell (by simp; omega) _).setCell (by simp) _
theorem c_eqTree {H K : Nat} (A B : Option Addr) (cap cap' : Nat) (xs : List Int) (w : World) (h : Ints w H A xs) (h' : Ints w K B xs) (hH : H ≤ w.heap.size) (hK : K ≤ w.heap.size) (hl : xs.length ≤ 100000000) :
    Calls Try.prog 45 #[.agg #[.slice A xs.length cap], .agg #[.slice B xs.length cap']] w fun e w' => e = .returned (.bool true) ∧ Below w.heap.size w w' := by
  have b2 := fun o1 o2 => ((Below.refl _ w).alloc (Nat.le_refl w.heap.size) o1).alloc (by simp) o2
  have H1 := Lib.hid (fun o1 o2 => ((h.more hH).keep (b2 o1 o2)))
  have H2 := Lib.hid (fun o1 o2 => ((h'.more hK).keep (b2 o1 o2)))
  have HB := Lib.hid b2
  clear h h' b2
  go_enter Try.func45, Try.ntmps45
  go_wp2_with fail
  refine (c_eqIntS _ _ _ _ xs _ (H1.out _ _) (H2.out _ _) (by simp only [World.size_alloc]; omega) (by simp only [World.size_alloc]; omega) hl).mono ?_
  rintro e w1 ⟨rfl, hb⟩
  have HB1 := Lib.hid ((HB.out _ _).trans (hb.mono (by simp only [World.size_alloc]; omega)))
  clear hb HB H1 H2
  go_wp2
  go_ret
  exact ⟨rfl, HB1.out⟩
/-- Node i's parent is right: -1 at the source, an earlier node elsewhere. -/
def okT (zs : List Int) (i : Nat) : Bool := if i = 0 then zs.getD 0 0 == -1 else inR (zs.getD i 0) 0 ((i : Int) - 1)
def treeB (zs : List Int) : Bool := inR zs.length 2 8 && (List.range zs.length).all (okT zs)
theorem treeB_t {zs : List Int} (h : treeB zs = true) : (2 ≤ zs.length ∧ zs.length ≤ 8) ∧ ∀ i, i < zs.length → okT zs i = true := by
  simp only [treeB, Bool.and_eq_true, List.all_eq_true] at h
  have := inR_t h.1
  exact ⟨by omega, fun j hj => h.2 j (List.mem_range.2 hj)⟩
theorem treeB_bad {zs : List Int} {k : Nat} (hk : k < zs.length) (h : okT zs k = false) : treeB zs = false := by
  cases hg : treeB zs
  · rfl
  · rw [(treeB_t hg).2 k hk] at h; cases h
theorem treeB_all {zs : List Int} (h : ∀ j, j < zs.length → okT zs j = true) : treeB zs = inR zs.length 2 8 := by
  have : (List.range zs.length).all (okT zs) = true := by
    rw [List.all_eq_true]
    intro j hj
    exact h j (List.mem_range.1 hj)
  simp only [treeB, this, Bool.and_true]
set_option maxHeartbeats 1000000 in
theorem c_l6Good {H : Nat} (A : Option Addr) (cap : Nat) (zs : List Int) (w : World) (h : Ints w H A zs) (hH : H ≤ w.heap.size) (hl : zs.length ≤ 100000000) :
    Calls Try.prog 129 #[.agg #[.slice A zs.length cap]] w fun e w' => e = .returned (.bool (treeB zs)) ∧ Below w.heap.size w w' := by
  have h1 := h.more hH
  have HB := Lib.hid (fun o => (Below.refl _ w).alloc (Nat.le_refl w.heap.size) o)
  clear h
  cases g0 : inR zs.length 2 8
  · rw [show treeB zs = false from by simp [treeB, g0]]
    clear h1
    go_enter Try.func129, Try.ntmps129
    go_wp2_with fail
    refine (c_l1In _ _ _ _).mono ?_
    rintro e _ ⟨rfl, rfl⟩
    go_wp2
    go_ret
    exact ⟨rfl, HB.out _⟩
  have hn := inR_t g0
  obtain ⟨ad, rfl, hc, hca⟩ := h1.at2 (k := 0) (by omega)
  rw [add_zero'] at hc
  simp only [add_zero'] at hca
  by_cases g1 : zs.getD 0 0 = -1
  rotate_left
  · rw [treeB_bad (k := 0) (by omega) (by simp only [okT]; simpa using g1)]
    have g2 : (zs.getD 0 0 != -1) = true := by simpa using g1
    clear h1
    generalize zs.getD 0 0 = x at *
    clear g1
    go_enter Try.func129, Try.ntmps129
    go_wp2_with fail
    refine (c_l1In _ _ _ _).mono ?_
    rintro e _ ⟨rfl, rfl⟩
    go_wp2
    go_ret
    exact ⟨rfl, HB.out _⟩
  · have HO0 := Lib.hid (show okT zs 0 = true from by simp only [okT]; simpa using g1)
    have g2 : (zs.getD 0 0 != -1) = false := by simpa using g1
    have hs0 : zs.getD 0 0 = -1 := g1
    rw [hs0] at hc hca
    clear g1 g2 hs0
    go_enter Try.func129, Try.ntmps129
    go_wp2_with fail
    refine (c_l1In _ _ _ _).mono ?_
    rintro e _ ⟨rfl, rfl⟩
    go_wp2
    clear hc hca
    go_loop [4] (fun i => ∃ k : Nat, k ≤ zs.length ∧ 1 ≤ k ∧ i = .int .i64 k ∧ Hid (∀ j, j < k → okT zs j = true)) (fun i => zs.length - (intOf i).toNat)
    case atStart => exact ⟨1, by omega, by omega, rfl, Lib.hid (fun j hj => (show j = 0 by omega) ▸ HO0.out)⟩
    case round =>
      obtain ⟨k, hk, hk1, rfl, HJ⟩ := hrel
      by_cases hlt : k < zs.length
      · obtain ⟨ad', e', hc, hca⟩ := h1.at2 hlt
        simp only [Option.some.injEq] at e'
        subst e'
        have HO := Lib.hid (show okT zs k = inR (zs.getD k 0) 0 ((k : Int) - 1) from by simp only [okT]; rw [if_neg (by omega)])
        clear h1
        generalize zs.getD k 0 = x at *
        cases gx : inR x 0 ((k : Int) - 1)
        · have HG := Lib.hid (treeB_bad hlt (by rw [HO.out]; exact gx))
          go_wp2_with (go_at_call 112; refine (c_l1In _ _ _ _).mono ?_; rintro e w' ⟨rfl, rfl⟩)
          go_ret
          exact ⟨ret_b HG.out.symm, HB.out _⟩
        · have HG := Lib.hid (show okT zs k = true from HO.out.trans gx)
          go_wp2_with (go_at_call 112; refine (c_l1In _ _ _ _).mono ?_; rintro e w' ⟨rfl, rfl⟩)
          go_round
          case rel => exact ⟨k + 1, by omega, by omega, by go_num, Lib.hid (fun j hj => by
            by_cases hjk : j = k
            · subst hjk; exact HG.out
            · exact HJ.out j (by omega))⟩
          case measure => simp [intOf]; omega
      · obtain rfl : k = zs.length := by omega
        have HG := Lib.hid ((treeB_all HJ.out).trans g0)
        clear h1
        go_wp2
        go_ret
        exact ⟨ret_b HG.out.symm, HB.out _⟩
set_option maxHeartbeats 1000000 in
theorem c_implIsValidTree {H : Nat} (A : Option Addr) (cap : Nat) (zs : List Int) (w : World) (h : Ints w H A zs) (hH : H ≤ w.heap.size) (hl : zs.length ≤ 100000000) :
    Calls Try.prog 131 #[.agg #[.slice A zs.length cap]] w fun e w' => e = .returned (.bool (treeB zs)) ∧ Below w.heap.size w w' := by
  have h1 := h.more hH
  have HB := Lib.hid (fun o => (Below.refl _ w).alloc (Nat.le_refl w.heap.size) o)
  clear h
  go_enter Try.func131, Try.ntmps131
  go_wp2
  go_loop [8] (fun i => ∃ k : Nat, k ≤ zs.length ∧ i = .int .i64 k ∧ Hid (∀ j, j < k → okT zs j = true)) (fun i => zs.length - (intOf i).toNat)
  case atStart => exact ⟨0, by omega, rfl, Lib.hid (fun j hj => absurd hj (by omega))⟩
  case round =>
    obtain ⟨k, hk, rfl, HJ⟩ := hrel
    by_cases hlt : k < zs.length
    · obtain ⟨ad, rfl, hc, hca⟩ := h1.at2 hlt
      have HO := Lib.hid (show okT zs k = if k = 0 then zs.getD k 0 == -1 else inR (zs.getD k 0) 0 ((k : Int) - 1) from by simp only [okT]; split <;> simp_all)
      clear h1
      generalize zs.getD k 0 = x at *
      by_cases hk0 : k = 0
      · have e0 : ((k : Int) == 0) = true := by simpa using hk0
        have e1 : decide (0 < k) = false := by simp; omega
        by_cases gx : x = -1
        · have HG := Lib.hid (show okT zs k = true from by rw [HO.out, if_pos hk0]; simpa using gx)
          have e2 : (x != -1) = false := by simpa using gx
          clear gx hk0
          go_wp2
          go_round
          case rel => exact ⟨k + 1, by omega, by go_num, Lib.hid (fun j hj => by
            by_cases hjk : j = k
            · subst hjk; exact HG.out
            · exact HJ.out j (by omega))⟩
          case measure => simp [intOf]; omega
        · have HG := Lib.hid (treeB_bad hlt (by rw [HO.out, if_pos hk0]; simpa using gx))
          have e2 : (x != -1) = true := by simpa using gx
          clear gx hk0
          go_wp2
          go_ret
          exact ⟨ret_b HG.out.symm, HB.out _⟩
      · have e0 : ((k : Int) == 0) = false := by simp; omega
        have e1 : 0 < k := by omega
        rw [if_neg hk0] at HO
        cases gx : inR x 0 ((k : Int) - 1)
        · have HG := Lib.hid (treeB_bad hlt (by rw [HO.out]; exact gx))
          clear hk0
          go_wp2_with (go_at_call 109; refine (c_within _ _ _ _).mono ?_; rintro e w' ⟨rfl, rfl⟩)
          go_ret
          exact ⟨ret_b HG.out.symm, HB.out _⟩
        · have HG := Lib.hid (show okT zs k = true from HO.out.trans gx)
          clear hk0
          go_wp2_with (go_at_call 109; refine (c_within _ _ _ _).mono ?_; rintro e w' ⟨rfl, rfl⟩)
          go_round
          case rel => exact ⟨k + 1, by omega, by go_num, Lib.hid (fun j hj => by
            by_cases hjk : j = k
            · subst hjk; exact HG.out
            · exact HJ.out j (by omega))⟩
          case measure => simp [intOf]; omega
    · obtain rfl : k = zs.length := by omega
      have HG := Lib.hid (treeB_all HJ.out)
      clear h1
      go_wp2_with (go_at_call 109; refine (c_within _ _ _ _).mono ?_; rintro e w' ⟨rfl, rfl⟩)
      go_ret
      exact ⟨ret_b HG.out.symm, HB.out _⟩
end Go.Proofs.Ytkoccbjeoihbiaa
