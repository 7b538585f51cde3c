/- Plain laws of spans: the serials of a span lie in it, a sorted list is sorted and holds the list's serials alone, the shortest span holds all serials of a list. -/
import Derived.Test.YtkoccbjeoihbiaaSort
import Derived.Test.YtkoccbjeoihbiaaSpanOf
import Derived.Test.YtkoccbjeoihbiaaSpan
import Derived.Test.YtkoccbjeoihbiaaSerF
namespace Go.Proofs.Ytkoccbjeoihbiaa
open Go.RowKit
set_option linter.unusedVariables false
set_option maxRecDepth 100000

theorem AreW.mem' {zs : List Int} (h : AreW zs) : ∀ z ∈ zs, 0 ≤ z ∧ z ≤ 65535 := fun z hz => by
  obtain ⟨i, hi, rfl⟩ := List.getElem_of_mem hz
  have := h i hi
  simpa [hi] using this
theorem getD_mem {zs : List Int} {i : Nat} (h : i < zs.length) : zs.getD i 0 ∈ zs := by
  rw [show zs.getD i 0 = zs[i] from by simp [h]]
  exact List.getElem_mem _
theorem span_in (a b : Int) (i : Nat) (h : i < (sspanL a b).length) :
    ∃ x : Int, (sspanL a b).getD i 0 = x ∧ Hid (inSpanOk x a ((sspanL a b).length : Int) = true) ∧ Hid (inSpanR x a ((sspanL a b).length : Int) = true) := by
  have hok : sspanOk a b = true := by
    cases hs : sspanOk a b
    · simp [sspanL, hs] at h
    · rfl
  have hh := hok
  simp only [sspanOk, Bool.and_eq_true, decide_eq_true_eq] at hh
  have ha := inR_t hh.1.1
  have hr := aftV_rng a i
  have e : sspanL a b = spanL a (gapV a b).toNat := by simp [sspanL, hok]
  rw [e] at h ⊢
  rw [spanL_length] at h ⊢
  have hx : (spanL a (gapV a b).toNat).getD i 0 = aftV a i := by simp [spanL, h]
  have o : inSpanOk (aftV a i) a ((gapV a b).toNat : Int) = true := by
    simp only [inSpanOk, Bool.and_eq_true]
    exact ⟨⟨inR_y hr, inR_y ha⟩, inR_y ⟨by omega, by omega⟩⟩
  refine ⟨_, hx, Lib.hid o, Lib.hid ?_⟩
  simp only [inSpanR, o, if_true, decide_eq_true_eq]
  unfold gapV at *
  unfold aftV
  omega
/-- Sorted by f. -/
def Srt (f : Int → Int) (S : List Int) : Prop := S.Pairwise fun a b => f a ≤ f b
theorem Srt.at_ {f : Int → Int} {S : List Int} (h : Srt f S) {i j : Nat} (hi : i ≤ j) (hj : j < S.length) : f (S.getD i 0) ≤ f (S.getD j 0) := by
  rcases Nat.lt_or_ge i j with hlt | hge
  · have := List.pairwise_iff_getElem.1 h i j (by omega) hj hlt
    simpa [hj, show i < S.length by omega] using this
  · obtain rfl : i = j := by omega
    exact Int.le_refl _
theorem posK_spec (f : Int → Int) (S : List Int) (x : Int) (h : Srt f S) : ∀ k, k ≤ S.length → (∀ i, i < posK f S x k → f (S.getD i 0) ≤ f x) ∧ (∀ i, posK f S x k ≤ i → i < k → f x < f (S.getD i 0))
  | 0, _ => ⟨fun i hi => by simp [posK] at hi, fun i _ hi => by omega⟩
  | k + 1, hk => by
    have ih := posK_spec f S x h k (by omega)
    by_cases hc : f x < f (S.getD k 0)
    · have e : posK f S x (k + 1) = posK f S x k := by simp only [posK]; rw [if_pos hc]
      rw [e]
      refine ⟨ih.1, fun i h1 h2 => ?_⟩
      rcases Nat.lt_or_ge i k with h3 | h3
      · exact ih.2 i h1 h3
      · obtain rfl : i = k := by omega
        exact hc
    · have e : posK f S x (k + 1) = k + 1 := by simp only [posK]; rw [if_neg hc]
      rw [e]
      refine ⟨fun i hi => ?_, fun i h1 h2 => by omega⟩
      have := h.at_ (show i ≤ k by omega) (by omega)
      omega
theorem insP_sorted (f : Int → Int) (S : List Int) (x : Int) (h : Srt f S) : Srt f (insP f S x) := by
  have hp := posK_spec f S x h S.length (Nat.le_refl _)
  have hl := posK_le f S x S.length
  unfold insP arrT
  generalize posK f S x S.length = t at *
  rw [List.append_nil]
  have h1 : ∀ a ∈ S.take t, f a ≤ f x := fun a ha => by
    obtain ⟨i, hi, rfl⟩ := List.getElem_of_mem ha
    have hi' : i < t := by simp at hi; omega
    have := hp.1 i hi'
    simpa [show i < S.length by omega] using this
  have h2 : ∀ b ∈ S.drop t, f x ≤ f b := fun b hb => by
    obtain ⟨i, hi, rfl⟩ := List.getElem_of_mem hb
    have hi' : t + i < S.length := by simp at hi; omega
    have := hp.2 (t + i) (by omega) hi'
    have e : S.getD (t + i) 0 = (S.drop t)[i] := by simp [hi']
    rw [e] at this
    omega
  have h3 : ∀ a ∈ S.take t, ∀ b ∈ S.drop t, f a ≤ f b := by
    have := h
    unfold Srt at this
    rw [← List.take_append_drop t S, List.pairwise_append] at this
    exact this.2.2
  refine List.pairwise_append.2 ⟨h.sublist (List.take_sublist _ _), List.pairwise_cons.2 ⟨h2, h.sublist (List.drop_sublist _ _)⟩, fun a ha b hb => ?_⟩
  rcases List.mem_cons.1 hb with rfl | hb
  · exact h1 a ha
  · exact h3 a ha b hb
theorem sortK_sorted (f : Int → Int) (zs : List Int) : ∀ k, Srt f (sortK f zs k)
  | 0 => List.Pairwise.nil
  | k + 1 => insP_sorted f _ _ (sortK_sorted f zs k)
theorem sortK_mem (f : Int → Int) (zs : List Int) : ∀ k, k ≤ zs.length → ∀ u ∈ sortK f zs k, u ∈ zs
  | 0, _, u, hu => by simp [sortK] at hu
  | k + 1, hk, u, hu => by
    rcases arrT_mem (show u ∈ arrT (sortK f zs k) (zs.getD k 0) [] _ from hu) with h | rfl | h
    · exact sortK_mem f zs k (by omega) u h
    · exact getD_mem (by omega)
    · simp at h
theorem ssL_size (zs : List Int) (fr : Int) (h : ssB zs fr = true) : (ssL zs fr).length = zs.length := by
  simp only [ssL, h, if_true]
  exact sortK_len _ _ _
theorem ssL_none (zs : List Int) (fr : Int) (h : ssB zs fr = false) : ssL zs fr = [] := by simp [ssL, h]
theorem sort_law (zs : List Int) (fr : Int) (i : Nat) (h : i + 1 < (ssL zs fr).length) :
    ∃ x y a b : Int, (ssL zs fr).getD i 0 = x ∧ (ssL zs fr).getD (i + 1) 0 = y ∧ Hid (serialGapOk fr x = true) ∧ Hid (serialGapR fr x = a) ∧ Hid (serialGapOk fr y = true) ∧ Hid (serialGapR fr y = b) ∧ a ≤ b ∧ Hid (y ∈ zs) := by
  have hok : ssB zs fr = true := by
    cases hs : ssB zs fr
    · rw [ssL_none _ _ hs] at h; simp at h
    · rfl
  have hh := hok
  simp only [ssB, Bool.and_eq_true] at hh
  have hfr := inR_t hh.2
  have hg := goodB_t hh.1
  have e : ssL zs fr = sortK (gapV fr) zs zs.length := by simp [ssL, hok, sortL]
  rw [e] at h ⊢
  have hs := sortK_sorted (gapV fr) zs zs.length
  have hm := sortK_mem (gapV fr) zs zs.length (Nat.le_refl _)
  have hr := sortK_rng (gapV fr) zs (fun i hi => inR_t (hg.2 i hi)) zs.length (Nat.le_refl _)
  generalize sortK (gapV fr) zs zs.length = S at *
  have m1 := getD_mem (zs := S) (i := i) (by omega)
  have m2 := getD_mem (zs := S) (i := i + 1) h
  have o : ∀ u, u ∈ S → serialGapOk fr u = true ∧ serialGapR fr u = gapV fr u := fun u hu => by
    have h1 : serialGapOk fr u = true := by simp only [serialGapOk, Bool.and_eq_true]; exact ⟨inR_y hfr, inR_y (hr u hu)⟩
    exact ⟨h1, by simp [serialGapR, h1]⟩
  exact ⟨_, _, _, _, rfl, rfl, Lib.hid (o _ m1).1, Lib.hid (o _ m1).2, Lib.hid (o _ m2).1, Lib.hid (o _ m2).2, hs.at_ (Nat.le_succ i) h, Lib.hid (hm _ m2)⟩
theorem most_all (a : Int) (zs : List Int) : ∀ x ∈ zs, gapV a x ≤ mostL a zs := by
  have h : ∀ (zs : List Int) (m : Int), m ≤ zs.foldl (fun m x => max m (gapV a x)) m ∧ ∀ x ∈ zs, gapV a x ≤ zs.foldl (fun m x => max m (gapV a x)) m := by
    intro zs
    induction zs with
    | nil => intro m; exact ⟨Int.le_refl _, fun x hx => by simp at hx⟩
    | cons z r ih =>
      intro m
      rw [List.foldl_cons]
      obtain ⟨h1, h2⟩ := ih (max m (gapV a z))
      refine ⟨by omega, fun x hx => ?_⟩
      rcases List.mem_cons.1 hx with rfl | hx
      · omega
      · exact h2 x hx
  exact (h zs 0).2
theorem best_in (zs : List Int) : ∀ k, k + 1 ≤ zs.length → ∃ a, a ∈ zs ∧ bestL zs (k + 1) = (a, mostL a zs + 1)
  | 0, hk => by
    refine ⟨zs.getD 0 0, getD_mem (by omega), ?_⟩
    have hm := (mostL_rng (zs.getD 0 0) zs zs.length (Nat.le_refl _))
    rw [List.take_length] at hm
    rw [bestL_succ zs 0 (by omega), show bestL zs 0 = (0, 65537) from rfl]
    unfold bestS
    rw [if_pos]
    simp only [bestB, Bool.or_eq_true, decide_eq_true_eq]
    left
    omega
  | k + 1, hk => by
    obtain ⟨a, ha, e⟩ := best_in zs k (by omega)
    rw [bestL_succ zs (k + 1) (by omega), e]
    unfold bestS
    split
    · exact ⟨_, getD_mem (by omega), rfl⟩
    · exact ⟨a, ha, rfl⟩
theorem span_law (zs : List Int) (h : spanOk zs = true) :
    ∃ a c : Int, Hid (spanB zs = a) ∧ Hid (spanC zs = c) ∧ Hid (a ∈ zs) ∧ ∀ i, i < zs.length → Hid (inSpanOk (zs.getD i 0) a c = true) ∧ Hid (inSpanR (zs.getD i 0) a c = true) := by
  have hh := h
  simp only [spanOk, Bool.and_eq_true, Bool.not_eq_true', decide_eq_false_iff_not] at hh
  have hg := goodB_t hh.1
  obtain ⟨k, hk⟩ : ∃ k, zs.length = k + 1 := ⟨zs.length - 1, by omega⟩
  obtain ⟨a, ha, e⟩ := best_in zs k (by omega)
  rw [← hk] at e
  have hm := (mostL_rng a zs zs.length (Nat.le_refl _))
  rw [List.take_length] at hm
  have hr : ∀ u ∈ zs, 0 ≤ u ∧ u ≤ 65535 := (goodB_areW hh.1).mem'
  refine ⟨a, mostL a zs + 1, Lib.hid (by simp [spanB, h, e]), Lib.hid (by simp [spanC, h, e]), Lib.hid ha, fun i hi => ?_⟩
  have hx := getD_mem hi
  have hl := most_all a zs _ hx
  have o : inSpanOk (zs.getD i 0) a (mostL a zs + 1) = true := by
    simp only [inSpanOk, Bool.and_eq_true]
    exact ⟨⟨inR_y (hr _ hx), inR_y (hr _ ha)⟩, inR_y ⟨by omega, by omega⟩⟩
  refine ⟨Lib.hid o, Lib.hid ?_⟩
  simp only [inSpanR, o, if_true, decide_eq_true_eq]
  omega
theorem span_none (zs : List Int) (h : spanOk zs = false) : spanB zs = 0 ∧ spanC zs = 0 := ⟨by simp [spanB, h], by simp [spanC, h]⟩
/-- A number that is in the list: yes. -/
theorem c_vHas {H : Nat} (A : Option Addr) (cap : Nat) (zs : List Int) (x : Int) (w : World) (h : Ints w H A zs) (hl : zs.length ≤ 100000000) (hx : x ∈ zs) :
    Calls Try.prog 89 #[.slice A zs.length cap, .int .i64 x] w fun e w' => e = .returned (.bool true) ∧ w = w' := by
  obtain ⟨j, hj, e⟩ := List.getElem_of_mem hx
  have HJ := Lib.hid (show zs.getD j 0 = x by rw [← e]; simp [hj])
  clear hx e
  go_enter Try.func89, Try.ntmps89
  go_wp2
  go_loop [5] (fun i => ∃ k : Nat, k ≤ j ∧ i = .int .i64 k) (fun i => zs.length - (intOf i).toNat)
  case atStart => exact ⟨0, Nat.zero_le _, rfl⟩
  case round =>
    obtain ⟨k, hk, rfl⟩ := hrel
    obtain ⟨ad, rfl, hadb, hc⟩ := h.at_ (show k < zs.length by omega)
    by_cases hq : zs.getD k 0 = x
    · rw [hq] at hc
      have hb : (x == x) = true := by simp
      clear h
      go_wp2
      go_ret
      exact ⟨rfl, rfl⟩
    · have hkj : k < j := by
        rcases Nat.lt_or_ge k j with h1 | h1
        · exact h1
        · obtain rfl : k = j := by omega
          exact absurd HJ.out hq
      have hb : (zs.getD k 0 == x) = false := beq_eq_false_iff_ne.2 hq
      clear h hq
      generalize zs.getD k 0 = y at *
      go_wp2
      go_round
      case rel => exact ⟨k + 1, by omega, by go_num⟩
      case measure => simp [intOf]; omega
end Go.Proofs.Ytkoccbjeoihbiaa
