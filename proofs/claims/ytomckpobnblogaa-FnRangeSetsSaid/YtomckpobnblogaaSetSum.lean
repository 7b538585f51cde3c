/- What adding and removing do to a set's numbers and its size; the next number that it lacks. -/
import Derived.Test.YtomckpobnblogaaHas
import Derived.Test.YtomckpobnblogaaSetLaw
import Derived.Test.YtomckpobnblogaaSpecU
namespace Go.Proofs.Ytomckpobnblogaa
open Go.RowKit
set_option linter.unusedVariables false

theorem sizeL_eq (rs : List (Int × Int)) : sizeL rs = sizeR rs := by
  unfold sizeL sizeR
  have : ∀ (l : List (Int × Int)) (n : Int), l.foldl (fun n r => n + r.2 - r.1 + 1) n = n + (l.map fun r => r.2 - r.1 + 1).sum := by
    intro l
    induction l with
    | nil => intro n; simp
    | cons r t ih =>
      intro n
      rw [List.foldl_cons, ih, List.map_cons, List.sum_cons]
      omega
  rw [this]
  omega
theorem any_has (rs : List (Int × Int)) (x : Int) : rs.any (inP x) = true ↔ hasN rs x := by
  rw [List.any_eq_true]
  unfold hasN inP
  constructor
  · rintro ⟨r, hr, h⟩
    exact ⟨r, hr, inR_t h⟩
  · rintro ⟨r, hr, h⟩
    exact ⟨r, hr, inR_y h⟩
theorem hasR_set {L : List (Int × Int)} (h : setB L = true) {x : Int} (hx : 0 ≤ x ∧ x ≤ 65535) : hasOk L x = true ∧ (hasR L x = true ↔ hasN L x) := by
  have h1 : hasOk L x = true := by unfold hasOk; rw [h, inR_y hx]; rfl
  refine ⟨h1, ?_⟩
  unfold hasR
  rw [h1, Bool.true_and, any_has]
/-- What may be asked: a set and a range of words. -/
theorem uniOk_t {rs : List (Int × Int)} {f t : Int} (h : uniOk rs [(f, t)] = true) : Nf 0 rs ∧ 0 ≤ f ∧ f ≤ t ∧ t ≤ 65535 := by
  simp only [uniOk, Bool.and_eq_true] at h
  have h1 := nf_one.1 (setB_nf0 h.2).1
  exact ⟨(setB_nf0 h.1).1, h1.1, h1.2.1, h1.2.2⟩
theorem sOk_t {c : Bool} {L : List (Int × Int)} (h : sOk c L = true) : c = true ∧ setB L = true ∧ sgl c L = L := by
  simp only [sOk, Bool.and_eq_true] at h
  refine ⟨h.1, h.2, ?_⟩
  unfold sgl sOk
  rw [h.1, h.2]
  rfl
/-- A set with a range added: both ends are in it. -/
theorem add_law {rs : List (Int × Int)} {f t : Int} (h : sOk (uniOk rs [(f, t)]) (addL rs (f, t)) = true) :
    setB (addL rs (f, t)) = true ∧ hasOk (addL rs (f, t)) f = true ∧ hasR (addL rs (f, t)) f = true ∧ hasOk (addL rs (f, t)) t = true ∧ hasR (addL rs (f, t)) t = true ∧ (∀ x, f ≤ x → x ≤ t → hasN (addL rs (f, t)) x) := by
  obtain ⟨h1, h2, _⟩ := sOk_t h
  obtain ⟨hn, f0, ft, t1⟩ := uniOk_t h1
  have e := addL_eq (lo := 0) (r := (f, t)) hn ft
  have hh : ∀ x, f ≤ x → x ≤ t → hasN (addL rs (f, t)) x := fun x hx hy => by
    rw [e]
    exact (addR_has rs 0 (f, t) x hn ft).2 (.inr ⟨hx, hy⟩)
  have hf := hasR_set h2 (x := f) (by omega)
  have ht := hasR_set h2 (x := t) (by omega)
  exact ⟨h2, hf.1, hf.2.2 (hh f (by omega) ft), ht.1, ht.2.2 (hh t ft (by omega)), hh⟩
theorem rem_law {rs : List (Int × Int)} {f t : Int} (h : sOk (uniOk rs [(f, t)]) (remL rs (f, t)) = true) :
    setB (remL rs (f, t)) = true ∧ hasOk (remL rs (f, t)) f = true ∧ hasR (remL rs (f, t)) f = false ∧ hasOk (remL rs (f, t)) t = true ∧ hasR (remL rs (f, t)) t = false := by
  obtain ⟨h1, h2, _⟩ := sOk_t h
  obtain ⟨hn, f0, ft, t1⟩ := uniOk_t h1
  have hh : ∀ x, f ≤ x → x ≤ t → ¬ hasN (remL rs (f, t)) x := fun x hx hy k => ((remL_has rs (f, t) x ft).1 k).2 ⟨hx, hy⟩
  have hf := hasR_set h2 (x := f) (by omega)
  have ht := hasR_set h2 (x := t) (by omega)
  refine ⟨h2, hf.1, ?_, ht.1, ?_⟩
  · rw [Bool.eq_false_iff]
    exact fun k => hh f (by omega) ft (hf.2.1 k)
  · rw [Bool.eq_false_iff]
    exact fun k => hh t ft (by omega) (ht.2.1 k)
theorem size_law {rs : List (Int × Int)} {f t : Int} (h : sOk (uniOk rs [(f, t)]) (addL rs (f, t)) = true) (k : sOk (uniOk rs [(f, t)]) (remL rs (f, t)) = true) :
    setSizeR (addL rs (f, t)) - setSizeR (remL rs (f, t)) = t - f + 1 := by
  obtain ⟨h1, h2, _⟩ := sOk_t h
  obtain ⟨_, k2, _⟩ := sOk_t k
  obtain ⟨hn, f0, ft, t1⟩ := uniOk_t h1
  have e := addL_eq (lo := 0) (r := (f, t)) hn ft
  unfold setSizeR
  rw [h2, k2, if_pos rfl, if_pos rfl, sizeL_eq, sizeL_eq]
  have hu := (setB_nf0 h2).1
  have hr := (setB_nf0 k2).1
  have := sizeR_two (a := remL rs (f, t)) (b := [(f, t)]) (u := addL rs (f, t)) (v := []) hr (nf_one.2 ⟨f0, ft, t1⟩) hu trivial (fun x => by
    rw [e, addR_has rs 0 (f, t) x hn ft, remL_has rs (f, t) x ft, hasN_cons]
    simp only [hasN_nil, or_false]
    constructor
    · rintro (a | a)
      · by_cases c : f ≤ x ∧ x ≤ t
        · exact .inr c
        · exact .inl ⟨a, c⟩
      · exact .inr a
    · rintro (a | a)
      · exact .inl a.1
      · exact .inr a) (fun x => by
    rw [remL_has rs (f, t) x ft, hasN_cons]
    simp only [hasN_nil, or_false, false_iff]
    exact fun a => a.1.2 a.2)
  have e1 : sizeR [(f, t)] = t - f + 1 := by simp [sizeR]
  have e2 : sizeR [] = 0 := rfl
  rw [e1, e2] at this
  omega
/-! The next number that a set lacks. -/
theorem nextL_low : ∀ (rs : List (Int × Int)) (lo x : Int), Nf lo rs → x < lo → nextL x rs = x
  | [], _, _, _, _ => rfl
  | r :: t, lo, x, h, hx => by
    have h0 := h.1
    have h1 := h.2.1
    have e : stepN x r = x := by unfold stepN; rw [inR_n (by omega)]; rfl
    show nextL (stepN x r) t = x
    rw [e]
    exact nextL_low t (r.2 + 2) x h.2.2.2 (by omega)
theorem nextL_law : ∀ (rs : List (Int × Int)) (lo x : Int), Nf lo rs → x ≤ nextL x rs ∧ ¬ hasN rs (nextL x rs)
  | [], _, x, _ => ⟨Int.le_refl _, hasN_nil _⟩
  | r :: t, lo, x, h => by
    have h1 := h.2.1
    show x ≤ nextL (stepN x r) t ∧ ¬ hasN (r :: t) (nextL (stepN x r) t)
    have ih := nextL_law t (r.2 + 2) (stepN x r) h.2.2.2
    rw [hasN_cons]
    by_cases hc : r.1 ≤ x ∧ x ≤ r.2
    · have e : stepN x r = r.2 + 1 := by unfold stepN; rw [inR_y hc]; rfl
      rw [e] at ih ⊢
      exact ⟨by omega, fun k => k.elim (fun k => by omega) ih.2⟩
    · have e : stepN x r = x := by unfold stepN; rw [inR_n hc]; rfl
      rw [e] at ih ⊢
      refine ⟨ih.1, fun k => k.elim (fun k => ?_) ih.2⟩
      by_cases hx : x < r.1
      · have := nextL_low t (r.2 + 2) x h.2.2.2 (by omega)
        omega
      · omega
theorem next_law {rs : List (Int × Int)} {x : Int} (h : nextOk rs x = true) : setB rs = true ∧ (0 ≤ x ∧ x ≤ 65535) ∧ (0 ≤ nextR rs x ∧ nextR rs x ≤ 65535) ∧ x ≤ nextR rs x ∧ ¬ hasN rs (nextR rs x) := by
  have h0 := h
  simp only [nextOk, Bool.and_eq_true] at h0
  obtain ⟨⟨h1, h2⟩, h3⟩ := h0
  have e : nextR rs x = nextL x rs := by unfold nextR; rw [if_pos h]
  rw [e]
  have := nextL_law rs 0 x (setB_nf0 h1).1
  exact ⟨h1, inR_t h2, inR_t h3, this.1, this.2⟩
/-- The next one behind an added range's beginning lies behind its end. -/
theorem add_next {rs : List (Int × Int)} {f t : Int} (h : sOk (uniOk rs [(f, t)]) (addL rs (f, t)) = true) : (nextOk (addL rs (f, t)) f && decide (nextR (addL rs (f, t)) f ≤ t)) = false := by
  rw [Bool.eq_false_iff]
  intro k
  simp only [Bool.and_eq_true, decide_eq_true_eq] at k
  obtain ⟨_, _, _, h4, h5⟩ := next_law k.1
  exact h5 ((add_law h).2.2.2.2.2 _ h4 k.2)
/-- The next missing number is no number of the set. -/
theorem next_has {rs : List (Int × Int)} {x : Int} (h : nextOk rs x = true) : hasOk rs (nextR rs x) = true ∧ hasR rs (nextR rs x) = false ∧ x ≤ nextR rs x := by
  obtain ⟨h1, _, h3, h4, h5⟩ := next_law h
  have := hasR_set h1 h3
  refine ⟨this.1, ?_, h4⟩
  rw [Bool.eq_false_iff]
  exact fun k => h5 (this.2.1 k)
end Go.Proofs.Ytomckpobnblogaa
