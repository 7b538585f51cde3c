/- Sets of numbers as rising lists of ranges: what adding, removing, merging, turning round make of them. No program's text. -/
import Derived.WalkKit
namespace Go.Proofs.YtlammcoiaeodfaaGreatDoor

/-- Rising ranges of words from lo on, none next to another. -/
def Nf : Int → List (Int × Int) → Prop
  | _, [] => True
  | lo, r :: t => lo ≤ r.1 ∧ r.1 ≤ r.2 ∧ r.2 ≤ 65535 ∧ Nf (r.2 + 2) t
/-- x lies in one of the ranges. -/
def hasN (rs : List (Int × Int)) (x : Int) : Prop := ∃ r ∈ rs, r.1 ≤ x ∧ x ≤ r.2
theorem hasN_nil (x : Int) : ¬ hasN [] x := by rintro ⟨r, h, _⟩; simp at h
theorem hasN_cons (r : Int × Int) (t : List (Int × Int)) (x : Int) : hasN (r :: t) x ↔ (r.1 ≤ x ∧ x ≤ r.2) ∨ hasN t x := by
  unfold hasN
  simp only [List.mem_cons]
  constructor
  · rintro ⟨q, rfl | hq, h⟩
    · exact .inl h
    · exact .inr ⟨q, hq, h⟩
  · rintro (h | ⟨q, hq, h⟩)
    · exact ⟨r, .inl rfl, h⟩
    · exact ⟨q, .inr hq, h⟩
theorem hasN_append (a b : List (Int × Int)) (x : Int) : hasN (a ++ b) x ↔ hasN a x ∨ hasN b x := by
  induction a with
  | nil => simp [hasN_nil]
  | cons r t ih => rw [List.cons_append, hasN_cons, hasN_cons, ih, or_assoc]
theorem Nf.weak {lo lo' : Int} {rs : List (Int × Int)} (h : Nf lo rs) (hl : lo' ≤ lo) : Nf lo' rs := by
  cases rs with
  | nil => trivial
  | cons r t => exact ⟨by have := h.1; omega, h.2⟩
theorem Nf.ge : ∀ {rs : List (Int × Int)} {lo : Int}, Nf lo rs → ∀ x, hasN rs x → lo ≤ x ∧ x ≤ 65535
  | [], _, _, x, hx => absurd hx (hasN_nil x)
  | r :: t, lo, h, x, hx => by
    rcases (hasN_cons r t x).1 hx with h1 | h1
    · have := h.1; have := h.2.2.1; omega
    · have := Nf.ge h.2.2.2 x h1; have := h.1; have := h.2.1; omega
/-- Two such lists with the same numbers are one. -/
theorem Nf.ext : ∀ {rs qs : List (Int × Int)} {lo lo' : Int}, Nf lo rs → Nf lo' qs → (∀ x, hasN rs x ↔ hasN qs x) → rs = qs
  | [], [], _, _, _, _, _ => rfl
  | [], q :: u, _, _, _, hq, h => absurd ((h q.1).2 ((hasN_cons q u q.1).2 (.inl ⟨Int.le_refl _, hq.2.1⟩))) (hasN_nil _)
  | r :: t, [], _, _, hr, _, h => absurd ((h r.1).1 ((hasN_cons r t r.1).2 (.inl ⟨Int.le_refl _, hr.2.1⟩))) (hasN_nil _)
  | r :: t, q :: u, lo, lo', hr, hq, h => by
    obtain ⟨r0, r1, r2, r3⟩ := hr
    obtain ⟨q0, q1, q2, q3⟩ := hq
    have rr : Nf r.1 (r :: t) := ⟨Int.le_refl _, r1, r2, r3⟩
    have qq : Nf q.1 (q :: u) := ⟨Int.le_refl _, q1, q2, q3⟩
    have a1 := qq.ge r.1 ((h r.1).1 ((hasN_cons r t r.1).2 (.inl ⟨Int.le_refl _, r1⟩)))
    have a2 := rr.ge q.1 ((h q.1).2 ((hasN_cons q u q.1).2 (.inl ⟨Int.le_refl _, q1⟩)))
    have e1 : r.1 = q.1 := by omega
    have e2 : r.2 = q.2 := by
      by_cases c1 : r.2 < q.2
      · rcases (hasN_cons r t (r.2 + 1)).1 ((h (r.2 + 1)).2 ((hasN_cons q u _).2 (.inl (by omega)))) with k | k
        · omega
        · have := r3.ge _ k; omega
      · by_cases c2 : q.2 < r.2
        · rcases (hasN_cons q u (q.2 + 1)).1 ((h (q.2 + 1)).1 ((hasN_cons r t _).2 (.inl (by omega)))) with k | k
          · omega
          · have := q3.ge _ k; omega
        · omega
    have e3 : t = u := Nf.ext r3 q3 (fun x => by
      have hx := h x
      rw [hasN_cons, hasN_cons, e1, e2] at hx
      constructor
      · intro k
        rcases hx.1 (.inr k) with k' | k'
        · have := r3.ge x k; omega
        · exact k'
      · intro k
        rcases hx.2 (.inr k) with k' | k'
        · have := q3.ge x k; omega
        · exact k')
    rw [e3, show r = q from Prod.ext e1 e2]

/-! Adding a range. -/
def addStep (st : List (Int × Int) × Bool × (Int × Int)) (e : Int × Int) : List (Int × Int) × Bool × (Int × Int) :=
  if e.2 + 1 < st.2.2.1 then (st.1 ++ [e], st.2.1, st.2.2)
  else if st.2.2.2 + 1 < e.1 then ((if st.2.1 then st.1 else st.1 ++ [st.2.2]) ++ [e], true, st.2.2)
  else (st.1, st.2.1, (min st.2.2.1 e.1, max st.2.2.2 e.2))
def addEnd (st : List (Int × Int) × Bool × (Int × Int)) : List (Int × Int) := if st.2.1 then st.1 else st.1 ++ [st.2.2]
def addL (s : List (Int × Int)) (r : Int × Int) : List (Int × Int) := addEnd (s.foldl addStep ([], false, r))
def addR : List (Int × Int) → (Int × Int) → List (Int × Int)
  | [], r => [r]
  | e :: t, r => if e.2 + 1 < r.1 then e :: addR t r else if r.2 + 1 < e.1 then r :: e :: t else addR t (min r.1 e.1, max r.2 e.2)
theorem add_done : ∀ (s : List (Int × Int)) (lo : Int) (out : List (Int × Int)) (r : Int × Int), Nf lo s → r.2 + 1 < lo → r.1 ≤ r.2 → addEnd (s.foldl addStep (out, true, r)) = out ++ s
  | [], _, out, r, _, _, _ => by simp [addEnd]
  | e :: t, lo, out, r, h, hl, hr => by
    obtain ⟨h0, h1, h2, h3⟩ := h
    rw [List.foldl_cons, show addStep (out, true, r) e = (out ++ [e], true, r) from by simp only [addStep]; rw [if_neg (by omega), if_pos (by omega)]; simp, add_done t (e.2 + 2) _ r h3 (by omega) hr]
    simp
theorem add_eq : ∀ (s : List (Int × Int)) (lo : Int) (out : List (Int × Int)) (r : Int × Int), Nf lo s → r.1 ≤ r.2 → addEnd (s.foldl addStep (out, false, r)) = out ++ addR s r
  | [], _, out, r, _, _ => by simp [addEnd, addR]
  | e :: t, lo, out, r, h, hr => by
    obtain ⟨h0, h1, h2, h3⟩ := h
    by_cases c1 : e.2 + 1 < r.1
    · rw [List.foldl_cons, show addStep (out, false, r) e = (out ++ [e], false, r) from by simp only [addStep]; rw [if_pos c1], add_eq t _ _ r h3 hr, addR, if_pos c1]
      simp
    · by_cases c2 : r.2 + 1 < e.1
      · rw [List.foldl_cons, show addStep (out, false, r) e = (out ++ [r] ++ [e], true, r) from by simp only [addStep]; rw [if_neg c1, if_pos c2]; simp, add_done t (e.2 + 2) _ r h3 (by omega) hr, addR, if_neg c1, if_pos c2]
        simp
      · rw [List.foldl_cons, show addStep (out, false, r) e = (out, false, (min r.1 e.1, max r.2 e.2)) from by simp only [addStep]; rw [if_neg c1, if_neg c2], add_eq t _ _ _ h3 (by simp only []; omega), addR, if_neg c1, if_neg c2]
theorem addL_eq {s : List (Int × Int)} {lo : Int} {r : Int × Int} (h : Nf lo s) (hr : r.1 ≤ r.2) : addL s r = addR s r := by
  have := add_eq s lo [] r h hr
  simpa [addL] using this
theorem addR_nf : ∀ (s : List (Int × Int)) (lo : Int) (r : Int × Int), Nf lo s → lo ≤ r.1 → r.1 ≤ r.2 → r.2 ≤ 65535 → Nf lo (addR s r)
  | [], lo, r, _, h1, h2, h3 => ⟨h1, h2, h3, trivial⟩
  | e :: t, lo, r, h, h1, h2, h3 => by
    obtain ⟨e0, e1, e2, e3⟩ := h
    unfold addR
    by_cases c1 : e.2 + 1 < r.1
    · rw [if_pos c1]
      exact ⟨e0, e1, e2, addR_nf t _ r e3 (by omega) h2 h3⟩
    · rw [if_neg c1]
      by_cases c2 : r.2 + 1 < e.1
      · rw [if_pos c2]
        exact ⟨h1, h2, h3, by omega, e1, e2, e3⟩
      · rw [if_neg c2]
        exact addR_nf t lo _ (e3.weak (by omega)) (by simp only []; omega) (by simp only []; omega) (by simp only []; omega)
theorem addR_has : ∀ (s : List (Int × Int)) (lo : Int) (r : Int × Int) (x : Int), Nf lo s → r.1 ≤ r.2 → (hasN (addR s r) x ↔ hasN s x ∨ (r.1 ≤ x ∧ x ≤ r.2))
  | [], _, r, x, _, _ => by
    unfold addR
    rw [hasN_cons]
    simp [hasN_nil]
  | e :: t, lo, r, x, h, h2 => by
    obtain ⟨e0, e1, e2, e3⟩ := h
    unfold addR
    by_cases c1 : e.2 + 1 < r.1
    · rw [if_pos c1, hasN_cons, addR_has t _ r x e3 h2, hasN_cons, or_assoc]
    · rw [if_neg c1]
      by_cases c2 : r.2 + 1 < e.1
      · rw [if_pos c2, hasN_cons r]
        constructor
        · rintro (h | h)
          · exact .inr h
          · exact .inl h
        · rintro (h | h)
          · exact .inr h
          · exact .inl h
      · rw [if_neg c2, addR_has t _ _ x e3 (by simp only []; omega), hasN_cons]
        simp only []
        constructor
        · rintro (h | h)
          · exact .inl (.inr h)
          · by_cases k : e.1 ≤ x ∧ x ≤ e.2
            · exact .inl (.inl k)
            · exact .inr (by omega)
        · rintro ((h | h) | h)
          · exact .inr (by omega)
          · exact .inl h
          · exact .inr (by omega)

/-! Removing a range. -/
def remP (r e : Int × Int) : List (Int × Int) := (if e.1 < r.1 then [(e.1, min e.2 (r.1 - 1))] else []) ++ (if r.2 < e.2 then [(max e.1 (r.2 + 1), e.2)] else [])
def remL (s : List (Int × Int)) (r : Int × Int) : List (Int × Int) := s.flatMap (remP r)
theorem remL_cons (e : Int × Int) (t : List (Int × Int)) (r : Int × Int) : remL (e :: t) r = remP r e ++ remL t r := by simp [remL]
theorem remL_nf : ∀ (s : List (Int × Int)) (lo : Int) (r : Int × Int), Nf lo s → r.1 ≤ r.2 → Nf lo (remL s r)
  | [], _, _, _, _ => trivial
  | e :: t, lo, r, h, hr => by
    obtain ⟨e0, e1, e2, e3⟩ := h
    have ih := remL_nf t _ r e3 hr
    rw [remL_cons]
    unfold remP
    by_cases c1 : e.1 < r.1
    · rw [if_pos c1]
      by_cases c2 : r.2 < e.2
      · rw [if_pos c2]
        exact ⟨by simp only []; omega, by simp only []; omega, by simp only []; omega, by simp only []; omega, by simp only []; omega, by simp only []; omega, ih⟩
      · rw [if_neg c2]
        exact ⟨by simp only []; omega, by simp only []; omega, by simp only []; omega, ih.weak (by simp only []; omega)⟩
    · rw [if_neg c1]
      by_cases c2 : r.2 < e.2
      · rw [if_pos c2]
        exact ⟨by simp only []; omega, by simp only []; omega, by simp only []; omega, ih⟩
      · rw [if_neg c2]
        exact ih.weak (by omega)
theorem remP_has (r e : Int × Int) (x : Int) (hr : r.1 ≤ r.2) : hasN (remP r e) x ↔ (e.1 ≤ x ∧ x ≤ e.2) ∧ ¬ (r.1 ≤ x ∧ x ≤ r.2) := by
  unfold remP
  rw [hasN_append]
  by_cases c1 : e.1 < r.1
  · rw [if_pos c1]
    by_cases c2 : r.2 < e.2
    · rw [if_pos c2, hasN_cons, hasN_cons]
      simp only [hasN_nil, or_false]
      omega
    · rw [if_neg c2, hasN_cons]
      simp only [hasN_nil, or_false]
      omega
  · rw [if_neg c1]
    by_cases c2 : r.2 < e.2
    · rw [if_pos c2, hasN_cons]
      simp only [hasN_nil, or_false, false_or]
      omega
    · rw [if_neg c2]
      simp only [hasN_nil, or_false, false_iff]
      omega
theorem remL_has : ∀ (s : List (Int × Int)) (r : Int × Int) (x : Int), r.1 ≤ r.2 → (hasN (remL s r) x ↔ hasN s x ∧ ¬ (r.1 ≤ x ∧ x ≤ r.2))
  | [], r, x, _ => by simp [remL, hasN_nil]
  | e :: t, r, x, hr => by
    rw [remL_cons, hasN_append, remP_has r e x hr, remL_has t r x hr, hasN_cons]
    constructor
    · rintro (h | h)
      · exact ⟨.inl h.1, h.2⟩
      · exact ⟨.inr h.1, h.2⟩
    · rintro ⟨h | h, k⟩
      · exact .inl ⟨h, k⟩
      · exact .inr ⟨h, k⟩
/-- All of a list of ranges added, removed. -/
def addAll (s qs : List (Int × Int)) : List (Int × Int) := qs.foldl addL s
def remAll (s qs : List (Int × Int)) : List (Int × Int) := qs.foldl remL s
theorem addAll_law : ∀ (qs s : List (Int × Int)), Nf 0 s → (∀ q ∈ qs, 0 ≤ q.1 ∧ q.1 ≤ q.2 ∧ q.2 ≤ 65535) → Nf 0 (addAll s qs) ∧ ∀ x, hasN (addAll s qs) x ↔ hasN s x ∨ hasN qs x
  | [], s, h, _ => ⟨h, fun x => by simp [addAll, hasN_nil]⟩
  | q :: t, s, h, hq => by
    obtain ⟨q0, q1, q2⟩ := hq q (by simp)
    have e := addL_eq h q1
    have ih := addAll_law t (addL s q) (by rw [e]; exact addR_nf s 0 q h q0 q1 q2) (fun p hp => hq p (by simp [hp]))
    refine ⟨ih.1, fun x => ?_⟩
    rw [show addAll s (q :: t) = addAll (addL s q) t from rfl, ih.2, e, addR_has s 0 q x h q1, hasN_cons, or_assoc]
theorem remAll_law : ∀ (qs s : List (Int × Int)), Nf 0 s → (∀ q ∈ qs, q.1 ≤ q.2) → Nf 0 (remAll s qs) ∧ ∀ x, hasN (remAll s qs) x ↔ hasN s x ∧ ¬ hasN qs x
  | [], s, h, _ => ⟨h, fun x => by simp [remAll, hasN_nil]⟩
  | q :: t, s, h, hq => by
    have q1 := hq q (by simp)
    have ih := remAll_law t (remL s q) (remL_nf s 0 q h q1) (fun p hp => hq p (by simp [hp]))
    refine ⟨ih.1, fun x => ?_⟩
    rw [show remAll s (q :: t) = remAll (remL s q) t from rfl, ih.2, remL_has s q x q1, hasN_cons]
    constructor
    · rintro ⟨⟨h1, h2⟩, h3⟩
      exact ⟨h1, fun k => k.elim h2 h3⟩
    · rintro ⟨h1, h2⟩
      exact ⟨⟨h1, fun k => h2 (.inl k)⟩, fun k => h2 (.inr k)⟩
theorem Nf.all : ∀ {rs : List (Int × Int)} {lo : Int}, Nf lo rs → ∀ q ∈ rs, lo ≤ q.1 ∧ q.1 ≤ q.2 ∧ q.2 ≤ 65535
  | [], _, _, q, hq => by simp at hq
  | r :: t, lo, h, q, hq => by
    rcases List.mem_cons.1 hq with rfl | hq
    · exact ⟨h.1, h.2.1, h.2.2.1⟩
    · have := Nf.all h.2.2.2 q hq
      have h1 := h.1
      have h2 := h.2.1
      exact ⟨by omega, this.2⟩

/-! Ranges in the order of their beginnings, merged. -/
def mergeStep (out : List (Int × Int)) (r : Int × Int) : List (Int × Int) :=
  match out.getLast? with
  | none => out ++ [r]
  | some l => if r.1 ≤ l.2 + 1 then out.dropLast ++ [(l.1, max l.2 r.2)] else out ++ [r]
def mergeL (s : List (Int × Int)) : List (Int × Int) := s.foldl mergeStep []
def mergeR : (Int × Int) → List (Int × Int) → List (Int × Int)
  | c, [] => [c]
  | c, r :: t => if r.1 ≤ c.2 + 1 then mergeR (c.1, max c.2 r.2) t else c :: mergeR r t
theorem merge_eq : ∀ (t out : List (Int × Int)) (c : Int × Int), t.foldl mergeStep (out ++ [c]) = out ++ mergeR c t
  | [], out, c => rfl
  | r :: t, out, c => by
    rw [List.foldl_cons]
    unfold mergeR
    by_cases h : r.1 ≤ c.2 + 1
    · rw [if_pos h, show mergeStep (out ++ [c]) r = out ++ [(c.1, max c.2 r.2)] from by simp [mergeStep, h], merge_eq t out]
    · rw [if_neg h, show mergeStep (out ++ [c]) r = (out ++ [c]) ++ [r] from by simp [mergeStep, h], merge_eq t (out ++ [c])]
      simp
/-- In the order of their beginnings, from lo on. -/
def Rise : Int → List (Int × Int) → Prop
  | _, [] => True
  | lo, r :: t => lo ≤ r.1 ∧ r.1 ≤ r.2 ∧ r.2 ≤ 65535 ∧ Rise r.1 t
theorem mergeR_law : ∀ (t : List (Int × Int)) (c : Int × Int) (lo : Int), lo ≤ c.1 → c.1 ≤ c.2 → c.2 ≤ 65535 → Rise c.1 t →
    Nf lo (mergeR c t) ∧ ∀ x, hasN (mergeR c t) x ↔ (c.1 ≤ x ∧ x ≤ c.2) ∨ hasN t x
  | [], c, lo, h0, h1, h2, _ => ⟨⟨h0, h1, h2, trivial⟩, fun x => by unfold mergeR; rw [hasN_cons]⟩
  | r :: t, c, lo, h0, h1, h2, h => by
    obtain ⟨r0, r1, r2, r3⟩ := h
    unfold mergeR
    by_cases k : r.1 ≤ c.2 + 1
    · rw [if_pos k]
      have r3' : Rise c.1 t := by
        cases t with
        | nil => trivial
        | cons e t => exact ⟨by have := r3.1; omega, r3.2⟩
      have ih := mergeR_law t (c.1, max c.2 r.2) lo h0 (by simp only []; omega) (by simp only []; omega) r3'
      refine ⟨ih.1, fun x => ?_⟩
      rw [ih.2, hasN_cons]
      simp only []
      constructor
      · rintro (h | h)
        · by_cases q : c.1 ≤ x ∧ x ≤ c.2
          · exact .inl q
          · exact .inr (.inl (by omega))
        · exact .inr (.inr h)
      · rintro (h | h | h)
        · exact .inl (by omega)
        · exact .inl (by omega)
        · exact .inr h
    · rw [if_neg k]
      have ih := mergeR_law t r (c.2 + 2) (by omega) r1 r2 r3
      refine ⟨⟨h0, h1, h2, ih.1⟩, fun x => ?_⟩
      rw [hasN_cons, ih.2, hasN_cons]
theorem mergeL_law {s : List (Int × Int)} (h : Rise 0 s) : Nf 0 (mergeL s) ∧ ∀ x, hasN (mergeL s) x ↔ hasN s x := by
  cases s with
  | nil => exact ⟨trivial, fun x => Iff.rfl⟩
  | cons r t =>
    obtain ⟨h0, h1, h2, h3⟩ := h
    have e : mergeL (r :: t) = mergeR r t := by
      have := merge_eq t [] r
      simpa [mergeL, mergeStep] using this
    have := mergeR_law t r 0 h0 h1 h2 h3
    rw [e]
    exact ⟨this.1, fun x => by rw [this.2, hasN_cons]⟩
/-- Sorted by their beginnings. -/
theorem rise_of_sorted : ∀ (s : List (Int × Int)) (lo : Int), s.Pairwise (fun a b => a.1 ≤ b.1) → (∀ q ∈ s, lo ≤ q.1 ∧ q.1 ≤ q.2 ∧ q.2 ≤ 65535) → Rise lo s
  | [], _, _, _ => trivial
  | r :: t, lo, hs, hq => by
    have h := hq r (by simp)
    rw [List.pairwise_cons] at hs
    exact ⟨h.1, h.2.1, h.2.2, rise_of_sorted t r.1 hs.2 (fun q hqt => ⟨hs.1 q hqt, (hq q (by simp [hqt])).2⟩)⟩
theorem hasN_perm {a b : List (Int × Int)} (h : a.Perm b) (x : Int) : hasN a x ↔ hasN b x := by
  unfold hasN
  constructor
  · rintro ⟨r, hr, k⟩; exact ⟨r, h.mem_iff.1 hr, k⟩
  · rintro ⟨r, hr, k⟩; exact ⟨r, h.mem_iff.2 hr, k⟩

/-! The numbers that a set does not have. -/
def oppStep (st : List (Int × Int) × Int) (r : Int × Int) : List (Int × Int) × Int := (if st.2 < r.1 then st.1 ++ [(st.2, r.1 - 1)] else st.1, r.2 + 1)
def oppEnd (st : List (Int × Int) × Int) : List (Int × Int) := if st.2 ≤ 65535 then st.1 ++ [(st.2, 65535)] else st.1
def oppL (s : List (Int × Int)) : List (Int × Int) := oppEnd (s.foldl oppStep ([], 0))
def oppR : Int → List (Int × Int) → List (Int × Int)
  | f, [] => if f ≤ 65535 then [(f, 65535)] else []
  | f, r :: t => (if f < r.1 then [(f, r.1 - 1)] else []) ++ oppR (r.2 + 1) t
theorem opp_eq : ∀ (s out : List (Int × Int)) (f : Int), oppEnd (s.foldl oppStep (out, f)) = out ++ oppR f s
  | [], out, f => by
    show (if f ≤ 65535 then out ++ [(f, 65535)] else out) = out ++ (if f ≤ 65535 then [(f, 65535)] else [])
    by_cases h : f ≤ 65535
    · rw [if_pos h, if_pos h]
    · rw [if_neg h, if_neg h, List.append_nil]
  | r :: t, out, f => by
    have e : oppR f (r :: t) = (if f < r.1 then [(f, r.1 - 1)] else []) ++ oppR (r.2 + 1) t := rfl
    rw [List.foldl_cons, e]
    by_cases h : f < r.1
    · rw [show oppStep (out, f) r = (out ++ [(f, r.1 - 1)], r.2 + 1) from by simp only [oppStep]; rw [if_pos h], opp_eq t, if_pos h, List.append_assoc]
    · rw [show oppStep (out, f) r = (out, r.2 + 1) from by simp only [oppStep]; rw [if_neg h], opp_eq t, if_neg h, List.nil_append]
theorem oppL_eq (s : List (Int × Int)) : oppL s = oppR 0 s := by simpa [oppL] using opp_eq s [] 0
theorem oppR_law : ∀ (s : List (Int × Int)) (f : Int), Nf f s → f ≤ 65536 → Nf f (oppR f s) ∧ ∀ x, hasN (oppR f s) x ↔ (f ≤ x ∧ x ≤ 65535) ∧ ¬ hasN s x
  | [], f, _, hf => by
    unfold oppR
    by_cases h : f ≤ 65535
    · rw [if_pos h]
      refine ⟨⟨Int.le_refl _, h, Int.le_refl _, trivial⟩, fun x => ?_⟩
      rw [hasN_cons]
      simp only [hasN_nil, or_false, not_false_eq_true, and_true]
    · rw [if_neg h]
      refine ⟨trivial, fun x => ?_⟩
      simp only [hasN_nil, not_false_eq_true, and_true, false_iff]
      omega
  | r :: t, f, h, hf => by
    obtain ⟨r0, r1, r2, r3⟩ := h
    have ih := oppR_law t (r.2 + 1) (r3.weak (by omega)) (by omega)
    have key : ∀ x, ((f ≤ x ∧ x ≤ r.1 - 1) ∨ hasN (oppR (r.2 + 1) t) x) ↔ (f ≤ x ∧ x ≤ 65535) ∧ ¬ hasN (r :: t) x := by
      intro x
      rw [ih.2, hasN_cons]
      constructor
      · rintro (k | ⟨k1, k2⟩)
        · exact ⟨by omega, fun q => q.elim (fun q => by omega) (fun q => by have := r3.ge x q; omega)⟩
        · exact ⟨by omega, fun q => q.elim (fun q => by omega) k2⟩
      · rintro ⟨k1, k2⟩
        by_cases q : x ≤ r.1 - 1
        · exact .inl ⟨k1.1, q⟩
        · refine .inr ⟨⟨?_, k1.2⟩, fun q' => k2 (.inr q')⟩
          by_cases q2 : x ≤ r.2
          · exact absurd (.inl ⟨by omega, q2⟩) k2
          · omega
    unfold oppR
    by_cases c : f < r.1
    · rw [if_pos c]
      refine ⟨⟨Int.le_refl _, by simp only []; omega, by simp only []; omega, ih.1.weak (by simp only []; omega)⟩, fun x => ?_⟩
      rw [List.singleton_append, hasN_cons]
      exact key x
    · rw [if_neg c]
      refine ⟨ih.1.weak (by omega), fun x => ?_⟩
      rw [List.nil_append, ← key x]
      constructor
      · exact .inr
      · rintro (k | k)
        · omega
        · exact k
theorem oppL_law {s : List (Int × Int)} (h : Nf 0 s) : Nf 0 (oppL s) ∧ ∀ x, hasN (oppL s) x ↔ (0 ≤ x ∧ x ≤ 65535) ∧ ¬ hasN s x := by
  rw [oppL_eq]
  exact oppR_law s 0 h (by omega)

/-! The size of a set: how many numbers it has. -/
def sizeR (rs : List (Int × Int)) : Int := (rs.map fun r => r.2 - r.1 + 1).sum
def inB (rs : List (Int × Int)) (n : Nat) : Bool := rs.any fun r => decide (r.1 ≤ (n : Int)) && decide ((n : Int) ≤ r.2)
theorem inB_iff (rs : List (Int × Int)) (n : Nat) : inB rs n = true ↔ hasN rs (n : Int) := by
  unfold inB hasN
  simp
def cntR (m : Nat) (p : Nat → Bool) : Nat := (List.range m).countP p
theorem cntR_succ (m : Nat) (p : Nat → Bool) : cntR (m + 1) p = cntR m p + (if p m then 1 else 0) := by
  unfold cntR
  rw [List.range_succ, List.countP_append]
  simp [List.countP_cons]
theorem cntR_congr {m : Nat} {p q : Nat → Bool} (h : ∀ n, n < m → p n = q n) : cntR m p = cntR m q := by
  induction m with
  | zero => rfl
  | succ m ih => rw [cntR_succ, cntR_succ, ih (fun n hn => h n (by omega)), h m (by omega)]
theorem cntR_two {m : Nat} (p q : Nat → Bool) : cntR m (fun n => p n || q n) + cntR m (fun n => p n && q n) = cntR m p + cntR m q := by
  induction m with
  | zero => rfl
  | succ m ih =>
    rw [cntR_succ, cntR_succ, cntR_succ, cntR_succ]
    cases p m <;> cases q m <;> simp <;> omega
theorem cntR_false (m : Nat) : cntR m (fun _ => false) = 0 := by
  induction m with
  | zero => rfl
  | succ m ih => rw [cntR_succ, ih]; rfl
theorem cntR_range (a b : Int) (h0 : 0 ≤ a) (h1 : a ≤ b) : ∀ m : Nat, (cntR m (fun n => decide (a ≤ (n : Int)) && decide ((n : Int) ≤ b)) : Int) = if (m : Int) ≤ a then 0 else if (m : Int) ≤ b then (m : Int) - a else b - a + 1
  | 0 => by rw [if_pos (by omega)]; rfl
  | m + 1 => by
    have ih := cntR_range a b h0 h1 m
    have hs := cntR_succ m (fun n => decide (a ≤ (n : Int)) && decide ((n : Int) ≤ b))
    generalize cntR (m + 1) (fun n => decide (a ≤ (n : Int)) && decide ((n : Int) ≤ b)) = x at *
    generalize cntR m (fun n => decide (a ≤ (n : Int)) && decide ((n : Int) ≤ b)) = y at *
    by_cases c1 : a ≤ (m : Int)
    · by_cases c2 : (m : Int) ≤ b
      · simp [c1, c2] at hs
        subst hs
        push_cast
        rw [ih]
        split <;> split <;> (try split) <;> omega
      · simp [c2] at hs
        subst hs
        rw [ih]
        push_cast
        split <;> split <;> (try split) <;> (try split) <;> omega
    · simp [c1] at hs
      subst hs
      rw [ih]
      push_cast
      split <;> split <;> (try split) <;> omega
theorem sizeR_cnt : ∀ (rs : List (Int × Int)) (lo : Int), 0 ≤ lo → Nf lo rs → sizeR rs = (cntR 65536 (inB rs) : Int)
  | [], _, _, _ => by
    rw [show inB [] = fun _ => false from by funext n; rfl, cntR_false]
    rfl
  | r :: t, lo, hlo, h => by
    obtain ⟨h0, h1, h2, h3⟩ := h
    have ih := sizeR_cnt t (r.2 + 2) (by omega) h3
    have e1 := cntR_two (m := 65536) (fun n : Nat => decide (r.1 ≤ (n : Int)) && decide ((n : Int) ≤ r.2)) (inB t)
    have e2 : cntR 65536 (fun n : Nat => (decide (r.1 ≤ (n : Int)) && decide ((n : Int) ≤ r.2)) && inB t n) = 0 := by
      rw [← cntR_false 65536]
      refine cntR_congr fun n _ => ?_
      rw [Bool.eq_false_iff]
      intro k
      simp only [Bool.and_eq_true, decide_eq_true_eq] at k
      have := h3.ge n ((inB_iff t n).1 k.2)
      omega
    have e3 := cntR_range r.1 r.2 (by omega) h1 65536
    rw [if_neg (by omega), if_neg (by omega)] at e3
    have e4 : inB (r :: t) = fun n : Nat => (decide (r.1 ≤ (n : Int)) && decide ((n : Int) ≤ r.2)) || inB t n := by funext n; rfl
    rw [e4]
    have e5 : sizeR (r :: t) = r.2 - r.1 + 1 + sizeR t := by simp [sizeR]
    rw [e5, ih]
    omega
/-- Two sets: the sizes of both together and of what is in both add up to both sizes. -/
theorem sizeR_two {a b u v : List (Int × Int)} (ha : Nf 0 a) (hb : Nf 0 b) (hu : Nf 0 u) (hv : Nf 0 v) (eu : ∀ x, hasN u x ↔ hasN a x ∨ hasN b x) (ev : ∀ x, hasN v x ↔ hasN a x ∧ hasN b x) :
    sizeR u + sizeR v = sizeR a + sizeR b := by
  rw [sizeR_cnt u 0 (by omega) hu, sizeR_cnt v 0 (by omega) hv, sizeR_cnt a 0 (by omega) ha, sizeR_cnt b 0 (by omega) hb]
  have := cntR_two (m := 65536) (inB a) (inB b)
  have k1 : inB u = fun n => inB a n || inB b n := by
    funext n
    rw [Bool.eq_iff_iff, inB_iff, eu, Bool.or_eq_true, inB_iff, inB_iff]
  have k2 : inB v = fun n => inB a n && inB b n := by
    funext n
    rw [Bool.eq_iff_iff, inB_iff, ev, Bool.and_eq_true, inB_iff, inB_iff]
  rw [k1, k2]
  omega
/-- The sets. -/
def goodR (rs : List (Int × Int)) : Prop := Nf 0 rs ∧ rs.length ≤ 10
end Go.Proofs.YtlammcoiaeodfaaGreatDoor
