/- One byte changed in a text with its checksum: the text is no longer one with its checksum. No program's text. -/
import Derived.Test.YtnbgjkblhbpjlaaWords
import Derived.Test.YtnbgjkblhbpjlaaSplitL
import Derived.Test.YtnbgjkblhbpjlaaDec
namespace Go.Proofs.Ytnbgjkblhbpjlaa
open Go.Lib

def chkS (n : Int) (c : UInt8) : Int := (41 * n + (c.toNat : Int) + 1) % 999979
theorem chkL_S (l : List UInt8) : chkL l = l.foldl chkS 7 := rfl
theorem chkS_eq (n : Int) (c : UInt8) : chkS n c = (41 * n + ((c.toNat : Int) + 1)) % 999979 := by rw [chkS, Int.add_assoc]
theorem chkS_rng (n : Int) (c : UInt8) : 0 ≤ chkS n c ∧ chkS n c < 999979 := by rw [chkS_eq]; omega
theorem chk_step (u v d : Int) (hu : 0 ≤ u ∧ u < 999979) (hv : 0 ≤ v ∧ v < 999979) (h : (41 * u + d) % 999979 = (41 * v + d) % 999979) : u = v := by omega
theorem chk_far : ∀ (r : List UInt8) (u v : Int), 0 ≤ u ∧ u < 999979 → 0 ≤ v ∧ v < 999979 → u ≠ v → r.foldl chkS u ≠ r.foldl chkS v
  | [], u, v, _, _, h => h
  | c :: t, u, v, hu, hv, h => by
    refine chk_far t _ _ (chkS_rng u c) (chkS_rng v c) fun e => h ?_
    rw [chkS_eq, chkS_eq] at e
    exact chk_step u v _ hu hv e
theorem chk_other (p r : List UInt8) (a b : UInt8) (h : a ≠ b) : chkL (p ++ a :: r) ≠ chkL (p ++ b :: r) := by
  have hp := chkL_rng p
  have ha := a.toNat_lt
  have hb := b.toNat_lt
  have hab : a.toNat ≠ b.toNat := fun e => h (UInt8.toNat_inj.1 e)
  have e : ∀ c : UInt8, chkL (p ++ c :: r) = r.foldl chkS (chkS (chkL p) c) := by
    intro c
    rw [chkL_S, chkL_S, List.foldl_append, List.foldl_cons]
  rw [e, e]
  refine chk_far r _ _ (chkS_rng _ _) (chkS_rng _ _) fun k => ?_
  rw [chkS_eq, chkS_eq] at k
  omega
/-- A text with its checksum behind it. -/
def sealC (t : List UInt8) : List UInt8 := t ++ 35 :: itoa (chkL t)
theorem digits_no35 (u : Nat) : (35 : UInt8) ∉ decDigits u := by
  intro h
  obtain ⟨k, hk⟩ := List.mem_iff_getElem?.1 h
  obtain ⟨d, hd⟩ := digit_of_decFrom _ _ _ (decFrom_digits u) k 35 hk
  have := digitVal_eq hd
  simp at this
theorem itoa_no35 (n : Int) : (35 : UInt8) ∉ itoa n := by
  by_cases h : n < 0
  · rw [itoa_neg' h]
    intro k
    rcases List.mem_cons.1 k with k | k
    · cases k
    · exact digits_no35 _ k
  · rw [itoa_pos' (by omega)]
    exact digits_no35 _
theorem sealC_len (t : List UInt8) : t.length + 2 ≤ (sealC t).length ∧ (sealC t).length ≤ t.length + 7 := by
  have h := chkL_rng t
  have h2 := decDigits_six (u := (chkL t).natAbs) (by omega)
  have h3 := decDigits_pos (chkL t).natAbs
  unfold sealC
  rw [itoa_pos' h.1, List.length_append, List.length_cons]
  omega
theorem sealC_cut {t : List UInt8} (h : (35 : UInt8) ∉ t) : cut (sealC t) [35] = (t, itoa (chkL t), true) := cut_at _ h
theorem first_unique {b : UInt8} {p q r u : List UInt8} (e : p ++ b :: r = q ++ b :: u) (hp : b ∉ p) (hq : b ∉ q) : p = q ∧ r = u := by
  have h1 := cut_at (b := b) r hp
  have h2 := cut_at (b := b) u hq
  rw [e, h2] at h1
  simp only [Prod.mk.injEq] at h1
  exact ⟨h1.1.symm, h1.2.1.symm⟩
/-- The detection. -/
theorem seal_changed {x t : List UInt8} {k : Nat} {c : UInt8} (hx : (35 : UInt8) ∉ x) (ht : (35 : UInt8) ∉ t) (hk : k < (sealC x).length) (hc : (sealC x)[k] ≠ c) : (sealC x).set k c ≠ sealC t := by
  intro e
  unfold sealC at e hk hc
  rcases Nat.lt_trichotomy k x.length with h | h | h
  · rw [List.set_append_left _ _ h] at e
    rw [List.getElem_append_left h] at hc
    have hsplit : x.set k c = x.take k ++ c :: x.drop (k + 1) := by
      rw [List.set_eq_take_append_cons_drop, if_pos h]
    have hxs : x = x.take k ++ x[k] :: x.drop (k + 1) := by
      rw [← List.drop_eq_getElem_cons h, List.take_append_drop]
    by_cases h35 : c = 35
    · subst h35
      rw [hsplit, List.append_assoc, List.cons_append] at e
      have := (first_unique e (fun m => hx (List.mem_of_mem_take m)) ht).2
      exact itoa_no35 (chkL t) (by rw [← this]; simp)
    · have hno : (35 : UInt8) ∉ x.set k c := by
        rw [hsplit]
        intro m
        rcases List.mem_append.1 m with m | m
        · exact hx (List.mem_of_mem_take m)
        · rcases List.mem_cons.1 m with m | m
          · exact h35 m.symm
          · exact hx (List.mem_of_mem_drop m)
      obtain ⟨e1, e2⟩ := first_unique e hno ht
      have e3 := itoa_inj e2
      rw [← e1, hsplit] at e3
      have := chk_other (x.take k) (x.drop (k + 1)) x[k] c hc
      rw [← hxs] at this
      exact this e3
  · subst h
    rw [List.set_append_right _ _ (Nat.le_refl _), Nat.sub_self, List.set_cons_zero] at e
    rw [List.getElem_append_right (Nat.le_refl _)] at hc
    simp at hc
    have : (35 : UInt8) ∈ x ++ c :: itoa (chkL x) := by rw [e]; simp
    rcases List.mem_append.1 this with m | m
    · exact hx m
    · rcases List.mem_cons.1 m with m | m
      · exact hc m
      · exact itoa_no35 _ m
  · rw [List.set_append_right _ _ (by omega)] at e
    obtain ⟨j, hj⟩ : ∃ j, k - x.length = j + 1 := ⟨k - x.length - 1, by omega⟩
    rw [hj, List.set_cons_succ] at e
    obtain ⟨e1, e2⟩ := first_unique e hx ht
    rw [← e1] at e2
    rw [List.getElem_append_right (by omega)] at hc
    have hlen : j < (itoa (chkL x)).length := by simp at hk; omega
    have hg : (35 :: itoa (chkL x))[k - x.length]'(by simp at hk; simp; omega) = (itoa (chkL x))[j] := by
      simp [hj]
    rw [hg] at hc
    have : (itoa (chkL x)).set j c = itoa (chkL x) := e2
    have h2 : ((itoa (chkL x)).set j c)[j]'(by simpa using hlen) = c := by simp
    have h3 : ((itoa (chkL x)).set j c)[j]? = (itoa (chkL x))[j]? := by rw [this]
    rw [List.getElem?_eq_getElem (by simpa using hlen), List.getElem?_eq_getElem hlen, h2] at h3
    injection h3 with h3
    exact hc h3.symm
end Go.Proofs.Ytnbgjkblhbpjlaa
