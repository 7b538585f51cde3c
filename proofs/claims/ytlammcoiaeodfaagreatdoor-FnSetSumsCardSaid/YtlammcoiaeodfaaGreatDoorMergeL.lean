/- Ranges merged and turned round, range by range: what the program's loops hold. No program's text. -/
import Derived.Test.YtlammcoiaeodfaaGreatDoorSetLaw
import Derived.Test.YtlammcoiaeodfaaGreatDoorMem
namespace Go.Proofs.YtlammcoiaeodfaaGreatDoor

/-- k ranges merged. -/
def mrg (ds : List (Int × Int)) (k : Nat) : List (Int × Int) := mergeL (ds.take k)
theorem mrg_step (ds : List (Int × Int)) (k : Nat) (h : k < ds.length) : mrg ds (k + 1) = mergeStep (mrg ds k) (ds.getD k (0, 0)) := by
  unfold mrg mergeL
  rw [take_snoc_r ds k h, List.foldl_append]
  rfl
theorem mrg_0 (ds : List (Int × Int)) : mrg ds 0 = [] := rfl
theorem mrg_all (ds : List (Int × Int)) : mrg ds ds.length = mergeL ds := by unfold mrg; rw [List.take_length]
theorem mergeStep_nil (r : Int × Int) : mergeStep [] r = [] ++ [r] := rfl
theorem mergeStep_in {out : List (Int × Int)} {l r : Int × Int} (h : r.1 ≤ l.2 + 1) : mergeStep (out ++ [l]) r = out ++ [(l.1, max l.2 r.2)] := by simp [mergeStep, h]
theorem mergeStep_out {out : List (Int × Int)} {l r : Int × Int} (h : ¬ r.1 ≤ l.2 + 1) : mergeStep (out ++ [l]) r = out ++ [l] ++ [r] := by simp [mergeStep, h]
theorem snoc_cases (out : List (Int × Int)) : out = [] ∨ ∃ init l, out = init ++ [l] := by
  rcases List.eq_nil_or_concat out with h | ⟨i, l, h⟩
  · exact .inl h
  · exact .inr ⟨i, l, by rw [h]; simp⟩
def wordE (q : Int × Int) : Prop := 0 ≤ q.2 ∧ q.2 ≤ 65535
theorem mergeStep_keeps {out : List (Int × Int)} {r : Int × Int} (h : ∀ q ∈ out, wordE q) (hr : wordE r) : (∀ q ∈ mergeStep out r, wordE q) ∧ (mergeStep out r).length ≤ out.length + 1 := by
  rcases snoc_cases out with rfl | ⟨init, l, rfl⟩
  · rw [mergeStep_nil]
    exact ⟨fun q hq => by simp at hq; subst hq; exact hr, by simp⟩
  · have hl := h l (by simp)
    by_cases c : r.1 ≤ l.2 + 1
    · rw [mergeStep_in c]
      refine ⟨fun q hq => ?_, by simp⟩
      rcases List.mem_append.1 hq with hq | hq
      · exact h q (by simp [hq])
      · simp at hq
        subst hq
        unfold wordE at *
        simp only []
        omega
    · rw [mergeStep_out c]
      refine ⟨fun q hq => ?_, by simp⟩
      rcases List.mem_append.1 hq with hq | hq
      · exact h q hq
      · simp at hq
        subst hq
        exact hr
theorem mrg_keeps {ds : List (Int × Int)} (h : ∀ q ∈ ds, wordE q) : ∀ k, k ≤ ds.length → (∀ q ∈ mrg ds k, wordE q) ∧ (mrg ds k).length ≤ k
  | 0, _ => by rw [mrg_0]; exact ⟨fun q hq => by simp at hq, by simp⟩
  | k + 1, hk => by
    have ih := mrg_keeps h k (by omega)
    rw [mrg_step ds k (by omega)]
    have := mergeStep_keeps ih.1 (r := ds.getD k (0, 0)) (h _ (by rw [show ds.getD k (0, 0) = ds[k] from by simp [show k < ds.length by omega]]; exact List.getElem_mem _))
    exact ⟨this.1, by omega⟩
theorem rcells_last (init : List (Int × Int)) (a b c : Int) : (rcells (init ++ [(a, b)])).set (init.length * 2 + 1) (.int .i64 c) = rcells (init ++ [(a, c)]) := by
  rw [rcells_append, List.set_append_right _ _ (by rw [rcells_length]; omega), rcells_length, show init.length * 2 + 1 - init.length * 2 = 1 from by omega, rcells_append]
  rfl
/-- k ranges turned round. -/
def oppK (rs : List (Int × Int)) (k : Nat) : List (Int × Int) × Int := (rs.take k).foldl oppStep ([], 0)
theorem oppK_step (rs : List (Int × Int)) (k : Nat) (h : k < rs.length) : oppK rs (k + 1) = oppStep (oppK rs k) (rs.getD k (0, 0)) := by
  unfold oppK
  rw [take_snoc_r rs k h, List.foldl_append]
  rfl
theorem oppK_all (rs : List (Int × Int)) : oppEnd (oppK rs rs.length) = oppL rs := by
  unfold oppK oppL
  rw [List.take_length]
theorem oppStep_y {out : List (Int × Int)} {f : Int} {r : Int × Int} (h : f < r.1) : oppStep (out, f) r = (out ++ [(f, r.1 - 1)], r.2 + 1) := by simp only [oppStep]; rw [if_pos h]
theorem oppStep_n {out : List (Int × Int)} {f : Int} {r : Int × Int} (h : ¬ f < r.1) : oppStep (out, f) r = (out, r.2 + 1) := by simp only [oppStep]; rw [if_neg h]
theorem oppK_keeps {rs : List (Int × Int)} (h : ∀ q ∈ rs, wordE q) : ∀ k, k ≤ rs.length → (0 ≤ (oppK rs k).2 ∧ (oppK rs k).2 ≤ 65536) ∧ (oppK rs k).1.length ≤ k
  | 0, _ => by simp [oppK]
  | k + 1, hk => by
    have ih := oppK_keeps h k (by omega)
    have hr := h (rs.getD k (0, 0)) (by rw [show rs.getD k (0, 0) = rs[k] from by simp [show k < rs.length by omega]]; exact List.getElem_mem _)
    rw [oppK_step rs k (by omega)]
    unfold wordE at hr
    unfold oppStep
    refine ⟨by simp only []; omega, ?_⟩
    simp only []
    split
    · simp
      omega
    · omega
theorem oppL_len (rs : List (Int × Int)) : (oppL rs).length ≤ rs.length + 1 := by
  rw [oppL_eq]
  exact oppR_len rs 0
theorem mergeL_len (ds : List (Int × Int)) : (mergeL ds).length ≤ ds.length := by
  unfold mergeL
  cases ds with
  | nil => simp
  | cons r t =>
    have e : (r :: t).foldl mergeStep [] = mergeR r t := by
      have := merge_eq t [] r
      simpa [mergeStep] using this
    rw [e]
    have := mergeR_len t r
    simpa using this
end Go.Proofs.YtlammcoiaeodfaaGreatDoor
