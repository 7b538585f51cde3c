/- A list of ranges is a set for the program's test when it is one in the plain law. -/
import Derived.Test.YtlammcoiaeodfaaGreatDoorSets
import Derived.Test.YtlammcoiaeodfaaGreatDoorRset
namespace Go.Proofs.YtlammcoiaeodfaaGreatDoor
open Go.RowKit
set_option linter.unusedVariables false

def loK (rs : List (Int × Int)) (k : Nat) : Int := if k = 0 then 0 else prevT rs k + 2
theorem loK_succ {rs : List (Int × Int)} {k : Nat} : loK rs (k + 1) = (rs.getD k (0, 0)).2 + 2 := by simp [loK, prevT]
theorem drop_at {rs : List (Int × Int)} {k : Nat} (h : k < rs.length) : rs.drop k = rs.getD k (0, 0) :: rs.drop (k + 1) := by
  rw [List.drop_eq_getElem_cons h]
  simp [h]
theorem ok_iff {rs : List (Int × Int)} {k : Nat} : okAt rs k = true ↔ loK rs k ≤ (rs.getD k (0, 0)).1 ∧ 0 ≤ (rs.getD k (0, 0)).1 ∧ (rs.getD k (0, 0)).1 ≤ (rs.getD k (0, 0)).2 ∧ (rs.getD k (0, 0)).2 ≤ 65535 := by
  rw [okAt_eq]
  unfold loK inR
  by_cases h : k = 0
  · simp [h]
    omega
  · simp [h]
    omega
theorem nf_drop {rs : List (Int × Int)} (h : ∀ j, j < rs.length → okAt rs j = true) : ∀ n k, rs.length - k = n → k ≤ rs.length → Nf (loK rs k) (rs.drop k)
  | 0, k, hn, hk => by
    rw [List.drop_eq_nil_of_le (by omega)]
    trivial
  | n + 1, k, hn, hk => by
    have ih := nf_drop h n (k + 1) (by omega) (by omega)
    rw [drop_at (by omega)]
    have ho := ok_iff.1 (h k (by omega))
    rw [loK_succ] at ih
    exact ⟨ho.1, ho.2.2.1, ho.2.2.2, ih⟩
theorem drop_nf {rs : List (Int × Int)} (h : Nf 0 rs) : ∀ k, k ≤ rs.length → Nf (loK rs k) (rs.drop k)
  | 0, _ => h
  | k + 1, hk => by
    have ih := drop_nf h k (by omega)
    rw [drop_at (by omega)] at ih
    rw [loK_succ]
    exact ih.2.2.2
theorem setB_good {rs : List (Int × Int)} : setB rs = true ↔ goodR rs := by
  constructor
  · intro h
    obtain ⟨h1, h2⟩ := setB_t h
    exact ⟨nf_drop h2 rs.length 0 (by omega) (by omega), h1⟩
  · rintro ⟨h1, h2⟩
    have ha : ∀ j, j < rs.length → okAt rs j = true := fun j hj => by
      have h3 := drop_nf h1 j (by omega)
      rw [drop_at hj] at h3
      have h4 := h1.all (rs.getD j (0, 0)) (by rw [show rs.getD j (0, 0) = rs[j] from by simp [hj]]; exact List.getElem_mem _)
      exact ok_iff.2 ⟨h3.1, by omega, h3.2.1, h3.2.2.1⟩
    rw [setB_all ha]
    exact decide_eq_true (by omega)
theorem setB_nf {rs : List (Int × Int)} (h : Nf 0 rs) : setB rs = decide (rs.length ≤ 10) := by
  rw [Bool.eq_iff_iff, setB_good, decide_eq_true_eq]
  exact ⟨fun k => k.2, fun k => ⟨h, k⟩⟩
end Go.Proofs.YtlammcoiaeodfaaGreatDoor
