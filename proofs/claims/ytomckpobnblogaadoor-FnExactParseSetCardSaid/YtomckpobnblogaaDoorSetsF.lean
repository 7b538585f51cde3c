/- The size of a set; the next number that a set lacks. -/
import Derived.Test.YtomckpobnblogaaDoorSets
namespace Go.Proofs.YtomckpobnblogaaDoor
open Go.RowKit
set_option linter.unusedVariables false
set_option maxRecDepth 100000

theorem okAt_rng {rs : List (Int × Int)} {j : Nat} (h : okAt rs j = true) : 0 ≤ (rs.getD j (0, 0)).1 ∧ (rs.getD j (0, 0)).1 ≤ (rs.getD j (0, 0)).2 ∧ (rs.getD j (0, 0)).2 ≤ 65535 := by
  simp only [okAt, Bool.and_eq_true] at h
  have a := inR_t h.1.1.1
  have b := inR_t h.1.1.2
  have c := of_decide_eq_true h.1.2
  omega
def sizeL (rs : List (Int × Int)) : Int := rs.foldl (fun n r => n + r.2 - r.1 + 1) 0
theorem sizeL_snoc (l : List (Int × Int)) (r : Int × Int) : sizeL (l ++ [r]) = sizeL l + r.2 - r.1 + 1 := by simp [sizeL]
theorem sizeL_rng {rs : List (Int × Int)} (h : setB rs = true) : ∀ k, k ≤ rs.length → 0 ≤ sizeL (rs.take k) ∧ sizeL (rs.take k) ≤ 65536 * k := by
  intro k
  induction k with
  | zero => intro _; simp [sizeL]
  | succ k ih =>
    intro hk
    have := ih (by omega)
    have := okAt_rng ((setB_t h).2 k (by omega))
    rw [take_snoc_r rs k (by omega), sizeL_snoc]
    omega
def setSizeR (rs : List (Int × Int)) : Int := if setB rs then sizeL rs else 0
end Go.Proofs.YtomckpobnblogaaDoor
