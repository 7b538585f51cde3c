/- slices.IndexFunc, slices.ContainsFunc over lists of whole numbers with a predicate that captures nothing and leaves the world alone. -/
import Derived.Test.YtomckpobnblogaaLists
namespace Go.Proofs.Ytomckpobnblogaa
open Go.RowKit
set_option linter.unusedVariables false
set_option maxRecDepth 100000

def FoundI (p : Int → Bool) (zs : List Int) (r : Int) : Prop :=
  (r = -1 ∧ ∀ j, j < zs.length → p (zs.getD j 0) = false) ∨ ∃ k : Nat, r = k ∧ k < zs.length ∧ p (zs.getD k 0) = true ∧ ∀ j, j < k → p (zs.getD j 0) = false
theorem FoundI.any {p : Int → Bool} {zs : List Int} {r : Int} (h : FoundI p zs r) : decide (0 ≤ r) = zs.any p := by
  rcases h with ⟨rfl, h⟩ | ⟨k, rfl, hk, hp, _⟩
  · symm
    rw [show decide ((0 : Int) ≤ -1) = false from by decide, List.any_eq_false]
    intro x hx
    obtain ⟨j, hj, rfl⟩ := List.getElem_of_mem hx
    have := h j hj
    simpa [hj] using this
  · rw [decide_eq_true (by omega)]
    symm
    rw [List.any_eq_true]
    exact ⟨zs[k], List.getElem_mem hk, by simpa [hk] using hp⟩
end Go.Proofs.Ytomckpobnblogaa
