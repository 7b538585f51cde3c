/- Lists of words, of serials, of octets: whether they are good, as the program and as the reference asks it; their sums and checks. -/
import Derived.Test.YtpmfaiocmgkmpaaGreatDoorFuncs
import Derived.Test.YtpmfaiocmgkmpaaGreatDoorWords
namespace Go.Proofs.YtpmfaiocmgkmpaaGreatDoor
open Go.RowKit
set_option linter.unusedVariables false
set_option maxRecDepth 100000

/-- At most n numbers, each from 0 to hi. -/
def goodB (n : Nat) (hi : Int) (zs : List Int) : Bool := decide (zs.length ≤ n) && !(zs.any fun x => !inR x 0 hi)
theorem goodB_t {n : Nat} {hi : Int} {zs : List Int} (h : goodB n hi zs = true) : zs.length ≤ n ∧ ∀ i, i < zs.length → inR (zs.getD i 0) 0 hi = true := by
  simp only [goodB, Bool.and_eq_true, decide_eq_true_eq, Bool.not_eq_true', List.any_eq_false] at h
  refine ⟨h.1, fun i hi => ?_⟩
  have := h.2 zs[i] (List.getElem_mem hi)
  simpa [hi] using this
theorem goodB_long {n : Nat} {hi : Int} {zs : List Int} (h : n < zs.length) : goodB n hi zs = false := by simp [goodB]; omega
theorem goodB_bad {n : Nat} {hi : Int} {zs : List Int} (k : Nat) (hk : k < zs.length) (h : inR (zs.getD k 0) 0 hi = false) : goodB n hi zs = false := by
  cases hg : goodB n hi zs
  · rfl
  · rw [(goodB_t hg).2 k hk] at h; cases h
theorem goodB_y {n : Nat} {hi : Int} {zs : List Int} (h1 : zs.length ≤ n) (h : ∀ i, i < zs.length → inR (zs.getD i 0) 0 hi = true) : goodB n hi zs = true := by
  simp only [goodB, Bool.and_eq_true, decide_eq_true_eq, Bool.not_eq_true', List.any_eq_false]
  refine ⟨h1, fun x hx => ?_⟩
  obtain ⟨j, hj, rfl⟩ := List.getElem_of_mem hx
  have := h j hj
  simp [hj] at this
  simp [this]
theorem goodB_areW {n : Nat} {zs : List Int} (h : goodB n 65535 zs = true) : AreW zs := fun i hi => inR_t ((goodB_t h).2 i hi)

end Go.Proofs.YtpmfaiocmgkmpaaGreatDoor
