/- The sum of words over a slice; the checksum of a text. -/
import Derived.Test.YtpmfaiocmgkmpaaGreatDoorSer
import Derived.Test.YtpmfaiocmgkmpaaGreatDoorBits
import Derived.Test.YtpmfaiocmgkmpaaGreatDoorMem
namespace Go.Proofs.YtpmfaiocmgkmpaaGreatDoor
open Go.RowKit
set_option linter.unusedVariables false

def chkL (l : List UInt8) : Int := l.foldl (fun n c => (41 * n + c.toNat + 1) % 999979) 7
theorem chkL_snoc (l : List UInt8) (c : UInt8) : chkL (l ++ [c]) = (41 * chkL l + c.toNat + 1) % 999979 := by simp [chkL]
theorem chkL_rng (l : List UInt8) : 0 ≤ chkL l ∧ chkL l ≤ 999978 := by
  rcases List.eq_nil_or_concat l with rfl | ⟨l, c, rfl⟩
  · decide
  · rw [List.concat_eq_append, chkL_snoc]; omega

/-! The sum of words. -/
def sumW (zs : List Int) : Int := zs.foldl addV 0
def AreW (zs : List Int) : Prop := ∀ i, i < zs.length → 0 ≤ zs.getD i 0 ∧ zs.getD i 0 ≤ 65535
theorem sumW_snoc (l : List Int) (c : Int) : sumW (l ++ [c]) = addV (sumW l) c := by simp [sumW]
theorem sumW_rng {zs : List Int} (h : AreW zs) : ∀ k, k ≤ zs.length → 0 ≤ sumW (zs.take k) ∧ sumW (zs.take k) ≤ 65535 := by
  intro k
  induction k with
  | zero => intro _; simp [sumW]
  | succ k ih =>
    intro hk
    rw [take_snoc_z zs k (by omega), sumW_snoc]
    exact addV_rng (ih (by omega)).1 (ih (by omega)).2 (h k (by omega)).1 (h k (by omega)).2

end Go.Proofs.YtpmfaiocmgkmpaaGreatDoor
