/- The sum of words over a slice; the checksum of a text. -/
import Derived.Test.YtnbgjkblhbpjlaaDoorSer
import Derived.Test.YtnbgjkblhbpjlaaDoorBits
import Derived.Test.YtnbgjkblhbpjlaaDoorMem
namespace Go.Proofs.YtnbgjkblhbpjlaaDoor
open Go.RowKit
set_option linter.unusedVariables false

def chkL (l : List UInt8) : Int := l.foldl (fun n c => (41 * n + c.toNat + 1) % 999979) 7
theorem chkL_snoc (l : List UInt8) (c : UInt8) : chkL (l ++ [c]) = (41 * chkL l + c.toNat + 1) % 999979 := by simp [chkL]
theorem chkL_rng (l : List UInt8) : 0 ≤ chkL l ∧ chkL l ≤ 999978 := by
  rcases List.eq_nil_or_concat l with rfl | ⟨l, c, rfl⟩
  · decide
  · rw [List.concat_eq_append, chkL_snoc]; omega
set_option maxHeartbeats 400000 in
theorem c_l1Sum (s : ByteArray) (w : World) (hs : s.size ≤ 1000000000) :
    Calls Tryd.prog 92 #[.string s] w fun e w' => e = .returned (.int .i64 (chkL s.data.toList)) ∧ w = w' := by
  go_enter Tryd.func92, Tryd.ntmps92
  go_wp2
  go_loop [3, 4] (fun n i => ∃ k : Nat, k ≤ s.size ∧ i = .int .i64 k ∧ n = .int .i64 (chkL (s.data.toList.take k))) (fun _ i => s.size - (intOf i).toNat)
  case atStart => exact ⟨0, Nat.zero_le _, rfl, rfl⟩
  case round =>
    obtain ⟨k, hk, rfl, rfl⟩ := hrel
    have hd := chkL_rng (s.data.toList.take k)
    by_cases hlt : k < s.size
    · have HS := Lib.hid ((congrArg chkL (take_snoc_s s k hlt)).trans (chkL_snoc _ _))
      have hb : (s[k].toNat : Int) ≤ 255 := by have := s[k].toNat_lt; omega
      generalize chkL (s.data.toList.take k) = c at *
      go_wp2
      go_round
      case rel => exact ⟨k + 1, by omega, by go_num, by rw [HS.out]⟩
      case measure => simp [intOf]; omega
    · go_wp2
      go_ret
      exact ⟨ret_i (by rw [List.take_of_length_le (by simp; omega)]), rfl⟩
set_option maxHeartbeats 400000 in
theorem c_checksum (s : ByteArray) (w : World) (hs : s.size ≤ 1000000000) :
    Calls Tryd.prog 66 #[.string s] w fun e w' => e = .returned (.int .i64 (chkL s.data.toList)) ∧ w = w' := by
  go_enter Tryd.func66, Tryd.ntmps66
  go_wp2
  go_loop [3, 7] (fun n i => ∃ k : Nat, k ≤ s.size ∧ i = .int .i64 k ∧ n = .int .i64 (chkL (s.data.toList.take k))) (fun _ i => s.size - (intOf i).toNat)
  case atStart => exact ⟨0, Nat.zero_le _, rfl, rfl⟩
  case round =>
    obtain ⟨k, hk, rfl, rfl⟩ := hrel
    have hd := chkL_rng (s.data.toList.take k)
    by_cases hlt : k < s.size
    · have HS := Lib.hid ((congrArg chkL (take_snoc_s s k hlt)).trans (chkL_snoc _ _))
      have hb : (s[k].toNat : Int) ≤ 255 := by have := s[k].toNat_lt; omega
      generalize chkL (s.data.toList.take k) = c at *
      go_wp2
      go_round
      case rel => exact ⟨k + 1, by omega, by go_num, by rw [HS.out]⟩
      case measure => simp [intOf]; omega
    · go_wp2
      go_ret
      exact ⟨ret_i (by rw [List.take_of_length_le (by simp; omega)]), rfl⟩

/-! The sum of words. -/
def sumW (zs : List Int) : Int := zs.foldl addV 0
def AreW (zs : List Int) : Prop := ∀ i, i < zs.length → 0 ≤ zs.getD i 0 ∧ zs.getD i 0 ≤ 65535
theorem sumW_snoc (l : List Int) (c : Int) : sumW (l ++ [c]) = addV (sumW l) c := by simp [sumW]
theorem sumW_rng {zs : List Int} (h : AreW zs) : ∀ k, k ≤ zs.length → 0 ≤ sumW (zs.take k) ∧ sumW (zs.take k) ≤ 65535 := by
  intro k
  induction k with
  | zero => intro _; simp [sumW]
  | succ k ih =>
    intro hk
    rw [take_snoc_z zs k (by omega), sumW_snoc]
    exact addV_rng (ih (by omega)).1 (ih (by omega)).2 (h k (by omega)).1 (h k (by omega)).2

end Go.Proofs.YtnbgjkblhbpjlaaDoor
