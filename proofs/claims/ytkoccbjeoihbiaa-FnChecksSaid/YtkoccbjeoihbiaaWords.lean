/- The sum of words over a slice; the checksum of a text. -/
import Derived.Test.YtkoccbjeoihbiaaSer
import Derived.Test.YtkoccbjeoihbiaaBits
import Derived.Test.YtkoccbjeoihbiaaMem
namespace Go.Proofs.Ytkoccbjeoihbiaa
open Go.RowKit
set_option linter.unusedVariables false

def chkL (l : List UInt8) : Int := l.foldl (fun n c => (41 * n + c.toNat + 1) % 999979) 7
theorem chkL_snoc (l : List UInt8) (c : UInt8) : chkL (l ++ [c]) = (41 * chkL l + c.toNat + 1) % 999979 := by simp [chkL]
theorem chkL_rng (l : List UInt8) : 0 ≤ chkL l ∧ chkL l ≤ 999978 := by
  rcases List.eq_nil_or_concat l with rfl | ⟨l, c, rfl⟩
  · decide
  · rw [List.concat_eq_append, chkL_snoc]; omega

/-! The sum of words. -/
def sumW (zs : List Int) : Int := zs.foldl addV 0
def AreW (zs : List Int) : Prop := ∀ i, i < zs.length → 0 ≤ zs.getD i 0 ∧ zs.getD i 0 ≤ 65535
theorem sumW_snoc (l : List Int) (c : Int) : sumW (l ++ [c]) = addV (sumW l) c := by simp [sumW]
theorem sumW_rng {zs : List Int} (h : AreW zs) : ∀ k, k ≤ zs.length → 0 ≤ sumW (zs.take k) ∧ sumW (zs.take k) ≤ 65535 := by
  intro k
  induction k with
  | zero => intro _; simp [sumW]
  | succ k ih =>
    intro hk
    rw [take_snoc_z zs k (by omega), sumW_snoc]
    exact addV_rng (ih (by omega)).1 (ih (by omega)).2 (h k (by omega)).1 (h k (by omega)).2
set_option maxHeartbeats 400000 in
theorem c_wordSum {H : Nat} (A : Option Addr) (cap : Nat) (zs : List Int) (w : World) (h : Ints w H A zs) (hz : AreW zs) (hl : zs.length ≤ 1000000000) :
    Calls Try.prog 106 #[.slice A zs.length cap] w fun e w' => e = .returned (.int .i64 (sumW zs)) ∧ w = w' := by
  have HR := Lib.hid (sumW_rng hz)
  go_enter Try.func106, Try.ntmps106
  go_wp2
  go_loop [3, 8] (fun n i => ∃ k : Nat, k ≤ zs.length ∧ i = .int .i64 k ∧ n = .int .i64 (sumW (zs.take k))) (fun _ i => zs.length - (intOf i).toNat)
  case atStart => exact ⟨0, Nat.zero_le _, rfl, rfl⟩
  case round =>
    obtain ⟨k, hk, rfl, rfl⟩ := hrel
    have hd := HR.out k hk
    by_cases hlt : k < zs.length
    · have HS := Lib.hid ((congrArg sumW (take_snoc_z zs k hlt)).trans (sumW_snoc _ _))
      obtain ⟨ad, rfl, _, hc⟩ := h.at_ hlt
      have hb := hz k hlt
      clear h hz
      generalize sumW (zs.take k) = c at *
      generalize zs.getD k 0 = x at *
      go_wp2_with (go_at_call 139; refine (c_addWords _ _ _ (by omega) (by omega) (by omega) (by omega)).mono ?_; rintro e w' ⟨rfl, rfl⟩)
      go_round
      case rel => exact ⟨k + 1, by omega, by go_num, by rw [HS.out]⟩
      case measure => simp [intOf]; omega
    · go_wp2
      go_ret
      exact ⟨ret_i (by rw [List.take_of_length_le (by omega)]), rfl⟩

end Go.Proofs.Ytkoccbjeoihbiaa
