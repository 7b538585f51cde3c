/- The small functions over whole numbers: within, serials, gaps, words: what each returns. No conditions but the ranges named at each. -/
import Derived.Test.YtpmfaiocmgkmpaaGreatDoorRows
import Derived.Handy
import Derived.Lib.Hide
namespace Go.Proofs.YtpmfaiocmgkmpaaGreatDoor
open Go.RowKit
set_option linter.unusedVariables false

def inR (x a b : Int) : Bool := decide (a ≤ x ∧ x ≤ b)
theorem inR_t {x a b : Int} (h : inR x a b = true) : a ≤ x ∧ x ≤ b := of_decide_eq_true h
theorem inR_f {x a b : Int} (h : inR x a b = false) : ¬ (a ≤ x ∧ x ≤ b) := of_decide_eq_false h
theorem inR_y {x a b : Int} (h : a ≤ x ∧ x ≤ b) : inR x a b = true := decide_eq_true h
theorem ret_i {a b : Int} (h : a = b) : Ending.returned (.int .i64 a) = .returned (.int .i64 b) := by rw [h]
theorem ret_b {a b : Bool} (h : a = b) : Ending.returned (.bool a) = .returned (.bool b) := by rw [h]
theorem ret_ib {a b : Int} {c : Bool} (h : a = b) : Ending.returned (.tuple #[.int .i64 a, .bool c]) = .returned (.tuple #[.int .i64 b, .bool c]) := by rw [h]
theorem inR_n {x a b : Int} (h : ¬ (a ≤ x ∧ x ≤ b)) : inR x a b = false := decide_eq_false h

theorem c_within (x a b : Int) (w : World) :
    Calls Tryz.prog 21 #[.int .i64 x, .int .i64 a, .int .i64 b] w fun e w' => e = .returned (.bool (inR x a b)) ∧ w = w' := by
  by_cases h1 : a ≤ x <;> by_cases h2 : x ≤ b
  all_goals
    go_enter Tryz.func21, Tryz.ntmps21
    go_wp2
    go_ret
    exact ⟨by simp [inR, h1, h2], rfl⟩
theorem c_l1In (x a b : Int) (w : World) :
    Calls Tryz.prog 38 #[.int .i64 x, .int .i64 a, .int .i64 b] w fun e w' => e = .returned (.bool (inR x a b)) ∧ w = w' := by
  by_cases h1 : a ≤ x <;> by_cases h2 : x ≤ b
  all_goals
    go_enter Tryz.func38, Tryz.ntmps38
    go_wp2
    go_ret
    exact ⟨by simp [inR, h1, h2], rfl⟩
theorem c_isSerial (x : Int) (w : World) :
    Calls Tryz.prog 40 #[.int .i64 x] w fun e w' => e = .returned (.bool (inR x 0 65535)) ∧ w = w' := by
  go_enter Tryz.func40, Tryz.ntmps40
  go_wp2_with (go_at_call 21; refine (c_within _ _ _ _).mono ?_; rintro e w' ⟨rfl, rfl⟩)
  go_ret
  exact ⟨rfl, rfl⟩
theorem c_l2Good (x : Int) (w : World) :
    Calls Tryz.prog 47 #[.int .i64 x] w fun e w' => e = .returned (.bool (inR x 0 65535)) ∧ w = w' := by
  go_enter Tryz.func47, Tryz.ntmps47
  go_wp2_with (go_at_call 38; refine (c_l1In _ _ _ _).mono ?_; rintro e w' ⟨rfl, rfl⟩)
  go_ret
  exact ⟨rfl, rfl⟩

/-! Steps behind a serial. -/
theorem aft_impl (m : Int) (h1 : -400000 ≤ m) (h2 : m ≤ 400000) : (wrap64 (m.tmod 65536 + 65536)).tmod 65536 = m % 65536 := by
  rcases Int.le_total 0 m with h | h
  · have e : m.tmod 65536 = m % 65536 := Int.tmod_eq_emod_of_nonneg h
    rw [e, IntWalk.wrap64_in _ ⟨by omega, by omega⟩, Int.tmod_eq_emod_of_nonneg (by omega)]
    omega
  · have e : m.tmod 65536 = -((-m) % 65536) := by
      have := Int.neg_tmod (a := -m) (b := 65536)
      rw [Int.neg_neg] at this
      rw [this, Int.tmod_eq_emod_of_nonneg (by omega)]
    rw [e, IntWalk.wrap64_in _ ⟨by omega, by omega⟩, Int.tmod_eq_emod_of_nonneg (by omega)]
    omega
def aftV (x n : Int) : Int := (x + n) % 65536
theorem aftV_rng (x n : Int) : 0 ≤ aftV x n ∧ aftV x n ≤ 65535 := by unfold aftV; omega
theorem c_after (x n : Int) (w : World) (h1 : -200000 ≤ x) (h2 : x ≤ 200000) (h3 : -200000 ≤ n) (h4 : n ≤ 200000) :
    Calls Tryz.prog 62 #[.int .i64 x, .int .i64 n] w fun e w' => e = .returned (.int .i64 (aftV x n)) ∧ w = w' := by
  go_enter Tryz.func62, Tryz.ntmps62
  go_wp2
  go_ret
  exact ⟨ret_i (aft_impl (x + n) (by omega) (by omega)), rfl⟩
theorem c_l2After (x n : Int) (w : World) (h1 : -200000 ≤ x) (h2 : x ≤ 200000) (h3 : -131072 ≤ x + n) (h4 : n ≤ 200000) :
    Calls Tryz.prog 53 #[.int .i64 x, .int .i64 n] w fun e w' => e = .returned (.int .i64 (aftV x n)) ∧ w = w' := by
  go_enter Tryz.func53, Tryz.ntmps53
  go_wp2
  go_ret
  exact ⟨ret_i (by unfold aftV; omega), rfl⟩

/-! Gaps. -/
def gapV (a b : Int) : Int := (b - a) % 65536
theorem gapV_rng (a b : Int) : 0 ≤ gapV a b ∧ gapV a b ≤ 65535 := by unfold gapV; omega
theorem aftV_gap (a b : Int) : aftV b (-a) = gapV a b := by unfold aftV gapV; omega
theorem c_gap (a b : Int) (w : World) (h1 : -200000 ≤ a) (h2 : a ≤ 200000) (h3 : -200000 ≤ b) (h4 : b ≤ 200000) :
    Calls Tryz.prog 42 #[.int .i64 a, .int .i64 b] w fun e w' => e = .returned (.int .i64 (gapV a b)) ∧ w = w' := by
  have E := Lib.hid (aftV_gap a b)
  go_enter Tryz.func42, Tryz.ntmps42
  go_wp2_with (go_at_call 62; refine (c_after _ _ _ (by omega) (by omega) (by omega) (by omega)).mono ?_; rintro e w' ⟨rfl, rfl⟩)
  go_ret
  exact ⟨ret_i E.out, rfl⟩
theorem c_l2Gap (a b : Int) (w : World) (h1 : 0 ≤ a) (h2 : a ≤ 65535) (h3 : 0 ≤ b) (h4 : b ≤ 65535) :
    Calls Tryz.prog 48 #[.int .i64 a, .int .i64 b] w fun e w' => e = .returned (.int .i64 (gapV a b)) ∧ w = w' := by
  go_enter Tryz.func48, Tryz.ntmps48
  go_wp2
  go_ret
  exact ⟨ret_i (by unfold gapV; omega), rfl⟩
def befB (a b : Int) : Bool := inR (gapV a b) 1 32767

/-! Words. -/
def addV (a b : Int) : Int := if a + b > 65535 then a + b - 65535 else a + b
theorem addV_rng {a b : Int} (h1 : 0 ≤ a) (h2 : a ≤ 65535) (h3 : 0 ≤ b) (h4 : b ≤ 65535) : 0 ≤ addV a b ∧ addV a b ≤ 65535 := by unfold addV; split <;> omega

end Go.Proofs.YtpmfaiocmgkmpaaGreatDoor
