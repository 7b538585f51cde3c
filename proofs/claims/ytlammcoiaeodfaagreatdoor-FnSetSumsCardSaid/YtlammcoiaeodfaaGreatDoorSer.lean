/- The small functions over whole numbers: within, serials, gaps, words: what each returns. No conditions but the ranges named at each. -/
import Derived.Test.YtlammcoiaeodfaaGreatDoorRows
import Derived.Handy
import Derived.Lib.Hide
namespace Go.Proofs.YtlammcoiaeodfaaGreatDoor
open Go.RowKit
set_option linter.unusedVariables false

def inR (x a b : Int) : Bool := decide (a ≤ x ∧ x ≤ b)
theorem inR_t {x a b : Int} (h : inR x a b = true) : a ≤ x ∧ x ≤ b := of_decide_eq_true h
theorem inR_f {x a b : Int} (h : inR x a b = false) : ¬ (a ≤ x ∧ x ≤ b) := of_decide_eq_false h
theorem inR_y {x a b : Int} (h : a ≤ x ∧ x ≤ b) : inR x a b = true := decide_eq_true h
theorem ret_i {a b : Int} (h : a = b) : Ending.returned (.int .i64 a) = .returned (.int .i64 b) := by rw [h]
theorem ret_b {a b : Bool} (h : a = b) : Ending.returned (.bool a) = .returned (.bool b) := by rw [h]
theorem ret_ib {a b : Int} {c : Bool} (h : a = b) : Ending.returned (.tuple #[.int .i64 a, .bool c]) = .returned (.tuple #[.int .i64 b, .bool c]) := by rw [h]
theorem inR_n {x a b : Int} (h : ¬ (a ≤ x ∧ x ≤ b)) : inR x a b = false := decide_eq_false h

theorem c_within (x a b : Int) (w : World) :
    Calls Tryz.prog 55 #[.int .i64 x, .int .i64 a, .int .i64 b] w fun e w' => e = .returned (.bool (inR x a b)) ∧ w = w' := by
  by_cases h1 : a ≤ x <;> by_cases h2 : x ≤ b
  all_goals
    go_enter Tryz.func55, Tryz.ntmps55
    go_wp2
    go_ret
    exact ⟨by simp [inR, h1, h2], rfl⟩
theorem c_l1In (x a b : Int) (w : World) :
    Calls Tryz.prog 59 #[.int .i64 x, .int .i64 a, .int .i64 b] w fun e w' => e = .returned (.bool (inR x a b)) ∧ w = w' := by
  by_cases h1 : a ≤ x <;> by_cases h2 : x ≤ b
  all_goals
    go_enter Tryz.func59, Tryz.ntmps59
    go_wp2
    go_ret
    exact ⟨by simp [inR, h1, h2], rfl⟩
theorem c_isWord (x : Int) (w : World) :
    Calls Tryz.prog 34 #[.int .i64 x] w fun e w' => e = .returned (.bool (inR x 0 65535)) ∧ w = w' := by
  go_enter Tryz.func34, Tryz.ntmps34
  go_wp2_with (go_at_call 55; refine (c_within _ _ _ _).mono ?_; rintro e w' ⟨rfl, rfl⟩)
  go_ret
  exact ⟨rfl, rfl⟩
theorem c_l3Word (x : Int) (w : World) :
    Calls Tryz.prog 49 #[.int .i64 x] w fun e w' => e = .returned (.bool (inR x 0 65535)) ∧ w = w' := by
  go_enter Tryz.func49, Tryz.ntmps49
  go_wp2_with (go_at_call 59; refine (c_l1In _ _ _ _).mono ?_; rintro e w' ⟨rfl, rfl⟩)
  go_ret
  exact ⟨rfl, rfl⟩

/-! Steps behind a serial. -/
theorem aft_impl (m : Int) (h1 : -400000 ≤ m) (h2 : m ≤ 400000) : (wrap64 (m.tmod 65536 + 65536)).tmod 65536 = m % 65536 := by
  rcases Int.le_total 0 m with h | h
  · have e : m.tmod 65536 = m % 65536 := Int.tmod_eq_emod_of_nonneg h
    rw [e, IntWalk.wrap64_in _ ⟨by omega, by omega⟩, Int.tmod_eq_emod_of_nonneg (by omega)]
    omega
  · have e : m.tmod 65536 = -((-m) % 65536) := by
      have := Int.neg_tmod (a := -m) (b := 65536)
      rw [Int.neg_neg] at this
      rw [this, Int.tmod_eq_emod_of_nonneg (by omega)]
    rw [e, IntWalk.wrap64_in _ ⟨by omega, by omega⟩, Int.tmod_eq_emod_of_nonneg (by omega)]
    omega
def aftV (x n : Int) : Int := (x + n) % 65536
theorem aftV_rng (x n : Int) : 0 ≤ aftV x n ∧ aftV x n ≤ 65535 := by unfold aftV; omega

/-! Gaps. -/
def gapV (a b : Int) : Int := (b - a) % 65536
theorem gapV_rng (a b : Int) : 0 ≤ gapV a b ∧ gapV a b ≤ 65535 := by unfold gapV; omega
theorem aftV_gap (a b : Int) : aftV b (-a) = gapV a b := by unfold aftV gapV; omega
def befB (a b : Int) : Bool := inR (gapV a b) 1 32767

/-! Words. -/
def addV (a b : Int) : Int := if a + b > 65535 then a + b - 65535 else a + b
theorem addV_rng {a b : Int} (h1 : 0 ≤ a) (h2 : a ≤ 65535) (h3 : 0 ≤ b) (h4 : b ≤ 65535) : 0 ≤ addV a b ∧ addV a b ≤ 65535 := by unfold addV; split <;> omega

end Go.Proofs.YtlammcoiaeodfaaGreatDoor
