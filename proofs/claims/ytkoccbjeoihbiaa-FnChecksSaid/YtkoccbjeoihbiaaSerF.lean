/- The exported functions over serials and words: what each returns, the program's and the reference's alike. -/
import Derived.Test.YtkoccbjeoihbiaaSer
import Derived.Test.YtkoccbjeoihbiaaBits
namespace Go.Proofs.Ytkoccbjeoihbiaa
open Go.RowKit
set_option linter.unusedVariables false

def afterSerialOk (x n : Int) : Bool := inR x (0) 65535 && inR n (-65536) 65536
def afterSerialR (x n : Int) : Int := if afterSerialOk x n then aftV x n else 0
theorem c_implAfterSerial (x n : Int) (w : World) :
    Calls Try.prog 28 #[.int .i64 x, .int .i64 n] w fun e w' => e = .returned (.tuple #[.int .i64 (afterSerialR x n), .bool (afterSerialOk x n)]) ∧ w = w' := by
  cases g0 : inR x (0) 65535
  · have R : afterSerialR x n = 0 := by simp [afterSerialR, afterSerialOk, g0]
    have O : afterSerialOk x n = false := by simp [afterSerialOk, g0]
    rw [R, O]; clear R O
    go_enter Try.func28, Try.ntmps28
    go_wp2_with (first | (go_at_call 31; refine (c_isSerial _ _).mono ?_; rintro e w' ⟨rfl, rfl⟩) | (go_at_call 109; refine (c_within _ _ _ _).mono ?_; rintro e w' ⟨rfl, rfl⟩) | (go_at_call 110; refine (c_after _ _ _ (by omega) (by omega) (by omega) (by omega)).mono ?_; rintro e w' ⟨rfl, rfl⟩))
    go_ret2
    exact ⟨rfl, rfl⟩
  · cases g1 : inR n (-65536) 65536
    · have R : afterSerialR x n = 0 := by simp [afterSerialR, afterSerialOk, g0, g1]
      have O : afterSerialOk x n = false := by simp [afterSerialOk, g0, g1]
      rw [R, O]; clear R O
      go_enter Try.func28, Try.ntmps28
      go_wp2_with (first | (go_at_call 31; refine (c_isSerial _ _).mono ?_; rintro e w' ⟨rfl, rfl⟩) | (go_at_call 109; refine (c_within _ _ _ _).mono ?_; rintro e w' ⟨rfl, rfl⟩) | (go_at_call 110; refine (c_after _ _ _ (by omega) (by omega) (by omega) (by omega)).mono ?_; rintro e w' ⟨rfl, rfl⟩))
      go_ret2
      exact ⟨rfl, rfl⟩
    · have b0 := inR_t g0
      have b1 := inR_t g1
      have R : afterSerialR x n = aftV x n := by simp [afterSerialR, afterSerialOk, g0, g1]
      have O : afterSerialOk x n = true := by simp [afterSerialOk, g0, g1]
      rw [R, O]; clear R O
      go_enter Try.func28, Try.ntmps28
      go_wp2_with (first | (go_at_call 31; refine (c_isSerial _ _).mono ?_; rintro e w' ⟨rfl, rfl⟩) | (go_at_call 109; refine (c_within _ _ _ _).mono ?_; rintro e w' ⟨rfl, rfl⟩) | (go_at_call 110; refine (c_after _ _ _ (by omega) (by omega) (by omega) (by omega)).mono ?_; rintro e w' ⟨rfl, rfl⟩))
      go_ret2
      exact ⟨rfl, rfl⟩
theorem c_specAfterSerial (x n : Int) (w : World) :
    Calls Try.prog 29 #[.int .i64 x, .int .i64 n] w fun e w' => e = .returned (.tuple #[.int .i64 (afterSerialR x n), .bool (afterSerialOk x n)]) ∧ w = w' := by
  cases g0 : inR x (0) 65535
  · have R : afterSerialR x n = 0 := by simp [afterSerialR, afterSerialOk, g0]
    have O : afterSerialOk x n = false := by simp [afterSerialOk, g0]
    rw [R, O]; clear R O
    go_enter Try.func29, Try.ntmps29
    go_wp2_with (first | (go_at_call 111; refine (c_l2Good _ _).mono ?_; rintro e w' ⟨rfl, rfl⟩) | (go_at_call 112; refine (c_l1In _ _ _ _).mono ?_; rintro e w' ⟨rfl, rfl⟩) | (go_at_call 113; refine (c_l2After _ _ _ (by omega) (by omega) (by omega) (by omega)).mono ?_; rintro e w' ⟨rfl, rfl⟩))
    go_ret2
    exact ⟨rfl, rfl⟩
  · cases g1 : inR n (-65536) 65536
    · have R : afterSerialR x n = 0 := by simp [afterSerialR, afterSerialOk, g0, g1]
      have O : afterSerialOk x n = false := by simp [afterSerialOk, g0, g1]
      rw [R, O]; clear R O
      go_enter Try.func29, Try.ntmps29
      go_wp2_with (first | (go_at_call 111; refine (c_l2Good _ _).mono ?_; rintro e w' ⟨rfl, rfl⟩) | (go_at_call 112; refine (c_l1In _ _ _ _).mono ?_; rintro e w' ⟨rfl, rfl⟩) | (go_at_call 113; refine (c_l2After _ _ _ (by omega) (by omega) (by omega) (by omega)).mono ?_; rintro e w' ⟨rfl, rfl⟩))
      go_ret2
      exact ⟨rfl, rfl⟩
    · have b0 := inR_t g0
      have b1 := inR_t g1
      have R : afterSerialR x n = aftV x n := by simp [afterSerialR, afterSerialOk, g0, g1]
      have O : afterSerialOk x n = true := by simp [afterSerialOk, g0, g1]
      rw [R, O]; clear R O
      go_enter Try.func29, Try.ntmps29
      go_wp2_with (first | (go_at_call 111; refine (c_l2Good _ _).mono ?_; rintro e w' ⟨rfl, rfl⟩) | (go_at_call 112; refine (c_l1In _ _ _ _).mono ?_; rintro e w' ⟨rfl, rfl⟩) | (go_at_call 113; refine (c_l2After _ _ _ (by omega) (by omega) (by omega) (by omega)).mono ?_; rintro e w' ⟨rfl, rfl⟩))
      go_ret2
      exact ⟨rfl, rfl⟩
def serialGapOk (a b : Int) : Bool := inR a (0) 65535 && inR b (0) 65535
def serialGapR (a b : Int) : Int := if serialGapOk a b then gapV a b else 0
theorem c_implSerialGap (a b : Int) (w : World) :
    Calls Try.prog 30 #[.int .i64 a, .int .i64 b] w fun e w' => e = .returned (.tuple #[.int .i64 (serialGapR a b), .bool (serialGapOk a b)]) ∧ w = w' := by
  cases g0 : inR a (0) 65535
  · have R : serialGapR a b = 0 := by simp [serialGapR, serialGapOk, g0]
    have O : serialGapOk a b = false := by simp [serialGapOk, g0]
    rw [R, O]; clear R O
    go_enter Try.func30, Try.ntmps30
    go_wp2_with (first | (go_at_call 31; refine (c_isSerial _ _).mono ?_; rintro e w' ⟨rfl, rfl⟩) | (go_at_call 114; refine (c_gap _ _ _ (by omega) (by omega) (by omega) (by omega)).mono ?_; rintro e w' ⟨rfl, rfl⟩))
    go_ret2
    exact ⟨rfl, rfl⟩
  · cases g1 : inR b (0) 65535
    · have R : serialGapR a b = 0 := by simp [serialGapR, serialGapOk, g0, g1]
      have O : serialGapOk a b = false := by simp [serialGapOk, g0, g1]
      rw [R, O]; clear R O
      go_enter Try.func30, Try.ntmps30
      go_wp2_with (first | (go_at_call 31; refine (c_isSerial _ _).mono ?_; rintro e w' ⟨rfl, rfl⟩) | (go_at_call 114; refine (c_gap _ _ _ (by omega) (by omega) (by omega) (by omega)).mono ?_; rintro e w' ⟨rfl, rfl⟩))
      go_ret2
      exact ⟨rfl, rfl⟩
    · have b0 := inR_t g0
      have b1 := inR_t g1
      have R : serialGapR a b = gapV a b := by simp [serialGapR, serialGapOk, g0, g1]
      have O : serialGapOk a b = true := by simp [serialGapOk, g0, g1]
      rw [R, O]; clear R O
      go_enter Try.func30, Try.ntmps30
      go_wp2_with (first | (go_at_call 31; refine (c_isSerial _ _).mono ?_; rintro e w' ⟨rfl, rfl⟩) | (go_at_call 114; refine (c_gap _ _ _ (by omega) (by omega) (by omega) (by omega)).mono ?_; rintro e w' ⟨rfl, rfl⟩))
      go_ret2
      exact ⟨rfl, rfl⟩
def isBeforeOk (a b : Int) : Bool := inR a (0) 65535 && inR b (0) 65535
def isBeforeR (a b : Int) : Bool := if isBeforeOk a b then befB a b else false
theorem c_implIsBefore (a b : Int) (w : World) :
    Calls Try.prog 33 #[.int .i64 a, .int .i64 b] w fun e w' => e = .returned (.tuple #[.bool (isBeforeR a b), .bool (isBeforeOk a b)]) ∧ w = w' := by
  cases g0 : inR a (0) 65535
  · have R : isBeforeR a b = false := by simp [isBeforeR, isBeforeOk, g0]
    have O : isBeforeOk a b = false := by simp [isBeforeOk, g0]
    rw [R, O]; clear R O
    go_enter Try.func33, Try.ntmps33
    go_wp2_with (first | (go_at_call 31; refine (c_isSerial _ _).mono ?_; rintro e w' ⟨rfl, rfl⟩) | (go_at_call 116; refine (c_isBefore _ _ _ (by omega) (by omega) (by omega) (by omega)).mono ?_; rintro e w' ⟨rfl, rfl⟩))
    go_ret2
    exact ⟨rfl, rfl⟩
  · cases g1 : inR b (0) 65535
    · have R : isBeforeR a b = false := by simp [isBeforeR, isBeforeOk, g0, g1]
      have O : isBeforeOk a b = false := by simp [isBeforeOk, g0, g1]
      rw [R, O]; clear R O
      go_enter Try.func33, Try.ntmps33
      go_wp2_with (first | (go_at_call 31; refine (c_isSerial _ _).mono ?_; rintro e w' ⟨rfl, rfl⟩) | (go_at_call 116; refine (c_isBefore _ _ _ (by omega) (by omega) (by omega) (by omega)).mono ?_; rintro e w' ⟨rfl, rfl⟩))
      go_ret2
      exact ⟨rfl, rfl⟩
    · have b0 := inR_t g0
      have b1 := inR_t g1
      have R : isBeforeR a b = befB a b := by simp [isBeforeR, isBeforeOk, g0, g1]
      have O : isBeforeOk a b = true := by simp [isBeforeOk, g0, g1]
      rw [R, O]; clear R O
      go_enter Try.func33, Try.ntmps33
      go_wp2_with (first | (go_at_call 31; refine (c_isSerial _ _).mono ?_; rintro e w' ⟨rfl, rfl⟩) | (go_at_call 116; refine (c_isBefore _ _ _ (by omega) (by omega) (by omega) (by omega)).mono ?_; rintro e w' ⟨rfl, rfl⟩))
      go_ret2
      exact ⟨rfl, rfl⟩
theorem c_specIsBefore (a b : Int) (w : World) :
    Calls Try.prog 34 #[.int .i64 a, .int .i64 b] w fun e w' => e = .returned (.tuple #[.bool (isBeforeR a b), .bool (isBeforeOk a b)]) ∧ w = w' := by
  cases g0 : inR a (0) 65535
  · have R : isBeforeR a b = false := by simp [isBeforeR, isBeforeOk, g0]
    have O : isBeforeOk a b = false := by simp [isBeforeOk, g0]
    rw [R, O]; clear R O
    go_enter Try.func34, Try.ntmps34
    go_wp2_with (first | (go_at_call 111; refine (c_l2Good _ _).mono ?_; rintro e w' ⟨rfl, rfl⟩) | (go_at_call 117; refine (c_l2Before _ _ _ (by omega) (by omega) (by omega) (by omega)).mono ?_; rintro e w' ⟨rfl, rfl⟩))
    go_ret2
    exact ⟨rfl, rfl⟩
  · cases g1 : inR b (0) 65535
    · have R : isBeforeR a b = false := by simp [isBeforeR, isBeforeOk, g0, g1]
      have O : isBeforeOk a b = false := by simp [isBeforeOk, g0, g1]
      rw [R, O]; clear R O
      go_enter Try.func34, Try.ntmps34
      go_wp2_with (first | (go_at_call 111; refine (c_l2Good _ _).mono ?_; rintro e w' ⟨rfl, rfl⟩) | (go_at_call 117; refine (c_l2Before _ _ _ (by omega) (by omega) (by omega) (by omega)).mono ?_; rintro e w' ⟨rfl, rfl⟩))
      go_ret2
      exact ⟨rfl, rfl⟩
    · have b0 := inR_t g0
      have b1 := inR_t g1
      have R : isBeforeR a b = befB a b := by simp [isBeforeR, isBeforeOk, g0, g1]
      have O : isBeforeOk a b = true := by simp [isBeforeOk, g0, g1]
      rw [R, O]; clear R O
      go_enter Try.func34, Try.ntmps34
      go_wp2_with (first | (go_at_call 111; refine (c_l2Good _ _).mono ?_; rintro e w' ⟨rfl, rfl⟩) | (go_at_call 117; refine (c_l2Before _ _ _ (by omega) (by omega) (by omega) (by omega)).mono ?_; rintro e w' ⟨rfl, rfl⟩))
      go_ret2
      exact ⟨rfl, rfl⟩
def inSpanOk (x f c : Int) : Bool := inR x (0) 65535 && inR f (0) 65535 && inR c (0) 65536
def inSpanR (x f c : Int) : Bool := if inSpanOk x f c then decide (gapV f x < c) else false
theorem c_implInSpan (x f c : Int) (w : World) :
    Calls Try.prog 38 #[.int .i64 x, .int .i64 f, .int .i64 c] w fun e w' => e = .returned (.tuple #[.bool (inSpanR x f c), .bool (inSpanOk x f c)]) ∧ w = w' := by
  cases g0 : inR x (0) 65535
  · have R : inSpanR x f c = false := by simp [inSpanR, inSpanOk, g0]
    have O : inSpanOk x f c = false := by simp [inSpanOk, g0]
    rw [R, O]; clear R O
    go_enter Try.func38, Try.ntmps38
    go_wp2_with (first | (go_at_call 31; refine (c_isSerial _ _).mono ?_; rintro e w' ⟨rfl, rfl⟩) | (go_at_call 109; refine (c_within _ _ _ _).mono ?_; rintro e w' ⟨rfl, rfl⟩) | (go_at_call 114; refine (c_gap _ _ _ (by omega) (by omega) (by omega) (by omega)).mono ?_; rintro e w' ⟨rfl, rfl⟩))
    go_ret2
    exact ⟨rfl, rfl⟩
  · cases g1 : inR f (0) 65535
    · have R : inSpanR x f c = false := by simp [inSpanR, inSpanOk, g0, g1]
      have O : inSpanOk x f c = false := by simp [inSpanOk, g0, g1]
      rw [R, O]; clear R O
      go_enter Try.func38, Try.ntmps38
      go_wp2_with (first | (go_at_call 31; refine (c_isSerial _ _).mono ?_; rintro e w' ⟨rfl, rfl⟩) | (go_at_call 109; refine (c_within _ _ _ _).mono ?_; rintro e w' ⟨rfl, rfl⟩) | (go_at_call 114; refine (c_gap _ _ _ (by omega) (by omega) (by omega) (by omega)).mono ?_; rintro e w' ⟨rfl, rfl⟩))
      go_ret2
      exact ⟨rfl, rfl⟩
    · cases g2 : inR c (0) 65536
      · have R : inSpanR x f c = false := by simp [inSpanR, inSpanOk, g0, g1, g2]
        have O : inSpanOk x f c = false := by simp [inSpanOk, g0, g1, g2]
        rw [R, O]; clear R O
        go_enter Try.func38, Try.ntmps38
        go_wp2_with (first | (go_at_call 31; refine (c_isSerial _ _).mono ?_; rintro e w' ⟨rfl, rfl⟩) | (go_at_call 109; refine (c_within _ _ _ _).mono ?_; rintro e w' ⟨rfl, rfl⟩) | (go_at_call 114; refine (c_gap _ _ _ (by omega) (by omega) (by omega) (by omega)).mono ?_; rintro e w' ⟨rfl, rfl⟩))
        go_ret2
        exact ⟨rfl, rfl⟩
      · have b0 := inR_t g0
        have b1 := inR_t g1
        have b2 := inR_t g2
        have R : inSpanR x f c = decide (gapV f x < c) := by simp [inSpanR, inSpanOk, g0, g1, g2]
        have O : inSpanOk x f c = true := by simp [inSpanOk, g0, g1, g2]
        rw [R, O]; clear R O
        go_enter Try.func38, Try.ntmps38
        go_wp2_with (first | (go_at_call 31; refine (c_isSerial _ _).mono ?_; rintro e w' ⟨rfl, rfl⟩) | (go_at_call 109; refine (c_within _ _ _ _).mono ?_; rintro e w' ⟨rfl, rfl⟩) | (go_at_call 114; refine (c_gap _ _ _ (by omega) (by omega) (by omega) (by omega)).mono ?_; rintro e w' ⟨rfl, rfl⟩))
        go_ret2
        exact ⟨rfl, rfl⟩
theorem c_specInSpan (x f c : Int) (w : World) :
    Calls Try.prog 39 #[.int .i64 x, .int .i64 f, .int .i64 c] w fun e w' => e = .returned (.tuple #[.bool (inSpanR x f c), .bool (inSpanOk x f c)]) ∧ w = w' := by
  cases g0 : inR x (0) 65535
  · have R : inSpanR x f c = false := by simp [inSpanR, inSpanOk, g0]
    have O : inSpanOk x f c = false := by simp [inSpanOk, g0]
    rw [R, O]; clear R O
    go_enter Try.func39, Try.ntmps39
    go_wp2_with (first | (go_at_call 111; refine (c_l2Good _ _).mono ?_; rintro e w' ⟨rfl, rfl⟩) | (go_at_call 112; refine (c_l1In _ _ _ _).mono ?_; rintro e w' ⟨rfl, rfl⟩) | (go_at_call 120; refine (c_l2Gap _ _ _ (by omega) (by omega) (by omega) (by omega)).mono ?_; rintro e w' ⟨rfl, rfl⟩))
    go_ret2
    exact ⟨rfl, rfl⟩
  · cases g1 : inR f (0) 65535
    · have R : inSpanR x f c = false := by simp [inSpanR, inSpanOk, g0, g1]
      have O : inSpanOk x f c = false := by simp [inSpanOk, g0, g1]
      rw [R, O]; clear R O
      go_enter Try.func39, Try.ntmps39
      go_wp2_with (first | (go_at_call 111; refine (c_l2Good _ _).mono ?_; rintro e w' ⟨rfl, rfl⟩) | (go_at_call 112; refine (c_l1In _ _ _ _).mono ?_; rintro e w' ⟨rfl, rfl⟩) | (go_at_call 120; refine (c_l2Gap _ _ _ (by omega) (by omega) (by omega) (by omega)).mono ?_; rintro e w' ⟨rfl, rfl⟩))
      go_ret2
      exact ⟨rfl, rfl⟩
    · cases g2 : inR c (0) 65536
      · have R : inSpanR x f c = false := by simp [inSpanR, inSpanOk, g0, g1, g2]
        have O : inSpanOk x f c = false := by simp [inSpanOk, g0, g1, g2]
        rw [R, O]; clear R O
        go_enter Try.func39, Try.ntmps39
        go_wp2_with (first | (go_at_call 111; refine (c_l2Good _ _).mono ?_; rintro e w' ⟨rfl, rfl⟩) | (go_at_call 112; refine (c_l1In _ _ _ _).mono ?_; rintro e w' ⟨rfl, rfl⟩) | (go_at_call 120; refine (c_l2Gap _ _ _ (by omega) (by omega) (by omega) (by omega)).mono ?_; rintro e w' ⟨rfl, rfl⟩))
        go_ret2
        exact ⟨rfl, rfl⟩
      · have b0 := inR_t g0
        have b1 := inR_t g1
        have b2 := inR_t g2
        have R : inSpanR x f c = decide (gapV f x < c) := by simp [inSpanR, inSpanOk, g0, g1, g2]
        have O : inSpanOk x f c = true := by simp [inSpanOk, g0, g1, g2]
        rw [R, O]; clear R O
        go_enter Try.func39, Try.ntmps39
        go_wp2_with (first | (go_at_call 111; refine (c_l2Good _ _).mono ?_; rintro e w' ⟨rfl, rfl⟩) | (go_at_call 112; refine (c_l1In _ _ _ _).mono ?_; rintro e w' ⟨rfl, rfl⟩) | (go_at_call 120; refine (c_l2Gap _ _ _ (by omega) (by omega) (by omega) (by omega)).mono ?_; rintro e w' ⟨rfl, rfl⟩))
        go_ret2
        exact ⟨rfl, rfl⟩
def addWordsOk (a b : Int) : Bool := inR a (0) 65535 && inR b (0) 65535
def addWordsR (a b : Int) : Int := if addWordsOk a b then addV a b else 0
theorem c_implAddWords (a b : Int) (w : World) :
    Calls Try.prog 74 #[.int .i64 a, .int .i64 b] w fun e w' => e = .returned (.tuple #[.int .i64 (addWordsR a b), .bool (addWordsOk a b)]) ∧ w = w' := by
  cases g0 : inR a (0) 65535
  · have R : addWordsR a b = 0 := by simp [addWordsR, addWordsOk, g0]
    have O : addWordsOk a b = false := by simp [addWordsOk, g0]
    rw [R, O]; clear R O
    go_enter Try.func74, Try.ntmps74
    go_wp2_with (first | (go_at_call 98; refine (c_isWord _ _).mono ?_; rintro e w' ⟨rfl, rfl⟩) | (go_at_call 139; refine (c_addWords _ _ _ (by omega) (by omega) (by omega) (by omega)).mono ?_; rintro e w' ⟨rfl, rfl⟩))
    go_ret2
    exact ⟨rfl, rfl⟩
  · cases g1 : inR b (0) 65535
    · have R : addWordsR a b = 0 := by simp [addWordsR, addWordsOk, g0, g1]
      have O : addWordsOk a b = false := by simp [addWordsOk, g0, g1]
      rw [R, O]; clear R O
      go_enter Try.func74, Try.ntmps74
      go_wp2_with (first | (go_at_call 98; refine (c_isWord _ _).mono ?_; rintro e w' ⟨rfl, rfl⟩) | (go_at_call 139; refine (c_addWords _ _ _ (by omega) (by omega) (by omega) (by omega)).mono ?_; rintro e w' ⟨rfl, rfl⟩))
      go_ret2
      exact ⟨rfl, rfl⟩
    · have b0 := inR_t g0
      have b1 := inR_t g1
      have R : addWordsR a b = addV a b := by simp [addWordsR, addWordsOk, g0, g1]
      have O : addWordsOk a b = true := by simp [addWordsOk, g0, g1]
      rw [R, O]; clear R O
      go_enter Try.func74, Try.ntmps74
      go_wp2_with (first | (go_at_call 98; refine (c_isWord _ _).mono ?_; rintro e w' ⟨rfl, rfl⟩) | (go_at_call 139; refine (c_addWords _ _ _ (by omega) (by omega) (by omega) (by omega)).mono ?_; rintro e w' ⟨rfl, rfl⟩))
      go_ret2
      exact ⟨rfl, rfl⟩
theorem c_specAddWords (a b : Int) (w : World) :
    Calls Try.prog 79 #[.int .i64 a, .int .i64 b] w fun e w' => e = .returned (.tuple #[.int .i64 (addWordsR a b), .bool (addWordsOk a b)]) ∧ w = w' := by
  cases g0 : inR a (0) 65535
  · have R : addWordsR a b = 0 := by simp [addWordsR, addWordsOk, g0]
    have O : addWordsOk a b = false := by simp [addWordsOk, g0]
    rw [R, O]; clear R O
    go_enter Try.func79, Try.ntmps79
    go_wp2_with (first | (go_at_call 94; refine (c_l3Word _ _).mono ?_; rintro e w' ⟨rfl, rfl⟩) | (go_at_call 136; refine (c_l3Add _ _ _ (by omega) (by omega) (by omega) (by omega)).mono ?_; rintro e w' ⟨rfl, rfl⟩))
    go_ret2
    exact ⟨rfl, rfl⟩
  · cases g1 : inR b (0) 65535
    · have R : addWordsR a b = 0 := by simp [addWordsR, addWordsOk, g0, g1]
      have O : addWordsOk a b = false := by simp [addWordsOk, g0, g1]
      rw [R, O]; clear R O
      go_enter Try.func79, Try.ntmps79
      go_wp2_with (first | (go_at_call 94; refine (c_l3Word _ _).mono ?_; rintro e w' ⟨rfl, rfl⟩) | (go_at_call 136; refine (c_l3Add _ _ _ (by omega) (by omega) (by omega) (by omega)).mono ?_; rintro e w' ⟨rfl, rfl⟩))
      go_ret2
      exact ⟨rfl, rfl⟩
    · have b0 := inR_t g0
      have b1 := inR_t g1
      have R : addWordsR a b = addV a b := by simp [addWordsR, addWordsOk, g0, g1]
      have O : addWordsOk a b = true := by simp [addWordsOk, g0, g1]
      rw [R, O]; clear R O
      go_enter Try.func79, Try.ntmps79
      go_wp2_with (first | (go_at_call 94; refine (c_l3Word _ _).mono ?_; rintro e w' ⟨rfl, rfl⟩) | (go_at_call 136; refine (c_l3Add _ _ _ (by omega) (by omega) (by omega) (by omega)).mono ?_; rintro e w' ⟨rfl, rfl⟩))
      go_ret2
      exact ⟨rfl, rfl⟩
def swapOk (x : Int) : Bool := inR x 0 65535
def swapR (x : Int) : Int := if swapOk x then x % 256 * 256 + x / 256 else 0
theorem c_implSwapWord (x : Int) (w : World) :
    Calls Try.prog 64 #[.int .i64 x] w fun e w' => e = .returned (.tuple #[.int .i64 (swapR x), .bool (swapOk x)]) ∧ w = w' := by
  cases g0 : inR x 0 65535
  · rw [show swapR x = 0 from by simp [swapR, swapOk, g0], show swapOk x = false from g0]
    go_enter Try.func64, Try.ntmps64
    go_wp2_with (go_at_call 98; refine (c_isWord _ _).mono ?_; rintro e w' ⟨rfl, rfl⟩)
    go_ret2
    exact ⟨rfl, rfl⟩
  · have b0 := inR_t g0
    have H := Lib.hid (swap_bits x b0.1 b0.2)
    rw [show swapR x = x % 256 * 256 + x / 256 from by simp [swapR, swapOk, g0], show swapOk x = true from g0]
    go_enter Try.func64, Try.ntmps64
    go_wp2_with (go_at_call 98; refine (c_isWord _ _).mono ?_; rintro e w' ⟨rfl, rfl⟩)
    go_ret2
    exact ⟨ret_ib H.out, rfl⟩
theorem c_specSwapWord (x : Int) (w : World) :
    Calls Try.prog 81 #[.int .i64 x] w fun e w' => e = .returned (.tuple #[.int .i64 (swapR x), .bool (swapOk x)]) ∧ w = w' := by
  cases g0 : inR x 0 65535
  · rw [show swapR x = 0 from by simp [swapR, swapOk, g0], show swapOk x = false from g0]
    go_enter Try.func81, Try.ntmps81
    go_wp2_with (go_at_call 94; refine (c_l3Word _ _).mono ?_; rintro e w' ⟨rfl, rfl⟩)
    go_ret2
    exact ⟨rfl, rfl⟩
  · have b0 := inR_t g0
    rw [show swapR x = x % 256 * 256 + x / 256 from by simp [swapR, swapOk, g0], show swapOk x = true from g0]
    go_enter Try.func81, Try.ntmps81
    go_wp2_with (go_at_call 94; refine (c_l3Word _ _).mono ?_; rintro e w' ⟨rfl, rfl⟩)
    go_ret2
    exact ⟨rfl, rfl⟩
def laterSerialOk (a b : Int) : Bool := inR a (0) 65535 && inR b (0) 65535
def laterSerialR (a b : Int) : Int := if laterSerialOk a b then (if befB a b then b else a) else 0
theorem c_implLaterSerial (a b : Int) (w : World) :
    Calls Try.prog 35 #[.int .i64 a, .int .i64 b] w fun e w' => e = .returned (.tuple #[.int .i64 (laterSerialR a b), .bool (laterSerialOk a b)]) ∧ w = w' := by
  cases g0 : inR a 0 65535
  · rw [show laterSerialR a b = 0 from by simp [laterSerialR, laterSerialOk, g0], show laterSerialOk a b = false from by simp [laterSerialOk, g0]]
    go_enter Try.func35, Try.ntmps35
    go_wp2_with (first | (go_at_call 31; refine (c_isSerial _ _).mono ?_; rintro e w' ⟨rfl, rfl⟩) | (go_at_call 116; refine (c_isBefore _ _ _ (by omega) (by omega) (by omega) (by omega)).mono ?_; rintro e w' ⟨rfl, rfl⟩))
    go_ret2
    exact ⟨rfl, rfl⟩
  cases g1 : inR b 0 65535
  · rw [show laterSerialR a b = 0 from by simp [laterSerialR, laterSerialOk, g0, g1], show laterSerialOk a b = false from by simp [laterSerialOk, g0, g1]]
    go_enter Try.func35, Try.ntmps35
    go_wp2_with (first | (go_at_call 31; refine (c_isSerial _ _).mono ?_; rintro e w' ⟨rfl, rfl⟩) | (go_at_call 116; refine (c_isBefore _ _ _ (by omega) (by omega) (by omega) (by omega)).mono ?_; rintro e w' ⟨rfl, rfl⟩))
    go_ret2
    exact ⟨rfl, rfl⟩
  have b0 := inR_t g0
  have b1 := inR_t g1
  cases g2 : befB a b
  · rw [show laterSerialR a b = a from by simp [laterSerialR, laterSerialOk, g0, g1, g2], show laterSerialOk a b = true from by simp [laterSerialOk, g0, g1]]
    go_enter Try.func35, Try.ntmps35
    go_wp2_with (first | (go_at_call 31; refine (c_isSerial _ _).mono ?_; rintro e w' ⟨rfl, rfl⟩) | (go_at_call 116; refine (c_isBefore _ _ _ (by omega) (by omega) (by omega) (by omega)).mono ?_; rintro e w' ⟨rfl, rfl⟩))
    go_ret2
    exact ⟨rfl, rfl⟩
  · rw [show laterSerialR a b = b from by simp [laterSerialR, laterSerialOk, g0, g1, g2], show laterSerialOk a b = true from by simp [laterSerialOk, g0, g1]]
    go_enter Try.func35, Try.ntmps35
    go_wp2_with (first | (go_at_call 31; refine (c_isSerial _ _).mono ?_; rintro e w' ⟨rfl, rfl⟩) | (go_at_call 116; refine (c_isBefore _ _ _ (by omega) (by omega) (by omega) (by omega)).mono ?_; rintro e w' ⟨rfl, rfl⟩))
    go_ret2
    exact ⟨rfl, rfl⟩
theorem c_specLaterSerial (a b : Int) (w : World) :
    Calls Try.prog 36 #[.int .i64 a, .int .i64 b] w fun e w' => e = .returned (.tuple #[.int .i64 (laterSerialR a b), .bool (laterSerialOk a b)]) ∧ w = w' := by
  cases g0 : inR a 0 65535
  · rw [show laterSerialR a b = 0 from by simp [laterSerialR, laterSerialOk, g0], show laterSerialOk a b = false from by simp [laterSerialOk, g0]]
    go_enter Try.func36, Try.ntmps36
    go_wp2_with (first | (go_at_call 111; refine (c_l2Good _ _).mono ?_; rintro e w' ⟨rfl, rfl⟩) | (go_at_call 117; refine (c_l2Before _ _ _ (by omega) (by omega) (by omega) (by omega)).mono ?_; rintro e w' ⟨rfl, rfl⟩))
    go_ret2
    exact ⟨rfl, rfl⟩
  cases g1 : inR b 0 65535
  · rw [show laterSerialR a b = 0 from by simp [laterSerialR, laterSerialOk, g0, g1], show laterSerialOk a b = false from by simp [laterSerialOk, g0, g1]]
    go_enter Try.func36, Try.ntmps36
    go_wp2_with (first | (go_at_call 111; refine (c_l2Good _ _).mono ?_; rintro e w' ⟨rfl, rfl⟩) | (go_at_call 117; refine (c_l2Before _ _ _ (by omega) (by omega) (by omega) (by omega)).mono ?_; rintro e w' ⟨rfl, rfl⟩))
    go_ret2
    exact ⟨rfl, rfl⟩
  have b0 := inR_t g0
  have b1 := inR_t g1
  cases g2 : befB a b
  · rw [show laterSerialR a b = a from by simp [laterSerialR, laterSerialOk, g0, g1, g2], show laterSerialOk a b = true from by simp [laterSerialOk, g0, g1]]
    go_enter Try.func36, Try.ntmps36
    go_wp2_with (first | (go_at_call 111; refine (c_l2Good _ _).mono ?_; rintro e w' ⟨rfl, rfl⟩) | (go_at_call 117; refine (c_l2Before _ _ _ (by omega) (by omega) (by omega) (by omega)).mono ?_; rintro e w' ⟨rfl, rfl⟩))
    go_ret2
    exact ⟨rfl, rfl⟩
  · rw [show laterSerialR a b = b from by simp [laterSerialR, laterSerialOk, g0, g1, g2], show laterSerialOk a b = true from by simp [laterSerialOk, g0, g1]]
    go_enter Try.func36, Try.ntmps36
    go_wp2_with (first | (go_at_call 111; refine (c_l2Good _ _).mono ?_; rintro e w' ⟨rfl, rfl⟩) | (go_at_call 117; refine (c_l2Before _ _ _ (by omega) (by omega) (by omega) (by omega)).mono ?_; rintro e w' ⟨rfl, rfl⟩))
    go_ret2
    exact ⟨rfl, rfl⟩
theorem c_specIsSerial (x : Int) (w : World) :
    Calls Try.prog 40 #[.int .i64 x] w fun e w' => e = .returned (.bool (inR x 0 65535)) ∧ w = w' := by
  go_enter Try.func40, Try.ntmps40
  go_wp2_with (go_at_call 111; refine (c_l2Good _ _).mono ?_; rintro e w' ⟨rfl, rfl⟩)
  go_ret
  exact ⟨rfl, rfl⟩

end Go.Proofs.Ytkoccbjeoihbiaa
