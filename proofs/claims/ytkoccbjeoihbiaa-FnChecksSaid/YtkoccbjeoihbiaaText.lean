/- The sum of the words of two texts, one behind the other. -/
import Derived.Test.YtkoccbjeoihbiaaSpan
import Derived.Test.YtkoccbjeoihbiaaGood
namespace Go.Proofs.Ytkoccbjeoihbiaa
open Go.RowKit
set_option linter.unusedVariables false
set_option maxRecDepth 100000

theorem wAt_rng (s : ByteArray) (k j : Nat) : 0 ≤ wAt s k j ∧ wAt s k j ≤ 65535 := by
  have a := byte_rng (s.data.toList.getD (2 * j) 0)
  have b := byte_rng (s.data.toList.getD (2 * j + 1) 0)
  unfold wAt
  split <;> split <;> omega
theorem wordsL_areW (s : ByteArray) : AreW (wordsL s) := fun i hi => by
  simp only [wordsL, wordsK_length] at hi
  simp only [wordsL, wordsK, List.getD_eq_getElem?_getD, List.getElem?_map, List.getElem?_range hi, Option.map_some, Option.getD_some]
  exact wAt_rng _ _ _
theorem wordsL_len (s : ByteArray) : (wordsL s).length = (s.size + 1) / 2 := wordsK_length _ _ _
def textOk (a b : ByteArray) : Bool := decide (a.size + b.size ≤ 80)
def textR (a b : ByteArray) : Int := if textOk a b then sumW (wordsL (a ++ b)) else 0
set_option maxHeartbeats 400000 in
theorem c_specTextSum (a b : ByteArray) (w : World) (ha : a.size ≤ 10000000) (hb : b.size ≤ 10000000) :
    Calls Try.prog 73 #[.string a, .string b] w fun e w' => e = .returned (.tuple #[.int .i64 (textR a b), .bool (textOk a b)]) ∧ Below w.heap.size w w' := by
  by_cases hl : a.size + b.size ≤ 80
  · rw [show textOk a b = true from by simp [textOk, hl], show textR a b = sumW (wordsL (a ++ b)) from by simp [textR, textOk, hl]]
    have hsz : (a ++ b).size ≤ 80 := by rw [ByteArray.size_append]; exact hl
    have C := fun W => Lib.hid (c_l3Words (a ++ b) W (by omega))
    have HW := Lib.hid (wordsL_areW (a ++ b))
    have HL := Lib.hid (wordsL_len (a ++ b))
    go_enter Try.func73, Try.ntmps73
    go_wp2_with fail
    refine (C _).out.mono ?_
    rintro e w1 ⟨A, cap, rfl, hown, hbel⟩
    have HI := Lib.hid hown.ints
    clear hown C
    go_wp2_with fail
    refine (c_l3Sum A cap _ _ HI.out HW.out (by rw [HL.out]; omega)).mono ?_
    rintro e w' ⟨rfl, rfl⟩
    go_wp2
    go_ret2
    exact ⟨rfl, hbel⟩
  · rw [show textOk a b = false from by simp [textOk]; omega, show textR a b = 0 from by simp [textR, textOk]; omega]
    go_enter Try.func73, Try.ntmps73
    go_wp2
    go_ret2
    exact ⟨rfl, Below.refl _ _⟩
set_option maxHeartbeats 400000 in
theorem c_implTextSum (a b : ByteArray) (w : World) (ha : a.size ≤ 10000000) (hb : b.size ≤ 10000000) :
    Calls Try.prog 72 #[.string a, .string b] w fun e w' => e = .returned (.tuple #[.int .i64 (textR a b), .bool (textOk a b)]) ∧ Below w.heap.size w w' := by
  have C := fun W => Lib.hid (c_implWordsOf (a ++ b) W)
  by_cases hl : a.size + b.size ≤ 80
  · rw [show textOk a b = true from by simp [textOk, hl], show textR a b = sumW (wordsL (a ++ b)) from by simp [textR, textOk, hl]]
    have HOk : Hid (wordsOk (a ++ b) = true) := Lib.hid (by simp [wordsOk, ByteArray.size_append, hl])
    have HR : Hid (wordsR (a ++ b) = wordsL (a ++ b)) := Lib.hid (by unfold wordsR; rw [HOk.out]; rfl)
    rw [HOk.out, HR.out] at C
    have HW := Lib.hid (wordsL_areW (a ++ b))
    have HL := Lib.hid ((wordsL_len (a ++ b)).trans (by rw [ByteArray.size_append]))
    go_enter Try.func72, Try.ntmps72
    go_wp2_with fail
    refine (C _).out.mono ?_
    rintro e w1 ⟨A, cap, rfl, hown, hbel⟩
    have HI := Lib.hid hown.ints
    clear hown C
    go_wp2_with fail
    refine (c_wordSum A cap _ _ HI.out HW.out (by rw [HL.out]; omega)).mono ?_
    rintro e w' ⟨rfl, rfl⟩
    go_wp2
    go_ret2
    exact ⟨rfl, hbel⟩
  · rw [show textOk a b = false from by simp [textOk]; omega, show textR a b = 0 from by simp [textR, textOk]; omega]
    have HOk : Hid (wordsOk (a ++ b) = false) := Lib.hid (by simp [wordsOk, ByteArray.size_append]; omega)
    rw [HOk.out] at C
    go_enter Try.func72, Try.ntmps72
    go_wp2_with fail
    refine (C _).out.mono ?_
    rintro e w1 ⟨A, cap, rfl, _, hbel⟩
    clear C
    go_wp2
    go_ret2
    exact ⟨rfl, hbel⟩
end Go.Proofs.Ytkoccbjeoihbiaa
