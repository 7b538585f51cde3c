/- Numbers written: the program's and the reference's FormatInt. -/
import Derived.Test.YtnbgjkblhbpjlaaDoorLib
namespace Go.Proofs.YtnbgjkblhbpjlaaDoor
open Go.RowKit
open Go.Lib (itoa decDigits)
set_option linter.unusedVariables false
set_option maxRecDepth 100000

def fmtT (n : Int) : List UInt8 := if numOk n then itoa n else []
theorem numOk_in (n : Int) : inR n (-999999) 999999 = numOk n := by
  unfold inR numOk
  rw [Bool.eq_iff_iff]
  simp
theorem ret_sb {a b : ByteArray} {c : Bool} (h : a = b) : Ending.returned (.tuple #[.string a, .bool c]) = .returned (.tuple #[.string b, .bool c]) := by rw [h]
set_option maxHeartbeats 400000 in
theorem c_specFormatInt (n : Int) (w : World) :
    Calls Tryd.prog 14 #[.int .i64 n] w fun e w' => e = .returned (.tuple #[.string (str (fmtT n)), .bool (numOk n)]) ∧ Below w.heap.size w w' := by
  have C := fun W => Lib.hid (numOk_in n ▸ c_l1In n (-999999) 999999 W)
  cases g : numOk n
  · rw [show fmtT n = [] from by simp [fmtT, g]]
    rw [g] at C
    go_enter Tryd.func14, Tryd.ntmps14
    go_wp2_with fail
    refine (C _).out.mono ?_
    rintro e _ ⟨rfl, rfl⟩
    go_wp2
    go_ret2
    exact ⟨rfl, Below.refl _ _⟩
  · rw [show fmtT n = itoa n from by simp [fmtT, g]]
    rw [g] at C
    have hn := numOk_t g
    go_enter Tryd.func14, Tryd.ntmps14
    go_wp2_with fail
    refine (C _).out.mono ?_
    rintro e _ ⟨rfl, rfl⟩
    go_wp2_with fail
    refine (c_l1Num n _ (by omega) (by omega)).mono ?_
    rintro e _ ⟨rfl, q, rfl⟩
    go_wp2
    go_ret2
    exact ⟨rfl, below_dr (Below.refl _ _) _⟩
set_option maxHeartbeats 400000 in
theorem c_implFormatInt {B : Nat} (n : Int) (w : World) (h : PowW w B) :
    Calls Tryd.prog 15 #[.int .i64 n] w fun e w' => e = .returned (.tuple #[.string (str (fmtT n)), .bool (numOk n)]) ∧ Below w.heap.size w w' := by
  have C := fun W => Lib.hid (numOk_in n ▸ c_within n (-999999) 999999 W)
  cases g : numOk n
  · rw [show fmtT n = [] from by simp [fmtT, g]]
    rw [g] at C
    go_enter Tryd.func15, Tryd.ntmps15
    go_wp2_with fail
    refine (C _).out.mono ?_
    rintro e _ ⟨rfl, rfl⟩
    go_wp2
    go_ret2
    exact ⟨rfl, Below.refl _ _⟩
  · rw [show fmtT n = itoa n from by simp [fmtT, g]]
    rw [g] at C
    have hn := numOk_t g
    have HI := Lib.hid (c_itoa n w h (by omega) (by omega))
    clear h
    go_enter Tryd.func15, Tryd.ntmps15
    go_wp2_with fail
    refine (C _).out.mono ?_
    rintro e _ ⟨rfl, rfl⟩
    go_wp2_with fail
    refine HI.out.mono ?_
    rintro e w1 ⟨rfl, hb⟩
    go_wp2
    go_ret2
    exact ⟨rfl, hb⟩
end Go.Proofs.YtnbgjkblhbpjlaaDoor
