/- The reference's numerals: written by its own recursion. -/
import Derived.Test.YtnbgjkblhbpjlaaSer
import Derived.Test.YtnbgjkblhbpjlaaMem
import Derived.Test.YtnbgjkblhbpjlaaDec
import Derived.WalkSpells
import Derived.Outline
namespace Go.Proofs.Ytnbgjkblhbpjlaa
open Go.RowKit Go.Lib
set_option linter.unusedVariables false
set_option maxRecDepth 100000

/-- A text of bytes. -/
def str (l : List UInt8) : ByteArray := ⟨l.toArray⟩
theorem str_list (s : ByteArray) : str s.data.toList = s := by cases s; rfl
theorem list_str (l : List UInt8) : (str l).data.toList = l := rfl
theorem str_size (l : List UInt8) : (str l).size = l.length := by show l.toArray.size = _; simp
theorem str_inj {a b : List UInt8} (h : str a = str b) : a = b := by rw [← list_str a, ← list_str b, h]
theorem str_append (a b : List UInt8) : str a ++ str b = str (a ++ b) := by
  apply ByteArray.ext
  rw [ByteArray.data_append]
  simp [str]
theorem digit_piece : ∀ m : Fin 10, (⟨#[48, 49, 50, 51, 52, 53, 54, 55, 56, 57]⟩ : ByteArray).extract m.val (m.val + 1) = str (decDigits m.val) := by decide +kernel
/-- A call that only draws, inside a region that draws its order. -/
theorem quiet_drew {P : Program} {f : FuncId} {args : Array Value} {w : World} {n : Nat} {v : Value}
    (h : Calls P f args (w.drewN n) fun e w' => e = .returned v ∧ ∃ q, w' = (w.drewN n).drewN q) : Calls P f args (w.drewN n) fun e w'' => e = .returned v ∧ ∃ m, w'' = w.drewN m :=
  h.mono fun _ _ ⟨he, q, hw⟩ => ⟨he, n + q, by rw [hw, World.drewN_drewN]⟩
theorem below_dr {B : Nat} {a w : World} (h : Below B a w) (n : Nat) : Below B a (w.drewN n) := ⟨h.os, h.tape, h.output, h.size, h.block⟩
theorem ret_s {a b : ByteArray} (h : a = b) : Ending.returned (.string a) = .returned (.string b) := by rw [h]
theorem run_digit (d : Nat) (h : d < 10) (W : World) : (Instr.slice 9 (.string ⟨#[48, 49, 50, 51, 52, 53, 54, 55, 56, 57]⟩) (some (.int .i64 (d : Int))) (some (.int .i64 ((d : Int) + 1))) none).run Try.prog W = .ok (.string (str (decDigits d))) W := by
  rw [run_slice_string (P := Try.prog) W 9 _ .i64 .i64 (d : Int) ((d : Int) + 1) Try.underlying9 (by omega) (by omega) (by show (d : Int) + 1 ≤ 10; omega)]
  rw [← digit_piece ⟨d, h⟩]
  rfl
/-- Two texts, one behind the other. -/
theorem run_add_str (a b c : List UInt8) (h : a ++ b = c) (hl : c.length ≤ 1000000000) (W : World) : (Op.stringOp .add (str a) (str b)).run Try.prog W = .ok (.string (str c)) W := by
  subst h
  rw [List.length_append] at hl
  rw [run_string_add_sum W (str a) (str b) (by rw [str_size, str_size]; omega), str_append]
theorem decDigits_le (m : Nat) (h : m ≤ 1000000000) : (decDigits m).length ≤ 10 := decDigits_len 9 m (by omega)
end Go.Proofs.Ytnbgjkblhbpjlaa
