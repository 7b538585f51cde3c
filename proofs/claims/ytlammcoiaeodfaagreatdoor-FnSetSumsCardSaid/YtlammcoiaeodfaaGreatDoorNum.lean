/- The reference's numerals: written by its own recursion. -/
import Derived.Test.YtlammcoiaeodfaaGreatDoorSer
import Derived.Test.YtlammcoiaeodfaaGreatDoorMem
import Derived.Test.YtlammcoiaeodfaaGreatDoorDec
import Derived.WalkSpells
import Derived.Outline
namespace Go.Proofs.YtlammcoiaeodfaaGreatDoor
open Go.RowKit Go.Lib
set_option linter.unusedVariables false
set_option maxRecDepth 100000

/-- A text of bytes. -/
def str (l : List UInt8) : ByteArray := ⟨l.toArray⟩
theorem str_list (s : ByteArray) : str s.data.toList = s := by cases s; rfl
theorem list_str (l : List UInt8) : (str l).data.toList = l := rfl
theorem str_size (l : List UInt8) : (str l).size = l.length := by show l.toArray.size = _; simp
theorem str_inj {a b : List UInt8} (h : str a = str b) : a = b := by rw [← list_str a, ← list_str b, h]
theorem str_append (a b : List UInt8) : str a ++ str b = str (a ++ b) := by
  apply ByteArray.ext
  rw [ByteArray.data_append]
  simp [str]
theorem digit_piece : ∀ m : Fin 10, (⟨#[48, 49, 50, 51, 52, 53, 54, 55, 56, 57]⟩ : ByteArray).extract m.val (m.val + 1) = str (decDigits m.val) := by decide +kernel
/-- A call that only draws, inside a region that draws its order. -/
theorem quiet_drew {P : Program} {f : FuncId} {args : Array Value} {w : World} {n : Nat} {v : Value}
    (h : Calls P f args (w.drewN n) fun e w' => e = .returned v ∧ ∃ q, w' = (w.drewN n).drewN q) : Calls P f args (w.drewN n) fun e w'' => e = .returned v ∧ ∃ m, w'' = w.drewN m :=
  h.mono fun _ _ ⟨he, q, hw⟩ => ⟨he, n + q, by rw [hw, World.drewN_drewN]⟩
theorem below_dr {B : Nat} {a w : World} (h : Below B a w) (n : Nat) : Below B a (w.drewN n) := ⟨h.os, h.tape, h.output, h.size, h.block⟩
theorem ret_s {a b : ByteArray} (h : a = b) : Ending.returned (.string a) = .returned (.string b) := by rw [h]
theorem run_digit (d : Nat) (h : d < 10) (W : World) : (Instr.slice 9 (.string ⟨#[48, 49, 50, 51, 52, 53, 54, 55, 56, 57]⟩) (some (.int .i64 (d : Int))) (some (.int .i64 ((d : Int) + 1))) none).run Tryz.prog W = .ok (.string (str (decDigits d))) W := by
  rw [run_slice_string (P := Tryz.prog) W 9 _ .i64 .i64 (d : Int) ((d : Int) + 1) Tryz.underlying9 (by omega) (by omega) (by show (d : Int) + 1 ≤ 10; omega)]
  rw [← digit_piece ⟨d, h⟩]
  rfl
/-- Two texts, one behind the other. -/
theorem run_add_str (a b c : List UInt8) (h : a ++ b = c) (hl : c.length ≤ 1000000000) (W : World) : (Op.stringOp .add (str a) (str b)).run Tryz.prog W = .ok (.string (str c)) W := by
  subst h
  rw [List.length_append] at hl
  rw [run_string_add_sum W (str a) (str b) (by rw [str_size, str_size]; omega), str_append]
theorem decDigits_le (m : Nat) (h : m ≤ 1000000000) : (decDigits m).length ≤ 10 := decDigits_len 9 m (by omega)
set_option maxHeartbeats 400000 in
theorem c_l1NumP (m : Nat) : ∀ (n : Int) (w : World), n = (m : Int) → n ≤ 1000000000 →
    Calls Tryz.prog 54 #[.int .i64 n] w fun e w' => e = .returned (.string (str (decDigits m))) ∧ ∃ q, w' = w.drewN q := by
  induction m using Nat.strongRecOn with
  | ind m ih =>
    intro n w hn h3
    by_cases h0 : m < 10
    · subst hn
      have HD := Lib.hid (digit_piece ⟨m, h0⟩)
      clear ih
      go_enter Tryz.func54, Tryz.ntmps54
      go_wp2_with fail
      go_ret
      exact ⟨ret_s HD.out, 0, rfl⟩
    · have h1 : 10 ≤ n := by omega
      have e1 : IntKind.i64.wrap (n.tdiv 10) = n / 10 := by rw [Int.tdiv_eq_ediv_of_nonneg (by omega)]; exact IntWalk.i64_in _ (by omega)
      have e2 : n.tmod 10 = n % 10 := Int.tmod_eq_emod_of_nonneg (by omega)
      have C := fun W => Lib.hid (ih (m / 10) (by omega) (IntKind.i64.wrap (n.tdiv 10)) W (by rw [e1]; omega) (by rw [e1]; omega))
      clear e1
      obtain ⟨d, hd⟩ : ∃ d : Nat, n % 10 = (d : Int) := ⟨(n % 10).toNat, by omega⟩
      have hd9 : d < 10 := by omega
      rw [hd] at e2
      have hsl := run_digit d hd9
      have hadd := fun W => run_add_str (decDigits (m / 10)) (decDigits d) (decDigits m) (by rw [decDigits_big h0, decDigits_small hd9, show m % 10 = d from by omega]) (by have := decDigits_le m (by omega); omega) W
      have hs : IntKind.i64.wrap ((d : Int) + 1) = (d : Int) + 1 := IntWalk.i64_in _ (by omega)
      have ht : ((d : Int) + 1).toNat = d + 1 := by omega
      clear ih hn hd
      go_enter Tryz.func54, Tryz.ntmps54
      go_wp2_with fail
      go_quiet ((go_at_call 54; exact quiet_drew (C _).out))
      go_wp2
      go_ret
      exact ⟨rfl, _, rfl⟩
set_option maxHeartbeats 400000 in
theorem c_l1Num (n : Int) (w : World) (h1 : -1000000000 ≤ n) (h2 : n ≤ 1000000000) :
    Calls Tryz.prog 54 #[.int .i64 n] w fun e w' => e = .returned (.string (str (itoa n))) ∧ ∃ q, w' = w.drewN q := by
  by_cases h0 : n < 0
  · have HP := Lib.hid (fun W => c_l1NumP n.natAbs (-n) W (by omega) (by omega))
    have hadd := fun W => run_add_str [45] (decDigits n.natAbs) (itoa n) (by rw [itoa_neg' h0]; rfl) (by rw [itoa_neg' h0]; have := decDigits_le n.natAbs (by omega); simp; omega) W
    have hadd : ∀ W, (Op.stringOp .add ⟨#[45]⟩ (str (decDigits n.natAbs))).run Tryz.prog W = .ok (.string (str (itoa n))) W := hadd
    go_enter Tryz.func54, Tryz.ntmps54
    go_wp2_with fail
    refine (HP.out _).mono ?_
    rintro e _ ⟨rfl, q, rfl⟩
    go_wp2
    go_ret
    exact ⟨rfl, _, rfl⟩
  · have := c_l1NumP n.natAbs n w (by omega) h2
    rwa [← itoa_pos' (by omega)] at this
end Go.Proofs.YtlammcoiaeodfaaGreatDoor
