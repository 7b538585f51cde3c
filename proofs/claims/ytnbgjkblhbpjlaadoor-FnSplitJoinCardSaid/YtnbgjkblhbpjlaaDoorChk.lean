/- Texts with a checksum: appended, verified; by the program and by the reference. -/
import Derived.Test.YtnbgjkblhbpjlaaDoorSplit
import Derived.Test.YtnbgjkblhbpjlaaDoorChkLaw
namespace Go.Proofs.YtnbgjkblhbpjlaaDoor
open Go.RowKit
open Go.Lib (itoa decDigits)
set_option linter.unusedVariables false
set_option maxRecDepth 100000

set_option maxHeartbeats 400000 in
theorem c_l1Stands (s : ByteArray) (b : UInt8) (w : World) (hs : s.size ≤ 1000000000) :
    Calls Tryd.prog 63 #[.string s, .int .u8 (b.toNat : Int)] w fun e w' => e = .returned (.bool (hasB b s.data.toList)) ∧ w = w' := by
  go_enter Tryd.func63, Tryd.ntmps63
  go_wp2
  go_loop [5] (fun i => ∃ k : Nat, k ≤ s.size ∧ i = .int .i64 k ∧ Hid (b ∉ s.data.toList.take k)) (fun i => s.size - (intOf i).toNat)
  case atStart => exact ⟨0, Nat.zero_le _, rfl, Lib.hid (by simp)⟩
  case round =>
    obtain ⟨k, hk, rfl, HN⟩ := hrel
    by_cases hlt : k < s.size
    · have hbe := byte_eq s[k] b
      have hg := get_list s k hlt
      by_cases hc : s[k] = b
      · rw [decide_eq_true hc] at hbe
        have HY := Lib.hid (hasB_t (b := b) (by rw [← hc]; exact List.mem_of_getElem? hg))
        clear hc hg
        go_wp2
        go_ret
        exact ⟨ret_b HY.out.symm, rfl⟩
      · rw [decide_eq_false hc] at hbe
        have HM : Hid (b ∉ s.data.toList.take (k + 1)) := Lib.hid (by
          rw [List.take_add_one, hg]
          simp only [Option.toList_some, List.mem_append, List.mem_singleton]
          rintro (m | m)
          · exact HN.out m
          · exact hc m.symm)
        clear hc hg
        go_wp2
        go_round
        case rel => exact ⟨k + 1, by omega, by go_num, HM⟩
        case measure => simp [intOf]; omega
    · have HY : Hid (hasB b s.data.toList = false) := Lib.hid (hasB_f (by
        have := HN.out
        rwa [List.take_of_length_le (by rw [size_list]; omega)] at this))
      go_wp2
      go_ret
      exact ⟨ret_b HY.out.symm, rfl⟩
theorem chk_nat (l : List UInt8) : chkL l ≤ 1000000000 ∧ -1000000000 ≤ chkL l := by have := chkL_rng l; omega
set_option maxHeartbeats 400000 in
theorem c_l1Seal (l : List UInt8) (w : World) (hl : l.length ≤ 100000000) :
    Calls Tryd.prog 64 #[.string (str l)] w fun e w' => e = .returned (.string (str (sealC l))) ∧ ∃ q, w' = w.drewN q := by
  have hsl : (str l).size ≤ 1000000000 := by rw [str_size]; omega
  have hchk := chk_nat l
  have C1 := fun W => Lib.hid (c_l1Sum (str l) W hsl)
  simp only [list_str] at C1
  have C2 := fun W => Lib.hid (c_l1Num (chkL l) W hchk.2 hchk.1)
  have hlen := sealC_len l
  have hadd := fun W => run_add_str l [35] (l ++ [35]) rfl (by simp; omega) W
  have hadd2 := fun W => run_add_str (l ++ [35]) (itoa (chkL l)) (sealC l) (by simp [sealC]) (by omega) W
  have hadd : ∀ W, (Op.stringOp .add (str l) ⟨#[35]⟩).run Tryd.prog W = .ok (.string (str (l ++ [35]))) W := hadd
  go_enter Tryd.func64, Tryd.ntmps64
  go_wp2_with fail
  refine (C1 _).out.mono ?_
  rintro e _ ⟨rfl, rfl⟩
  go_wp2_with fail
  refine (C2 _).out.mono ?_
  rintro e _ ⟨rfl, q, rfl⟩
  go_wp2
  go_ret
  exact ⟨rfl, _, rfl⟩
def appOk (l : List UInt8) : Bool := decide (l.length ≤ 4000) && !hasB 35 l && decide ((sealC l).length ≤ 4000)
def appT (l : List UInt8) : List UInt8 := if appOk l then sealC l else []
theorem ite_drew (w : World) (q : Nat) : Below w.heap.size w (w.drewN q) := below_dr (Below.refl _ _) q
set_option maxHeartbeats 400000 in
theorem c_specAppendChecksum (l : List UInt8) (w : World) (hl : l.length ≤ 100000000) :
    Calls Tryd.prog 21 #[.string (str l)] w fun e w' => e = .returned (.tuple #[.string (str (appT l)), .bool (appOk l)]) ∧ Below w.heap.size w w' := by
  have hsl : (str l).size = l.length := str_size l
  have C1 := fun W => Lib.hid (c_l1Stands (str l) 35 W (by omega))
  simp only [list_str] at C1
  have C2 := fun W => Lib.hid (c_l1Seal l W hl)
  have hsz : (str (sealC l)).size = (sealC l).length := str_size _
  by_cases g1 : l.length ≤ 4000
  rotate_left
  · rw [show appOk l = false from by simp [appOk, g1], show appT l = [] from by simp [appT, appOk, g1]]
    have g2 : (4000 : Int) < (l.length : Int) := by omega
    go_enter Tryd.func21, Tryd.ntmps21
    go_wp2
    go_ret2
    exact ⟨rfl, Below.refl _ _⟩
  have g2 : ¬ (4000 : Int) < (l.length : Int) := by omega
  cases g3 : hasB 35 l
  rotate_left
  · rw [show appOk l = false from by simp [appOk, g3], show appT l = [] from by simp [appT, appOk, g3]]
    rw [g3] at C1
    go_enter Tryd.func21, Tryd.ntmps21
    go_wp2_with fail
    refine (C1 _).out.mono ?_
    rintro e _ ⟨rfl, rfl⟩
    go_wp2
    go_ret2
    exact ⟨rfl, Below.refl _ _⟩
  rw [g3] at C1
  by_cases g4 : (sealC l).length ≤ 4000
  rotate_left
  · rw [show appOk l = false from by simp [appOk, g4], show appT l = [] from by simp [appT, appOk, g4]]
    have g5 : (4000 : Int) < ((sealC l).length : Int) := by omega
    go_enter Tryd.func21, Tryd.ntmps21
    go_wp2_with fail
    refine (C1 _).out.mono ?_
    rintro e _ ⟨rfl, rfl⟩
    go_wp2_with fail
    refine (C2 _).out.mono ?_
    rintro e _ ⟨rfl, q, rfl⟩
    go_wp2
    go_ret2
    exact ⟨rfl, ite_drew _ _⟩
  · rw [show appOk l = true from by simp [appOk, g1, g3, g4], show appT l = sealC l from by simp [appT, appOk, g1, g3, g4]]
    have g5 : ¬ (4000 : Int) < ((sealC l).length : Int) := by omega
    go_enter Tryd.func21, Tryd.ntmps21
    go_wp2_with fail
    refine (C1 _).out.mono ?_
    rintro e _ ⟨rfl, rfl⟩
    go_wp2_with fail
    refine (C2 _).out.mono ?_
    rintro e _ ⟨rfl, q, rfl⟩
    go_wp2_with fail
    refine (C2 _).out.mono ?_
    rintro e _ ⟨rfl, q2, rfl⟩
    go_wp2
    go_ret2
    exact ⟨rfl, ite_drew _ _⟩
set_option maxHeartbeats 400000 in
theorem c_implAppendChecksum {B : Nat} (l : List UInt8) (w : World) (hm : MaxW w B) (hp : PowW w B) (hl : l.length ≤ 100000000) :
    Calls Tryd.prog 22 #[.string (str l)] w fun e w' => e = .returned (.tuple #[.string (str (appT l)), .bool (appOk l)]) ∧ Below w.heap.size w w' := by
  have hsl : (str l).size = l.length := str_size l
  have C1 := Lib.hid (c_contains (str l) 35 w hm (by omega))
  simp only [list_str] at C1
  have C2 := fun W => Lib.hid (c_checksum (str l) W (by omega))
  simp only [list_str] at C2
  have hchk := chk_nat l
  have C3 := Lib.hid (c_itoa (chkL l) w hp (by omega) (by omega))
  have hlen := sealC_len l
  have hadd := fun W => run_add_str l [35] (l ++ [35]) rfl (by simp; omega) W
  have hadd2 := fun W => run_add_str (l ++ [35]) (itoa (chkL l)) (sealC l) (by simp [sealC]) (by omega) W
  have hadd : ∀ W, (Op.stringOp .add (str l) ⟨#[35]⟩).run Tryd.prog W = .ok (.string (str (l ++ [35]))) W := hadd
  have hsz : (str (sealC l)).size = (sealC l).length := str_size _
  clear hm hp
  cases g3 : hasB 35 l
  rotate_left
  · rw [show appOk l = false from by simp [appOk, g3], show appT l = [] from by simp [appT, appOk, g3]]
    rw [g3] at C1
    go_enter Tryd.func22, Tryd.ntmps22
    go_wp2_with fail
    refine C1.out.mono ?_
    rintro e _ ⟨rfl, rfl⟩
    go_wp2
    go_ret2
    exact ⟨rfl, Below.refl _ _⟩
  rw [g3] at C1
  by_cases g1 : l.length ≤ 4000
  rotate_left
  · rw [show appOk l = false from by simp [appOk, g1], show appT l = [] from by simp [appT, appOk, g1]]
    have g2 : (4000 : Int) < (l.length : Int) := by omega
    go_enter Tryd.func22, Tryd.ntmps22
    go_wp2_with fail
    refine C1.out.mono ?_
    rintro e _ ⟨rfl, rfl⟩
    go_wp2
    go_ret2
    exact ⟨rfl, Below.refl _ _⟩
  have g2 : ¬ (4000 : Int) < (l.length : Int) := by omega
  by_cases g4 : (sealC l).length ≤ 4000
  rotate_left
  · rw [show appOk l = false from by simp [appOk, g4], show appT l = [] from by simp [appT, appOk, g4]]
    have g5 : (4000 : Int) < ((sealC l).length : Int) := by omega
    go_enter Tryd.func22, Tryd.ntmps22
    go_wp2_with fail
    refine C1.out.mono ?_
    rintro e _ ⟨rfl, rfl⟩
    go_wp2_with fail
    refine (C2 _).out.mono ?_
    rintro e _ ⟨rfl, rfl⟩
    go_wp2_with fail
    refine C3.out.mono ?_
    rintro e w1 ⟨rfl, b1⟩
    go_wp2
    go_ret2
    exact ⟨rfl, b1⟩
  · rw [show appOk l = true from by simp [appOk, g1, g3, g4], show appT l = sealC l from by simp [appT, appOk, g1, g3, g4]]
    have g5 : ¬ (4000 : Int) < ((sealC l).length : Int) := by omega
    go_enter Tryd.func22, Tryd.ntmps22
    go_wp2_with fail
    refine C1.out.mono ?_
    rintro e _ ⟨rfl, rfl⟩
    go_wp2_with fail
    refine (C2 _).out.mono ?_
    rintro e _ ⟨rfl, rfl⟩
    go_wp2_with fail
    refine C3.out.mono ?_
    rintro e w1 ⟨rfl, b1⟩
    go_wp2
    go_ret2
    exact ⟨rfl, b1⟩
end Go.Proofs.YtnbgjkblhbpjlaaDoor
