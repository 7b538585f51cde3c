/- A text with its checksum verified: by the program and by the reference. -/
import Derived.Test.YtnbgjkblhbpjlaaDoorChk
namespace Go.Proofs.YtnbgjkblhbpjlaaDoor
open Go.RowKit
open Go.Lib (itoa decDigits)
set_option linter.unusedVariables false
set_option maxRecDepth 100000

/-- What stands ahead of the first '#'. -/
def headC (l : List UInt8) : List UInt8 := (Lib.cut l [35]).1
def verOk (l : List UInt8) : Bool := decide (l.length ≤ 4000) && decide (sealC (headC l) = l)
def verT (l : List UInt8) : List UInt8 := if verOk l then headC l else []
theorem headC_spl (l : List UInt8) : (spl 35 l).getD 0 [] = headC l := by
  unfold headC
  rcases cut_cases 35 l with h | ⟨p, r, rfl, h⟩
  · rw [spl_none h, cut_miss h]; rfl
  · rw [spl_hit r h, cut_at r h]; rfl
theorem headC_no (l : List UInt8) : (35 : UInt8) ∉ headC l := by
  unfold headC
  rcases cut_cases 35 l with h | ⟨p, r, rfl, h⟩
  · rw [cut_miss h]; exact h
  · rw [cut_at r h]; exact h
theorem headC_len (l : List UInt8) : (headC l).length ≤ l.length := by
  unfold headC
  rcases cut_cases 35 l with h | ⟨p, r, rfl, h⟩
  · rw [cut_miss h]; exact Nat.le_refl _
  · rw [cut_at r h]; simp
theorem headC_seal {t : List UInt8} (h : (35 : UInt8) ∉ t) : headC (sealC t) = t := by
  unfold headC
  rw [sealC_cut h]
/-- The program's test is the reference's. -/
theorem ver_app (l : List UInt8) : (appOk (headC l) && decide (appT (headC l) = l)) = verOk l := by
  have h1 := sealC_len (headC l)
  have h2 := hasB_f (headC_no l)
  by_cases c : sealC (headC l) = l
  · by_cases k : l.length ≤ 4000
    · have : appOk (headC l) = true := by
        unfold appOk
        rw [h2, c]
        simp [k]
        rw [c] at h1
        omega
      simp [verOk, appT, this, c, k]
    · have : appOk (headC l) = false := by
        unfold appOk
        rw [c]
        simp [k]
      simp [verOk, this, k]
  · cases e : appOk (headC l)
    · simp [verOk, c]
    · simp [verOk, appT, e, c]
theorem ret_sbb {a b : List UInt8} {c d : Bool} (h : b = a) (k : d = c) : Ending.returned (.tuple #[.string (str a), .bool c]) = .returned (.tuple #[.string (str b), .bool d]) := by rw [h, k]
set_option maxHeartbeats 400000 in
theorem c_specVerifyChecksum (l : List UInt8) (w : World) (hl : l.length ≤ 10000000) :
    Calls Tryd.prog 23 #[.string (str l)] w fun e w' => e = .returned (.tuple #[.string (str (verT l)), .bool (verOk l)]) ∧ Below w.heap.size w w' := by
  have hsl : (str l).size = l.length := str_size l
  by_cases g1 : l.length ≤ 4000
  rotate_left
  · rw [show verOk l = false from by simp [verOk, g1], show verT l = [] from by simp [verT, verOk, g1]]
    have g2 : (4000 : Int) < (l.length : Int) := by omega
    go_enter Tryd.func23, Tryd.ntmps23
    go_wp2
    go_ret2
    exact ⟨rfl, Below.refl _ _⟩
  have g2 : ¬ (4000 : Int) < (l.length : Int) := by omega
  have C1 := Lib.hid (c_l1Split (str l) 35 w (by omega))
  simp only [list_str] at C1
  have C2 := fun W => Lib.hid (c_l1Seal (headC l) W (by have := headC_len l; omega))
  have hp := spl_pos 35 l
  have HH := Lib.hid (headC_spl l)
  have e1 := Lib.toList_data (str l)
  rw [list_str] at e1
  have e2 := Lib.toList_data (str (sealC (headC l)))
  rw [list_str] at e2
  generalize spl 35 l = xs at *
  go_enter Tryd.func23, Tryd.ntmps23
  go_wp2_with fail
  refine C1.out.mono ?_
  rintro e w1 ⟨A1, c1, rfl, o1, b1⟩
  obtain ⟨ad, rfl, hadb, hc⟩ := o1.strs.at_ hp
  rw [HH.out] at hc
  have hc0 := hc
  rw [add_zero'] at hc0
  have HB := Lib.hid b1
  clear o1 b1
  have hp' : (0 : Int) < (xs.length : Int) := by omega
  go_wp2_with fail
  refine (C2 _).out.mono ?_
  rintro e _ ⟨rfl, q, rfl⟩
  by_cases c : sealC (headC l) = l
  · have hbe : (sealC (headC l) == l) = true := beq_iff_eq.2 c
    have HK := Lib.hid (show verOk l = true from by simp [verOk, g1, c])
    have HT := Lib.hid (show verT l = headC l from by simp [verT, verOk, g1, c])
    clear c
    go_wp2
    go_ret2
    exact ⟨ret_sbb HT.out HK.out, below_dr HB.out _⟩
  · have hbe : (sealC (headC l) == l) = false := beq_eq_false_iff_ne.2 c
    have HK := Lib.hid (show verOk l = false from by simp [verOk, c])
    have HT := Lib.hid (show verT l = [] from by simp [verT, verOk, c])
    clear c
    go_wp2
    go_ret2
    exact ⟨ret_sbb HT.out HK.out, below_dr HB.out _⟩
set_option maxHeartbeats 400000 in
theorem c_implVerifyChecksum {B : Nat} (l : List UInt8) (w : World) (hm : MaxW w B) (hp : PowW w B) (hB : B ≤ w.heap.size) (hl : l.length ≤ 10000000) :
    Calls Tryd.prog 24 #[.string (str l)] w fun e w' => e = .returned (.tuple #[.string (str (verT l)), .bool (verOk l)]) ∧ Below w.heap.size w w' := by
  have hsl : (str l).size = l.length := str_size l
  have C1 := Lib.hid (c_cut (str l) 35 w hm (by omega))
  simp only [list_str] at C1
  have C1 : Hid (Calls Tryd.prog 67 #[.string (str l), .string (str [35])] w fun e w' => (∃ (r : ByteArray) (k : Bool), e = .returned (.tuple #[.string (str (headC l)), .string r, .bool k])) ∧ ∃ n, w' = w.drewN n) := Lib.hid (C1.out.mono fun e w' ⟨he, hw⟩ => ⟨⟨_, _, he⟩, hw⟩)
  have HM := Lib.hid hm
  have HP := Lib.hid hp
  have hh := headC_len l
  have HV := Lib.hid (ver_app l)
  have e1 := Lib.toList_data (str l)
  rw [list_str] at e1
  have e2 := Lib.toList_data (str (appT (headC l)))
  rw [list_str] at e2
  clear hm hp
  go_enter Tryd.func24, Tryd.ntmps24
  go_wp2_with fail
  refine C1.out.mono ?_
  rintro e _ ⟨⟨r, k, rfl⟩, q, rfl⟩
  have C2 := Lib.hid (c_implAppendChecksum (headC l) (w.drewN q) (HM.out.keep (ite_drew w q) hB) (HP.out.keep (ite_drew w q) hB) (by omega))
  go_wp2_with fail
  refine C2.out.mono ?_
  rintro e w1 ⟨rfl, b1⟩
  have HB := Lib.hid ((ite_drew w q).trans b1)
  clear b1 C2 C1
  cases g1 : appOk (headC l)
  · have hv := HV.out
    rw [g1, Bool.false_and] at hv
    have HK := Lib.hid hv.symm
    have HT := Lib.hid (show verT l = [] from by simp [verT, hv.symm])
    clear hv
    go_wp2
    go_ret2
    exact ⟨ret_sbb HT.out HK.out, HB.out⟩
  · have hv := HV.out
    rw [g1, Bool.true_and] at hv
    by_cases c : appT (headC l) = l
    · have hbe : (appT (headC l) == l) = true := beq_iff_eq.2 c
      rw [decide_eq_true c] at hv
      have HK := Lib.hid hv.symm
      have HT := Lib.hid (show verT l = headC l from by simp [verT, hv.symm])
      clear hv c
      go_wp2
      go_ret2
      exact ⟨ret_sbb HT.out HK.out, HB.out⟩
    · have hbe : (appT (headC l) == l) = false := beq_eq_false_iff_ne.2 c
      rw [decide_eq_false c] at hv
      have HK := Lib.hid hv.symm
      have HT := Lib.hid (show verT l = [] from by simp [verT, hv.symm])
      clear hv c
      go_wp2
      go_ret2
      exact ⟨ret_sbb HT.out HK.out, HB.out⟩
end Go.Proofs.YtnbgjkblhbpjlaaDoor
