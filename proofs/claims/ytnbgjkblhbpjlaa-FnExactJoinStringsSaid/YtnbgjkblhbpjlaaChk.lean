/- Texts with a checksum: appended, verified; by the program and by the reference. -/
import Derived.Test.YtnbgjkblhbpjlaaSplit
import Derived.Test.YtnbgjkblhbpjlaaChkLaw
namespace Go.Proofs.Ytnbgjkblhbpjlaa
open Go.RowKit
open Go.Lib (itoa decDigits)
set_option linter.unusedVariables false
set_option maxRecDepth 100000

set_option maxHeartbeats 400000 in
theorem c_l1Stands (s : ByteArray) (b : UInt8) (w : World) (hs : s.size ≤ 1000000000) :
    Calls Try.prog 9 #[.string s, .int .u8 (b.toNat : Int)] w fun e w' => e = .returned (.bool (hasB b s.data.toList)) ∧ w = w' := by
  go_enter Try.func9, Try.ntmps9
  go_wp2
  go_loop [5] (fun i => ∃ k : Nat, k ≤ s.size ∧ i = .int .i64 k ∧ Hid (b ∉ s.data.toList.take k)) (fun i => s.size - (intOf i).toNat)
  case atStart => exact ⟨0, Nat.zero_le _, rfl, Lib.hid (by simp)⟩
  case round =>
    obtain ⟨k, hk, rfl, HN⟩ := hrel
    by_cases hlt : k < s.size
    · have hbe := byte_eq s[k] b
      have hg := get_list s k hlt
      by_cases hc : s[k] = b
      · rw [decide_eq_true hc] at hbe
        have HY := Lib.hid (hasB_t (b := b) (by rw [← hc]; exact List.mem_of_getElem? hg))
        clear hc hg
        go_wp2
        go_ret
        exact ⟨ret_b HY.out.symm, rfl⟩
      · rw [decide_eq_false hc] at hbe
        have HM : Hid (b ∉ s.data.toList.take (k + 1)) := Lib.hid (by
          rw [List.take_add_one, hg]
          simp only [Option.toList_some, List.mem_append, List.mem_singleton]
          rintro (m | m)
          · exact HN.out m
          · exact hc m.symm)
        clear hc hg
        go_wp2
        go_round
        case rel => exact ⟨k + 1, by omega, by go_num, HM⟩
        case measure => simp [intOf]; omega
    · have HY : Hid (hasB b s.data.toList = false) := Lib.hid (hasB_f (by
        have := HN.out
        rwa [List.take_of_length_le (by rw [size_list]; omega)] at this))
      go_wp2
      go_ret
      exact ⟨ret_b HY.out.symm, rfl⟩
theorem chk_nat (l : List UInt8) : chkL l ≤ 1000000000 ∧ -1000000000 ≤ chkL l := by have := chkL_rng l; omega
def appOk (l : List UInt8) : Bool := decide (l.length ≤ 4000) && !hasB 35 l && decide ((sealC l).length ≤ 4000)
def appT (l : List UInt8) : List UInt8 := if appOk l then sealC l else []
theorem ite_drew (w : World) (q : Nat) : Below w.heap.size w (w.drewN q) := below_dr (Below.refl _ _) q
end Go.Proofs.Ytnbgjkblhbpjlaa
