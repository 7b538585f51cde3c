/- The drawing laws' comparisons of two lists that are one. -/
import Derived.Test.YtnabiehbecojlaaDoorLists
namespace Go.Proofs.YtnabiehbecojlaaDoor
open Go.RowKit
set_option linter.unusedVariables false
set_option maxRecDepth 100000

set_option maxHeartbeats 400000 in
/-- Two lists that are one: yes. -/
theorem c_vInts {H K : Nat} (A B : Option Addr) (cap cap' : Nat) (xs : List Int) (w : World) (h : Ints w H A xs) (h' : Ints w K B xs) (hH : H ≤ w.heap.size) (hK : K ≤ w.heap.size) (hl : xs.length ≤ 100000000) :
    Calls Tryd.prog 25 #[.slice A xs.length cap, .slice B xs.length cap'] w fun e w' => e = .returned (.bool true) ∧ Below w.heap.size w w' := by
  go_enter Tryd.func25, Tryd.ntmps25
  go_wp2
  go_loopw [5] (fun i wr => ∃ k : Nat, k ≤ xs.length ∧ i = .int .i64 k ∧ Below w.heap.size w wr) (fun i _ => xs.length - (intOf i).toNat)
  case atStart => exact ⟨0, Nat.zero_le _, rfl, Below.refl _ _⟩
  case round =>
    obtain ⟨k, hk, rfl, hbel⟩ := hrel
    by_cases hlt : k < xs.length
    · obtain ⟨ad, rfl, hadb, hc0⟩ := h.at_ hlt
      obtain ⟨ad', rfl, hadb', hc0'⟩ := h'.at_ hlt
      have hc : wr.cell? (ad.add k) = some (.int .i64 (xs.getD k 0)) := (hbel.cell (by rw [block_of_add]; omega)).trans hc0
      have hc' : wr.cell? (ad'.add k) = some (.int .i64 (xs.getD k 0)) := (hbel.cell (by rw [block_of_add]; omega)).trans hc0'
      have HB := Lib.hid hbel
      have hi : (k : Int) < (xs.length : Int) := by omega
      clear hbel hc0 hc0' h h'
      generalize xs.getD k 0 = x at *
      go_wp2
      go_quiet (fail)
      go_wp2
      go_roundw
      case rel => exact ⟨k + 1, by omega, by go_num, below_drewN HB.out _⟩
      case measure => simp [intOf]; omega
    · obtain rfl : k = xs.length := by omega
      go_wp2
      go_ret
      exact ⟨rfl, hbel⟩
end Go.Proofs.YtnabiehbecojlaaDoor
