/- The drawing laws' comparison of two lists of ranges that are one. -/
import Derived.Test.YtlammcoiaeodfaaGreatDoorRapp
import Derived.Laws.StructEq
namespace Go.Proofs.YtlammcoiaeodfaaGreatDoor
open Go.RowKit
set_option linter.unusedVariables false
set_option maxRecDepth 100000

set_option maxHeartbeats 1000000 in
/-- Two lists that are one: yes. -/
theorem c_rRanges {H K : Nat} (A B : Option Addr) (cap cap' : Nat) (xs : List (Int × Int)) (w : World) (h : Rngs w H A xs) (h' : Rngs w K B xs) (hH : H ≤ w.heap.size) (hK : K ≤ w.heap.size) (hl : xs.length ≤ 100000000) :
    Calls Tryz.prog 10 #[.slice A xs.length cap, .slice B xs.length cap'] w fun e w' => e = .returned (.bool true) ∧ Below w.heap.size w w' := by
  go_enter Tryz.func10, Tryz.ntmps10
  go_wp2
  go_loopw [5] (fun i wr => ∃ k : Nat, k ≤ xs.length ∧ i = .int .i64 k ∧ Below w.heap.size w wr) (fun i _ => xs.length - (intOf i).toNat)
  case atStart => exact ⟨0, Nat.zero_le _, rfl, Below.refl _ _⟩
  case round =>
    obtain ⟨k, hk, rfl, hbel⟩ := hrel
    by_cases hlt : k < xs.length
    · obtain ⟨ad, rfl, hadb, hc0, hd0⟩ := h.at_ hlt
      obtain ⟨ad', rfl, hadb', hc0', hd0'⟩ := h'.at_ hlt
      have hc : wr.cell? (ad.add (k * 2)) = some (.int .i64 (xs.getD k (0, 0)).1) := (hbel.cell (by rw [block_of_add]; omega)).trans hc0
      have hd : wr.cell? ⟨(ad.add (k * 2)).block, (ad.add (k * 2)).off + 1, none⟩ = some (.int .i64 (xs.getD k (0, 0)).2) := (hbel.cell (by simp only [block_of_add]; omega)).trans hd0
      have hc' : wr.cell? (ad'.add (k * 2)) = some (.int .i64 (xs.getD k (0, 0)).1) := (hbel.cell (by rw [block_of_add]; omega)).trans hc0'
      have hd' : wr.cell? ⟨(ad'.add (k * 2)).block, (ad'.add (k * 2)).off + 1, none⟩ = some (.int .i64 (xs.getD k (0, 0)).2) := (hbel.cell (by simp only [block_of_add]; omega)).trans hd0'
      have HB := Lib.hid hbel
      have hi : (k : Int) < (xs.length : Int) := by omega
      clear hbel hc0 hc0' hd0 hd0' h h'
      generalize xs.getD k (0, 0) = e at *
      obtain ⟨x, y⟩ := e
      go_wp2
      go_quiet (fail)
      go_wp2
      go_roundw
      case rel => exact ⟨k + 1, by omega, by go_num, below_drewN HB.out _⟩
      case measure => simp [intOf]; omega
    · obtain rfl : k = xs.length := by omega
      go_wp2
      go_ret
      exact ⟨rfl, hbel⟩
end Go.Proofs.YtlammcoiaeodfaaGreatDoor
