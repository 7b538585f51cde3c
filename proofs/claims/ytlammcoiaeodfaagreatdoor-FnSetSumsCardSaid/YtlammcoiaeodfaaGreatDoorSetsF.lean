/- The size of a set; the next number that a set lacks. -/
import Derived.Test.YtlammcoiaeodfaaGreatDoorSets
namespace Go.Proofs.YtlammcoiaeodfaaGreatDoor
open Go.RowKit
set_option linter.unusedVariables false
set_option maxRecDepth 100000

theorem okAt_rng {rs : List (Int × Int)} {j : Nat} (h : okAt rs j = true) : 0 ≤ (rs.getD j (0, 0)).1 ∧ (rs.getD j (0, 0)).1 ≤ (rs.getD j (0, 0)).2 ∧ (rs.getD j (0, 0)).2 ≤ 65535 := by
  simp only [okAt, Bool.and_eq_true] at h
  have a := inR_t h.1.1.1
  have b := inR_t h.1.1.2
  have c := of_decide_eq_true h.1.2
  omega
def sizeL (rs : List (Int × Int)) : Int := rs.foldl (fun n r => n + r.2 - r.1 + 1) 0
theorem sizeL_snoc (l : List (Int × Int)) (r : Int × Int) : sizeL (l ++ [r]) = sizeL l + r.2 - r.1 + 1 := by simp [sizeL]
theorem sizeL_rng {rs : List (Int × Int)} (h : setB rs = true) : ∀ k, k ≤ rs.length → 0 ≤ sizeL (rs.take k) ∧ sizeL (rs.take k) ≤ 65536 * k := by
  intro k
  induction k with
  | zero => intro _; simp [sizeL]
  | succ k ih =>
    intro hk
    have := ih (by omega)
    have := okAt_rng ((setB_t h).2 k (by omega))
    rw [take_snoc_r rs k (by omega), sizeL_snoc]
    omega
def setSizeR (rs : List (Int × Int)) : Int := if setB rs then sizeL rs else 0
set_option maxHeartbeats 800000 in
theorem c_implSetSize {H : Nat} (A : Option Addr) (cap : Nat) (rs : List (Int × Int)) (w : World) (h : Rngs w H A rs) (hH : H ≤ w.heap.size) (hl : rs.length ≤ 100000000) :
    Calls Tryz.prog 13 #[.slice A rs.length cap] w fun e w' => e = .returned (.tuple #[.int .i64 (setSizeR rs), .bool (setB rs)]) ∧ Below w.heap.size w w' := by
  have C1 := Lib.hid (c_isRangeSet A cap rs w h hH hl)
  have h1 := h.more hH
  clear h
  cases g0 : setB rs
  · rw [show setSizeR rs = 0 from by simp [setSizeR, g0]]
    go_enter Tryz.func13, Tryz.ntmps13
    go_wp2_with fail
    refine C1.out.mono ?_
    rintro e w' ⟨rfl, bel⟩
    go_wp2
    go_ret2
    exact ⟨rfl, bel⟩
  · rw [show setSizeR rs = sizeL rs from by simp [setSizeR, g0]]
    have HR := Lib.hid (sizeL_rng g0)
    have HO := Lib.hid (setB_t g0)
    have hl10 := HO.out.1
    go_enter Tryz.func13, Tryz.ntmps13
    go_wp2_with fail
    refine C1.out.mono ?_
    rintro e w1 ⟨rfl, bel⟩
    go_wp2
    go_loopw [4, 12] (fun n i wr => ∃ k : Nat, k ≤ rs.length ∧ i = .int .i64 k ∧ n = .int .i64 (sizeL (rs.take k)) ∧ Below w.heap.size w wr) (fun _ i _ => rs.length - (intOf i).toNat)
    case atStart => exact ⟨0, Nat.zero_le _, rfl, rfl, bel⟩
    case round =>
      clear bel
      obtain ⟨k, hk, rfl, rfl, hbel⟩ := hrel
      have hd := HR.out k hk
      by_cases hlt : k < rs.length
      · have HS := Lib.hid ((congrArg sizeL (take_snoc_r rs k hlt)).trans (sizeL_snoc _ _))
        obtain ⟨ad, rfl, _, hc, hc2⟩ := (h1.keep hbel).at_ hlt
        have hb := okAt_rng (HO.out.2 k hlt)
        have HB := Lib.hid hbel
        have hi : (k : Int) < (rs.length : Int) := by omega
        clear h1 hbel g0
        generalize sizeL (rs.take k) = c at *
        generalize rs.getD k (0, 0) = r at *
        obtain ⟨x, y⟩ := r
        simp only at hb
        go_wp2
        go_roundw
        case rel => exact ⟨k + 1, by omega, by go_num, by rw [HS.out]; go_num, HB.out.alloc HB.out.size _⟩
        case measure => simp [intOf]; omega
      · obtain rfl : k = rs.length := by omega
        rw [List.take_length]
        go_wp2
        go_ret2
        exact ⟨rfl, hbel⟩
end Go.Proofs.YtlammcoiaeodfaaGreatDoor
