/- Octets: their weighted sum and its check, as the program and as the reference makes them. -/
import Derived.Test.YtpmfaiocmgkmpaaGreatDoorFuncs
import Derived.Test.YtpmfaiocmgkmpaaGreatDoorGood
namespace Go.Proofs.YtpmfaiocmgkmpaaGreatDoor
open Go.RowKit
set_option linter.unusedVariables false
set_option maxRecDepth 100000

/-- The first k octets, each by its place. -/
def sumO (zs : List Int) : Nat → Int
  | 0 => 0
  | k + 1 => sumO zs k + ((k : Int) + 1) * zs.getD k 0
def AreO (zs : List Int) : Prop := ∀ i, i < zs.length → 0 ≤ zs.getD i 0 ∧ zs.getD i 0 ≤ 255
def chkO (zs : List Int) : Int := sumO zs zs.length % 65521
theorem sumO_rng {zs : List Int} (h : AreO zs) (hl : zs.length ≤ 40) : ∀ k, k ≤ zs.length → 0 ≤ sumO zs k ∧ sumO zs k ≤ 10455 * k := by
  intro k
  induction k with
  | zero => intro _; simp [sumO]
  | succ k ih =>
    intro hk
    have := ih (by omega)
    have hb := h k (by omega)
    simp only [sumO]
    have h1 : 0 ≤ ((k : Int) + 1) * zs.getD k 0 := Int.mul_nonneg (by omega) hb.1
    have h2 : ((k : Int) + 1) * zs.getD k 0 ≤ 41 * 255 := Int.mul_le_mul (by omega) hb.2 hb.1 (by omega)
    omega
theorem stepO {zs : List Int} (h : AreO zs) (hl : zs.length ≤ 40) (k : Nat) (hk : k < zs.length) : 0 ≤ ((k : Int) + 1) * zs.getD k 0 ∧ ((k : Int) + 1) * zs.getD k 0 ≤ 10455 := by
  have hb := h k hk
  exact ⟨Int.mul_nonneg (by omega) hb.1, Int.mul_le_mul (a := (k : Int) + 1) (b := zs.getD k 0) (c := 41) (d := 255) (by omega) hb.2 hb.1 (by omega)⟩
set_option maxHeartbeats 400000 in
theorem c_l4Check {H : Nat} (A : Option Addr) (cap : Nat) (zs : List Int) (w : World) (h : Ints w H A zs) (hz : AreO zs) (hl : zs.length ≤ 40) :
    Calls Tryz.prog 39 #[.slice A zs.length cap] w fun e w' => e = .returned (.int .i64 (chkO zs)) ∧ w = w' := by
  have HR := Lib.hid (sumO_rng hz hl)
  have HT := Lib.hid (stepO hz hl)
  clear hz
  go_enter Tryz.func39, Tryz.ntmps39
  go_wp2
  go_loop [3, 4] (fun n i => ∃ k : Nat, k ≤ zs.length ∧ i = .int .i64 k ∧ n = .int .i64 (sumO zs k)) (fun _ i => zs.length - (intOf i).toNat)
  case atStart => exact ⟨0, Nat.zero_le _, rfl, rfl⟩
  case round =>
    obtain ⟨k, hk, rfl, rfl⟩ := hrel
    have hd := HR.out k hk
    by_cases hlt : k < zs.length
    · have HS := Lib.hid (show sumO zs (k + 1) = sumO zs k + ((k : Int) + 1) * zs.getD k 0 from rfl)
      obtain ⟨ad, rfl, _, hc⟩ := h.at_ hlt
      have hb := HT.out k hlt
      clear h
      generalize sumO zs k = c at *
      generalize zs.getD k 0 = x at *
      have hw : wrap64 (((k : Int) + 1) * x) = ((k : Int) + 1) * x := IntWalk.wrap64_in _ ⟨by omega, by omega⟩
      have hw2 : wrap64 (c + ((k : Int) + 1) * x) = c + ((k : Int) + 1) * x := IntWalk.wrap64_in _ ⟨by omega, by omega⟩
      go_wp2
      go_round
      case rel => exact ⟨k + 1, by omega, by go_num, by rw [HS.out]⟩
      case measure => simp [intOf]; omega
    · obtain rfl : k = zs.length := by omega
      go_wp2
      go_ret
      exact ⟨rfl, rfl⟩
set_option maxHeartbeats 400000 in
theorem c_octetCheck {H : Nat} (A : Option Addr) (cap : Nat) (zs : List Int) (w : World) (h : Ints w H A zs) (hz : AreO zs) (hl : zs.length ≤ 40) :
    Calls Tryz.prog 37 #[.slice A zs.length cap] w fun e w' => e = .returned (.int .i64 (chkO zs)) ∧ w = w' := by
  have HR := Lib.hid (sumO_rng hz hl)
  have HT := Lib.hid (stepO hz hl)
  clear hz
  go_enter Tryz.func37, Tryz.ntmps37
  go_wp2
  go_loop [3, 8] (fun n i => ∃ k : Nat, k ≤ zs.length ∧ i = .int .i64 k ∧ n = .int .i64 (sumO zs k)) (fun _ i => zs.length - (intOf i).toNat)
  case atStart => exact ⟨0, Nat.zero_le _, rfl, rfl⟩
  case round =>
    obtain ⟨k, hk, rfl, rfl⟩ := hrel
    have hd := HR.out k hk
    by_cases hlt : k < zs.length
    · have HS := Lib.hid (show sumO zs (k + 1) = sumO zs k + ((k : Int) + 1) * zs.getD k 0 from rfl)
      obtain ⟨ad, rfl, _, hc⟩ := h.at_ hlt
      have hb := HT.out k hlt
      clear h
      generalize sumO zs k = c at *
      generalize zs.getD k 0 = x at *
      rw [Int.mul_comm] at hb HS
      have hw : wrap64 (x * ((k : Int) + 1)) = x * ((k : Int) + 1) := IntWalk.wrap64_in _ ⟨by omega, by omega⟩
      have hw2 : wrap64 (c + x * ((k : Int) + 1)) = c + x * ((k : Int) + 1) := IntWalk.wrap64_in _ ⟨by omega, by omega⟩
      go_wp2
      go_round
      case rel => exact ⟨k + 1, by omega, by go_num, by rw [HS.out]⟩
      case measure => simp [intOf]; omega
    · obtain rfl : k = zs.length := by omega
      go_wp2
      go_ret
      exact ⟨rfl, rfl⟩
theorem c_checkOf1 (x : Int) (w : World) : Calls Tryz.prog 36 #[.int .i64 x] w fun e w' => e = .returned (.bool (!inR x 0 255)) ∧ w = w' := by
  go_enter Tryz.func36, Tryz.ntmps36
  go_wp2_with (go_at_call 21; refine (c_within _ _ _ _).mono ?_; rintro e w' ⟨rfl, rfl⟩)
  go_ret
  exact ⟨rfl, rfl⟩
theorem goodB_areO {n : Nat} {zs : List Int} (h : goodB n 255 zs = true) : AreO zs := fun i hi => inR_t ((goodB_t h).2 i hi)
def checkR (zs : List Int) : Int := if goodB 40 255 zs then chkO zs else 0
set_option maxHeartbeats 400000 in
theorem c_implCheckOf {H : Nat} (A : Option Addr) (cap : Nat) (zs : List Int) (w : World) (h : Ints w H A zs) (hl : zs.length ≤ 100000000) :
    Calls Tryz.prog 15 #[.slice A zs.length cap] w fun e w' => e = .returned (.tuple #[.int .i64 (checkR zs), .bool (goodB 40 255 zs)]) ∧ w = w' := by
  by_cases h4 : (zs.length : Int) ≤ 40
  · have HC := Lib.hid (c_containsFuncI 36 (fun x => !inR x 0 255) (fun x w => by kernel_rfl) c_checkOf1 A cap zs w h hl)
    have EG : goodB 40 255 zs = !(zs.any fun x => !inR x 0 255) := by simp [goodB]; omega
    cases g0 : goodB 40 255 zs
    · rw [show checkR zs = 0 from by simp [checkR, g0]]
      have e1 : (zs.any fun x => !inR x 0 255) = true := by rw [g0] at EG; simpa using EG.symm
      rw [e1] at HC
      clear h EG
      go_enter Tryz.func15, Tryz.ntmps15
      go_wp2_with fail
      refine HC.out.mono ?_
      rintro e w' ⟨rfl, rfl⟩
      go_wp2
      go_ret2
      exact ⟨rfl, rfl⟩
    · rw [show checkR zs = chkO zs from by simp [checkR, g0]]
      have e1 : (zs.any fun x => !inR x 0 255) = false := by rw [g0] at EG; simpa using EG.symm
      rw [e1] at HC
      have C2 := Lib.hid (c_octetCheck A cap zs w h (goodB_areO g0) (by omega))
      clear h EG
      go_enter Tryz.func15, Tryz.ntmps15
      go_wp2_with fail
      refine HC.out.mono ?_
      rintro e w' ⟨rfl, rfl⟩
      go_wp2_with fail
      refine C2.out.mono ?_
      rintro e w' ⟨rfl, rfl⟩
      go_wp2
      go_ret2
      exact ⟨rfl, rfl⟩
  · have g0 : goodB 40 255 zs = false := goodB_long (by omega)
    rw [g0, show checkR zs = 0 from by simp [checkR, g0]]
    go_enter Tryz.func15, Tryz.ntmps15
    go_wp2
    go_ret2
    exact ⟨rfl, rfl⟩
set_option maxHeartbeats 400000 in
theorem c_specCheckOf {H : Nat} (A : Option Addr) (cap : Nat) (zs : List Int) (w : World) (h : Ints w H A zs) (hl : zs.length ≤ 100000000) :
    Calls Tryz.prog 16 #[.slice A zs.length cap] w fun e w' => e = .returned (.tuple #[.int .i64 (checkR zs), .bool (goodB 40 255 zs)]) ∧ w = w' := by
  go_enter Tryz.func16, Tryz.ntmps16
  go_wp2
  go_loop [4] (fun i => ∃ k : Nat, k ≤ zs.length ∧ i = .int .i64 k ∧ Hid (∀ j, j < k → inR (zs.getD j 0) 0 255 = true)) (fun i => zs.length - (intOf i).toNat)
  case atStart => exact ⟨0, Nat.zero_le _, rfl, Lib.hid (fun j hj => absurd hj (by omega))⟩
  case round =>
    obtain ⟨k, hk, rfl, HJ⟩ := hrel
    by_cases hlt : k < zs.length
    · obtain ⟨ad, rfl, hadb, hc⟩ := h.at_ hlt
      clear h
      obtain ⟨x, hx⟩ : ∃ x, x = zs.getD k 0 := ⟨_, rfl⟩
      rw [← hx] at hc
      have HX := Lib.hid hx
      clear hx
      cases hpx : inR x 0 255
      · have HG := Lib.hid (goodB_bad (n := 40) k hlt (HX.out ▸ hpx))
        have HC := Lib.hid (show checkR zs = 0 from by simp [checkR, HG.out])
        go_wp2_with (go_at_call 38; refine (c_l1In _ _ _ _).mono ?_; rintro e w' ⟨rfl, rfl⟩)
        go_ret2
        exact ⟨by rw [HG.out, HC.out]; rfl, rfl⟩
      · go_wp2_with (go_at_call 38; refine (c_l1In _ _ _ _).mono ?_; rintro e w' ⟨rfl, rfl⟩)
        go_round
        case rel => exact ⟨k + 1, by omega, by go_num, Lib.hid (fun j hj => by
          by_cases hjk : j = k
          · subst hjk; rw [← HX.out]; exact hpx
          · exact HJ.out j (by omega))⟩
        case measure => simp [intOf]; omega
    · obtain rfl : k = zs.length := by omega
      by_cases h4 : (zs.length : Int) ≤ 40
      · have HG := Lib.hid (goodB_y (n := 40) (by omega) HJ.out)
        have HC := Lib.hid (show checkR zs = chkO zs from by simp [checkR, HG.out])
        have C2 := Lib.hid (c_l4Check A cap zs w h (goodB_areO HG.out) (by omega))
        clear h
        go_wp2_with fail
        refine C2.out.mono ?_
        rintro e w' ⟨rfl, rfl⟩
        go_wp2
        go_ret2
        exact ⟨by rw [HG.out, HC.out]; rfl, rfl⟩
      · have HG := Lib.hid (goodB_long (n := 40) (hi := 255) (zs := zs) (by omega))
        have HC := Lib.hid (show checkR zs = 0 from by simp [checkR, HG.out])
        clear h
        go_wp2
        go_ret2
        exact ⟨by rw [HG.out, HC.out]; rfl, rfl⟩
end Go.Proofs.YtpmfaiocmgkmpaaGreatDoor
