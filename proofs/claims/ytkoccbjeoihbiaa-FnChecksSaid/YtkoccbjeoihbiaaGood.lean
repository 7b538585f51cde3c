/- Lists of words, of serials, of octets: whether they are good, as the program and as the reference asks it; their sums and checks. -/
import Derived.Test.YtkoccbjeoihbiaaFuncs
import Derived.Test.YtkoccbjeoihbiaaWords
namespace Go.Proofs.Ytkoccbjeoihbiaa
open Go.RowKit
set_option linter.unusedVariables false
set_option maxRecDepth 100000

/-- At most n numbers, each from 0 to hi. -/
def goodB (n : Nat) (hi : Int) (zs : List Int) : Bool := decide (zs.length ≤ n) && !(zs.any fun x => !inR x 0 hi)
theorem goodB_t {n : Nat} {hi : Int} {zs : List Int} (h : goodB n hi zs = true) : zs.length ≤ n ∧ ∀ i, i < zs.length → inR (zs.getD i 0) 0 hi = true := by
  simp only [goodB, Bool.and_eq_true, decide_eq_true_eq, Bool.not_eq_true', List.any_eq_false] at h
  refine ⟨h.1, fun i hi => ?_⟩
  have := h.2 zs[i] (List.getElem_mem hi)
  simpa [hi] using this
theorem goodB_long {n : Nat} {hi : Int} {zs : List Int} (h : n < zs.length) : goodB n hi zs = false := by simp [goodB]; omega
theorem goodB_bad {n : Nat} {hi : Int} {zs : List Int} (k : Nat) (hk : k < zs.length) (h : inR (zs.getD k 0) 0 hi = false) : goodB n hi zs = false := by
  cases hg : goodB n hi zs
  · rfl
  · rw [(goodB_t hg).2 k hk] at h; cases h
theorem goodB_y {n : Nat} {hi : Int} {zs : List Int} (h1 : zs.length ≤ n) (h : ∀ i, i < zs.length → inR (zs.getD i 0) 0 hi = true) : goodB n hi zs = true := by
  simp only [goodB, Bool.and_eq_true, decide_eq_true_eq, Bool.not_eq_true', List.any_eq_false]
  refine ⟨h1, fun x hx => ?_⟩
  obtain ⟨j, hj, rfl⟩ := List.getElem_of_mem hx
  have := h j hj
  simp [hj] at this
  simp [this]
theorem goodB_areW {n : Nat} {zs : List Int} (h : goodB n 65535 zs = true) : AreW zs := fun i hi => inR_t ((goodB_t h).2 i hi)

theorem c_areWords1 (x : Int) (w : World) : Calls Try.prog 151 #[.int .i64 x] w fun e w' => e = .returned (.bool (!inR x 0 65535)) ∧ w = w' := by
  go_enter Try.func151, Try.ntmps151
  go_wp2_with (go_at_call 98; refine (c_isWord _ _).mono ?_; rintro e w' ⟨rfl, rfl⟩)
  go_ret
  exact ⟨rfl, rfl⟩
theorem c_areWords {H : Nat} (A : Option Addr) (cap : Nat) (zs : List Int) (w : World) (h : Ints w H A zs) (hl : zs.length ≤ 100000000) :
    Calls Try.prog 104 #[.slice A zs.length cap] w fun e w' => e = .returned (.bool (goodB 40 65535 zs)) ∧ w = w' := by
  have HC := Lib.hid (c_containsFuncI 151 (fun x => !inR x 0 65535) (fun x w => by kernel_rfl) c_areWords1 A cap zs w h hl)
  clear h
  by_cases h4 : (zs.length : Int) ≤ 40
  · have HG := Lib.hid (show goodB 40 65535 zs = !(zs.any fun x => !inR x 0 65535) from by simp [goodB]; omega)
    go_enter Try.func104, Try.ntmps104
    go_wp2_with fail
    refine HC.out.mono ?_
    rintro e w' ⟨rfl, rfl⟩
    go_wp2
    go_ret
    exact ⟨ret_b HG.out.symm, rfl⟩
  · rw [goodB_long (by omega)]
    go_enter Try.func104, Try.ntmps104
    go_wp2
    go_ret
    exact ⟨rfl, rfl⟩
theorem c_areSerials1 (x : Int) (w : World) : Calls Try.prog 157 #[.int .i64 x] w fun e w' => e = .returned (.bool (!inR x 0 65535)) ∧ w = w' := by
  go_enter Try.func157, Try.ntmps157
  go_wp2_with (go_at_call 31; refine (c_isSerial _ _).mono ?_; rintro e w' ⟨rfl, rfl⟩)
  go_ret
  exact ⟨rfl, rfl⟩
theorem c_areSerials {H : Nat} (A : Option Addr) (cap : Nat) (zs : List Int) (w : World) (h : Ints w H A zs) (hl : zs.length ≤ 100000000) :
    Calls Try.prog 142 #[.slice A zs.length cap] w fun e w' => e = .returned (.bool (goodB 20 65535 zs)) ∧ w = w' := by
  have HC := Lib.hid (c_containsFuncI 157 (fun x => !inR x 0 65535) (fun x w => by kernel_rfl) c_areSerials1 A cap zs w h hl)
  clear h
  by_cases h4 : (zs.length : Int) ≤ 20
  · have HG := Lib.hid (show goodB 20 65535 zs = !(zs.any fun x => !inR x 0 65535) from by simp [goodB]; omega)
    go_enter Try.func142, Try.ntmps142
    go_wp2_with fail
    refine HC.out.mono ?_
    rintro e w' ⟨rfl, rfl⟩
    go_wp2
    go_ret
    exact ⟨ret_b HG.out.symm, rfl⟩
  · rw [goodB_long (by omega)]
    go_enter Try.func142, Try.ntmps142
    go_wp2
    go_ret
    exact ⟨rfl, rfl⟩
set_option maxHeartbeats 400000 in
theorem c_l3Good {H : Nat} (A : Option Addr) (cap : Nat) (zs : List Int) (w : World) (h : Ints w H A zs) (hl : zs.length ≤ 100000000) :
    Calls Try.prog 101 #[.slice A zs.length cap] w fun e w' => e = .returned (.bool (goodB 40 65535 zs)) ∧ w = w' := by
  go_enter Try.func101, Try.ntmps101
  go_wp2
  go_loop [3] (fun i => ∃ k : Nat, k ≤ zs.length ∧ i = .int .i64 k ∧ Hid (∀ j, j < k → inR (zs.getD j 0) 0 65535 = true)) (fun i => zs.length - (intOf i).toNat)
  case atStart => exact ⟨0, Nat.zero_le _, rfl, Lib.hid (fun j hj => absurd hj (by omega))⟩
  case round =>
    obtain ⟨k, hk, rfl, HJ⟩ := hrel
    by_cases hlt : k < zs.length
    · obtain ⟨ad, rfl, hadb, hc⟩ := h.at_ hlt
      clear h
      obtain ⟨x, hx⟩ : ∃ x, x = zs.getD k 0 := ⟨_, rfl⟩
      rw [← hx] at hc
      have HX := Lib.hid hx
      clear hx
      cases hpx : inR x 0 65535
      · have HG := Lib.hid (goodB_bad (n := 40) k hlt (HX.out ▸ hpx))
        go_wp2_with (go_at_call 94; refine (c_l3Word _ _).mono ?_; rintro e w' ⟨rfl, rfl⟩)
        go_ret
        exact ⟨ret_b HG.out.symm, rfl⟩
      · go_wp2_with (go_at_call 94; refine (c_l3Word _ _).mono ?_; rintro e w' ⟨rfl, rfl⟩)
        go_round
        case rel => exact ⟨k + 1, by omega, by go_num, Lib.hid (fun j hj => by
          by_cases hjk : j = k
          · subst hjk; rw [← HX.out]; exact hpx
          · exact HJ.out j (by omega))⟩
        case measure => simp [intOf]; omega
    · obtain rfl : k = zs.length := by omega
      clear h
      by_cases h4 : (zs.length : Int) ≤ 40
      · have HG := Lib.hid (goodB_y (n := 40) (by omega) HJ.out)
        go_wp2
        go_ret
        exact ⟨ret_b HG.out.symm, rfl⟩
      · have HG := Lib.hid (goodB_long (n := 40) (hi := 65535) (zs := zs) (by omega))
        go_wp2
        go_ret
        exact ⟨ret_b HG.out.symm, rfl⟩
set_option maxHeartbeats 400000 in
theorem c_l2List {H : Nat} (A : Option Addr) (cap : Nat) (zs : List Int) (w : World) (h : Ints w H A zs) (hl : zs.length ≤ 100000000) :
    Calls Try.prog 141 #[.slice A zs.length cap] w fun e w' => e = .returned (.bool (goodB 20 65535 zs)) ∧ w = w' := by
  go_enter Try.func141, Try.ntmps141
  go_wp2
  go_loop [3] (fun i => ∃ k : Nat, k ≤ zs.length ∧ k ≤ 21 ∧ i = .int .i64 k ∧ Hid (∀ j, j < k → inR (zs.getD j 0) 0 65535 = true)) (fun i => zs.length - (intOf i).toNat)
  case atStart => exact ⟨0, Nat.zero_le _, by omega, rfl, Lib.hid (fun j hj => absurd hj (by omega))⟩
  case round =>
    obtain ⟨k, hk, hk2, rfl, HJ⟩ := hrel
    by_cases hlt : k < zs.length
    · by_cases h20 : k ≤ 20
      · obtain ⟨ad, rfl, hadb, hc⟩ := h.at_ hlt
        clear h
        obtain ⟨x, hx⟩ : ∃ x, x = zs.getD k 0 := ⟨_, rfl⟩
        rw [← hx] at hc
        have HX := Lib.hid hx
        clear hx
        cases hpx : inR x 0 65535
        · have HG := Lib.hid (goodB_bad (n := 20) k hlt (HX.out ▸ hpx))
          go_wp2_with (go_at_call 111; refine (c_l2Good _ _).mono ?_; rintro e w' ⟨rfl, rfl⟩)
          go_ret
          exact ⟨ret_b HG.out.symm, rfl⟩
        · go_wp2_with (go_at_call 111; refine (c_l2Good _ _).mono ?_; rintro e w' ⟨rfl, rfl⟩)
          go_round
          case rel => exact ⟨k + 1, by omega, by omega, by go_num, Lib.hid (fun j hj => by
            by_cases hjk : j = k
            · subst hjk; rw [← HX.out]; exact hpx
            · exact HJ.out j (by omega))⟩
          case measure => simp [intOf]; omega
      · have HG := Lib.hid (goodB_long (n := 20) (hi := 65535) (zs := zs) (by omega))
        clear h
        have h5 : ¬ (zs.length : Int) ≤ 20 := by omega
        go_wp2
        go_ret
        exact ⟨ret_b HG.out.symm, rfl⟩
    · obtain rfl : k = zs.length := by omega
      clear h
      by_cases h4 : (zs.length : Int) ≤ 20
      · have HG := Lib.hid (goodB_y (n := 20) (by omega) HJ.out)
        go_wp2
        go_ret
        exact ⟨ret_b HG.out.symm, rfl⟩
      · have HG := Lib.hid (goodB_long (n := 20) (hi := 65535) (zs := zs) (by omega))
        go_wp2
        go_ret
        exact ⟨ret_b HG.out.symm, rfl⟩
set_option maxHeartbeats 400000 in
theorem c_l3Sum {H : Nat} (A : Option Addr) (cap : Nat) (zs : List Int) (w : World) (h : Ints w H A zs) (hz : AreW zs) (hl : zs.length ≤ 1000000000) :
    Calls Try.prog 103 #[.slice A zs.length cap] w fun e w' => e = .returned (.int .i64 (sumW zs)) ∧ w = w' := by
  have HR := Lib.hid (sumW_rng hz)
  go_enter Try.func103, Try.ntmps103
  go_wp2
  go_loop [3, 4] (fun n i => ∃ k : Nat, k ≤ zs.length ∧ i = .int .i64 k ∧ n = .int .i64 (sumW (zs.take k))) (fun _ i => zs.length - (intOf i).toNat)
  case atStart => exact ⟨0, Nat.zero_le _, rfl, rfl⟩
  case round =>
    obtain ⟨k, hk, rfl, rfl⟩ := hrel
    have hd := HR.out k hk
    by_cases hlt : k < zs.length
    · have HS := Lib.hid ((congrArg sumW (take_snoc_z zs k hlt)).trans (sumW_snoc _ _))
      obtain ⟨ad, rfl, _, hc⟩ := h.at_ hlt
      have hb := hz k hlt
      clear h hz
      generalize sumW (zs.take k) = c at *
      generalize zs.getD k 0 = x at *
      go_wp2_with (go_at_call 136; refine (c_l3Add _ _ _ (by omega) (by omega) (by omega) (by omega)).mono ?_; rintro e w' ⟨rfl, rfl⟩)
      go_round
      case rel => exact ⟨k + 1, by omega, by go_num, by rw [HS.out]⟩
      case measure => simp [intOf]; omega
    · go_wp2
      go_ret
      exact ⟨ret_i (by rw [List.take_of_length_le (by omega)]), rfl⟩
end Go.Proofs.Ytkoccbjeoihbiaa
