/- The size of a set; the next number that a set lacks. -/
import Derived.Test.YtomckpobnblogaaSets
namespace Go.Proofs.Ytomckpobnblogaa
open Go.RowKit
set_option linter.unusedVariables false
set_option maxRecDepth 100000

theorem okAt_rng {rs : List (Int × Int)} {j : Nat} (h : okAt rs j = true) : 0 ≤ (rs.getD j (0, 0)).1 ∧ (rs.getD j (0, 0)).1 ≤ (rs.getD j (0, 0)).2 ∧ (rs.getD j (0, 0)).2 ≤ 65535 := by
  simp only [okAt, Bool.and_eq_true] at h
  have a := inR_t h.1.1.1
  have b := inR_t h.1.1.2
  have c := of_decide_eq_true h.1.2
  omega
def sizeL (rs : List (Int × Int)) : Int := rs.foldl (fun n r => n + r.2 - r.1 + 1) 0
theorem sizeL_snoc (l : List (Int × Int)) (r : Int × Int) : sizeL (l ++ [r]) = sizeL l + r.2 - r.1 + 1 := by simp [sizeL]
theorem sizeL_rng {rs : List (Int × Int)} (h : setB rs = true) : ∀ k, k ≤ rs.length → 0 ≤ sizeL (rs.take k) ∧ sizeL (rs.take k) ≤ 65536 * k := by
  intro k
  induction k with
  | zero => intro _; simp [sizeL]
  | succ k ih =>
    intro hk
    have := ih (by omega)
    have := okAt_rng ((setB_t h).2 k (by omega))
    rw [take_snoc_r rs k (by omega), sizeL_snoc]
    omega
def setSizeR (rs : List (Int × Int)) : Int := if setB rs then sizeL rs else 0
set_option maxHeartbeats 800000 in
theorem c_implSetSize {H : Nat} (A : Option Addr) (cap : Nat) (rs : List (Int × Int)) (w : World) (h : Rngs w H A rs) (hH : H ≤ w.heap.size) (hl : rs.length ≤ 100000000) :
    Calls Try.prog 30 #[.slice A rs.length cap] w fun e w' => e = .returned (.tuple #[.int .i64 (setSizeR rs), .bool (setB rs)]) ∧ Below w.heap.size w w' := by
  have C1 := Lib.hid (c_isRangeSet A cap rs w h hH hl)
  have h1 := h.more hH
  clear h
  cases g0 : setB rs
  · rw [show setSizeR rs = 0 from by simp [setSizeR, g0]]
    go_enter Try.func30, Try.ntmps30
    go_wp2_with fail
    refine C1.out.mono ?_
    rintro e w' ⟨rfl, bel⟩
    go_wp2
    go_ret2
    exact ⟨rfl, bel⟩
  · rw [show setSizeR rs = sizeL rs from by simp [setSizeR, g0]]
    have HR := Lib.hid (sizeL_rng g0)
    have HO := Lib.hid (setB_t g0)
    have hl10 := HO.out.1
    go_enter Try.func30, Try.ntmps30
    go_wp2_with fail
    refine C1.out.mono ?_
    rintro e w1 ⟨rfl, bel⟩
    go_wp2
    go_loopw [4, 12] (fun n i wr => ∃ k : Nat, k ≤ rs.length ∧ i = .int .i64 k ∧ n = .int .i64 (sizeL (rs.take k)) ∧ Below w.heap.size w wr) (fun _ i _ => rs.length - (intOf i).toNat)
    case atStart => exact ⟨0, Nat.zero_le _, rfl, rfl, bel⟩
    case round =>
      clear bel
      obtain ⟨k, hk, rfl, rfl, hbel⟩ := hrel
      have hd := HR.out k hk
      by_cases hlt : k < rs.length
      · have HS := Lib.hid ((congrArg sizeL (take_snoc_r rs k hlt)).trans (sizeL_snoc _ _))
        obtain ⟨ad, rfl, _, hc, hc2⟩ := (h1.keep hbel).at_ hlt
        have hb := okAt_rng (HO.out.2 k hlt)
        have HB := Lib.hid hbel
        have hi : (k : Int) < (rs.length : Int) := by omega
        clear h1 hbel g0
        generalize sizeL (rs.take k) = c at *
        generalize rs.getD k (0, 0) = r at *
        obtain ⟨x, y⟩ := r
        simp only at hb
        go_wp2
        go_roundw
        case rel => exact ⟨k + 1, by omega, by go_num, by rw [HS.out]; go_num, HB.out.alloc HB.out.size _⟩
        case measure => simp [intOf]; omega
      · obtain rfl : k = rs.length := by omega
        rw [List.take_length]
        go_wp2
        go_ret2
        exact ⟨rfl, hbel⟩
def stepN (x : Int) (r : Int × Int) : Int := if inR x r.1 r.2 then r.2 + 1 else x
def nextL (x : Int) (rs : List (Int × Int)) : Int := rs.foldl stepN x
theorem nextL_snoc (x : Int) (l : List (Int × Int)) (r : Int × Int) : nextL x (l ++ [r]) = stepN (nextL x l) r := by simp [nextL]
theorem nextL_rng {rs : List (Int × Int)} {x : Int} (h : setB rs = true) (hx : 0 ≤ x ∧ x ≤ 65535) : ∀ k, k ≤ rs.length → 0 ≤ nextL x (rs.take k) ∧ nextL x (rs.take k) ≤ 65536 := by
  intro k
  induction k with
  | zero => intro _; simp [nextL]; omega
  | succ k ih =>
    intro hk
    have := ih (by omega)
    have := okAt_rng ((setB_t h).2 k (by omega))
    rw [take_snoc_r rs k (by omega), nextL_snoc]
    unfold stepN
    split <;> omega
def nextOk (rs : List (Int × Int)) (x : Int) : Bool := setB rs && inR x 0 65535 && inR (nextL x rs) 0 65535
def nextR (rs : List (Int × Int)) (x : Int) : Int := if nextOk rs x then nextL x rs else 0
set_option maxHeartbeats 1000000 in
theorem c_specNextMissing {H : Nat} (A : Option Addr) (cap : Nat) (rs : List (Int × Int)) (x0 : Int) (w : World) (h : Rngs w H A rs) (hH : H ≤ w.heap.size) (hl : rs.length ≤ 100000000) :
    Calls Try.prog 32 #[.slice A rs.length cap, .int .i64 x0] w fun e w' => e = .returned (.tuple #[.int .i64 (nextR rs x0), .bool (nextOk rs x0)]) ∧ Below w.heap.size w w' := by
  have C1 := Lib.hid (c_l5Good A cap rs w h hH hl)
  have h1 := h.more hH
  clear h
  cases g0 : setB rs
  · rw [show nextOk rs x0 = false from by simp [nextOk, g0], show nextR rs x0 = 0 from by simp [nextR, nextOk, g0]]
    go_enter Try.func32, Try.ntmps32
    go_wp2_with fail
    refine C1.out.mono ?_
    rintro e w' ⟨rfl, bel⟩
    go_wp2
    go_ret2
    exact ⟨rfl, bel⟩
  cases g1 : inR x0 0 65535
  · rw [show nextOk rs x0 = false from by simp [nextOk, g0, g1], show nextR rs x0 = 0 from by simp [nextR, nextOk, g0, g1]]
    go_enter Try.func32, Try.ntmps32
    go_wp2_with fail
    refine C1.out.mono ?_
    rintro e w' ⟨rfl, bel⟩
    go_wp2_with fail
    refine (c_l3Word _ _).mono ?_
    rintro e _ ⟨rfl, rfl⟩
    go_wp2
    go_ret2
    exact ⟨rfl, bel⟩
  · have EO := Lib.hid (show nextOk rs x0 = inR (nextL x0 rs) 0 65535 from by simp [nextOk, g0, g1])
    have HR := Lib.hid (nextL_rng g0 (inR_t g1))
    have HO := Lib.hid (setB_t g0)
    have hl10 := HO.out.1
    go_enter Try.func32, Try.ntmps32
    go_wp2_with fail
    refine C1.out.mono ?_
    rintro e w1 ⟨rfl, bel⟩
    go_wp2_with fail
    refine (c_l3Word _ _).mono ?_
    rintro e _ ⟨rfl, rfl⟩
    go_wp2
    go_loopw [1, 6] (fun n i wr => ∃ k : Nat, k ≤ rs.length ∧ i = .int .i64 k ∧ n = .int .i64 (nextL x0 (rs.take k)) ∧ Below w.heap.size w wr) (fun _ i _ => rs.length - (intOf i).toNat)
    case atStart => exact ⟨0, Nat.zero_le _, rfl, rfl, bel⟩
    case round =>
      clear bel
      obtain ⟨k, hk, rfl, rfl, hbel⟩ := hrel
      have hd := HR.out k hk
      by_cases hlt : k < rs.length
      · have HS := Lib.hid ((congrArg (nextL x0) (take_snoc_r rs k hlt)).trans (nextL_snoc _ _ _))
        obtain ⟨ad, rfl, _, hc, hc2⟩ := (h1.keep hbel).at_ hlt
        have hb := okAt_rng (HO.out.2 k hlt)
        have HB := Lib.hid hbel
        have hi : (k : Int) < (rs.length : Int) := by omega
        clear h1 hbel g0
        generalize nextL x0 (rs.take k) = c at *
        generalize rs.getD k (0, 0) = r at *
        obtain ⟨x, y⟩ := r
        simp only at hb
        cases gi : inR c x y
        · have HS2 := Lib.hid (HS.out.trans (show stepN c (x, y) = c from by simp [stepN, gi]))
          have HC : ∀ W : World, Hid (Calls Try.prog 57 #[.int .i64 c, .int .i64 x, .int .i64 y] W fun e w' => e = .returned (.bool false) ∧ W = w') := fun W => gi ▸ c_l1In c x y W
          go_wp2
          go_quiet ((go_at_call 57; exact quiet_left (HC _).out))
          go_wp2
          go_roundw
          case rel => exact ⟨k + 1, by omega, by go_num, by rw [HS2.out], below_drewN HB.out _⟩
          case measure => simp [intOf]; omega
        · have HS2 := Lib.hid (HS.out.trans (show stepN c (x, y) = y + 1 from by simp [stepN, gi]))
          have HC : ∀ W : World, Hid (Calls Try.prog 57 #[.int .i64 c, .int .i64 x, .int .i64 y] W fun e w' => e = .returned (.bool true) ∧ W = w') := fun W => gi ▸ c_l1In c x y W
          go_wp2
          go_quiet ((go_at_call 57; exact quiet_left (HC _).out))
          go_wp2
          go_roundw
          case rel => exact ⟨k + 1, by omega, by go_num, by rw [HS2.out], below_drewN HB.out _⟩
          case measure => simp [intOf]; omega
      · obtain rfl : k = rs.length := by omega
        rw [List.take_length]
        rw [List.take_length] at hd
        cases gn : inR (nextL x0 rs) 0 65535
        · have E1 := Lib.hid (show nextOk rs x0 = false from EO.out.trans gn)
          have E2 := Lib.hid (show nextR rs x0 = 0 from by simp [nextR, E1.out])
          go_wp2_with fail
          refine (c_l3Word _ _).mono ?_
          rintro e _ ⟨rfl, rfl⟩
          go_wp2
          go_ret2
          exact ⟨by rw [E1.out, E2.out]; rfl, hbel⟩
        · have E1 := Lib.hid (show nextOk rs x0 = true from EO.out.trans gn)
          have E2 := Lib.hid (show nextR rs x0 = nextL x0 rs from by simp [nextR, E1.out])
          go_wp2_with fail
          refine (c_l3Word _ _).mono ?_
          rintro e _ ⟨rfl, rfl⟩
          go_wp2
          go_ret2
          exact ⟨by rw [E1.out, E2.out]; rfl, hbel⟩
set_option maxHeartbeats 1000000 in
theorem c_implNextMissing {H : Nat} (A : Option Addr) (cap : Nat) (rs : List (Int × Int)) (x0 : Int) (w : World) (h : Rngs w H A rs) (hH : H ≤ w.heap.size) (hl : rs.length ≤ 100000000) :
    Calls Try.prog 28 #[.slice A rs.length cap, .int .i64 x0] w fun e w' => e = .returned (.tuple #[.int .i64 (nextR rs x0), .bool (nextOk rs x0)]) ∧ Below w.heap.size w w' := by
  have C1 := Lib.hid (c_isRangeSet A cap rs w h hH hl)
  have h1 := h.more hH
  clear h
  cases g0 : setB rs
  · rw [show nextOk rs x0 = false from by simp [nextOk, g0], show nextR rs x0 = 0 from by simp [nextR, nextOk, g0]]
    go_enter Try.func28, Try.ntmps28
    go_wp2_with fail
    refine C1.out.mono ?_
    rintro e w' ⟨rfl, bel⟩
    go_wp2
    go_ret2
    exact ⟨rfl, bel⟩
  cases g1 : inR x0 0 65535
  · rw [show nextOk rs x0 = false from by simp [nextOk, g0, g1], show nextR rs x0 = 0 from by simp [nextR, nextOk, g0, g1]]
    go_enter Try.func28, Try.ntmps28
    go_wp2_with fail
    refine C1.out.mono ?_
    rintro e w' ⟨rfl, bel⟩
    go_wp2_with fail
    refine (c_isWord _ _).mono ?_
    rintro e _ ⟨rfl, rfl⟩
    go_wp2
    go_ret2
    exact ⟨rfl, bel⟩
  · have EO := Lib.hid (show nextOk rs x0 = inR (nextL x0 rs) 0 65535 from by simp [nextOk, g0, g1])
    have HR := Lib.hid (nextL_rng g0 (inR_t g1))
    have HO := Lib.hid (setB_t g0)
    have hl10 := HO.out.1
    go_enter Try.func28, Try.ntmps28
    go_wp2_with fail
    refine C1.out.mono ?_
    rintro e w1 ⟨rfl, bel⟩
    go_wp2_with fail
    refine (c_isWord _ _).mono ?_
    rintro e _ ⟨rfl, rfl⟩
    go_wp2
    go_loopw [1, 18] (fun n i wr => ∃ k : Nat, k ≤ rs.length ∧ i = .int .i64 k ∧ n = .int .i64 (nextL x0 (rs.take k)) ∧ Below w.heap.size w wr) (fun _ i _ => rs.length - (intOf i).toNat)
    case atStart => exact ⟨0, Nat.zero_le _, rfl, rfl, bel⟩
    case round =>
      clear bel
      obtain ⟨k, hk, rfl, rfl, hbel⟩ := hrel
      have hd := HR.out k hk
      by_cases hlt : k < rs.length
      · have HS := Lib.hid ((congrArg (nextL x0) (take_snoc_r rs k hlt)).trans (nextL_snoc _ _ _))
        obtain ⟨ad, rfl, _, hc, hc2⟩ := (h1.keep hbel).at_ hlt
        have hb := okAt_rng (HO.out.2 k hlt)
        have HB := Lib.hid hbel
        have hi : (k : Int) < (rs.length : Int) := by omega
        clear h1 hbel g0
        generalize nextL x0 (rs.take k) = c at *
        generalize rs.getD k (0, 0) = r at *
        obtain ⟨x, y⟩ := r
        simp only at hb
        cases gi : inR c x y
        · have HS2 := Lib.hid (HS.out.trans (show stepN c (x, y) = c from by simp [stepN, gi]))
          go_wp2_with (go_at_call 55; refine (c_within _ _ _ _).mono ?_; rintro e _ ⟨rfl, rfl⟩)
          go_roundw
          case rel => exact ⟨k + 1, by omega, by go_num, by rw [HS2.out], HB.out.alloc HB.out.size _⟩
          case measure => simp [intOf]; omega
        · have HS2 := Lib.hid (HS.out.trans (show stepN c (x, y) = y + 1 from by simp [stepN, gi]))
          go_wp2_with (go_at_call 55; refine (c_within _ _ _ _).mono ?_; rintro e _ ⟨rfl, rfl⟩)
          go_roundw
          case rel => exact ⟨k + 1, by omega, by go_num, by rw [HS2.out], HB.out.alloc HB.out.size _⟩
          case measure => simp [intOf]; omega
      · obtain rfl : k = rs.length := by omega
        rw [List.take_length]
        rw [List.take_length] at hd
        cases gn : inR (nextL x0 rs) 0 65535
        · have E1 := Lib.hid (show nextOk rs x0 = false from EO.out.trans gn)
          have E2 := Lib.hid (show nextR rs x0 = 0 from by simp [nextR, E1.out])
          have g3 : (65535 : Int) < nextL x0 rs := by have := inR_f gn; omega
          go_wp2
          go_ret2
          exact ⟨by rw [E1.out, E2.out]; rfl, hbel⟩
        · have E1 := Lib.hid (show nextOk rs x0 = true from EO.out.trans gn)
          have E2 := Lib.hid (show nextR rs x0 = nextL x0 rs from by simp [nextR, E1.out])
          have g3 : nextL x0 rs ≤ (65535 : Int) := by have := inR_t gn; omega
          go_wp2
          go_ret2
          exact ⟨by rw [E1.out, E2.out]; rfl, hbel⟩
end Go.Proofs.Ytomckpobnblogaa
