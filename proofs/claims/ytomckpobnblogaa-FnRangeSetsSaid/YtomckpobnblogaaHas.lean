/- Whether a set has a number: asked by the reference's loop and by the program's closure. -/
import Derived.Test.YtomckpobnblogaaFuncsC
import Derived.Test.YtomckpobnblogaaSetsF
namespace Go.Proofs.Ytomckpobnblogaa
open Go.RowKit
set_option linter.unusedVariables false
set_option maxRecDepth 100000

def inP (x : Int) (r : Int × Int) : Bool := inR x r.1 r.2
def hasOk (rs : List (Int × Int)) (x : Int) : Bool := setB rs && inR x 0 65535
def hasR (rs : List (Int × Int)) (x : Int) : Bool := hasOk rs x && rs.any (inP x)
theorem c_hasNumber1 (x a b : Int) (cp : Addr) (W : World) (hc : W.cell? cp = some (.int .i64 x)) :
    Calls Try.prog 66 #[.agg #[.int .i64 a, .int .i64 b], .pointer (some cp)] W fun e w' => e = .returned (.bool (inP x (a, b))) ∧ Below W.heap.size W w' := by
  have hca : ∀ o, (W.alloc o).cell? cp = some (.int .i64 x) := fun o => (World.cell?_alloc_lt W o cp (World.block_lt_of_cell? _ _ hc)).trans hc
  go_enter Try.func66, Try.ntmps66
  go_wp2_with (go_at_call 55; refine (c_within _ _ _ _).mono ?_; rintro e _ ⟨rfl, rfl⟩)
  go_ret
  exact ⟨rfl, by go_grown⟩
set_option maxHeartbeats 400000 in
theorem c_hasNumber {H : Nat} (A : Option Addr) (cap : Nat) (rs : List (Int × Int)) (x : Int) (w : World) (h : Rngs w H A rs) (hH : H ≤ w.heap.size) (hl : rs.length ≤ 100000000) :
    Calls Try.prog 54 #[.slice A rs.length cap, .int .i64 x] w fun e w' => e = .returned (.bool (rs.any (inP x))) ∧ Below w.heap.size w w' := by
  have bel : Below w.heap.size w (w.alloc (.cells #[.int .i64 x] 3)) := (Below.refl _ _).alloc (Nat.le_refl _) _
  have hc : (w.alloc (.cells #[.int .i64 x] 3)).cell? ⟨w.heap.size, 0, none⟩ = some (.int .i64 x) := new1_cell _ _ _
  have C := Lib.hid (c_containsFuncRC 66 (.pointer (some ⟨w.heap.size, 0, none⟩)) (inP x) A cap rs (w.alloc (.cells #[.int .i64 x] 3)) (fun x y w => by kernel_rfl)
    (fun a b W hb => c_hasNumber1 x a b _ W ((hb.cell (p := ⟨w.heap.size, 0, none⟩) (by simp)).trans hc)) ((h.more hH).keep bel) (by simp) hl)
  clear h hc
  go_enter Try.func54, Try.ntmps54
  go_wp2_with fail
  refine C.out.mono ?_
  rintro e w1 ⟨rfl, b1⟩
  have HB := Lib.hid (bel.trans (b1.mono (by simp)))
  clear bel b1
  go_wp2
  go_ret
  exact ⟨rfl, HB.out⟩
set_option maxHeartbeats 400000 in
theorem c_l5Has {H : Nat} (A : Option Addr) (cap : Nat) (rs : List (Int × Int)) (x0 : Int) (w : World) (h : Rngs w H A rs) (hH : H ≤ w.heap.size) (hl : rs.length ≤ 100000000) :
    Calls Try.prog 58 #[.slice A rs.length cap, .int .i64 x0] w fun e w' => e = .returned (.bool (rs.any (inP x0))) ∧ Below w.heap.size w w' := by
  have h1 := h.more hH
  clear h
  go_enter Try.func58, Try.ntmps58
  go_wp2
  go_loopw [5] (fun i wr => ∃ k : Nat, k ≤ rs.length ∧ i = .int .i64 k ∧ Hid (∀ j, j < k → inP x0 (rs.getD j (0, 0)) = false) ∧ Below w.heap.size w wr) (fun i _ => rs.length - (intOf i).toNat)
  case atStart => exact ⟨0, Nat.zero_le _, rfl, Lib.hid (fun j hj => absurd hj (by omega)), Below.refl _ _⟩
  case round =>
    obtain ⟨k, hk, rfl, HJ, hbel⟩ := hrel
    by_cases hlt : k < rs.length
    · obtain ⟨ad, rfl, hadb, hc, hd⟩ := (h1.keep hbel).at_ hlt
      have HB := Lib.hid hbel
      have hi : (k : Int) < (rs.length : Int) := by omega
      clear h1 hbel
      obtain ⟨r, hx⟩ : ∃ r, r = rs.getD k (0, 0) := ⟨_, rfl⟩
      rw [← hx] at hc hd
      have HX := Lib.hid hx
      clear hx
      obtain ⟨x, y⟩ := r
      cases gi : inR x0 x y
      · have HC : ∀ W : World, Hid (Calls Try.prog 57 #[.int .i64 x0, .int .i64 x, .int .i64 y] W fun e w' => e = .returned (.bool false) ∧ W = w') := fun W => gi ▸ c_l1In x0 x y W
        go_wp2
        go_quiet ((go_at_call 57; exact quiet_left (HC _).out))
        go_wp2
        go_roundw
        case rel => exact ⟨k + 1, by omega, by go_num, Lib.hid (fun j hj => by
          by_cases hjk : j = k
          · subst hjk; rw [← HX.out]; exact gi
          · exact HJ.out j (by omega)), below_drewN HB.out _⟩
        case measure => simp [intOf]; omega
      · have HC : ∀ W : World, Hid (Calls Try.prog 57 #[.int .i64 x0, .int .i64 x, .int .i64 y] W fun e w' => e = .returned (.bool true) ∧ W = w') := fun W => gi ▸ c_l1In x0 x y W
        have HG := Lib.hid (FoundR.any (p := inP x0) (rs := rs) (r := k) (.inr ⟨k, rfl, hlt, by rw [← HX.out]; exact gi, HJ.out⟩))
        go_wp2
        go_quiet ((go_at_call 57; exact quiet_left (HC _).out))
        go_wp2
        go_ret
        exact ⟨ret_b (by rw [← HG.out]; simp), below_drewN HB.out _⟩
    · obtain rfl : k = rs.length := by omega
      have HG := Lib.hid (FoundR.any (p := inP x0) (rs := rs) (r := -1) (.inl ⟨rfl, HJ.out⟩))
      clear h1
      go_wp2
      go_ret
      exact ⟨ret_b (by rw [← HG.out]; simp), hbel⟩
set_option maxHeartbeats 400000 in
theorem c_specHasNumber {H : Nat} (A : Option Addr) (cap : Nat) (rs : List (Int × Int)) (x0 : Int) (w : World) (h : Rngs w H A rs) (hH : H ≤ w.heap.size) (hl : rs.length ≤ 100000000) :
    Calls Try.prog 34 #[.slice A rs.length cap, .int .i64 x0] w fun e w' => e = .returned (.tuple #[.bool (hasR rs x0), .bool (hasOk rs x0)]) ∧ Below w.heap.size w w' := by
  have C1 := Lib.hid (c_l5Good A cap rs w h hH hl)
  have h1 := h.more hH
  clear h
  cases g0 : setB rs
  · rw [show hasOk rs x0 = false from by simp [hasOk, g0], show hasR rs x0 = false from by simp [hasR, hasOk, g0]]
    go_enter Try.func34, Try.ntmps34
    go_wp2_with fail
    refine C1.out.mono ?_
    rintro e w' ⟨rfl, bel⟩
    go_wp2
    go_ret2
    exact ⟨rfl, bel⟩
  cases g1 : inR x0 0 65535
  · rw [show hasOk rs x0 = false from by simp [hasOk, g0, g1], show hasR rs x0 = false from by simp [hasR, hasOk, g0, g1]]
    go_enter Try.func34, Try.ntmps34
    go_wp2_with fail
    refine C1.out.mono ?_
    rintro e w' ⟨rfl, bel⟩
    go_wp2_with fail
    refine (c_l3Word _ _).mono ?_
    rintro e _ ⟨rfl, rfl⟩
    go_wp2
    go_ret2
    exact ⟨rfl, bel⟩
  · rw [show hasOk rs x0 = true from by simp [hasOk, g0, g1], show hasR rs x0 = rs.any (inP x0) from by simp [hasR, hasOk, g0, g1]]
    go_enter Try.func34, Try.ntmps34
    go_wp2_with fail
    refine C1.out.mono ?_
    rintro e w1 ⟨rfl, bel⟩
    go_wp2_with fail
    refine (c_l3Word _ _).mono ?_
    rintro e _ ⟨rfl, rfl⟩
    go_wp2_with fail
    refine (c_l5Has A cap rs x0 _ (h1.keep bel) bel.size hl).mono ?_
    rintro e w2 ⟨rfl, b2⟩
    have HB := Lib.hid (bel.trans (b2.mono bel.size))
    clear bel b2 h1
    go_wp2
    go_ret2
    exact ⟨rfl, HB.out⟩
set_option maxHeartbeats 400000 in
theorem c_implHasNumber {H : Nat} (A : Option Addr) (cap : Nat) (rs : List (Int × Int)) (x0 : Int) (w : World) (h : Rngs w H A rs) (hH : H ≤ w.heap.size) (hl : rs.length ≤ 100000000) :
    Calls Try.prog 27 #[.slice A rs.length cap, .int .i64 x0] w fun e w' => e = .returned (.tuple #[.bool (hasR rs x0), .bool (hasOk rs x0)]) ∧ Below w.heap.size w w' := by
  have C1 := Lib.hid (c_isRangeSet A cap rs w h hH hl)
  have h1 := h.more hH
  clear h
  cases g0 : setB rs
  · rw [show hasOk rs x0 = false from by simp [hasOk, g0], show hasR rs x0 = false from by simp [hasR, hasOk, g0]]
    go_enter Try.func27, Try.ntmps27
    go_wp2_with fail
    refine C1.out.mono ?_
    rintro e w' ⟨rfl, bel⟩
    go_wp2
    go_ret2
    exact ⟨rfl, bel⟩
  cases g1 : inR x0 0 65535
  · rw [show hasOk rs x0 = false from by simp [hasOk, g0, g1], show hasR rs x0 = false from by simp [hasR, hasOk, g0, g1]]
    go_enter Try.func27, Try.ntmps27
    go_wp2_with fail
    refine C1.out.mono ?_
    rintro e w' ⟨rfl, bel⟩
    go_wp2_with fail
    refine (c_isWord _ _).mono ?_
    rintro e _ ⟨rfl, rfl⟩
    go_wp2
    go_ret2
    exact ⟨rfl, bel⟩
  · rw [show hasOk rs x0 = true from by simp [hasOk, g0, g1], show hasR rs x0 = rs.any (inP x0) from by simp [hasR, hasOk, g0, g1]]
    go_enter Try.func27, Try.ntmps27
    go_wp2_with fail
    refine C1.out.mono ?_
    rintro e w1 ⟨rfl, bel⟩
    go_wp2_with fail
    refine (c_isWord _ _).mono ?_
    rintro e _ ⟨rfl, rfl⟩
    go_wp2_with fail
    refine (c_hasNumber A cap rs x0 _ (h1.keep bel) bel.size hl).mono ?_
    rintro e w2 ⟨rfl, b2⟩
    have HB := Lib.hid (bel.trans (b2.mono bel.size))
    clear bel b2 h1
    go_wp2
    go_ret2
    exact ⟨rfl, HB.out⟩
end Go.Proofs.Ytomckpobnblogaa
