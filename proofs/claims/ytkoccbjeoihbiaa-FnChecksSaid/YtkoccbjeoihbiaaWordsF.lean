/- The exported functions on words and texts whose sums run over lists. -/
import Derived.Test.YtkoccbjeoihbiaaSerF
import Derived.Test.YtkoccbjeoihbiaaWords
namespace Go.Proofs.Ytkoccbjeoihbiaa
open Go.RowKit
set_option linter.unusedVariables false

theorem ints_new3 (w : World) (a b c : Int) (t : TypeId) : Ints (w.alloc (.cells #[.int .i64 a, .int .i64 b, .int .i64 c] t)) (w.heap.size + 1) (some ⟨w.heap.size, 0, none⟩) [a, b, c] := fun _ => by
  refine ⟨_, rfl, by simp, fun j u hu => ?_⟩
  match j, hu with
  | 0, hu => simp at hu; subst hu; simp [go_sem]
  | 1, hu => simp at hu; subst hu; simp [go_sem, Addr.add]
  | 2, hu => simp at hu; subst hu; simp [go_sem, Addr.add]
  | n + 3, hu => simp at hu
theorem areW_3 {a b c : Int} (h1 : 0 ≤ a ∧ a ≤ 65535) (h2 : 0 ≤ b ∧ b ≤ 65535) (h3 : 0 ≤ c ∧ c ≤ 65535) : AreW [a, b, c] := fun i hi => by
  match i, hi with
  | 0, _ => exact h1
  | 1, _ => exact h2
  | 2, _ => exact h3
def updOk (c o n : Int) : Bool := inR c 0 65535 && inR o 0 65535 && inR n 0 65535
def updV (c o n : Int) : Int := 65535 - addV (addV (65535 - c) (65535 - o)) n
def updR (c o n : Int) : Int := if updOk c o n then updV c o n else 0
theorem upd_list (c o n : Int) (h1 : 0 ≤ c) (h2 : c ≤ 65535) : 65535 - sumW [65535 - c, 65535 - o, n] = updV c o n := by
  have e : addV 0 (65535 - c) = 65535 - c := by unfold addV; split <;> omega
  simp [sumW, updV, e]
theorem c_specUpdateCheck (c o n : Int) (w : World) :
    Calls Try.prog 69 #[.int .i64 c, .int .i64 o, .int .i64 n] w fun e w' => e = .returned (.tuple #[.int .i64 (updR c o n), .bool (updOk c o n)]) ∧ w = w' := by
  cases g0 : inR c 0 65535
  · rw [show updR c o n = 0 from by simp [updR, updOk, g0], show updOk c o n = false from by simp [updOk, g0]]
    go_enter Try.func69, Try.ntmps69
    go_wp2_with (go_at_call 94; refine (c_l3Word _ _).mono ?_; rintro e w' ⟨rfl, rfl⟩)
    go_ret2
    exact ⟨rfl, rfl⟩
  cases g1 : inR o 0 65535
  · rw [show updR c o n = 0 from by simp [updR, updOk, g0, g1], show updOk c o n = false from by simp [updOk, g0, g1]]
    go_enter Try.func69, Try.ntmps69
    go_wp2_with (go_at_call 94; refine (c_l3Word _ _).mono ?_; rintro e w' ⟨rfl, rfl⟩)
    go_ret2
    exact ⟨rfl, rfl⟩
  cases g2 : inR n 0 65535
  · rw [show updR c o n = 0 from by simp [updR, updOk, g0, g1, g2], show updOk c o n = false from by simp [updOk, g0, g1, g2]]
    go_enter Try.func69, Try.ntmps69
    go_wp2_with (go_at_call 94; refine (c_l3Word _ _).mono ?_; rintro e w' ⟨rfl, rfl⟩)
    go_ret2
    exact ⟨rfl, rfl⟩
  have b0 := inR_t g0
  have b1 := inR_t g1
  have b2 := inR_t g2
  have r1 := addV_rng (a := 65535 - c) (b := 65535 - o) (by omega) (by omega) (by omega) (by omega)
  have r2 := addV_rng (b := n) r1.1 r1.2 b2.1 b2.2
  rw [show updR c o n = updV c o n from by simp [updR, updOk, g0, g1, g2], show updOk c o n = true from by simp [updOk, g0, g1, g2]]
  go_enter Try.func69, Try.ntmps69
  go_wp2_with (first | (go_at_call 94; refine (c_l3Word _ _).mono ?_; rintro e w' ⟨rfl, rfl⟩) | (go_at_call 136; refine (c_l3Add _ _ _ (by omega) (by omega) (by omega) (by omega)).mono ?_; rintro e w' ⟨rfl, rfl⟩))
  go_ret2
  exact ⟨rfl, rfl⟩
theorem c_implUpdateCheck (c o n : Int) (w : World) :
    Calls Try.prog 68 #[.int .i64 c, .int .i64 o, .int .i64 n] w fun e w' => e = .returned (.tuple #[.int .i64 (updR c o n), .bool (updOk c o n)]) ∧ Below w.heap.size w w' := by
  cases g0 : inR c 0 65535
  · rw [show updR c o n = 0 from by simp [updR, updOk, g0], show updOk c o n = false from by simp [updOk, g0]]
    go_enter Try.func68, Try.ntmps68
    go_wp2_with (go_at_call 98; refine (c_isWord _ _).mono ?_; rintro e w' ⟨rfl, rfl⟩)
    go_ret2
    exact ⟨rfl, Below.refl _ _⟩
  cases g1 : inR o 0 65535
  · rw [show updR c o n = 0 from by simp [updR, updOk, g0, g1], show updOk c o n = false from by simp [updOk, g0, g1]]
    go_enter Try.func68, Try.ntmps68
    go_wp2_with (go_at_call 98; refine (c_isWord _ _).mono ?_; rintro e w' ⟨rfl, rfl⟩)
    go_ret2
    exact ⟨rfl, Below.refl _ _⟩
  cases g2 : inR n 0 65535
  · rw [show updR c o n = 0 from by simp [updR, updOk, g0, g1, g2], show updOk c o n = false from by simp [updOk, g0, g1, g2]]
    go_enter Try.func68, Try.ntmps68
    go_wp2_with (go_at_call 98; refine (c_isWord _ _).mono ?_; rintro e w' ⟨rfl, rfl⟩)
    go_ret2
    exact ⟨rfl, Below.refl _ _⟩
  have b0 := inR_t g0
  have b1 := inR_t g1
  have b2 := inR_t g2
  have HA := Lib.hid (areW_3 (a := 65535 - c) (b := 65535 - o) (c := n) (by omega) (by omega) b2)
  have r1 := sumW_rng HA.out 3 (by simp)
  have r2 : 0 ≤ sumW [65535 - c, 65535 - o, n] ∧ sumW [65535 - c, 65535 - o, n] ≤ 65535 := r1
  clear r1
  have HE := Lib.hid (upd_list c o n b0.1 b0.2)
  rw [show updR c o n = updV c o n from by simp [updR, updOk, g0, g1, g2], show updOk c o n = true from by simp [updOk, g0, g1, g2]]
  go_enter Try.func68, Try.ntmps68
  go_wp2_with (first | (go_at_call 98; refine (c_isWord _ _).mono ?_; rintro e w' ⟨rfl, rfl⟩) | (go_at_call 106; refine (c_wordSum _ _ [65535 - c, 65535 - o, n] _ (ints_new3 _ _ _ _ _) HA.out (by simp)).mono ?_; rintro e w' ⟨rfl, rfl⟩))
  go_ret2
  exact ⟨ret_ib HE.out, (Below.refl _ _).alloc (Nat.le_refl _) _⟩
end Go.Proofs.Ytkoccbjeoihbiaa
