/- slices.IndexFunc, slices.ContainsFunc with a predicate that captures one variable and may make memory: over whole numbers and over ranges. -/
import Derived.Test.YtomckpobnblogaaFuncs
import Derived.Test.YtomckpobnblogaaRngs
namespace Go.Proofs.Ytomckpobnblogaa
open Go.RowKit
set_option linter.unusedVariables false
set_option maxRecDepth 100000

def FoundR (p : Int × Int → Bool) (rs : List (Int × Int)) (r : Int) : Prop :=
  (r = -1 ∧ ∀ j, j < rs.length → p (rs.getD j (0, 0)) = false) ∨ ∃ k : Nat, r = k ∧ k < rs.length ∧ p (rs.getD k (0, 0)) = true ∧ ∀ j, j < k → p (rs.getD j (0, 0)) = false
theorem FoundR.any {p : Int × Int → Bool} {rs : List (Int × Int)} {r : Int} (h : FoundR p rs r) : decide (0 ≤ r) = rs.any p := by
  rcases h with ⟨rfl, h⟩ | ⟨k, rfl, hk, hp, _⟩
  · symm
    rw [show decide ((0 : Int) ≤ -1) = false from by decide, List.any_eq_false]
    intro x hx
    obtain ⟨j, hj, rfl⟩ := List.getElem_of_mem hx
    have := h j hj
    simpa [hj] using this
  · rw [decide_eq_true (by omega)]
    symm
    rw [List.any_eq_true]
    exact ⟨rs[k], List.getElem_mem hk, by simpa [hk] using hp⟩
set_option maxHeartbeats 400000 in
theorem c_indexFuncRC {H : Nat} (N : Nat) (cp : Value) (p : Int × Int → Bool) (A : Option Addr) (cap : Nat) (rs : List (Int × Int)) (w : World)
    (hN : ∀ x y w, Sem.run Try.prog (callFunc N #[.agg #[.int .i64 x, .int .i64 y], cp]) w = .ok (Next.enter N #[.agg #[.int .i64 x, .int .i64 y], cp]) w)
    (hp : ∀ x y W, Below w.heap.size w W → Calls Try.prog N #[.agg #[.int .i64 x, .int .i64 y], cp] W fun e w' => e = .returned (.bool (p (x, y))) ∧ Below W.heap.size W w')
    (h : Rngs w H A rs) (hH : H ≤ w.heap.size) (hl : rs.length ≤ 100000000) :
    Calls Try.prog 70 #[.slice A rs.length cap, .func (Fn.func N) #[] #[cp]] w fun e w' => ∃ r, e = .returned (.int .i64 r) ∧ FoundR p rs r ∧ Below w.heap.size w w' := by
  have HP := Lib.hid hp
  clear hp
  go_enter Try.func70, Try.ntmps70
  go_wp2
  go_loopw [8] (fun i wr => ∃ k : Nat, k ≤ rs.length ∧ i = .int .i64 k ∧ Hid (∀ j, j < k → p (rs.getD j (0, 0)) = false) ∧ Below w.heap.size w wr) (fun i _ => rs.length - (intOf i).toNat)
  case atStart => exact ⟨0, Nat.zero_le _, rfl, Lib.hid (fun j hj => absurd hj (by omega)), Below.refl _ _⟩
  case round =>
    obtain ⟨k, hk, rfl, HJ, hbel⟩ := hrel
    by_cases hlt : k < rs.length
    · obtain ⟨ad, rfl, hadb, hc, hd⟩ := ((h.more hH).keep hbel).at_ hlt
      have HB := Lib.hid hbel
      clear h hbel
      obtain ⟨r, hx⟩ : ∃ r, r = rs.getD k (0, 0) := ⟨_, rfl⟩
      rw [← hx] at hc hd
      have HX := Lib.hid hx
      clear hx
      obtain ⟨x, y⟩ := r
      cases hpx : p (x, y)
      · go_wp2_with fail
        refine (HP.out x y _ HB.out).mono ?_
        rintro e w1 ⟨rfl, b1⟩
        have HB1 := Lib.hid (HB.out.trans (b1.mono HB.out.size))
        clear b1 HB hc hd
        go_wp2
        go_roundw
        case rel => exact ⟨k + 1, by omega, by go_num, Lib.hid (fun j hj => by
          by_cases hjk : j = k
          · subst hjk; rw [← HX.out]; exact hpx
          · exact HJ.out j (by omega)), HB1.out⟩
        case measure => simp [intOf]; omega
      · go_wp2_with fail
        refine (HP.out x y _ HB.out).mono ?_
        rintro e w1 ⟨rfl, b1⟩
        have HB1 := Lib.hid (HB.out.trans (b1.mono HB.out.size))
        clear b1 HB hc hd
        go_wp2
        go_ret
        exact ⟨_, rfl, .inr ⟨k, rfl, hlt, by rw [← HX.out]; exact hpx, HJ.out⟩, HB1.out⟩
    · obtain rfl : k = rs.length := by omega
      go_wp2
      go_ret
      exact ⟨_, rfl, .inl ⟨rfl, HJ.out⟩, hbel⟩
theorem c_containsFuncRC {H : Nat} (N : Nat) (cp : Value) (p : Int × Int → Bool) (A : Option Addr) (cap : Nat) (rs : List (Int × Int)) (w : World)
    (hN : ∀ x y w, Sem.run Try.prog (callFunc N #[.agg #[.int .i64 x, .int .i64 y], cp]) w = .ok (Next.enter N #[.agg #[.int .i64 x, .int .i64 y], cp]) w)
    (hp : ∀ x y W, Below w.heap.size w W → Calls Try.prog N #[.agg #[.int .i64 x, .int .i64 y], cp] W fun e w' => e = .returned (.bool (p (x, y))) ∧ Below W.heap.size W w')
    (h : Rngs w H A rs) (hH : H ≤ w.heap.size) (hl : rs.length ≤ 100000000) :
    Calls Try.prog 65 #[.slice A rs.length cap, .func (Fn.func N) #[] #[cp]] w fun e w' => e = .returned (.bool (rs.any p)) ∧ Below w.heap.size w w' := by
  have HC := Lib.hid (c_indexFuncRC N cp p A cap rs w hN hp h hH hl)
  clear hp hN h
  go_enter Try.func65, Try.ntmps65
  go_wp2_with fail
  refine HC.out.mono ?_
  rintro e w' ⟨r, rfl, hr, hb⟩
  have HR := Lib.hid hr.any
  clear hr
  go_wp2
  go_ret
  exact ⟨ret_b HR.out, hb⟩
end Go.Proofs.Ytomckpobnblogaa
