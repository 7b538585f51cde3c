/- slices.IndexFunc, slices.ContainsFunc over lists of whole numbers with a predicate that captures nothing and leaves the world alone. -/
import Derived.Test.YtpmfaiocmgkmpaaGreatDoorLists
namespace Go.Proofs.YtpmfaiocmgkmpaaGreatDoor
open Go.RowKit
set_option linter.unusedVariables false
set_option maxRecDepth 100000

def FoundI (p : Int → Bool) (zs : List Int) (r : Int) : Prop :=
  (r = -1 ∧ ∀ j, j < zs.length → p (zs.getD j 0) = false) ∨ ∃ k : Nat, r = k ∧ k < zs.length ∧ p (zs.getD k 0) = true ∧ ∀ j, j < k → p (zs.getD j 0) = false
theorem FoundI.any {p : Int → Bool} {zs : List Int} {r : Int} (h : FoundI p zs r) : decide (0 ≤ r) = zs.any p := by
  rcases h with ⟨rfl, h⟩ | ⟨k, rfl, hk, hp, _⟩
  · symm
    rw [show decide ((0 : Int) ≤ -1) = false from by decide, List.any_eq_false]
    intro x hx
    obtain ⟨j, hj, rfl⟩ := List.getElem_of_mem hx
    have := h j hj
    simpa [hj] using this
  · rw [decide_eq_true (by omega)]
    symm
    rw [List.any_eq_true]
    exact ⟨zs[k], List.getElem_mem hk, by simpa [hk] using hp⟩
set_option maxHeartbeats 400000 in
theorem c_indexFuncI {H : Nat} (N : Nat) (p : Int → Bool) (hN : ∀ x w, Sem.run Tryz.prog (callFunc N #[.int .i64 x]) w = .ok (Next.enter N #[.int .i64 x]) w) (hp : ∀ x w, Calls Tryz.prog N #[.int .i64 x] w fun e w' => e = .returned (.bool (p x)) ∧ w = w') (A : Option Addr) (cap : Nat) (zs : List Int) (w : World) (h : Ints w H A zs) (hl : zs.length ≤ 100000000) :
    Calls Tryz.prog 60 #[.slice A zs.length cap, .func (Fn.func N) #[] #[]] w fun e w' => ∃ r, e = .returned (.int .i64 r) ∧ FoundI p zs r ∧ w = w' := by
  have HP := Lib.hid hp
  clear hp
  go_enter Tryz.func60, Tryz.ntmps60
  go_wp2
  go_loop [8] (fun i => ∃ k : Nat, k ≤ zs.length ∧ i = .int .i64 k ∧ Hid (∀ j, j < k → p (zs.getD j 0) = false)) (fun i => zs.length - (intOf i).toNat)
  case atStart => exact ⟨0, Nat.zero_le _, rfl, Lib.hid (fun j hj => absurd hj (by omega))⟩
  case round =>
    obtain ⟨k, hk, rfl, HJ⟩ := hrel
    by_cases hlt : k < zs.length
    · obtain ⟨ad, rfl, hadb, hc⟩ := h.at_ hlt
      clear h
      obtain ⟨x, hx⟩ : ∃ x, x = zs.getD k 0 := ⟨_, rfl⟩
      rw [← hx] at hc
      have HX := Lib.hid hx
      clear hx
      cases hpx : p x
      · go_wp2_with fail
        refine (HP.out x _).mono ?_
        rintro e w' ⟨rfl, rfl⟩
        go_wp2
        go_round
        case rel => exact ⟨k + 1, by omega, by go_num, Lib.hid (fun j hj => by
          by_cases hjk : j = k
          · subst hjk; rw [← HX.out]; exact hpx
          · exact HJ.out j (by omega))⟩
        case measure => simp [intOf]; omega
      · go_wp2_with fail
        refine (HP.out x _).mono ?_
        rintro e w' ⟨rfl, rfl⟩
        go_wp2
        go_ret
        exact ⟨_, rfl, .inr ⟨k, rfl, hlt, by rw [← HX.out]; exact hpx, HJ.out⟩, rfl⟩
    · obtain rfl : k = zs.length := by omega
      go_wp2
      go_ret
      exact ⟨_, rfl, .inl ⟨rfl, HJ.out⟩, rfl⟩
theorem c_containsFuncI {H : Nat} (N : Nat) (p : Int → Bool) (hN : ∀ x w, Sem.run Tryz.prog (callFunc N #[.int .i64 x]) w = .ok (Next.enter N #[.int .i64 x]) w) (hp : ∀ x w, Calls Tryz.prog N #[.int .i64 x] w fun e w' => e = .returned (.bool (p x)) ∧ w = w') (A : Option Addr) (cap : Nat) (zs : List Int) (w : World) (h : Ints w H A zs) (hl : zs.length ≤ 100000000) :
    Calls Tryz.prog 35 #[.slice A zs.length cap, .func (Fn.func N) #[] #[]] w fun e w' => e = .returned (.bool (zs.any p)) ∧ w = w' := by
  have HC := Lib.hid (c_indexFuncI N p hN hp A cap zs w h hl)
  clear hp hN h
  go_enter Tryz.func35, Tryz.ntmps35
  go_wp2_with fail
  refine HC.out.mono ?_
  rintro e w' ⟨r, rfl, hr, rfl⟩
  have HR := Lib.hid hr.any
  clear hr
  go_wp2
  go_ret
  exact ⟨congrArg (fun z => Ending.returned (.bool z)) HR.out, rfl⟩
end Go.Proofs.YtpmfaiocmgkmpaaGreatDoor
