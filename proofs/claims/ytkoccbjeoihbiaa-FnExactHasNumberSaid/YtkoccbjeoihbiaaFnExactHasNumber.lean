/-
  The program's HasNumber returns what the reference's HasNumber returns, at all arguments, and leaves them as they were: the law FnExactHasNumber returns true.
  Conditions: none.
-/
import Derived.Test.YtkoccbjeoihbiaaRows
import Derived.WalkKit
import Derived.ProofKit
import Derived.OpenShut
import Derived.ShutString
import Derived.ChangeOld
import Derived.Below
import Derived.Handy
import Derived.Test.YtkoccbjeoihbiaaHas
import Derived.Test.YtkoccbjeoihbiaaOpen
namespace Go.Proofs.Ytkoccbjeoihbiaa.fnExactHasNumber
open Go.ChangeShapes Go.WideShapes Go.ChangeAt Go.RowKit
open Go.ChangeMaps (open_string shut_string)
set_option linter.unusedVariables false

set_option maxHeartbeats 800000 in
theorem walk (a0 : Option Addr) (cap0 : Nat) (z0 : List (Int × Int)) (a1 : Int) (w : World) (w0 : Rngs w w.heap.size a0 z0) (w1 : (Lit.int .i64 a1).wf = true) (m0 : z0.length ≤ 9223372036854775807) :
    Calls Try.prog 3 #[.slice a0 z0.length cap0, .int .i64 a1] w fun e w' => e = .returned (.bool true) ∧ Below w.heap.size w w' := by
  have bel := Below.refl w.heap.size w
  clear w1
  by_cases hl0 : (z0.length : Int) ≤ 1048576
  rotate_left
  · go_enter Try.func3, Try.ntmps3
    have hm : z0.length ≤ 9223372036854775807 := m0
    go_wp2_with fail
    refine (c_szRangeS _ _ _ _ _ hm (by omega) (by omega)).mono ?_
    rintro e w' ⟨rfl, rfl⟩
    rw [if_pos (by omega)]
    go_wp2
    go_ret
    exact ⟨rfl, bel⟩
  go_enter Try.func3, Try.ntmps3
  go_wp2_with fail
  refine (c_szRangeS _ _ _ _ _ (by omega) (by omega) (by omega)).mono ?_
  rintro e _ ⟨rfl, rfl⟩
  rw [if_neg (by omega)]
  go_wp2_with fail
  refine (c_toRangeS _ _ z0 _ w0 (Nat.le_refl _) (by omega)).mono ?_
  rintro e vs0 ⟨As0, cs0, rfl, os0, bs0⟩
  have is0 := os0.rngs
  clear os0
  replace w0 := (w0.keep bs0).more bs0.size
  replace bel := bel.trans (bs0.mono bel.size)
  clear bs0
  go_wp2_with fail
  refine (c_specHasNumber _ _ z0 _ _ is0 (Nat.le_refl _) (by omega)).mono ?_
  rintro e vspec ⟨rfl, bspec⟩
  replace w0 := (w0.keep bspec).more bspec.size
  replace is0 := (is0.keep bspec).more bspec.size
  replace bel := bel.trans (bspec.mono bel.size)
  clear bspec
  go_wp2_with fail
  refine (c_toRangeS _ _ z0 _ w0 (Nat.le_refl _) (by omega)).mono ?_
  rintro e vx0 ⟨Ax0, cx0, rfl, ox0, bx0⟩
  have ix0 := ox0.rngs
  clear ox0
  replace w0 := (w0.keep bx0).more bx0.size
  replace is0 := (is0.keep bx0).more bx0.size
  replace bel := bel.trans (bx0.mono bel.size)
  clear bx0
  go_wp2_with fail
  refine (c_implHasNumber _ _ z0 _ _ ix0 (Nat.le_refl _) (by omega)).mono ?_
  rintro e vimpl ⟨rfl, bimpl⟩
  replace w0 := (w0.keep bimpl).more bimpl.size
  replace is0 := (is0.keep bimpl).more bimpl.size
  replace ix0 := (ix0.keep bimpl).more bimpl.size
  replace bel := bel.trans (bimpl.mono bel.size)
  clear bimpl
  go_wp2_with fail
  refine (c_toRangeS _ _ z0 _ w0 (Nat.le_refl _) (by omega)).mono ?_
  rintro e vy0 ⟨Ay0, cy0, rfl, oy0, by0⟩
  have iy0 := oy0.rngs
  clear oy0
  replace w0 := (w0.keep by0).more by0.size
  replace is0 := (is0.keep by0).more by0.size
  replace ix0 := (ix0.keep by0).more by0.size
  replace bel := bel.trans (by0.mono bel.size)
  clear by0
  go_wp2_with fail
  refine (c_eqRangeS _ _ _ _ z0 _ ix0 iy0 (Nat.le_refl _) (Nat.le_refl _) (by omega)).mono ?_
  rintro e vq0 ⟨rfl, bq0⟩
  replace w0 := (w0.keep bq0).more bq0.size
  replace is0 := (is0.keep bq0).more bq0.size
  replace ix0 := (ix0.keep bq0).more bq0.size
  replace iy0 := (iy0.keep bq0).more bq0.size
  replace bel := bel.trans (bq0.mono bel.size)
  clear bq0
  go_wp2
  go_ret
  exact ⟨rfl, bel⟩

theorem own : ownKnob Try.prog.godebug = none := by kernel_rfl
theorem laidOut : laidOutB Try.prog = true := by kernel_rfl

set_option maxRecDepth 100000 in
theorem lifted (os : Os) (started : os.Started) (H : Type) (enc : TypeId × Value → H) :
    ReturnsInHanded {} Try.checked os 3 .any (Rows.fnExactHasNumberSpec.pre6 enc Try.prog Try.f3 Rows.fnExactHasNumberRow.domain false) (Rows.fnExactHasNumberSpec.post enc Try.prog Try.f3 false true false false) := by
  refine returnsInHanded_of_change (C := Try.checked) own started (by kernel_rfl) Try.func3
    (ChangeSpec.witness6 (enc := enc) (C := Try.checked) false ⟨#[], #[.slice none 0 0, .int .i64 0], []⟩ 8 (by kernel_rfl) (by kernel_rfl) (by kernel_rfl) (by kernel_rfl)) ?_
  intro W base args ds gs before hval0 hW hcnd _
  have hval : ∀ (j : Nat) t v, Try.f3.params[j]? = some t → args[j]? = some v → Value.okWide Try.prog W .any base t v := hval0
  have hW' := hW
  obtain ⟨p, q, hA0, hV, rfl, hfz, hnd⟩ := hW
  have hA : DataW.TrodAll enc Try.prog W 0 (fun _ => true) true Try.f3.params.toList args.toList ds p := hA0
  rw [Try.params3] at hA hval
  obtain ⟨v0, vs0, d0, ds0, p0, q0, hargs, rfl, rfl, h0, r0⟩ := trodAll_cons hA
  obtain ⟨v1, vs1, d1, ds1, p1, q1, rfl, rfl, rfl, h1, r1⟩ := trodAll_cons r0
  obtain ⟨rfl, rfl, rfl⟩ := trodAll_nil r1
  obtain rfl : args = #[v0, v1] := by cases args; simp_all
  obtain ⟨rfl, rfl⟩ := trodVars_none hV
  have k0 := h0
  have lt0 : ∀ x ∈ p0, x.block < W.heap.size := by obtain ⟨m, hm⟩ := k0; exact DataW.trod_lt m _ _ _ hm
  obtain ⟨a0, cap0, z0, rfl, w0, m0, f0⟩ := open_ranges (hval 0 22 v0 rfl rfl) h0
  obtain ⟨a1, rfl, rfl, rfl, w1⟩ := open_int Try.underlying3 (hval 1 3 v1 rfl rfl) h1
  clear hA0 hval0
  refine (walk a0 cap0 z0 a1 W w0 w1 m0).mono fun e W' ⟨he, bel⟩ => ?_
  subst he
  exact ⟨_, rfl, _, _, _, [], _, [], hW', trodAll_mk1 (shut_bool Try.underlying4 _), (trodAll_cons_mk (Below.trod laidOut (by kernel_rfl) (of_decide_eq_true (by kernel_rfl)) k0 bel lt0) (trodAll_cons_mk (shut_int Try.underlying3 w1) trodAll_mk0)), rfl, bel.frame _, fun h => by cases h⟩

theorem over : Rows.fnExactHasNumberRow.holds Try.pinned (OpenSpec.ofChange Rows.fnExactHasNumberSpec) :=
  OpenClaim.holds_of_wide 3 Try.f3 rfl rfl rfl rfl rfl rfl rfl ⟨rfl, rfl, rfl, rfl, rfl⟩ rfl rfl rfl rfl rfl (by kernel_rfl) Try.func3 (by kernel_rfl)
    (of_decide_eq_true (by kernel_rfl)) (by unfold Func.isWrapper; first | (rw [if_pos (by decide +kernel)]; kernel_rfl) | (rw [if_neg (by decide +kernel)]; exact ⟨rfl, rfl⟩))
    (fun os started H enc _ => lifted os started H enc)

/-- THE STATEMENT -/
theorem proved : Rows.FnExactHasNumberSaid := over
end Go.Proofs.Ytkoccbjeoihbiaa.fnExactHasNumber
