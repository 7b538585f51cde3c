/-
  The program's FaceTo returns what the reference's FaceTo returns, at all arguments, and leaves them as they were: the law FnExactFaceTo returns true.
  Conditions: none.
-/
import Derived.Test.YtkoccbjeoihbiaaRows
import Derived.WalkKit
import Derived.ProofKit
import Derived.OpenShut
import Derived.ShutString
import Derived.ChangeOld
import Derived.Below
import Derived.Handy
import Derived.Test.YtkoccbjeoihbiaaFace
import Derived.Test.YtkoccbjeoihbiaaOpen
import Derived.Deep.RegionWith
namespace Go.Proofs.Ytkoccbjeoihbiaa.fnExactFaceTo
open Go.ChangeShapes Go.WideShapes Go.ChangeAt Go.RowKit
open Go.ChangeMaps (open_string shut_string)
set_option linter.unusedVariables false

set_option maxHeartbeats 800000 in
theorem walk (a0 : Option Addr) (cap0 : Nat) (z0 : List Int) (a1 : Int) (a2 : Int) (w : World) (w0 : Ints w w.heap.size a0 z0) (w1 : (Lit.int .i64 a1).wf = true) (w2 : (Lit.int .i64 a2).wf = true) (m0 : z0.length ≤ 9223372036854775807) :
    Calls Try.prog 8 #[.agg #[.slice a0 z0.length cap0], .int .i64 a1, .int .i64 a2] w fun e w' => e = .returned (.bool true) ∧ Below w.heap.size w w' := by
  have bel : Below w.heap.size w (w.alloc (.cells #[.slice a0 z0.length cap0] 49)) := (Below.refl _ _).alloc (Nat.le_refl _) _
  replace w0 := (w0.keep bel).more bel.size
  have hbox : (w.alloc (.cells #[.slice a0 z0.length cap0] 49)).cell? ⟨w.heap.size, 0, none⟩ = some (.slice a0 z0.length cap0) := new1_cell _ _ _
  have lbox : w.heap.size < (w.alloc (.cells #[.slice a0 z0.length cap0] 49)).heap.size := by simp
  clear w1 w2
  by_cases hl0 : (z0.length : Int) ≤ 1048576
  rotate_left
  · go_enter Try.func8, Try.ntmps8
    have hm : z0.length ≤ 9223372036854775807 := m0
    go_wp2_with fail
    refine (c_szTree _ _ _ _ _ hm (by omega) (by omega)).mono ?_
    rintro e wz ⟨rfl, bz⟩
    replace bel := bel.trans (bz.mono bel.size)
    clear bz
    rw [if_pos (by omega)]
    go_wp2
    go_ret
    exact ⟨rfl, bel⟩
  go_enter Try.func8, Try.ntmps8
  go_wp2_with fail
  refine (c_szTree _ _ _ _ _ (by omega) (by omega) (by omega)).mono ?_
  rintro e wz ⟨rfl, bz⟩
  replace w0 := (w0.keep bz).more bz.size
  replace hbox := (bz.cell (p := ⟨w.heap.size, 0, none⟩) lbox).trans hbox
  replace lbox := Nat.lt_of_lt_of_le lbox bz.size
  replace bel := bel.trans (bz.mono bel.size)
  clear bz
  rw [if_neg (by omega)]
  go_wp2_with fail
  refine (c_toTree _ _ z0 _ w0 (Nat.le_refl _) (by omega)).mono ?_
  rintro e vs0 ⟨As0, cs0, rfl, os0, bs0⟩
  have is0 := os0.ints
  clear os0
  replace w0 := (w0.keep bs0).more bs0.size
  replace hbox := (bs0.cell (p := ⟨w.heap.size, 0, none⟩) lbox).trans hbox
  replace lbox := Nat.lt_of_lt_of_le lbox bs0.size
  replace bel := bel.trans (bs0.mono bel.size)
  clear bs0
  go_wp2_with fail
  refine (c_specFaceTo _ _ z0 _ _ _ is0 (Nat.le_refl _) (by omega)).mono ?_
  rintro e vspec ⟨rfl, bspec⟩
  replace w0 := (w0.keep bspec).more bspec.size
  replace is0 := (is0.keep bspec).more bspec.size
  replace hbox := (bspec.cell (p := ⟨w.heap.size, 0, none⟩) lbox).trans hbox
  replace lbox := Nat.lt_of_lt_of_le lbox bspec.size
  replace bel := bel.trans (bspec.mono bel.size)
  clear bspec
  go_wp2_with fail
  refine (c_toTree _ _ z0 _ w0 (Nat.le_refl _) (by omega)).mono ?_
  rintro e vx0 ⟨Ax0, cx0, rfl, ox0, bx0⟩
  have ix0 := ox0.ints
  clear ox0
  replace w0 := (w0.keep bx0).more bx0.size
  replace is0 := (is0.keep bx0).more bx0.size
  replace hbox := (bx0.cell (p := ⟨w.heap.size, 0, none⟩) lbox).trans hbox
  replace lbox := Nat.lt_of_lt_of_le lbox bx0.size
  replace bel := bel.trans (bx0.mono bel.size)
  clear bx0
  have hxb : (vx0.alloc (.cells #[.slice Ax0 z0.length cx0] 51)).cell? ⟨vx0.heap.size, 0, none⟩ = some (.slice Ax0 z0.length cx0) := new1_cell _ _ _
  have lxb : vx0.heap.size < (vx0.alloc (.cells #[.slice Ax0 z0.length cx0] 51)).heap.size := by simp
  have bxa : Below vx0.heap.size vx0 (vx0.alloc (.cells #[.slice Ax0 z0.length cx0] 51)) := (Below.refl _ _).alloc (Nat.le_refl _) _
  replace w0 := (w0.keep bxa).more bxa.size
  replace is0 := (is0.keep bxa).more bxa.size
  replace ix0 := (ix0.keep bxa).more bxa.size
  replace hbox := (bxa.cell (p := ⟨w.heap.size, 0, none⟩) lbox).trans hbox
  replace lbox := Nat.lt_of_lt_of_le lbox bxa.size
  replace bel := bel.trans (bxa.mono bel.size)
  clear bxa
  go_wp2_with fail
  refine (c_implFaceTo _ _ z0 _ _ _ ix0 (Nat.le_refl _) (by omega)).mono ?_
  rintro e vimpl ⟨rfl, bimpl⟩
  replace w0 := (w0.keep bimpl).more bimpl.size
  replace is0 := (is0.keep bimpl).more bimpl.size
  replace ix0 := (ix0.keep bimpl).more bimpl.size
  replace hbox := (bimpl.cell (p := ⟨w.heap.size, 0, none⟩) lbox).trans hbox
  replace lbox := Nat.lt_of_lt_of_le lbox bimpl.size
  replace hxb := (bimpl.cell (p := ⟨vx0.heap.size, 0, none⟩) lxb).trans hxb
  replace lxb := Nat.lt_of_lt_of_le lxb bimpl.size
  replace bel := bel.trans (bimpl.mono bel.size)
  clear bimpl
  go_wp2
  have bd : Below vimpl.heap.size vimpl vimpl.drew := (Below.refl _ _).drew
  replace w0 := (w0.keep bd).more bd.size
  replace is0 := (is0.keep bd).more bd.size
  replace ix0 := (ix0.keep bd).more bd.size
  replace hbox := (bd.cell (p := ⟨w.heap.size, 0, none⟩) lbox).trans hbox
  replace lbox := Nat.lt_of_lt_of_le lbox bd.size
  replace hxb := (bd.cell (p := ⟨vx0.heap.size, 0, none⟩) lxb).trans hxb
  replace lxb := Nat.lt_of_lt_of_le lxb bd.size
  replace bel := bel.trans (bd.mono bel.size)
  clear bd
  go_region_with (first | (go_at_call 43; refine (c_toTree _ _ z0 _ w0 (Nat.le_refl _) (by omega)).mono ?_; rintro e vy ⟨Ay, cy, rfl, oy, b1⟩; have iy := oy.ints; clear oy; replace w0 := (w0.keep b1).more b1.size; replace is0 := (is0.keep b1).more b1.size; replace ix0 := (ix0.keep b1).more b1.size; replace hbox := (b1.cell (p := ⟨w.heap.size, 0, none⟩) lbox).trans hbox; replace lbox := Nat.lt_of_lt_of_le lbox b1.size; replace hxb := (b1.cell (p := ⟨vx0.heap.size, 0, none⟩) lxb).trans hxb; replace lxb := Nat.lt_of_lt_of_le lxb b1.size; replace bel := bel.trans (b1.mono bel.size); clear b1) | (go_at_call 45; refine (c_eqTree _ _ _ _ z0 _ ix0 iy (Nat.le_refl _) (Nat.le_refl _) (by omega)).mono ?_; rintro e vq ⟨rfl, b2⟩; replace w0 := (w0.keep b2).more b2.size; replace is0 := (is0.keep b2).more b2.size; replace ix0 := (ix0.keep b2).more b2.size; replace iy := (iy.keep b2).more b2.size; replace hbox := (b2.cell (p := ⟨w.heap.size, 0, none⟩) lbox).trans hbox; replace lbox := Nat.lt_of_lt_of_le lbox b2.size; replace hxb := (b2.cell (p := ⟨vx0.heap.size, 0, none⟩) lxb).trans hxb; replace lxb := Nat.lt_of_lt_of_le lxb b2.size; replace bel := bel.trans (b2.mono bel.size); clear b2))
  all_goals
    go_wp2
    go_ret
    exact ⟨rfl, bel⟩

theorem own : ownKnob Try.prog.godebug = none := by kernel_rfl
theorem laidOut : laidOutB Try.prog = true := by kernel_rfl

set_option maxRecDepth 100000 in
theorem lifted (os : Os) (started : os.Started) (H : Type) (enc : TypeId × Value → H) :
    ReturnsInHanded {} Try.checked os 8 .any (Rows.fnExactFaceToSpec.pre6 enc Try.prog Try.f8 Rows.fnExactFaceToRow.domain false) (Rows.fnExactFaceToSpec.post enc Try.prog Try.f8 false true false false) := by
  refine returnsInHanded_of_change (C := Try.checked) own started (by kernel_rfl) Try.func8
    (ChangeSpec.witness6 (enc := enc) (C := Try.checked) false ⟨#[], #[.agg #[.slice none 0 0], .int .i64 0, .int .i64 0], []⟩ 8 (by kernel_rfl) (by kernel_rfl) (by kernel_rfl) (by kernel_rfl)) ?_
  intro W base args ds gs before hval0 hW hcnd _
  have hval : ∀ (j : Nat) t v, Try.f8.params[j]? = some t → args[j]? = some v → Value.okWide Try.prog W .any base t v := hval0
  have hW' := hW
  obtain ⟨p, q, hA0, hV, rfl, hfz, hnd⟩ := hW
  have hA : DataW.TrodAll enc Try.prog W 0 (fun _ => true) true Try.f8.params.toList args.toList ds p := hA0
  rw [Try.params8] at hA hval
  obtain ⟨v0, vs0, d0, ds0, p0, q0, hargs, rfl, rfl, h0, r0⟩ := trodAll_cons hA
  obtain ⟨v1, vs1, d1, ds1, p1, q1, rfl, rfl, rfl, h1, r1⟩ := trodAll_cons r0
  obtain ⟨v2, vs2, d2, ds2, p2, q2, rfl, rfl, rfl, h2, r2⟩ := trodAll_cons r1
  obtain ⟨rfl, rfl, rfl⟩ := trodAll_nil r2
  obtain rfl : args = #[v0, v1, v2] := by cases args; simp_all
  obtain ⟨rfl, rfl⟩ := trodVars_none hV
  have k0 := h0
  have lt0 : ∀ x ∈ p0, x.block < W.heap.size := by obtain ⟨m, hm⟩ := k0; exact DataW.trod_lt m _ _ _ hm
  obtain ⟨a0, cap0, z0, rfl, w0, m0, f0⟩ := open_tree (hval 0 49 v0 rfl rfl) h0
  obtain ⟨a1, rfl, rfl, rfl, w1⟩ := open_int Try.underlying3 (hval 1 3 v1 rfl rfl) h1
  obtain ⟨a2, rfl, rfl, rfl, w2⟩ := open_int Try.underlying3 (hval 2 3 v2 rfl rfl) h2
  clear hA0 hval0
  refine (walk a0 cap0 z0 a1 a2 W w0 w1 w2 m0).mono fun e W' ⟨he, bel⟩ => ?_
  subst he
  exact ⟨_, rfl, _, _, _, [], _, [], hW', trodAll_mk1 (shut_bool Try.underlying4 _), (trodAll_cons_mk (Below.trod laidOut (by kernel_rfl) (of_decide_eq_true (by kernel_rfl)) k0 bel lt0) (trodAll_cons_mk (shut_int Try.underlying3 w1) (trodAll_cons_mk (shut_int Try.underlying3 w2) trodAll_mk0))), rfl, bel.frame _, fun h => by cases h⟩

theorem over : Rows.fnExactFaceToRow.holds Try.pinned (OpenSpec.ofChange Rows.fnExactFaceToSpec) :=
  OpenClaim.holds_of_wide 8 Try.f8 rfl rfl rfl rfl rfl rfl rfl ⟨rfl, rfl, rfl, rfl, rfl⟩ rfl rfl rfl rfl rfl (by kernel_rfl) Try.func8 (by kernel_rfl)
    (of_decide_eq_true (by kernel_rfl)) (by unfold Func.isWrapper; first | (rw [if_pos (by decide +kernel)]; kernel_rfl) | (rw [if_neg (by decide +kernel)]; exact ⟨rfl, rfl⟩))
    (fun os started H enc _ => lifted os started H enc)

/-- THE STATEMENT -/
theorem proved : Rows.FnExactFaceToSaid := over
end Go.Proofs.Ytkoccbjeoihbiaa.fnExactFaceTo
