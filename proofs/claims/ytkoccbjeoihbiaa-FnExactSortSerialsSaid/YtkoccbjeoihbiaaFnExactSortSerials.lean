/-
  The program's SortSerials returns what the reference's SortSerials returns, at all arguments, and leaves them as they were: the law FnExactSortSerials returns true.
  Conditions: none.
-/
import Derived.Test.YtkoccbjeoihbiaaRows
import Derived.WalkKit
import Derived.ProofKit
import Derived.OpenShut
import Derived.ShutString
import Derived.ChangeOld
import Derived.Below
import Derived.Handy
import Derived.Test.YtkoccbjeoihbiaaSortS
import Derived.Test.YtkoccbjeoihbiaaOpen
import Derived.Deep.RegionWith
namespace Go.Proofs.Ytkoccbjeoihbiaa.fnExactSortSerials
open Go.ChangeShapes Go.WideShapes Go.ChangeAt Go.RowKit
open Go.ChangeMaps (open_string shut_string)
set_option linter.unusedVariables false

set_option maxRecDepth 100000 in
set_option maxHeartbeats 4000000 in
theorem walk (a0 : Option Addr) (cap0 : Nat) (z0 : List Int) (a1 : Int) (w : World) (w0 : Ints w w.heap.size a0 z0) (w1 : (Lit.int .i64 a1).wf = true) :
    Calls Try.prog 13 #[.slice a0 z0.length cap0, .int .i64 a1] w fun e w' => e = .returned (.bool true) ∧ Below w.heap.size w w' := by
  clear w1
  by_cases hl0 : (z0.length : Int) ≤ 1048576
  rotate_left
  · go_enter Try.func13, Try.ntmps13
    go_wp2
    go_ret
    exact ⟨rfl, Below.refl _ _⟩
  have hL : (ssL z0 a1).length ≤ 100000 := ssL_len z0 a1
  generalize hLL : ssL z0 a1 = L at *
  have HLL := Lib.hid hLL
  clear hLL
  have bel := Below.refl w.heap.size w
  go_enter Try.func13, Try.ntmps13
  go_wp2_with fail
  refine (c_toIntS _ _ z0 _ w0 (by omega) (by omega)).mono ?_
  rintro e vs ⟨As, cs, rfl, os, bbs⟩
  replace w0 := w0.keep (bbs.mono (by omega))
  replace bel := bel.trans (bbs.mono (by omega))
  have s1 := bbs.size
  clear bbs
  go_wp2_with fail
  have C := c_specSortSerials As cs z0 a1 _ os.ints (Nat.le_refl _) (by omega)
  rw [HLL.out] at C
  refine C.mono ?_
  rintro e u1 ⟨Aw, cw, rfl, ow, b1⟩
  clear C
  clear os
  replace w0 := w0.keep (b1.mono (by omega))
  replace bel := bel.trans (b1.mono (by omega))
  have s2 := b1.size
  clear b1
  have iw := ow.ints
  clear ow
  go_wp2_with fail
  refine (c_toIntS _ _ z0 _ w0 (by omega) (by omega)).mono ?_
  rintro e vx ⟨Ax, cx, rfl, ox, bbx⟩
  replace w0 := w0.keep (bbx.mono (by omega))
  replace iw := iw.keep (bbx.mono (by omega))
  replace bel := bel.trans (bbx.mono (by omega))
  have s3 := bbx.size
  clear bbx
  have tx := ox.top
  have ix := ox.ints
  go_wp2_with fail
  have C := c_implSortSerials Ax cx z0 a1 _ ox.ints (Nat.le_refl _) (by omega)
  rw [HLL.out] at C
  refine C.mono ?_
  rintro e u2 ⟨Ag, cg, rfl, og, b2⟩
  clear C
  replace w0 := w0.keep (b2.mono (by omega))
  replace iw := iw.keep (b2.mono (by omega))
  replace ix := ix.keep (b2.mono (by omega))
  replace ox := ox.keep b2
  replace bel := bel.trans (b2.mono (by omega))
  have s4 := b2.size
  clear b2
  go_wp2_with fail
  refine (c_eqIntS Ag Aw _ _ L _ og.ints iw (by omega) (by omega) (by omega)).mono ?_
  rintro e u3 ⟨rfl, b3⟩
  replace w0 := w0.keep (b3.mono (by omega))
  replace iw := iw.keep (b3.mono (by omega))
  replace ix := ix.keep (b3.mono (by omega))
  replace ox := ox.keep b3
  replace og := og.keep b3
  replace bel := bel.trans (b3.mono (by omega))
  have s5 := b3.size
  clear b3
  go_wp2_with fail
  refine (c_toIntS _ _ z0 _ w0 (by omega) (by omega)).mono ?_
  rintro e vy ⟨Ay, cy, rfl, oy, bby⟩
  replace w0 := w0.keep (bby.mono (by omega))
  replace iw := iw.keep (bby.mono (by omega))
  replace ix := ix.keep (bby.mono (by omega))
  replace ox := ox.keep bby
  replace og := og.keep bby
  replace bel := bel.trans (bby.mono (by omega))
  have s6 := bby.size
  clear bby
  have iy := oy.ints
  clear oy
  go_wp2_with fail
  refine (c_eqIntS _ _ _ _ z0 _ ix iy (by omega) (by omega) (by omega)).mono ?_
  rintro e u4 ⟨rfl, by2⟩
  replace w0 := w0.keep (by2.mono (by omega))
  replace iw := iw.keep (by2.mono (by omega))
  replace ix := ix.keep (by2.mono (by omega))
  replace iy := iy.keep (by2.mono (by omega))
  replace ox := ox.keep by2
  replace og := og.keep by2
  replace bel := bel.trans (by2.mono (by omega))
  have s7 := by2.size
  clear by2
  clear iy
  clear ix
  go_wp2_with fail
  refine (c_markIntS Ax _ z0 1 _ ox (by omega) (by omega) (by omega)).mono ?_
  rintro e u5 ⟨rfl, _, bm, hz, hg⟩
  clear ox
  replace w0 := w0.keep (bm.mono (by omega))
  replace iw := iw.keep (bm.mono (by omega))
  replace og := og.far hg tx (by omega)
  replace bel := bel.trans (bm.mono (by omega))
  have hz1 : u4.heap.size ≤ u5.heap.size := by omega
  clear bm hg hz tx
  go_wp2_with fail
  refine (c_eqIntS Ag Aw _ _ L _ og.ints iw (by omega) (by omega) (by omega)).mono ?_
  rintro e u6 ⟨rfl, b6⟩
  replace w0 := w0.keep (b6.mono (by omega))
  replace iw := iw.keep (b6.mono (by omega))
  replace og := og.keep b6
  replace bel := bel.trans (b6.mono (by omega))
  have s8 := b6.size
  clear b6
  go_wp2_with fail
  refine (c_markIntS Ag _ L 1 _ og (by omega) (by omega) (by omega)).mono ?_
  rintro e u7 ⟨rfl, om, bm, hz, _⟩
  clear og
  replace w0 := w0.keep (bm.mono (by omega))
  replace iw := iw.keep (bm.mono (by omega))
  replace bel := bel.trans (bm.mono (by omega))
  have hz2 : u6.heap.size ≤ u7.heap.size := by omega
  clear bm hz
  have im := om.ints
  clear om
  go_wp2_with fail
  refine (c_heldIntS Ag _ L.length 1 _ im (by omega) (by omega) (by omega)).mono ?_
  rintro e _ ⟨rfl, rfl⟩
  go_wp2_with fail
  refine (c_toIntS _ _ z0 _ w0 (by omega) (by omega)).mono ?_
  rintro e vh ⟨Ah, ch, rfl, oh, bbh⟩
  replace w0 := w0.keep (bbh.mono (by omega))
  replace iw := iw.keep (bbh.mono (by omega))
  replace im := im.keep (bbh.mono (by omega))
  replace bel := bel.trans (bbh.mono (by omega))
  have s9 := bbh.size
  clear bbh
  go_wp2_with fail
  have C := c_implSortSerials Ah ch z0 a1 _ oh.ints (Nat.le_refl _) (by omega)
  rw [HLL.out] at C
  refine C.mono ?_
  rintro e u8 ⟨Ar, cr, rfl, orr, b8⟩
  clear C
  clear oh
  replace w0 := w0.keep (b8.mono (by omega))
  replace iw := iw.keep (b8.mono (by omega))
  replace im := im.keep (b8.mono (by omega))
  replace bel := bel.trans (b8.mono (by omega))
  have s10 := b8.size
  clear b8
  have ir := orr.ints
  clear orr
  go_wp2_with fail
  refine (c_eqIntS Ar Aw _ _ L _ ir iw (by omega) (by omega) (by omega)).mono ?_
  rintro e u9 ⟨rfl, b9⟩
  replace w0 := w0.keep (b9.mono (by omega))
  replace iw := iw.keep (b9.mono (by omega))
  replace im := im.keep (b9.mono (by omega))
  replace ir := ir.keep (b9.mono (by omega))
  replace bel := bel.trans (b9.mono (by omega))
  have s11 := b9.size
  clear b9
  go_wp2_with fail
  refine (c_heldIntS Ag _ L.length 1 _ im (by omega) (by omega) (by omega)).mono ?_
  rintro e _ ⟨rfl, rfl⟩
  go_wp2
  go_ret
  exact ⟨rfl, bel⟩

theorem own : ownKnob Try.prog.godebug = none := by kernel_rfl
theorem laidOut : laidOutB Try.prog = true := by kernel_rfl

set_option maxRecDepth 100000 in
theorem lifted (os : Os) (started : os.Started) (H : Type) (enc : TypeId × Value → H) :
    ReturnsInHanded {} Try.checked os 13 .any (Rows.fnExactSortSerialsSpec.pre6 enc Try.prog Try.f13 Rows.fnExactSortSerialsRow.domain false) (Rows.fnExactSortSerialsSpec.post enc Try.prog Try.f13 false true false false) := by
  refine returnsInHanded_of_change (C := Try.checked) own started (by kernel_rfl) Try.func13
    (ChangeSpec.witness6 (enc := enc) (C := Try.checked) false ⟨#[], #[.slice none 0 0, .int .i64 0], []⟩ 8 (by kernel_rfl) (by kernel_rfl) (by kernel_rfl) (by kernel_rfl)) ?_
  intro W base args ds gs before hval0 hW hcnd _
  have hval : ∀ (j : Nat) t v, Try.f13.params[j]? = some t → args[j]? = some v → Value.okWide Try.prog W .any base t v := hval0
  have hW' := hW
  obtain ⟨p, q, hA0, hV, rfl, hfz, hnd⟩ := hW
  have hA : DataW.TrodAll enc Try.prog W 0 (fun _ => true) true Try.f13.params.toList args.toList ds p := hA0
  rw [Try.params13] at hA hval
  obtain ⟨v0, vs0, d0, ds0, p0, q0, hargs, rfl, rfl, h0, r0⟩ := trodAll_cons hA
  obtain ⟨v1, vs1, d1, ds1, p1, q1, rfl, rfl, rfl, h1, r1⟩ := trodAll_cons r0
  obtain ⟨rfl, rfl, rfl⟩ := trodAll_nil r1
  obtain rfl : args = #[v0, v1] := by cases args; simp_all
  obtain ⟨rfl, rfl⟩ := trodVars_none hV
  have k0 := h0
  have lt0 : ∀ x ∈ p0, x.block < W.heap.size := by obtain ⟨m, hm⟩ := k0; exact DataW.trod_lt m _ _ _ hm
  obtain ⟨a0, cap0, z0, rfl, w0, f0⟩ := open_ints' (hval 0 30 v0 rfl rfl) h0
  obtain ⟨a1, rfl, rfl, rfl, w1⟩ := open_int Try.underlying3 (hval 1 3 v1 rfl rfl) h1
  clear hA0 hval0
  refine (walk a0 cap0 z0 a1 W w0 w1).mono fun e W' ⟨he, bel⟩ => ?_
  subst he
  exact ⟨_, rfl, _, _, _, [], _, [], hW', trodAll_mk1 (shut_bool Try.underlying4 _), (trodAll_cons_mk (Below.trod laidOut (by kernel_rfl) (of_decide_eq_true (by kernel_rfl)) k0 bel lt0) (trodAll_cons_mk (shut_int Try.underlying3 w1) trodAll_mk0)), rfl, bel.frame _, fun h => by cases h⟩

theorem over : Rows.fnExactSortSerialsRow.holds Try.pinned (OpenSpec.ofChange Rows.fnExactSortSerialsSpec) :=
  OpenClaim.holds_of_wide 13 Try.f13 rfl rfl rfl rfl rfl rfl rfl ⟨rfl, rfl, rfl, rfl, rfl⟩ rfl rfl rfl rfl rfl (by kernel_rfl) Try.func13 (by kernel_rfl)
    (of_decide_eq_true (by kernel_rfl)) (by unfold Func.isWrapper; first | (rw [if_pos (by decide +kernel)]; kernel_rfl) | (rw [if_neg (by decide +kernel)]; exact ⟨rfl, rfl⟩))
    (fun os started H enc _ => lifted os started H enc)

/-- THE STATEMENT -/
theorem proved : Rows.FnExactSortSerialsSaid := over
end Go.Proofs.Ytkoccbjeoihbiaa.fnExactSortSerials
