/-
  The program's AddRange returns what the reference's AddRange returns, at all arguments, and leaves them as they were: the law FnExactAddRange returns true.
  Conditions: none.
-/
import Derived.Test.YtomckpobnblogaaRows
import Derived.WalkKit
import Derived.ProofKit
import Derived.OpenShut
import Derived.ShutString
import Derived.ChangeOld
import Derived.Below
import Derived.Handy
import Derived.Test.YtomckpobnblogaaImplU
import Derived.Test.YtomckpobnblogaaMarkR
import Derived.Test.YtomckpobnblogaaOpen
namespace Go.Proofs.Ytomckpobnblogaa.fnExactAddRange
open Go.ChangeShapes Go.WideShapes Go.ChangeAt Go.RowKit
open Go.ChangeMaps (open_string shut_string)
set_option linter.unusedVariables false

set_option maxRecDepth 100000 in
set_option maxHeartbeats 8000000 in
theorem walk (a0 : Option Addr) (cap0 : Nat) (z0 : List (Int × Int)) (a1 : Int) (a2 : Int) (w : World) (w0 : Rngs w w.heap.size a0 z0) (w1 : (Lit.int .i64 a1).wf = true) (w2 : (Lit.int .i64 a2).wf = true) (m0 : z0.length ≤ 9223372036854775807) :
    Calls Try.prog 4 #[.slice a0 z0.length cap0, .int .i64 a1, .int .i64 a2] w fun e w' => e = .returned (.bool true) ∧ Below w.heap.size w w' := by
  clear w1 w2
  by_cases hl0 : (z0.length : Int) ≤ 1048576
  rotate_left
  · go_enter Try.func4, Try.ntmps4
    go_wp2_with fail
    refine (c_szRangeS _ _ _ _ _ m0 (by omega) (by omega)).mono ?_
    rintro e _ ⟨rfl, rfl⟩
    rw [if_pos (by omega)]
    go_wp2
    go_ret
    exact ⟨rfl, Below.refl _ _⟩
  have hL : (sgl (uniOk z0 [(a1, a2)]) (addL z0 (a1, a2))).length ≤ 100000 := by have := sgl_len (uniOk z0 [(a1, a2)]) (addL z0 (a1, a2)); omega
  generalize hLL : sgl (uniOk z0 [(a1, a2)]) (addL z0 (a1, a2)) = L at *
  have HLL := Lib.hid hLL
  clear hLL
  generalize hKK : sOk (uniOk z0 [(a1, a2)]) (addL z0 (a1, a2)) = KK at *
  have HKK := Lib.hid hKK
  clear hKK
  have bel := Below.refl w.heap.size w
  go_enter Try.func4, Try.ntmps4
  go_wp2_with fail
  refine (c_szRangeS _ _ _ _ _ m0 (by omega) (by omega)).mono ?_
  rintro e _ ⟨rfl, rfl⟩
  rw [if_neg (by omega)]
  go_wp2_with fail
  refine (c_toRangeS _ _ z0 _ w0 (by omega) (by omega)).mono ?_
  rintro e vs0 ⟨As0, cs0, rfl, os0, bbs0⟩
  replace w0 := w0.keep (bbs0.mono (by omega))
  replace bel := bel.trans (bbs0.mono (by omega))
  have s1 := bbs0.size
  clear bbs0
  go_wp2_with fail
  have C := c_specAddRange (H := _) As0 cs0 z0 a1 a2 _ (os0.rngs) (Nat.le_refl _) (by omega)
  rw [HLL.out, HKK.out] at C
  refine C.mono ?_
  rintro e u1 ⟨Aw, cw, rfl, ow, b1⟩
  clear C
  clear os0
  replace w0 := w0.keep (b1.mono (by omega))
  replace bel := bel.trans (b1.mono (by omega))
  have s2 := b1.size
  clear b1
  have iw := ow.rngs
  clear ow
  go_wp2_with fail
  refine (c_toRangeS _ _ z0 _ w0 (by omega) (by omega)).mono ?_
  rintro e vx0 ⟨Ax0, cx0, rfl, ox0, bbx0⟩
  replace w0 := w0.keep (bbx0.mono (by omega))
  replace iw := iw.keep (bbx0.mono (by omega))
  replace bel := bel.trans (bbx0.mono (by omega))
  have s3 := bbx0.size
  clear bbx0
  have tx0 := ox0.top
  go_wp2_with fail
  have C := c_implAddRange (H := _) Ax0 cx0 z0 a1 a2 _ (ox0.rngs) (Nat.le_refl _) (by omega)
  rw [HLL.out, HKK.out] at C
  refine C.mono ?_
  rintro e u2 ⟨Ag, cg, rfl, og, b2⟩
  clear C
  replace w0 := w0.keep (b2.mono (by omega))
  replace iw := iw.keep (b2.mono (by omega))
  replace ox0 := ox0.keep b2
  replace bel := bel.trans (b2.mono (by omega))
  have s4 := b2.size
  clear b2
  go_wp2_with fail
  refine (c_eqRangeS Ag Aw _ _ L _ og.rngs iw (by omega) (by omega) (by omega)).mono ?_
  rintro e u3 ⟨rfl, b3⟩
  replace w0 := w0.keep (b3.mono (by omega))
  replace iw := iw.keep (b3.mono (by omega))
  replace ox0 := ox0.keep b3
  replace og := og.keep b3
  replace bel := bel.trans (b3.mono (by omega))
  have s5 := b3.size
  clear b3
  go_wp2_with fail
  refine (c_toRangeS _ _ z0 _ w0 (by omega) (by omega)).mono ?_
  rintro e vy0 ⟨Ay0, cy0, rfl, oy0, bby0⟩
  replace w0 := w0.keep (bby0.mono (by omega))
  replace iw := iw.keep (bby0.mono (by omega))
  replace ox0 := ox0.keep bby0
  replace og := og.keep bby0
  replace bel := bel.trans (bby0.mono (by omega))
  have s6 := bby0.size
  clear bby0
  have iy := oy0.rngs
  clear oy0
  have ix := ox0.rngs
  go_wp2_with fail
  refine (c_eqRangeS _ _ _ _ z0 _ ix iy (by omega) (by omega) (by omega)).mono ?_
  rintro e y0 ⟨rfl, by2⟩
  replace w0 := w0.keep (by2.mono (by omega))
  replace iw := iw.keep (by2.mono (by omega))
  replace iy := iy.keep (by2.mono (by omega))
  replace ix := ix.keep (by2.mono (by omega))
  replace ox0 := ox0.keep by2
  replace og := og.keep by2
  replace bel := bel.trans (by2.mono (by omega))
  have s7 := by2.size
  clear by2
  clear iy
  clear ix
  go_wp2_with fail
  refine (c_markRangeS Ax0 _ z0 (1) _ ox0 (by omega) (by omega) (by omega)).mono ?_
  rintro e q0 ⟨rfl, _, bm, hz, hg⟩
  clear ox0
  replace w0 := w0.keep (bm.mono (by omega))
  replace iw := iw.keep (bm.mono (by omega))
  replace og := og.far hg tx0 (by omega)
  replace bel := bel.trans (bm.mono (by omega))
  have hz0 : y0.heap.size ≤ q0.heap.size := by omega
  clear bm hg hz tx0
  go_wp2_with fail
  refine (c_eqRangeS Ag Aw _ _ L _ og.rngs iw (by omega) (by omega) (by omega)).mono ?_
  rintro e u6 ⟨rfl, b6⟩
  replace w0 := w0.keep (b6.mono (by omega))
  replace iw := iw.keep (b6.mono (by omega))
  replace og := og.keep b6
  replace bel := bel.trans (b6.mono (by omega))
  have s8 := b6.size
  clear b6
  go_wp2_with fail
  refine (c_markRangeS Ag _ L 1 _ og (by omega) (by omega) (by omega)).mono ?_
  rintro e u7 ⟨rfl, om, bm, hz, _⟩
  clear og
  replace w0 := w0.keep (bm.mono (by omega))
  replace iw := iw.keep (bm.mono (by omega))
  replace bel := bel.trans (bm.mono (by omega))
  have hzz : u6.heap.size ≤ u7.heap.size := by omega
  clear bm hz
  have im := om.rngs
  clear om
  go_wp2_with fail
  refine (c_heldRangeS Ag _ L.length 1 _ im (by omega) (by omega) (by omega)).mono ?_
  rintro e _ ⟨rfl, rfl⟩
  go_wp2_with fail
  refine (c_toRangeS _ _ z0 _ w0 (by omega) (by omega)).mono ?_
  rintro e vh0 ⟨Ah0, ch0, rfl, oh0, bbh0⟩
  replace w0 := w0.keep (bbh0.mono (by omega))
  replace iw := iw.keep (bbh0.mono (by omega))
  replace im := im.keep (bbh0.mono (by omega))
  replace bel := bel.trans (bbh0.mono (by omega))
  have s9 := bbh0.size
  clear bbh0
  go_wp2_with fail
  have C := c_implAddRange (H := _) Ah0 ch0 z0 a1 a2 _ (oh0.rngs) (Nat.le_refl _) (by omega)
  rw [HLL.out, HKK.out] at C
  refine C.mono ?_
  rintro e u8 ⟨Ar, cr, rfl, orr, b8⟩
  clear C
  clear oh0
  replace w0 := w0.keep (b8.mono (by omega))
  replace iw := iw.keep (b8.mono (by omega))
  replace im := im.keep (b8.mono (by omega))
  replace bel := bel.trans (b8.mono (by omega))
  have s10 := b8.size
  clear b8
  have ir := orr.rngs
  clear orr
  go_wp2_with fail
  refine (c_eqRangeS Ar Aw _ _ L _ ir iw (by omega) (by omega) (by omega)).mono ?_
  rintro e u9 ⟨rfl, b9⟩
  replace w0 := w0.keep (b9.mono (by omega))
  replace iw := iw.keep (b9.mono (by omega))
  replace im := im.keep (b9.mono (by omega))
  replace ir := ir.keep (b9.mono (by omega))
  replace bel := bel.trans (b9.mono (by omega))
  have s11 := b9.size
  clear b9
  go_wp2_with fail
  refine (c_heldRangeS Ag _ L.length 1 _ im (by omega) (by omega) (by omega)).mono ?_
  rintro e _ ⟨rfl, rfl⟩
  go_wp2
  go_ret
  exact ⟨rfl, bel⟩

theorem own : ownKnob Try.prog.godebug = none := by kernel_rfl
theorem laidOut : laidOutB Try.prog = true := by kernel_rfl

set_option maxRecDepth 100000 in
theorem lifted (os : Os) (started : os.Started) (H : Type) (enc : TypeId × Value → H) :
    ReturnsInHanded {} Try.checked os 4 .any (Rows.fnExactAddRangeSpec.pre6 enc Try.prog Try.f4 Rows.fnExactAddRangeRow.domain false) (Rows.fnExactAddRangeSpec.post enc Try.prog Try.f4 false true false false) := by
  refine returnsInHanded_of_change (C := Try.checked) own started (by kernel_rfl) Try.func4
    (ChangeSpec.witness6 (enc := enc) (C := Try.checked) false ⟨#[], #[.slice none 0 0, .int .i64 0, .int .i64 0], []⟩ 8 (by kernel_rfl) (by kernel_rfl) (by kernel_rfl) (by kernel_rfl)) ?_
  intro W base args ds gs before hval0 hW hcnd _
  have hval : ∀ (j : Nat) t v, Try.f4.params[j]? = some t → args[j]? = some v → Value.okWide Try.prog W .any base t v := hval0
  have hW' := hW
  obtain ⟨p, q, hA0, hV, rfl, hfz, hnd⟩ := hW
  have hA : DataW.TrodAll enc Try.prog W 0 (fun _ => true) true Try.f4.params.toList args.toList ds p := hA0
  rw [Try.params4] at hA hval
  obtain ⟨v0, vs0, d0, ds0, p0, q0, hargs, rfl, rfl, h0, r0⟩ := trodAll_cons hA
  obtain ⟨v1, vs1, d1, ds1, p1, q1, rfl, rfl, rfl, h1, r1⟩ := trodAll_cons r0
  obtain ⟨v2, vs2, d2, ds2, p2, q2, rfl, rfl, rfl, h2, r2⟩ := trodAll_cons r1
  obtain ⟨rfl, rfl, rfl⟩ := trodAll_nil r2
  obtain rfl : args = #[v0, v1, v2] := by cases args; simp_all
  obtain ⟨rfl, rfl⟩ := trodVars_none hV
  have k0 := h0
  have lt0 : ∀ x ∈ p0, x.block < W.heap.size := by obtain ⟨m, hm⟩ := k0; exact DataW.trod_lt m _ _ _ hm
  obtain ⟨a0, cap0, z0, rfl, w0, m0, f0⟩ := open_ranges (hval 0 22 v0 rfl rfl) h0
  obtain ⟨a1, rfl, rfl, rfl, w1⟩ := open_int Try.underlying3 (hval 1 3 v1 rfl rfl) h1
  obtain ⟨a2, rfl, rfl, rfl, w2⟩ := open_int Try.underlying3 (hval 2 3 v2 rfl rfl) h2
  clear hA0 hval0
  refine (walk a0 cap0 z0 a1 a2 W w0 w1 w2 m0).mono fun e W' ⟨he, bel⟩ => ?_
  subst he
  exact ⟨_, rfl, _, _, _, [], _, [], hW', trodAll_mk1 (shut_bool Try.underlying4 _), (trodAll_cons_mk (Below.trod laidOut (by kernel_rfl) (of_decide_eq_true (by kernel_rfl)) k0 bel lt0) (trodAll_cons_mk (shut_int Try.underlying3 w1) (trodAll_cons_mk (shut_int Try.underlying3 w2) trodAll_mk0))), rfl, bel.frame _, fun h => by cases h⟩

theorem over : Rows.fnExactAddRangeRow.holds Try.pinned (OpenSpec.ofChange Rows.fnExactAddRangeSpec) :=
  OpenClaim.holds_of_wide 4 Try.f4 rfl rfl rfl rfl rfl rfl rfl ⟨rfl, rfl, rfl, rfl, rfl⟩ rfl rfl rfl rfl rfl (by kernel_rfl) Try.func4 (by kernel_rfl)
    (of_decide_eq_true (by kernel_rfl)) (by unfold Func.isWrapper; first | (rw [if_pos (by decide +kernel)]; kernel_rfl) | (rw [if_neg (by decide +kernel)]; exact ⟨rfl, rfl⟩))
    (fun os started H enc _ => lifted os started H enc)

/-- THE STATEMENT -/
theorem proved : Rows.FnExactAddRangeSaid := over
end Go.Proofs.Ytomckpobnblogaa.fnExactAddRange
