/-
  The program's CommonOf returns what the reference's CommonOf returns, at all arguments, and leaves them as they were: the law FnExactCommonOf returns true.
  Conditions: none.
-/
import Derived.Test.YtomckpobnblogaaRows
import Derived.WalkKit
import Derived.ProofKit
import Derived.OpenShut
import Derived.ShutString
import Derived.ChangeOld
import Derived.Below
import Derived.Handy
import Derived.Test.YtomckpobnblogaaImplU
import Derived.Test.YtomckpobnblogaaMarkR
import Derived.Test.YtomckpobnblogaaOpen
namespace Go.Proofs.Ytomckpobnblogaa.fnExactCommonOf
open Go.ChangeShapes Go.WideShapes Go.ChangeAt Go.RowKit
open Go.ChangeMaps (open_string shut_string)
set_option linter.unusedVariables false

set_option maxRecDepth 100000 in
set_option maxHeartbeats 8000000 in
theorem walk (a0 : Option Addr) (cap0 : Nat) (z0 : List (Int × Int)) (a1 : Option Addr) (cap1 : Nat) (z1 : List (Int × Int)) (w : World) (w0 : Rngs w w.heap.size a0 z0) (w1 : Rngs w w.heap.size a1 z1) (m0 : z0.length ≤ 9223372036854775807) (m1 : z1.length ≤ 9223372036854775807) :
    Calls Try.prog 6 #[.slice a0 z0.length cap0, .slice a1 z1.length cap1] w fun e w' => e = .returned (.bool true) ∧ Below w.heap.size w w' := by
  by_cases hl0 : (z0.length : Int) ≤ 1048576
  rotate_left
  · go_enter Try.func6, Try.ntmps6
    go_wp2_with fail
    refine (c_szRangeS _ _ _ _ _ m0 (by omega) (by omega)).mono ?_
    rintro e _ ⟨rfl, rfl⟩
    rw [if_pos (by omega)]
    go_wp2
    go_ret
    exact ⟨rfl, Below.refl _ _⟩
  by_cases hl1 : (z0.length : Int) + (z1.length : Int) ≤ 1048576
  rotate_left
  · go_enter Try.func6, Try.ntmps6
    go_wp2_with fail
    refine (c_szRangeS _ _ _ _ _ m0 (by omega) (by omega)).mono ?_
    rintro e _ ⟨rfl, rfl⟩
    rw [if_neg (by omega)]
    go_wp2_with fail
    refine (c_szRangeS _ _ _ _ _ m1 (by omega) (by omega)).mono ?_
    rintro e _ ⟨rfl, rfl⟩
    rw [if_pos (by omega)]
    go_wp2
    go_ret
    exact ⟨rfl, Below.refl _ _⟩
  have hL : (sgl (uniOk z0 z1) (remAll z0 (remAll z0 z1))).length ≤ 100000 := by have := sgl_len (uniOk z0 z1) (remAll z0 (remAll z0 z1)); omega
  generalize hLL : sgl (uniOk z0 z1) (remAll z0 (remAll z0 z1)) = L at *
  have HLL := Lib.hid hLL
  clear hLL
  generalize hKK : sOk (uniOk z0 z1) (remAll z0 (remAll z0 z1)) = KK at *
  have HKK := Lib.hid hKK
  clear hKK
  have bel := Below.refl w.heap.size w
  go_enter Try.func6, Try.ntmps6
  go_wp2_with fail
  refine (c_szRangeS _ _ _ _ _ m0 (by omega) (by omega)).mono ?_
  rintro e _ ⟨rfl, rfl⟩
  rw [if_neg (by omega)]
  go_wp2_with fail
  refine (c_szRangeS _ _ _ _ _ m1 (by omega) (by omega)).mono ?_
  rintro e _ ⟨rfl, rfl⟩
  rw [if_neg (by omega)]
  go_wp2_with fail
  refine (c_toRangeS _ _ z0 _ w0 (by omega) (by omega)).mono ?_
  rintro e vs0 ⟨As0, cs0, rfl, os0, bbs0⟩
  replace w0 := w0.keep (bbs0.mono (by omega))
  replace w1 := w1.keep (bbs0.mono (by omega))
  replace bel := bel.trans (bbs0.mono (by omega))
  have s1 := bbs0.size
  clear bbs0
  go_wp2_with fail
  refine (c_toRangeS _ _ z1 _ w1 (by omega) (by omega)).mono ?_
  rintro e vs1 ⟨As1, cs1, rfl, os1, bbs1⟩
  replace w0 := w0.keep (bbs1.mono (by omega))
  replace w1 := w1.keep (bbs1.mono (by omega))
  replace os0 := os0.keep bbs1
  replace bel := bel.trans (bbs1.mono (by omega))
  have s2 := bbs1.size
  clear bbs1
  go_wp2_with fail
  have C := c_specCommonOf (H := _) As0 cs0 z0 As1 cs1 z1 _ (os0.rngs) (os1.rngs) (Nat.le_refl _) (by omega) (by omega)
  rw [HLL.out, HKK.out] at C
  refine C.mono ?_
  rintro e u1 ⟨Aw, cw, rfl, ow, b1⟩
  clear C
  clear os0
  clear os1
  replace w0 := w0.keep (b1.mono (by omega))
  replace w1 := w1.keep (b1.mono (by omega))
  replace bel := bel.trans (b1.mono (by omega))
  have s3 := b1.size
  clear b1
  have iw := ow.rngs
  clear ow
  go_wp2_with fail
  refine (c_toRangeS _ _ z0 _ w0 (by omega) (by omega)).mono ?_
  rintro e vx0 ⟨Ax0, cx0, rfl, ox0, bbx0⟩
  replace w0 := w0.keep (bbx0.mono (by omega))
  replace w1 := w1.keep (bbx0.mono (by omega))
  replace iw := iw.keep (bbx0.mono (by omega))
  replace bel := bel.trans (bbx0.mono (by omega))
  have s4 := bbx0.size
  clear bbx0
  have tx0 := ox0.top
  go_wp2_with fail
  refine (c_toRangeS _ _ z1 _ w1 (by omega) (by omega)).mono ?_
  rintro e vx1 ⟨Ax1, cx1, rfl, ox1, bbx1⟩
  replace w0 := w0.keep (bbx1.mono (by omega))
  replace w1 := w1.keep (bbx1.mono (by omega))
  replace iw := iw.keep (bbx1.mono (by omega))
  replace ox0 := ox0.keep bbx1
  replace bel := bel.trans (bbx1.mono (by omega))
  have s5 := bbx1.size
  clear bbx1
  have tx1 := ox1.top
  go_wp2_with fail
  have C := c_implCommonOf (H := _) Ax0 cx0 z0 Ax1 cx1 z1 _ (ox0.rngs) (ox1.rngs) (Nat.le_refl _) (by omega) (by omega)
  rw [HLL.out, HKK.out] at C
  refine C.mono ?_
  rintro e u2 ⟨Ag, cg, rfl, og, b2⟩
  clear C
  replace w0 := w0.keep (b2.mono (by omega))
  replace w1 := w1.keep (b2.mono (by omega))
  replace iw := iw.keep (b2.mono (by omega))
  replace ox0 := ox0.keep b2
  replace ox1 := ox1.keep b2
  replace bel := bel.trans (b2.mono (by omega))
  have s6 := b2.size
  clear b2
  go_wp2_with fail
  refine (c_eqRangeS Ag Aw _ _ L _ og.rngs iw (by omega) (by omega) (by omega)).mono ?_
  rintro e u3 ⟨rfl, b3⟩
  replace w0 := w0.keep (b3.mono (by omega))
  replace w1 := w1.keep (b3.mono (by omega))
  replace iw := iw.keep (b3.mono (by omega))
  replace ox0 := ox0.keep b3
  replace ox1 := ox1.keep b3
  replace og := og.keep b3
  replace bel := bel.trans (b3.mono (by omega))
  have s7 := b3.size
  clear b3
  go_wp2_with fail
  refine (c_toRangeS _ _ z0 _ w0 (by omega) (by omega)).mono ?_
  rintro e vy0 ⟨Ay0, cy0, rfl, oy0, bby0⟩
  replace w0 := w0.keep (bby0.mono (by omega))
  replace w1 := w1.keep (bby0.mono (by omega))
  replace iw := iw.keep (bby0.mono (by omega))
  replace ox0 := ox0.keep bby0
  replace ox1 := ox1.keep bby0
  replace og := og.keep bby0
  replace bel := bel.trans (bby0.mono (by omega))
  have s8 := bby0.size
  clear bby0
  have iy := oy0.rngs
  clear oy0
  have ix := ox0.rngs
  go_wp2_with fail
  refine (c_eqRangeS _ _ _ _ z0 _ ix iy (by omega) (by omega) (by omega)).mono ?_
  rintro e y0 ⟨rfl, by2⟩
  replace w0 := w0.keep (by2.mono (by omega))
  replace w1 := w1.keep (by2.mono (by omega))
  replace iw := iw.keep (by2.mono (by omega))
  replace iy := iy.keep (by2.mono (by omega))
  replace ix := ix.keep (by2.mono (by omega))
  replace ox0 := ox0.keep by2
  replace ox1 := ox1.keep by2
  replace og := og.keep by2
  replace bel := bel.trans (by2.mono (by omega))
  have s9 := by2.size
  clear by2
  clear iy
  clear ix
  go_wp2_with fail
  refine (c_toRangeS _ _ z1 _ w1 (by omega) (by omega)).mono ?_
  rintro e vy1 ⟨Ay1, cy1, rfl, oy1, bby1⟩
  replace w0 := w0.keep (bby1.mono (by omega))
  replace w1 := w1.keep (bby1.mono (by omega))
  replace iw := iw.keep (bby1.mono (by omega))
  replace ox0 := ox0.keep bby1
  replace ox1 := ox1.keep bby1
  replace og := og.keep bby1
  replace bel := bel.trans (bby1.mono (by omega))
  have s10 := bby1.size
  clear bby1
  have iy := oy1.rngs
  clear oy1
  have ix := ox1.rngs
  go_wp2_with fail
  refine (c_eqRangeS _ _ _ _ z1 _ ix iy (by omega) (by omega) (by omega)).mono ?_
  rintro e y1 ⟨rfl, by2⟩
  replace w0 := w0.keep (by2.mono (by omega))
  replace w1 := w1.keep (by2.mono (by omega))
  replace iw := iw.keep (by2.mono (by omega))
  replace iy := iy.keep (by2.mono (by omega))
  replace ix := ix.keep (by2.mono (by omega))
  replace ox0 := ox0.keep by2
  replace ox1 := ox1.keep by2
  replace og := og.keep by2
  replace bel := bel.trans (by2.mono (by omega))
  have s11 := by2.size
  clear by2
  clear iy
  clear ix
  go_wp2_with fail
  refine (c_markRangeS Ax0 _ z0 (1) _ ox0 (by omega) (by omega) (by omega)).mono ?_
  rintro e q0 ⟨rfl, _, bm, hz, hg⟩
  clear ox0
  replace w0 := w0.keep (bm.mono (by omega))
  replace w1 := w1.keep (bm.mono (by omega))
  replace iw := iw.keep (bm.mono (by omega))
  replace ox1 := ox1.far hg tx0 (by omega)
  replace og := og.far hg tx0 (by omega)
  replace bel := bel.trans (bm.mono (by omega))
  have hz0 : y1.heap.size ≤ q0.heap.size := by omega
  clear bm hg hz tx0
  go_wp2_with fail
  refine (c_markRangeS Ax1 _ z1 (1 + 2 * (z0.length : Int)) _ ox1 (by omega) (by omega) (by omega)).mono ?_
  rintro e q1 ⟨rfl, _, bm, hz, hg⟩
  clear ox1
  replace w0 := w0.keep (bm.mono (by omega))
  replace w1 := w1.keep (bm.mono (by omega))
  replace iw := iw.keep (bm.mono (by omega))
  replace og := og.far hg tx1 (by omega)
  replace bel := bel.trans (bm.mono (by omega))
  have hz1 : q0.heap.size ≤ q1.heap.size := by omega
  clear bm hg hz tx1
  go_wp2_with fail
  refine (c_eqRangeS Ag Aw _ _ L _ og.rngs iw (by omega) (by omega) (by omega)).mono ?_
  rintro e u6 ⟨rfl, b6⟩
  replace w0 := w0.keep (b6.mono (by omega))
  replace w1 := w1.keep (b6.mono (by omega))
  replace iw := iw.keep (b6.mono (by omega))
  replace og := og.keep b6
  replace bel := bel.trans (b6.mono (by omega))
  have s12 := b6.size
  clear b6
  go_wp2_with fail
  refine (c_markRangeS Ag _ L 1 _ og (by omega) (by omega) (by omega)).mono ?_
  rintro e u7 ⟨rfl, om, bm, hz, _⟩
  clear og
  replace w0 := w0.keep (bm.mono (by omega))
  replace w1 := w1.keep (bm.mono (by omega))
  replace iw := iw.keep (bm.mono (by omega))
  replace bel := bel.trans (bm.mono (by omega))
  have hzz : u6.heap.size ≤ u7.heap.size := by omega
  clear bm hz
  have im := om.rngs
  clear om
  go_wp2_with fail
  refine (c_heldRangeS Ag _ L.length 1 _ im (by omega) (by omega) (by omega)).mono ?_
  rintro e _ ⟨rfl, rfl⟩
  go_wp2_with fail
  refine (c_toRangeS _ _ z0 _ w0 (by omega) (by omega)).mono ?_
  rintro e vh0 ⟨Ah0, ch0, rfl, oh0, bbh0⟩
  replace w0 := w0.keep (bbh0.mono (by omega))
  replace w1 := w1.keep (bbh0.mono (by omega))
  replace iw := iw.keep (bbh0.mono (by omega))
  replace im := im.keep (bbh0.mono (by omega))
  replace bel := bel.trans (bbh0.mono (by omega))
  have s13 := bbh0.size
  clear bbh0
  go_wp2_with fail
  refine (c_toRangeS _ _ z1 _ w1 (by omega) (by omega)).mono ?_
  rintro e vh1 ⟨Ah1, ch1, rfl, oh1, bbh1⟩
  replace w0 := w0.keep (bbh1.mono (by omega))
  replace w1 := w1.keep (bbh1.mono (by omega))
  replace iw := iw.keep (bbh1.mono (by omega))
  replace im := im.keep (bbh1.mono (by omega))
  replace oh0 := oh0.keep bbh1
  replace bel := bel.trans (bbh1.mono (by omega))
  have s14 := bbh1.size
  clear bbh1
  go_wp2_with fail
  have C := c_implCommonOf (H := _) Ah0 ch0 z0 Ah1 ch1 z1 _ (oh0.rngs) (oh1.rngs) (Nat.le_refl _) (by omega) (by omega)
  rw [HLL.out, HKK.out] at C
  refine C.mono ?_
  rintro e u8 ⟨Ar, cr, rfl, orr, b8⟩
  clear C
  clear oh0
  clear oh1
  replace w0 := w0.keep (b8.mono (by omega))
  replace w1 := w1.keep (b8.mono (by omega))
  replace iw := iw.keep (b8.mono (by omega))
  replace im := im.keep (b8.mono (by omega))
  replace bel := bel.trans (b8.mono (by omega))
  have s15 := b8.size
  clear b8
  have ir := orr.rngs
  clear orr
  go_wp2_with fail
  refine (c_eqRangeS Ar Aw _ _ L _ ir iw (by omega) (by omega) (by omega)).mono ?_
  rintro e u9 ⟨rfl, b9⟩
  replace w0 := w0.keep (b9.mono (by omega))
  replace w1 := w1.keep (b9.mono (by omega))
  replace iw := iw.keep (b9.mono (by omega))
  replace im := im.keep (b9.mono (by omega))
  replace ir := ir.keep (b9.mono (by omega))
  replace bel := bel.trans (b9.mono (by omega))
  have s16 := b9.size
  clear b9
  go_wp2_with fail
  refine (c_heldRangeS Ag _ L.length 1 _ im (by omega) (by omega) (by omega)).mono ?_
  rintro e _ ⟨rfl, rfl⟩
  go_wp2
  go_ret
  exact ⟨rfl, bel⟩

theorem own : ownKnob Try.prog.godebug = none := by kernel_rfl
theorem laidOut : laidOutB Try.prog = true := by kernel_rfl

set_option maxRecDepth 100000 in
theorem lifted (os : Os) (started : os.Started) (H : Type) (enc : TypeId × Value → H) :
    ReturnsInHanded {} Try.checked os 6 .any (Rows.fnExactCommonOfSpec.pre6 enc Try.prog Try.f6 Rows.fnExactCommonOfRow.domain false) (Rows.fnExactCommonOfSpec.post enc Try.prog Try.f6 false true false false) := by
  refine returnsInHanded_of_change (C := Try.checked) own started (by kernel_rfl) Try.func6
    (ChangeSpec.witness6 (enc := enc) (C := Try.checked) false ⟨#[], #[.slice none 0 0, .slice none 0 0], []⟩ 8 (by kernel_rfl) (by kernel_rfl) (by kernel_rfl) (by kernel_rfl)) ?_
  intro W base args ds gs before hval0 hW hcnd _
  have hval : ∀ (j : Nat) t v, Try.f6.params[j]? = some t → args[j]? = some v → Value.okWide Try.prog W .any base t v := hval0
  have hW' := hW
  obtain ⟨p, q, hA0, hV, rfl, hfz, hnd⟩ := hW
  have hA : DataW.TrodAll enc Try.prog W 0 (fun _ => true) true Try.f6.params.toList args.toList ds p := hA0
  rw [Try.params6] at hA hval
  obtain ⟨v0, vs0, d0, ds0, p0, q0, hargs, rfl, rfl, h0, r0⟩ := trodAll_cons hA
  obtain ⟨v1, vs1, d1, ds1, p1, q1, rfl, rfl, rfl, h1, r1⟩ := trodAll_cons r0
  obtain ⟨rfl, rfl, rfl⟩ := trodAll_nil r1
  obtain rfl : args = #[v0, v1] := by cases args; simp_all
  obtain ⟨rfl, rfl⟩ := trodVars_none hV
  have k0 := h0
  have lt0 : ∀ x ∈ p0, x.block < W.heap.size := by obtain ⟨m, hm⟩ := k0; exact DataW.trod_lt m _ _ _ hm
  obtain ⟨a0, cap0, z0, rfl, w0, m0, f0⟩ := open_ranges (hval 0 22 v0 rfl rfl) h0
  have k1 := h1
  have lt1 : ∀ x ∈ p1, x.block < W.heap.size := by obtain ⟨m, hm⟩ := k1; exact DataW.trod_lt m _ _ _ hm
  obtain ⟨a1, cap1, z1, rfl, w1, m1, f1⟩ := open_ranges (hval 1 22 v1 rfl rfl) h1
  clear hA0 hval0
  refine (walk a0 cap0 z0 a1 cap1 z1 W w0 w1 m0 m1).mono fun e W' ⟨he, bel⟩ => ?_
  subst he
  exact ⟨_, rfl, _, _, _, [], _, [], hW', trodAll_mk1 (shut_bool Try.underlying4 _), (trodAll_cons_mk (Below.trod laidOut (by kernel_rfl) (of_decide_eq_true (by kernel_rfl)) k0 bel lt0) (trodAll_cons_mk (Below.trod laidOut (by kernel_rfl) (of_decide_eq_true (by kernel_rfl)) k1 bel lt1) trodAll_mk0)), rfl, bel.frame _, fun h => by cases h⟩

theorem over : Rows.fnExactCommonOfRow.holds Try.pinned (OpenSpec.ofChange Rows.fnExactCommonOfSpec) :=
  OpenClaim.holds_of_wide 6 Try.f6 rfl rfl rfl rfl rfl rfl rfl ⟨rfl, rfl, rfl, rfl, rfl⟩ rfl rfl rfl rfl rfl (by kernel_rfl) Try.func6 (by kernel_rfl)
    (of_decide_eq_true (by kernel_rfl)) (by unfold Func.isWrapper; first | (rw [if_pos (by decide +kernel)]; kernel_rfl) | (rw [if_neg (by decide +kernel)]; exact ⟨rfl, rfl⟩))
    (fun os started H enc _ => lifted os started H enc)

/-- THE STATEMENT -/
theorem proved : Rows.FnExactCommonOfSaid := over
end Go.Proofs.Ytomckpobnblogaa.fnExactCommonOf
