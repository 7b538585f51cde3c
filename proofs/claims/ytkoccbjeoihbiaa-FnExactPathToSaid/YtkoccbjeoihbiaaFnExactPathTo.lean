/-
  The program's PathTo returns what the reference's PathTo returns, at all arguments, and leaves them as they were: the law FnExactPathTo returns true.
  Conditions: none.
-/
import Derived.Test.YtkoccbjeoihbiaaRows
import Derived.WalkKit
import Derived.ProofKit
import Derived.OpenShut
import Derived.ShutString
import Derived.ChangeOld
import Derived.Below
import Derived.Handy
import Derived.Test.YtkoccbjeoihbiaaPath
import Derived.Test.YtkoccbjeoihbiaaOpen
import Derived.Deep.RegionWith
namespace Go.Proofs.Ytkoccbjeoihbiaa.fnExactPathTo
open Go.ChangeShapes Go.WideShapes Go.ChangeAt Go.RowKit
open Go.ChangeMaps (open_string shut_string)
set_option linter.unusedVariables false

set_option maxRecDepth 100000 in
set_option maxHeartbeats 4000000 in
theorem walk (a0 : Option Addr) (cap0 : Nat) (z0 : List Int) (a1 : Int) (w : World) (w0 : Ints w w.heap.size a0 z0) (w1 : (Lit.int .i64 a1).wf = true) (m0 : z0.length ≤ 9223372036854775807) :
    Calls Try.prog 9 #[.agg #[.slice a0 z0.length cap0], .int .i64 a1] w fun e w' => e = .returned (.bool true) ∧ Below w.heap.size w w' := by
  clear w1
  by_cases hl0 : (z0.length : Int) ≤ 1048576
  rotate_left
  · have bel : Below w.heap.size w (w.alloc (.cells #[.slice a0 z0.length cap0] 49)) := (Below.refl _ _).alloc (Nat.le_refl _) _
    go_enter Try.func9, Try.ntmps9
    go_wp2_with fail
    refine (c_szTree _ _ _ _ _ m0 (by omega) (by omega)).mono ?_
    rintro e wz ⟨rfl, bz⟩
    replace bel := bel.trans (bz.mono bel.size)
    rw [if_pos (by omega)]
    go_wp2
    go_ret
    exact ⟨rfl, bel⟩
  have hL : (pathR z0 a1).length ≤ 100000 := pathR_len z0 a1
  generalize hLL : pathR z0 a1 = L at *
  have HLL := Lib.hid hLL
  clear hLL
  have bel : Below w.heap.size w (w.alloc (.cells #[.slice a0 z0.length cap0] 49)) := (Below.refl _ _).alloc (Nat.le_refl _) _
  have hbox : (w.alloc (.cells #[.slice a0 z0.length cap0] 49)).cell? ⟨w.heap.size, 0, none⟩ = some (.slice a0 z0.length cap0) := new1_cell _ _ _
  have s0 : w.heap.size < (w.alloc (.cells #[.slice a0 z0.length cap0] 49)).heap.size := by simp
  replace w0 := w0.keep bel
  go_enter Try.func9, Try.ntmps9
  go_wp2_with fail
  generalize w.alloc (.cells #[.slice a0 z0.length cap0] 49) = W0 at *
  refine (c_szTree _ _ _ _ _ m0 (by omega) (by omega)).mono ?_
  rintro e wz ⟨rfl, bz⟩
  replace w0 := w0.keep (bz.mono (by omega))
  replace hbox := (bz.cell (p := ⟨w.heap.size, 0, none⟩) (show w.heap.size < _ by omega)).trans hbox
  replace bel := bel.trans (bz.mono (by omega))
  have s1 := bz.size
  clear bz
  rw [if_neg (by omega)]
  go_wp2_with fail
  refine (c_toTree _ _ z0 _ w0 (by omega) (by omega)).mono ?_
  rintro e vs ⟨As, cs, rfl, os, bbs⟩
  replace w0 := w0.keep (bbs.mono (by omega))
  replace hbox := (bbs.cell (p := ⟨w.heap.size, 0, none⟩) (show w.heap.size < _ by omega)).trans hbox
  replace bel := bel.trans (bbs.mono (by omega))
  have s2 := bbs.size
  clear bbs
  go_wp2_with fail
  have C := c_specPathTo As cs z0 a1 _ os.ints (Nat.le_refl _) (by omega)
  rw [HLL.out] at C
  refine C.mono ?_
  rintro e u1 ⟨Aw, cw, rfl, ow, b1⟩
  clear C
  clear os
  replace w0 := w0.keep (b1.mono (by omega))
  replace hbox := (b1.cell (p := ⟨w.heap.size, 0, none⟩) (show w.heap.size < _ by omega)).trans hbox
  replace bel := bel.trans (b1.mono (by omega))
  have s3 := b1.size
  clear b1
  have iw := ow.ints
  clear ow
  go_wp2_with fail
  refine (c_toTree _ _ z0 _ w0 (by omega) (by omega)).mono ?_
  rintro e vx ⟨Ax, cx, rfl, ox, bbx⟩
  replace w0 := w0.keep (bbx.mono (by omega))
  replace iw := iw.keep (bbx.mono (by omega))
  replace hbox := (bbx.cell (p := ⟨w.heap.size, 0, none⟩) (show w.heap.size < _ by omega)).trans hbox
  replace bel := bel.trans (bbx.mono (by omega))
  have s4 := bbx.size
  clear bbx
  go_wp2_with fail
  have hxb : (vx.alloc (.cells #[.slice Ax z0.length cx] 51)).cell? ⟨vx.heap.size, 0, none⟩ = some (.slice Ax z0.length cx) := new1_cell _ _ _
  have sx : vx.heap.size < (vx.alloc (.cells #[.slice Ax z0.length cx] 51)).heap.size := by simp
  have bxa : Below vx.heap.size vx (vx.alloc (.cells #[.slice Ax z0.length cx] 51)) := (Below.refl _ _).alloc (Nat.le_refl _) _
  replace w0 := w0.keep (bxa.mono (by omega))
  replace iw := iw.keep (bxa.mono (by omega))
  replace ox := ox.keep bxa
  replace hbox := (bxa.cell (p := ⟨w.heap.size, 0, none⟩) (show w.heap.size < _ by omega)).trans hbox
  replace bel := bel.trans (bxa.mono (by omega))
  have s5 := bxa.size
  clear bxa
  generalize vx.alloc (.cells #[.slice Ax z0.length cx] 51) = vxa at *
  have tx := ox.top
  have ix := ox.ints
  go_wp2_with fail
  have C := c_implPathTo Ax cx z0 a1 _ ox.ints (Nat.le_refl _) (by omega)
  rw [HLL.out] at C
  refine C.mono ?_
  rintro e u2 ⟨Ag, cg, rfl, og, b2⟩
  clear C
  replace w0 := w0.keep (b2.mono (by omega))
  replace iw := iw.keep (b2.mono (by omega))
  replace ix := ix.keep (b2.mono (by omega))
  replace ox := ox.keep b2
  replace hbox := (b2.cell (p := ⟨w.heap.size, 0, none⟩) (show w.heap.size < _ by omega)).trans hbox
  replace hxb := (b2.cell (p := ⟨vx.heap.size, 0, none⟩) (show vx.heap.size < _ by omega)).trans hxb
  replace bel := bel.trans (b2.mono (by omega))
  have s6 := b2.size
  clear b2
  go_wp2_with fail
  refine (c_eqIntS Ag Aw _ _ L _ og.ints iw (by omega) (by omega) (by omega)).mono ?_
  rintro e u3 ⟨rfl, b3⟩
  replace w0 := w0.keep (b3.mono (by omega))
  replace iw := iw.keep (b3.mono (by omega))
  replace ix := ix.keep (b3.mono (by omega))
  replace ox := ox.keep b3
  replace og := og.keep b3
  replace hbox := (b3.cell (p := ⟨w.heap.size, 0, none⟩) (show w.heap.size < _ by omega)).trans hbox
  replace hxb := (b3.cell (p := ⟨vx.heap.size, 0, none⟩) (show vx.heap.size < _ by omega)).trans hxb
  replace bel := bel.trans (b3.mono (by omega))
  have s7 := b3.size
  clear b3
  go_wp2
  have bd : Below u3.heap.size u3 u3.drew := (Below.refl _ _).drew
  replace w0 := w0.keep (bd.mono (by omega))
  replace iw := iw.keep (bd.mono (by omega))
  replace ix := ix.keep (bd.mono (by omega))
  replace ox := ox.keep bd
  replace og := og.keep bd
  replace hbox := (bd.cell (p := ⟨w.heap.size, 0, none⟩) (show w.heap.size < _ by omega)).trans hbox
  replace hxb := (bd.cell (p := ⟨vx.heap.size, 0, none⟩) (show vx.heap.size < _ by omega)).trans hxb
  replace bel := bel.trans (bd.mono (by omega))
  have s8 := bd.size
  clear bd
  go_region_with (first | (go_at_call 43; refine (c_toTree _ _ z0 _ w0 (by omega) (by omega)).mono ?_; rintro e vy ⟨Ay, cy, rfl, oy, by1⟩; have iy := oy.ints; clear oy; replace w0 := w0.keep (by1.mono (by omega)); replace iw := iw.keep (by1.mono (by omega)); replace ix := ix.keep (by1.mono (by omega)); replace ox := ox.keep by1; replace og := og.keep by1; replace hbox := (by1.cell (p := ⟨w.heap.size, 0, none⟩) (show w.heap.size < _ by omega)).trans hbox; replace hxb := (by1.cell (p := ⟨vx.heap.size, 0, none⟩) (show vx.heap.size < _ by omega)).trans hxb; replace bel := bel.trans (by1.mono (by omega)); have s9 := by1.size; clear by1) | (go_at_call 45; refine (c_eqTree _ _ _ _ z0 _ ix iy (by omega) (by omega) (by omega)).mono ?_; rintro e u4 ⟨rfl, by2⟩; replace w0 := w0.keep (by2.mono (by omega)); replace iw := iw.keep (by2.mono (by omega)); replace ix := ix.keep (by2.mono (by omega)); replace iy := iy.keep (by2.mono (by omega)); replace ox := ox.keep by2; replace og := og.keep by2; replace hbox := (by2.cell (p := ⟨w.heap.size, 0, none⟩) (show w.heap.size < _ by omega)).trans hbox; replace hxb := (by2.cell (p := ⟨vx.heap.size, 0, none⟩) (show vx.heap.size < _ by omega)).trans hxb; replace bel := bel.trans (by2.mono (by omega)); have s10 := by2.size; clear by2))
  all_goals
    clear iy
    clear ix
    go_wp2_with fail
    refine (c_markTree Ax _ z0 1 _ ox (by omega) (by omega) (by omega) (by omega)).mono ?_
    rintro e u5 ⟨rfl, _, bm, hz, hg⟩
    clear ox
    replace w0 := w0.keep (bm.mono (by omega))
    replace iw := iw.keep (bm.mono (by omega))
    replace og := og.far hg tx (by omega)
    replace hbox := (bm.cell (p := ⟨w.heap.size, 0, none⟩) (show w.heap.size < _ by omega)).trans hbox
    clear hxb
    replace bel := bel.trans (bm.mono (by omega))
    have hz1 : u4.heap.size ≤ u5.heap.size := by omega
    clear bm hg hz tx
    go_wp2_with fail
    refine (c_eqIntS Ag Aw _ _ L _ og.ints iw (by omega) (by omega) (by omega)).mono ?_
    rintro e u6 ⟨rfl, b6⟩
    replace w0 := w0.keep (b6.mono (by omega))
    replace iw := iw.keep (b6.mono (by omega))
    replace og := og.keep b6
    replace hbox := (b6.cell (p := ⟨w.heap.size, 0, none⟩) (show w.heap.size < _ by omega)).trans hbox
    replace bel := bel.trans (b6.mono (by omega))
    have s11 := b6.size
    clear b6
    go_wp2_with fail
    refine (c_markIntS Ag _ L 1 _ og (by omega) (by omega) (by omega)).mono ?_
    rintro e u7 ⟨rfl, om, bm, hz, _⟩
    clear og
    replace w0 := w0.keep (bm.mono (by omega))
    replace iw := iw.keep (bm.mono (by omega))
    replace hbox := (bm.cell (p := ⟨w.heap.size, 0, none⟩) (show w.heap.size < _ by omega)).trans hbox
    replace bel := bel.trans (bm.mono (by omega))
    have hz2 : u6.heap.size ≤ u7.heap.size := by omega
    clear bm hz
    have im := om.ints
    clear om
    go_wp2_with fail
    refine (c_heldIntS Ag _ L.length 1 _ im (by omega) (by omega) (by omega)).mono ?_
    rintro e _ ⟨rfl, rfl⟩
    go_wp2_with fail
    refine (c_toTree _ _ z0 _ w0 (by omega) (by omega)).mono ?_
    rintro e vh ⟨Ah, ch, rfl, oh, bbh⟩
    replace w0 := w0.keep (bbh.mono (by omega))
    replace iw := iw.keep (bbh.mono (by omega))
    replace im := im.keep (bbh.mono (by omega))
    replace hbox := (bbh.cell (p := ⟨w.heap.size, 0, none⟩) (show w.heap.size < _ by omega)).trans hbox
    replace bel := bel.trans (bbh.mono (by omega))
    have s12 := bbh.size
    clear bbh
    go_wp2_with fail
    have C := c_implPathTo Ah ch z0 a1 _ oh.ints (Nat.le_refl _) (by omega)
    rw [HLL.out] at C
    refine C.mono ?_
    rintro e u8 ⟨Ar, cr, rfl, orr, b8⟩
    clear C
    clear oh
    replace w0 := w0.keep (b8.mono (by omega))
    replace iw := iw.keep (b8.mono (by omega))
    replace im := im.keep (b8.mono (by omega))
    replace hbox := (b8.cell (p := ⟨w.heap.size, 0, none⟩) (show w.heap.size < _ by omega)).trans hbox
    replace bel := bel.trans (b8.mono (by omega))
    have s13 := b8.size
    clear b8
    have ir := orr.ints
    clear orr
    go_wp2_with fail
    refine (c_eqIntS Ar Aw _ _ L _ ir iw (by omega) (by omega) (by omega)).mono ?_
    rintro e u9 ⟨rfl, b9⟩
    replace w0 := w0.keep (b9.mono (by omega))
    replace iw := iw.keep (b9.mono (by omega))
    replace im := im.keep (b9.mono (by omega))
    replace ir := ir.keep (b9.mono (by omega))
    replace hbox := (b9.cell (p := ⟨w.heap.size, 0, none⟩) (show w.heap.size < _ by omega)).trans hbox
    replace bel := bel.trans (b9.mono (by omega))
    have s14 := b9.size
    clear b9
    go_wp2_with fail
    refine (c_heldIntS Ag _ L.length 1 _ im (by omega) (by omega) (by omega)).mono ?_
    rintro e _ ⟨rfl, rfl⟩
    go_wp2
    go_ret
    exact ⟨rfl, bel⟩

theorem own : ownKnob Try.prog.godebug = none := by kernel_rfl
theorem laidOut : laidOutB Try.prog = true := by kernel_rfl

set_option maxRecDepth 100000 in
theorem lifted (os : Os) (started : os.Started) (H : Type) (enc : TypeId × Value → H) :
    ReturnsInHanded {} Try.checked os 9 .any (Rows.fnExactPathToSpec.pre6 enc Try.prog Try.f9 Rows.fnExactPathToRow.domain false) (Rows.fnExactPathToSpec.post enc Try.prog Try.f9 false true false false) := by
  refine returnsInHanded_of_change (C := Try.checked) own started (by kernel_rfl) Try.func9
    (ChangeSpec.witness6 (enc := enc) (C := Try.checked) false ⟨#[], #[.agg #[.slice none 0 0], .int .i64 0], []⟩ 8 (by kernel_rfl) (by kernel_rfl) (by kernel_rfl) (by kernel_rfl)) ?_
  intro W base args ds gs before hval0 hW hcnd _
  have hval : ∀ (j : Nat) t v, Try.f9.params[j]? = some t → args[j]? = some v → Value.okWide Try.prog W .any base t v := hval0
  have hW' := hW
  obtain ⟨p, q, hA0, hV, rfl, hfz, hnd⟩ := hW
  have hA : DataW.TrodAll enc Try.prog W 0 (fun _ => true) true Try.f9.params.toList args.toList ds p := hA0
  rw [Try.params9] at hA hval
  obtain ⟨v0, vs0, d0, ds0, p0, q0, hargs, rfl, rfl, h0, r0⟩ := trodAll_cons hA
  obtain ⟨v1, vs1, d1, ds1, p1, q1, rfl, rfl, rfl, h1, r1⟩ := trodAll_cons r0
  obtain ⟨rfl, rfl, rfl⟩ := trodAll_nil r1
  obtain rfl : args = #[v0, v1] := by cases args; simp_all
  obtain ⟨rfl, rfl⟩ := trodVars_none hV
  have k0 := h0
  have lt0 : ∀ x ∈ p0, x.block < W.heap.size := by obtain ⟨m, hm⟩ := k0; exact DataW.trod_lt m _ _ _ hm
  obtain ⟨a0, cap0, z0, rfl, w0, m0, f0⟩ := open_tree (hval 0 49 v0 rfl rfl) h0
  obtain ⟨a1, rfl, rfl, rfl, w1⟩ := open_int Try.underlying3 (hval 1 3 v1 rfl rfl) h1
  clear hA0 hval0
  refine (walk a0 cap0 z0 a1 W w0 w1 m0).mono fun e W' ⟨he, bel⟩ => ?_
  subst he
  exact ⟨_, rfl, _, _, _, [], _, [], hW', trodAll_mk1 (shut_bool Try.underlying4 _), (trodAll_cons_mk (Below.trod laidOut (by kernel_rfl) (of_decide_eq_true (by kernel_rfl)) k0 bel lt0) (trodAll_cons_mk (shut_int Try.underlying3 w1) trodAll_mk0)), rfl, bel.frame _, fun h => by cases h⟩

theorem over : Rows.fnExactPathToRow.holds Try.pinned (OpenSpec.ofChange Rows.fnExactPathToSpec) :=
  OpenClaim.holds_of_wide 9 Try.f9 rfl rfl rfl rfl rfl rfl rfl ⟨rfl, rfl, rfl, rfl, rfl⟩ rfl rfl rfl rfl rfl (by kernel_rfl) Try.func9 (by kernel_rfl)
    (of_decide_eq_true (by kernel_rfl)) (by unfold Func.isWrapper; first | (rw [if_pos (by decide +kernel)]; kernel_rfl) | (rw [if_neg (by decide +kernel)]; exact ⟨rfl, rfl⟩))
    (fun os started H enc _ => lifted os started H enc)

/-- THE STATEMENT -/
theorem proved : Rows.FnExactPathToSaid := over
end Go.Proofs.Ytkoccbjeoihbiaa.fnExactPathTo
