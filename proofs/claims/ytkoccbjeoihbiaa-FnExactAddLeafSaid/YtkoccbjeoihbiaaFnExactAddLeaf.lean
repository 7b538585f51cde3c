/-
  The program's AddLeaf returns what the reference's AddLeaf returns, at all arguments, and leaves them as they were: the law FnExactAddLeaf returns true.
  Conditions: none.
-/
import Derived.Test.YtkoccbjeoihbiaaRows
import Derived.WalkKit
import Derived.ProofKit
import Derived.OpenShut
import Derived.ShutString
import Derived.ChangeOld
import Derived.Below
import Derived.Handy
import Derived.Test.YtkoccbjeoihbiaaAdd
import Derived.Test.YtkoccbjeoihbiaaOpen
import Derived.Deep.RegionWith
namespace Go.Proofs.Ytkoccbjeoihbiaa.fnExactAddLeaf
open Go.ChangeShapes Go.WideShapes Go.ChangeAt Go.RowKit
open Go.ChangeMaps (open_string shut_string)
set_option linter.unusedVariables false

set_option maxRecDepth 100000 in
set_option maxHeartbeats 8000000 in
theorem walk (a0 : Option Addr) (cap0 : Nat) (z0 : List Int) (a1 : Int) (w : World) (w0 : Ints w w.heap.size a0 z0) (w1 : (Lit.int .i64 a1).wf = true) (m0 : z0.length ≤ 9223372036854775807) :
    Calls Try.prog 6 #[.agg #[.slice a0 z0.length cap0], .int .i64 a1] w fun e w' => e = .returned (.bool true) ∧ Below w.heap.size w w' := by
  clear w1
  by_cases hl0 : (z0.length : Int) ≤ 1048576
  rotate_left
  · have bel : Below w.heap.size w (w.alloc (.cells #[.slice a0 z0.length cap0] 49)) := (Below.refl _ _).alloc (Nat.le_refl _) _
    go_enter Try.func6, Try.ntmps6
    go_wp2_with fail
    refine (c_szTree _ _ _ _ _ m0 (by omega) (by omega)).mono ?_
    rintro e wz ⟨rfl, bz⟩
    replace bel := bel.trans (bz.mono bel.size)
    rw [if_pos (by omega)]
    go_wp2
    go_ret
    exact ⟨rfl, bel⟩
  have hL : (addL z0 a1).length ≤ 100000 := addL_len z0 a1
  generalize hLL : addL z0 a1 = L at *
  have HLL := Lib.hid hLL
  clear hLL
  have bel : Below w.heap.size w (w.alloc (.cells #[.slice a0 z0.length cap0] 49)) := (Below.refl _ _).alloc (Nat.le_refl _) _
  have hbox : (w.alloc (.cells #[.slice a0 z0.length cap0] 49)).cell? ⟨w.heap.size, 0, none⟩ = some (.slice a0 z0.length cap0) := new1_cell _ _ _
  have s0 : w.heap.size < (w.alloc (.cells #[.slice a0 z0.length cap0] 49)).heap.size := by simp
  replace w0 := w0.keep bel
  go_enter Try.func6, Try.ntmps6
  go_wp2_with fail
  generalize w.alloc (.cells #[.slice a0 z0.length cap0] 49) = W0 at *
  refine (c_szTree _ _ _ _ _ m0 (by omega) (by omega)).mono ?_
  rintro e wz ⟨rfl, bz⟩
  replace w0 := w0.keep (bz.mono (by omega))
  replace hbox := (bz.cell (p := ⟨w.heap.size, 0, none⟩) (show w.heap.size < _ by omega)).trans hbox
  replace bel := bel.trans (bz.mono (by omega))
  have s1 := bz.size
  clear bz
  rw [if_neg (by omega)]
  go_wp2_with fail
  refine (c_toTree _ _ z0 _ w0 (by omega) (by omega)).mono ?_
  rintro e vs ⟨As, cs, rfl, os, bbs⟩
  replace w0 := w0.keep (bbs.mono (by omega))
  replace hbox := (bbs.cell (p := ⟨w.heap.size, 0, none⟩) (show w.heap.size < _ by omega)).trans hbox
  replace bel := bel.trans (bbs.mono (by omega))
  have s2 := bbs.size
  clear bbs
  go_wp2_with fail
  have C := c_specAddLeaf As cs z0 a1 _ os.ints (Nat.le_refl _) (by omega)
  rw [HLL.out] at C
  refine C.mono ?_
  rintro e u1 ⟨Aw, cw, rfl, ow, b1⟩
  clear C
  clear os
  replace w0 := w0.keep (b1.mono (by omega))
  replace hbox := (b1.cell (p := ⟨w.heap.size, 0, none⟩) (show w.heap.size < _ by omega)).trans hbox
  replace bel := bel.trans (b1.mono (by omega))
  have s3 := b1.size
  clear b1
  have iw := ow.ints
  clear ow
  have hwb : (u1.alloc (.cells #[.slice Aw L.length cw] 51)).cell? ⟨u1.heap.size, 0, none⟩ = some (.slice Aw L.length cw) := new1_cell _ _ _
  have swb : u1.heap.size < (u1.alloc (.cells #[.slice Aw L.length cw] 51)).heap.size := by simp
  have bwb : Below u1.heap.size u1 (u1.alloc (.cells #[.slice Aw L.length cw] 51)) := (Below.refl _ _).alloc (Nat.le_refl _) _
  replace w0 := w0.keep (bwb.mono (by omega))
  replace iw := iw.keep (bwb.mono (by omega))
  replace hbox := (bwb.cell (p := ⟨w.heap.size, 0, none⟩) (show w.heap.size < _ by omega)).trans hbox
  replace bel := bel.trans (bwb.mono (by omega))
  have s4 := bwb.size
  clear bwb
  go_wp2_with fail
  generalize u1.alloc (.cells #[.slice Aw L.length cw] 51) = u1a at *
  go_wp2_with fail
  refine (c_toTree _ _ z0 _ w0 (by omega) (by omega)).mono ?_
  rintro e vx ⟨Ax, cx, rfl, ox, bbx⟩
  replace w0 := w0.keep (bbx.mono (by omega))
  replace iw := iw.keep (bbx.mono (by omega))
  replace hbox := (bbx.cell (p := ⟨w.heap.size, 0, none⟩) (show w.heap.size < _ by omega)).trans hbox
  replace hwb := (bbx.cell (p := ⟨u1.heap.size, 0, none⟩) (show u1.heap.size < _ by omega)).trans hwb
  replace bel := bel.trans (bbx.mono (by omega))
  have s5 := bbx.size
  clear bbx
  have hxb : (vx.alloc (.cells #[.slice Ax z0.length cx] 51)).cell? ⟨vx.heap.size, 0, none⟩ = some (.slice Ax z0.length cx) := new1_cell _ _ _
  have sxb : vx.heap.size < (vx.alloc (.cells #[.slice Ax z0.length cx] 51)).heap.size := by simp
  have bxb : Below vx.heap.size vx (vx.alloc (.cells #[.slice Ax z0.length cx] 51)) := (Below.refl _ _).alloc (Nat.le_refl _) _
  replace w0 := w0.keep (bxb.mono (by omega))
  replace iw := iw.keep (bxb.mono (by omega))
  replace ox := ox.keep bxb
  replace hbox := (bxb.cell (p := ⟨w.heap.size, 0, none⟩) (show w.heap.size < _ by omega)).trans hbox
  replace hwb := (bxb.cell (p := ⟨u1.heap.size, 0, none⟩) (show u1.heap.size < _ by omega)).trans hwb
  replace bel := bel.trans (bxb.mono (by omega))
  have s6 := bxb.size
  clear bxb
  go_wp2_with fail
  generalize vx.alloc (.cells #[.slice Ax z0.length cx] 51) = vxa at *
  have tx := ox.top
  have ix := ox.ints
  go_wp2_with fail
  have C := c_implAddLeaf Ax cx z0 a1 _ ox.ints (Nat.le_refl _) (by omega)
  rw [HLL.out] at C
  refine C.mono ?_
  rintro e u2 ⟨Ag, cg, rfl, og, b2⟩
  clear C
  replace w0 := w0.keep (b2.mono (by omega))
  replace iw := iw.keep (b2.mono (by omega))
  replace ix := ix.keep (b2.mono (by omega))
  replace ox := ox.keep b2
  replace hbox := (b2.cell (p := ⟨w.heap.size, 0, none⟩) (show w.heap.size < _ by omega)).trans hbox
  replace hwb := (b2.cell (p := ⟨u1.heap.size, 0, none⟩) (show u1.heap.size < _ by omega)).trans hwb
  replace hxb := (b2.cell (p := ⟨vx.heap.size, 0, none⟩) (show vx.heap.size < _ by omega)).trans hxb
  replace bel := bel.trans (b2.mono (by omega))
  have s7 := b2.size
  clear b2
  have tg := og.top
  have hgb : (u2.alloc (.cells #[.slice Ag L.length cg] 51)).cell? ⟨u2.heap.size, 0, none⟩ = some (.slice Ag L.length cg) := new1_cell _ _ _
  have sgb : u2.heap.size < (u2.alloc (.cells #[.slice Ag L.length cg] 51)).heap.size := by simp
  have bgb : Below u2.heap.size u2 (u2.alloc (.cells #[.slice Ag L.length cg] 51)) := (Below.refl _ _).alloc (Nat.le_refl _) _
  replace w0 := w0.keep (bgb.mono (by omega))
  replace iw := iw.keep (bgb.mono (by omega))
  replace ix := ix.keep (bgb.mono (by omega))
  replace ox := ox.keep bgb
  replace og := og.keep bgb
  replace hbox := (bgb.cell (p := ⟨w.heap.size, 0, none⟩) (show w.heap.size < _ by omega)).trans hbox
  replace hwb := (bgb.cell (p := ⟨u1.heap.size, 0, none⟩) (show u1.heap.size < _ by omega)).trans hwb
  replace hxb := (bgb.cell (p := ⟨vx.heap.size, 0, none⟩) (show vx.heap.size < _ by omega)).trans hxb
  replace bel := bel.trans (bgb.mono (by omega))
  have s8 := bgb.size
  clear bgb
  go_wp2_with fail
  generalize u2.alloc (.cells #[.slice Ag L.length cg] 51) = u2a at *
  go_wp2_with fail
  refine (c_eqTree Ag Aw _ _ L _ og.ints iw (by omega) (by omega) (by omega)).mono ?_
  rintro e u3 ⟨rfl, b3⟩
  replace w0 := w0.keep (b3.mono (by omega))
  replace iw := iw.keep (b3.mono (by omega))
  replace ix := ix.keep (b3.mono (by omega))
  replace ox := ox.keep b3
  replace og := og.keep b3
  replace hbox := (b3.cell (p := ⟨w.heap.size, 0, none⟩) (show w.heap.size < _ by omega)).trans hbox
  replace hwb := (b3.cell (p := ⟨u1.heap.size, 0, none⟩) (show u1.heap.size < _ by omega)).trans hwb
  replace hxb := (b3.cell (p := ⟨vx.heap.size, 0, none⟩) (show vx.heap.size < _ by omega)).trans hxb
  replace hgb := (b3.cell (p := ⟨u2.heap.size, 0, none⟩) (show u2.heap.size < _ by omega)).trans hgb
  replace bel := bel.trans (b3.mono (by omega))
  have s9 := b3.size
  clear b3
  go_wp2
  have bd : Below u3.heap.size u3 u3.drew := (Below.refl _ _).drew
  replace w0 := w0.keep (bd.mono (by omega))
  replace iw := iw.keep (bd.mono (by omega))
  replace ix := ix.keep (bd.mono (by omega))
  replace ox := ox.keep bd
  replace og := og.keep bd
  replace hbox := (bd.cell (p := ⟨w.heap.size, 0, none⟩) (show w.heap.size < _ by omega)).trans hbox
  replace hwb := (bd.cell (p := ⟨u1.heap.size, 0, none⟩) (show u1.heap.size < _ by omega)).trans hwb
  replace hxb := (bd.cell (p := ⟨vx.heap.size, 0, none⟩) (show vx.heap.size < _ by omega)).trans hxb
  replace hgb := (bd.cell (p := ⟨u2.heap.size, 0, none⟩) (show u2.heap.size < _ by omega)).trans hgb
  replace bel := bel.trans (bd.mono (by omega))
  have s10 := bd.size
  clear bd
  go_region_with (first | (go_at_call 43; refine (c_toTree _ _ z0 _ w0 (by omega) (by omega)).mono ?_; rintro e vy ⟨Ay, cy, rfl, oy, by1⟩; have iy := oy.ints; clear oy; replace w0 := w0.keep (by1.mono (by omega)); replace iw := iw.keep (by1.mono (by omega)); replace ix := ix.keep (by1.mono (by omega)); replace ox := ox.keep by1; replace og := og.keep by1; replace hbox := (by1.cell (p := ⟨w.heap.size, 0, none⟩) (show w.heap.size < _ by omega)).trans hbox; replace hwb := (by1.cell (p := ⟨u1.heap.size, 0, none⟩) (show u1.heap.size < _ by omega)).trans hwb; replace hxb := (by1.cell (p := ⟨vx.heap.size, 0, none⟩) (show vx.heap.size < _ by omega)).trans hxb; replace hgb := (by1.cell (p := ⟨u2.heap.size, 0, none⟩) (show u2.heap.size < _ by omega)).trans hgb; replace bel := bel.trans (by1.mono (by omega)); have s11 := by1.size; clear by1) | (go_at_call 45; refine (c_eqTree _ _ _ _ z0 _ ix iy (by omega) (by omega) (by omega)).mono ?_; rintro e u4 ⟨rfl, by2⟩; replace w0 := w0.keep (by2.mono (by omega)); replace iw := iw.keep (by2.mono (by omega)); replace ix := ix.keep (by2.mono (by omega)); replace iy := iy.keep (by2.mono (by omega)); replace ox := ox.keep by2; replace og := og.keep by2; replace hbox := (by2.cell (p := ⟨w.heap.size, 0, none⟩) (show w.heap.size < _ by omega)).trans hbox; replace hwb := (by2.cell (p := ⟨u1.heap.size, 0, none⟩) (show u1.heap.size < _ by omega)).trans hwb; replace hxb := (by2.cell (p := ⟨vx.heap.size, 0, none⟩) (show vx.heap.size < _ by omega)).trans hxb; replace hgb := (by2.cell (p := ⟨u2.heap.size, 0, none⟩) (show u2.heap.size < _ by omega)).trans hgb; replace bel := bel.trans (by2.mono (by omega)); have s12 := by2.size; clear by2))
  all_goals
    clear iy
    clear ix
    go_wp2_with fail
    refine (c_markTree Ax _ z0 1 _ ox (by omega) (by omega) (by omega) (by omega)).mono ?_
    rintro e u5 ⟨rfl, _, bm, hz, hg⟩
    clear ox
    replace w0 := w0.keep (bm.mono (by omega))
    replace iw := iw.keep (bm.mono (by omega))
    replace hbox := (bm.cell (p := ⟨w.heap.size, 0, none⟩) (show w.heap.size < _ by omega)).trans hbox
    replace hwb := (bm.cell (p := ⟨u1.heap.size, 0, none⟩) (show u1.heap.size < _ by omega)).trans hwb
    clear hxb
    replace hgb := hg.cell hgb (fun e => by have := tx _ e.symm; dsimp only at this; omega)
    replace og := og.far hg tx (by omega)
    replace bel := bel.trans (bm.mono (by omega))
    have hz1 : u4.heap.size ≤ u5.heap.size := by omega
    clear bm hg hz tx
    go_wp2_with fail
    refine (c_eqTree Ag Aw _ _ L _ og.ints iw (by omega) (by omega) (by omega)).mono ?_
    rintro e u6 ⟨rfl, b6⟩
    replace w0 := w0.keep (b6.mono (by omega))
    replace iw := iw.keep (b6.mono (by omega))
    replace og := og.keep b6
    replace hbox := (b6.cell (p := ⟨w.heap.size, 0, none⟩) (show w.heap.size < _ by omega)).trans hbox
    replace hwb := (b6.cell (p := ⟨u1.heap.size, 0, none⟩) (show u1.heap.size < _ by omega)).trans hwb
    replace hgb := (b6.cell (p := ⟨u2.heap.size, 0, none⟩) (show u2.heap.size < _ by omega)).trans hgb
    replace bel := bel.trans (b6.mono (by omega))
    have s13 := b6.size
    clear b6
    go_wp2_with fail
    refine (c_markTree Ag _ L 1 _ og (by omega) (by omega) (by omega) (by omega)).mono ?_
    rintro e u7 ⟨rfl, om, bm, hz, hg⟩
    clear og
    replace w0 := w0.keep (bm.mono (by omega))
    replace iw := iw.keep (bm.mono (by omega))
    replace hbox := (bm.cell (p := ⟨w.heap.size, 0, none⟩) (show w.heap.size < _ by omega)).trans hbox
    replace hwb := (bm.cell (p := ⟨u1.heap.size, 0, none⟩) (show u1.heap.size < _ by omega)).trans hwb
    replace hgb := hg.cell hgb (fun e => by have := tg _ e.symm; dsimp only at this; omega)
    replace bel := bel.trans (bm.mono (by omega))
    have hz2 : u6.heap.size ≤ u7.heap.size := by omega
    clear bm hg hz tg
    have im := om.ints
    clear om
    go_wp2_with fail
    refine (c_heldTree Ag _ L.length 1 _ im (by omega) (by omega) (by omega) (by omega)).mono ?_
    rintro e u71 ⟨rfl, b71⟩
    replace w0 := w0.keep (b71.mono (by omega))
    replace iw := iw.keep (b71.mono (by omega))
    replace im := im.keep (b71.mono (by omega))
    replace hbox := (b71.cell (p := ⟨w.heap.size, 0, none⟩) (show w.heap.size < _ by omega)).trans hbox
    replace hwb := (b71.cell (p := ⟨u1.heap.size, 0, none⟩) (show u1.heap.size < _ by omega)).trans hwb
    replace hgb := (b71.cell (p := ⟨u2.heap.size, 0, none⟩) (show u2.heap.size < _ by omega)).trans hgb
    replace bel := bel.trans (b71.mono (by omega))
    have s14 := b71.size
    clear b71
    go_wp2_with fail
    refine (c_toTree _ _ z0 _ w0 (by omega) (by omega)).mono ?_
    rintro e vh ⟨Ah, ch, rfl, oh, bbh⟩
    replace w0 := w0.keep (bbh.mono (by omega))
    replace iw := iw.keep (bbh.mono (by omega))
    replace im := im.keep (bbh.mono (by omega))
    replace hbox := (bbh.cell (p := ⟨w.heap.size, 0, none⟩) (show w.heap.size < _ by omega)).trans hbox
    replace hwb := (bbh.cell (p := ⟨u1.heap.size, 0, none⟩) (show u1.heap.size < _ by omega)).trans hwb
    replace hgb := (bbh.cell (p := ⟨u2.heap.size, 0, none⟩) (show u2.heap.size < _ by omega)).trans hgb
    replace bel := bel.trans (bbh.mono (by omega))
    have s15 := bbh.size
    clear bbh
    go_wp2_with fail
    have C := c_implAddLeaf Ah ch z0 a1 _ oh.ints (Nat.le_refl _) (by omega)
    rw [HLL.out] at C
    refine C.mono ?_
    rintro e u8 ⟨Ar, cr, rfl, orr, b8⟩
    clear C
    clear oh
    replace w0 := w0.keep (b8.mono (by omega))
    replace iw := iw.keep (b8.mono (by omega))
    replace im := im.keep (b8.mono (by omega))
    replace hbox := (b8.cell (p := ⟨w.heap.size, 0, none⟩) (show w.heap.size < _ by omega)).trans hbox
    replace hwb := (b8.cell (p := ⟨u1.heap.size, 0, none⟩) (show u1.heap.size < _ by omega)).trans hwb
    replace hgb := (b8.cell (p := ⟨u2.heap.size, 0, none⟩) (show u2.heap.size < _ by omega)).trans hgb
    replace bel := bel.trans (b8.mono (by omega))
    have s16 := b8.size
    clear b8
    have ir := orr.ints
    clear orr
    have hrb : (u8.alloc (.cells #[.slice Ar L.length cr] 51)).cell? ⟨u8.heap.size, 0, none⟩ = some (.slice Ar L.length cr) := new1_cell _ _ _
    have srb : u8.heap.size < (u8.alloc (.cells #[.slice Ar L.length cr] 51)).heap.size := by simp
    have brb : Below u8.heap.size u8 (u8.alloc (.cells #[.slice Ar L.length cr] 51)) := (Below.refl _ _).alloc (Nat.le_refl _) _
    replace w0 := w0.keep (brb.mono (by omega))
    replace iw := iw.keep (brb.mono (by omega))
    replace im := im.keep (brb.mono (by omega))
    replace ir := ir.keep (brb.mono (by omega))
    replace hbox := (brb.cell (p := ⟨w.heap.size, 0, none⟩) (show w.heap.size < _ by omega)).trans hbox
    replace hwb := (brb.cell (p := ⟨u1.heap.size, 0, none⟩) (show u1.heap.size < _ by omega)).trans hwb
    replace hgb := (brb.cell (p := ⟨u2.heap.size, 0, none⟩) (show u2.heap.size < _ by omega)).trans hgb
    replace bel := bel.trans (brb.mono (by omega))
    have s17 := brb.size
    clear brb
    go_wp2_with fail
    generalize u8.alloc (.cells #[.slice Ar L.length cr] 51) = u8a at *
    go_wp2_with fail
    refine (c_eqTree Ar Aw _ _ L _ ir iw (by omega) (by omega) (by omega)).mono ?_
    rintro e u9 ⟨rfl, b9⟩
    replace w0 := w0.keep (b9.mono (by omega))
    replace iw := iw.keep (b9.mono (by omega))
    replace im := im.keep (b9.mono (by omega))
    replace ir := ir.keep (b9.mono (by omega))
    replace hbox := (b9.cell (p := ⟨w.heap.size, 0, none⟩) (show w.heap.size < _ by omega)).trans hbox
    replace hwb := (b9.cell (p := ⟨u1.heap.size, 0, none⟩) (show u1.heap.size < _ by omega)).trans hwb
    replace hgb := (b9.cell (p := ⟨u2.heap.size, 0, none⟩) (show u2.heap.size < _ by omega)).trans hgb
    replace hrb := (b9.cell (p := ⟨u8.heap.size, 0, none⟩) (show u8.heap.size < _ by omega)).trans hrb
    replace bel := bel.trans (b9.mono (by omega))
    have s18 := b9.size
    clear b9
    go_wp2_with fail
    refine (c_heldTree Ag _ L.length 1 _ im (by omega) (by omega) (by omega) (by omega)).mono ?_
    rintro e u10 ⟨rfl, b10⟩
    replace w0 := w0.keep (b10.mono (by omega))
    replace iw := iw.keep (b10.mono (by omega))
    replace im := im.keep (b10.mono (by omega))
    replace ir := ir.keep (b10.mono (by omega))
    replace hbox := (b10.cell (p := ⟨w.heap.size, 0, none⟩) (show w.heap.size < _ by omega)).trans hbox
    replace hwb := (b10.cell (p := ⟨u1.heap.size, 0, none⟩) (show u1.heap.size < _ by omega)).trans hwb
    replace hgb := (b10.cell (p := ⟨u2.heap.size, 0, none⟩) (show u2.heap.size < _ by omega)).trans hgb
    replace hrb := (b10.cell (p := ⟨u8.heap.size, 0, none⟩) (show u8.heap.size < _ by omega)).trans hrb
    replace bel := bel.trans (b10.mono (by omega))
    have s19 := b10.size
    clear b10
    go_wp2
    go_ret
    exact ⟨rfl, bel⟩

theorem own : ownKnob Try.prog.godebug = none := by kernel_rfl
theorem laidOut : laidOutB Try.prog = true := by kernel_rfl

set_option maxRecDepth 100000 in
theorem lifted (os : Os) (started : os.Started) (H : Type) (enc : TypeId × Value → H) :
    ReturnsInHanded {} Try.checked os 6 .any (Rows.fnExactAddLeafSpec.pre6 enc Try.prog Try.f6 Rows.fnExactAddLeafRow.domain false) (Rows.fnExactAddLeafSpec.post enc Try.prog Try.f6 false true false false) := by
  refine returnsInHanded_of_change (C := Try.checked) own started (by kernel_rfl) Try.func6
    (ChangeSpec.witness6 (enc := enc) (C := Try.checked) false ⟨#[], #[.agg #[.slice none 0 0], .int .i64 0], []⟩ 8 (by kernel_rfl) (by kernel_rfl) (by kernel_rfl) (by kernel_rfl)) ?_
  intro W base args ds gs before hval0 hW hcnd _
  have hval : ∀ (j : Nat) t v, Try.f6.params[j]? = some t → args[j]? = some v → Value.okWide Try.prog W .any base t v := hval0
  have hW' := hW
  obtain ⟨p, q, hA0, hV, rfl, hfz, hnd⟩ := hW
  have hA : DataW.TrodAll enc Try.prog W 0 (fun _ => true) true Try.f6.params.toList args.toList ds p := hA0
  rw [Try.params6] at hA hval
  obtain ⟨v0, vs0, d0, ds0, p0, q0, hargs, rfl, rfl, h0, r0⟩ := trodAll_cons hA
  obtain ⟨v1, vs1, d1, ds1, p1, q1, rfl, rfl, rfl, h1, r1⟩ := trodAll_cons r0
  obtain ⟨rfl, rfl, rfl⟩ := trodAll_nil r1
  obtain rfl : args = #[v0, v1] := by cases args; simp_all
  obtain ⟨rfl, rfl⟩ := trodVars_none hV
  have k0 := h0
  have lt0 : ∀ x ∈ p0, x.block < W.heap.size := by obtain ⟨m, hm⟩ := k0; exact DataW.trod_lt m _ _ _ hm
  obtain ⟨a0, cap0, z0, rfl, w0, m0, f0⟩ := open_tree (hval 0 49 v0 rfl rfl) h0
  obtain ⟨a1, rfl, rfl, rfl, w1⟩ := open_int Try.underlying3 (hval 1 3 v1 rfl rfl) h1
  clear hA0 hval0
  refine (walk a0 cap0 z0 a1 W w0 w1 m0).mono fun e W' ⟨he, bel⟩ => ?_
  subst he
  exact ⟨_, rfl, _, _, _, [], _, [], hW', trodAll_mk1 (shut_bool Try.underlying4 _), (trodAll_cons_mk (Below.trod laidOut (by kernel_rfl) (of_decide_eq_true (by kernel_rfl)) k0 bel lt0) (trodAll_cons_mk (shut_int Try.underlying3 w1) trodAll_mk0)), rfl, bel.frame _, fun h => by cases h⟩

theorem over : Rows.fnExactAddLeafRow.holds Try.pinned (OpenSpec.ofChange Rows.fnExactAddLeafSpec) :=
  OpenClaim.holds_of_wide 6 Try.f6 rfl rfl rfl rfl rfl rfl rfl ⟨rfl, rfl, rfl, rfl, rfl⟩ rfl rfl rfl rfl rfl (by kernel_rfl) Try.func6 (by kernel_rfl)
    (of_decide_eq_true (by kernel_rfl)) (by unfold Func.isWrapper; first | (rw [if_pos (by decide +kernel)]; kernel_rfl) | (rw [if_neg (by decide +kernel)]; exact ⟨rfl, rfl⟩))
    (fun os started H enc _ => lifted os started H enc)

/-- THE STATEMENT -/
theorem proved : Rows.FnExactAddLeafSaid := over
end Go.Proofs.Ytkoccbjeoihbiaa.fnExactAddLeaf
