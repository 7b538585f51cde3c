/-
  The program's SerialSpan returns what the reference's SerialSpan returns, at all arguments, and leaves them as they were: the law FnExactSerialSpan returns true.
  Conditions: none.
-/
import Derived.Test.YtechmknclefenaaRows
import Derived.WalkKit
import Derived.ProofKit
import Derived.OpenShut
import Derived.ShutString
import Derived.ChangeOld
import Derived.Below
import Derived.Handy
import Derived.Test.YtechmknclefenaaSpan
import Derived.Test.YtechmknclefenaaOpen
namespace Go.Proofs.Ytechmknclefenaa.fnExactSerialSpan
open Go.ChangeShapes Go.WideShapes Go.ChangeAt Go.RowKit
open Go.ChangeMaps (open_string shut_string)
set_option linter.unusedVariables false

set_option maxHeartbeats 1000000 in
theorem walk (a0 : Int) (a1 : Int) (w : World) (w0 : (Lit.int .i64 a0).wf = true) (w1 : (Lit.int .i64 a1).wf = true) :
    Calls Try.prog 4 #[.int .i64 a0, .int .i64 a1] w fun e w' => e = .returned (.bool true) ∧ Below w.heap.size w w' := by
  have bel := Below.refl w.heap.size w
  clear w0 w1
  have hL : (sspanL a0 a1).length ≤ 100000 := sspanL_len a0 a1
  have CS := fun W => Lib.hid (c_specSerialSpan a0 a1 W)
  have CI := fun W => Lib.hid (c_implSerialSpan a0 a1 W)
  generalize sspanL a0 a1 = L at *
  go_enter Try.func4, Try.ntmps4
  go_wp2_with fail
  refine ((CS _).out).mono ?_
  rintro e w1 ⟨As, cs, rfl, os, bs⟩
  have is := Lib.hid os.ints
  clear os
  replace bel := bel.trans (bs.mono (Nat.le_refl _))
  have lew : w.heap.size ≤ w1.heap.size := bs.size
  clear bs CS
  go_wp2_with fail
  refine ((CI _).out).mono ?_
  rintro e w2 ⟨Ag, cg, rfl, og, bg⟩
  replace is := Lib.hid (is.out.keep bg)
  have le1 := bg.size
  replace bel := bel.trans (bg.mono bel.size)
  clear bg
  go_wp2_with fail
  refine (c_eqIntS Ag As _ _ L _ og.ints is.out (Nat.le_refl _) le1 (by omega)).mono ?_
  rintro e w3 ⟨rfl, bq⟩
  replace og := og.keep bq
  replace is := Lib.hid (is.out.keep (bq.mono le1))
  replace le1 := Nat.le_trans le1 bq.size
  replace bel := bel.trans (bq.mono bel.size)
  clear bq
  go_wp2_with fail
  refine (c_markIntS Ag _ L 1 _ og (by omega) (by omega) (by omega)).mono ?_
  rintro e w4 ⟨rfl, om, bm, hz⟩
  clear og
  replace is := Lib.hid (is.out.keep bm)
  replace le1 : w1.heap.size ≤ w4.heap.size := by rw [hz]; exact le1
  have im := Lib.hid om.ints
  clear om hz
  replace bel := bel.trans (bm.mono lew)
  clear bm
  go_wp2_with fail
  refine (c_heldIntS Ag _ L.length 1 _ im.out (by omega) (by omega) (by omega)).mono ?_
  rintro e _ ⟨rfl, rfl⟩
  go_wp2_with fail
  refine ((CI _).out).mono ?_
  rintro e w5 ⟨Ah, ch, rfl, oh, bh⟩
  clear CI
  have ih := Lib.hid oh.ints
  clear oh
  replace im := Lib.hid (im.out.keep bh)
  replace is := Lib.hid (is.out.keep (bh.mono le1))
  have le4 := bh.size
  replace bel := bel.trans (bh.mono bel.size)
  clear bh
  go_wp2_with fail
  refine (c_eqIntS Ah As _ _ L _ ih.out is.out (Nat.le_refl _) (Nat.le_trans le1 le4) (by omega)).mono ?_
  rintro e w6 ⟨rfl, bq⟩
  replace im := Lib.hid (im.out.keep (bq.mono le4))
  replace bel := bel.trans (bq.mono bel.size)
  clear bq is ih
  go_wp2_with fail
  refine (c_heldIntS Ag _ L.length 1 _ im.out (by omega) (by omega) (by omega)).mono ?_
  rintro e _ ⟨rfl, rfl⟩
  go_wp2
  go_ret
  exact ⟨rfl, bel⟩

theorem own : ownKnob Try.prog.godebug = none := by kernel_rfl
theorem laidOut : laidOutB Try.prog = true := by kernel_rfl

set_option maxRecDepth 100000 in
theorem lifted (os : Os) (started : os.Started) (H : Type) (enc : TypeId × Value → H) :
    ReturnsInHanded {} Try.checked os 4 .any (Rows.fnExactSerialSpanSpec.pre6 enc Try.prog Try.f4 Rows.fnExactSerialSpanRow.domain false) (Rows.fnExactSerialSpanSpec.post enc Try.prog Try.f4 false true false false) := by
  refine returnsInHanded_of_change (C := Try.checked) own started (by kernel_rfl) Try.func4
    (ChangeSpec.witness6 (enc := enc) (C := Try.checked) false ⟨#[], #[.int .i64 0, .int .i64 0], []⟩ 8 (by kernel_rfl) (by kernel_rfl) (by kernel_rfl) (by kernel_rfl)) ?_
  intro W base args ds gs before hval0 hW hcnd _
  have hval : ∀ (j : Nat) t v, Try.f4.params[j]? = some t → args[j]? = some v → Value.okWide Try.prog W .any base t v := hval0
  have hW' := hW
  obtain ⟨p, q, hA0, hV, rfl, hfz, hnd⟩ := hW
  have hA : DataW.TrodAll enc Try.prog W 0 (fun _ => true) true Try.f4.params.toList args.toList ds p := hA0
  rw [Try.params4] at hA hval
  obtain ⟨v0, vs0, d0, ds0, p0, q0, hargs, rfl, rfl, h0, r0⟩ := trodAll_cons hA
  obtain ⟨v1, vs1, d1, ds1, p1, q1, rfl, rfl, rfl, h1, r1⟩ := trodAll_cons r0
  obtain ⟨rfl, rfl, rfl⟩ := trodAll_nil r1
  obtain rfl : args = #[v0, v1] := by cases args; simp_all
  obtain ⟨rfl, rfl⟩ := trodVars_none hV
  obtain ⟨a0, rfl, rfl, rfl, w0⟩ := open_int Try.underlying3 (hval 0 3 v0 rfl rfl) h0
  obtain ⟨a1, rfl, rfl, rfl, w1⟩ := open_int Try.underlying3 (hval 1 3 v1 rfl rfl) h1
  clear hA0 hval0
  refine (walk a0 a1 W w0 w1).mono fun e W' ⟨he, bel⟩ => ?_
  subst he
  exact ⟨_, rfl, _, _, _, [], _, [], hW', trodAll_mk1 (shut_bool Try.underlying4 _), (trodAll_cons_mk (shut_int Try.underlying3 w0) (trodAll_cons_mk (shut_int Try.underlying3 w1) trodAll_mk0)), rfl, bel.frame _, fun h => by cases h⟩

theorem over : Rows.fnExactSerialSpanRow.holds Try.pinned (OpenSpec.ofChange Rows.fnExactSerialSpanSpec) :=
  OpenClaim.holds_of_wide 4 Try.f4 rfl rfl rfl rfl rfl rfl rfl ⟨rfl, rfl, rfl, rfl, rfl⟩ rfl rfl rfl rfl rfl (by kernel_rfl) Try.func4 (by kernel_rfl)
    (of_decide_eq_true (by kernel_rfl)) (by unfold Func.isWrapper; first | (rw [if_pos (by decide +kernel)]; kernel_rfl) | (rw [if_neg (by decide +kernel)]; exact ⟨rfl, rfl⟩))
    (fun os started H enc _ => lifted os started H enc)

/-- THE STATEMENT -/
theorem proved : Rows.FnExactSerialSpanSaid := over
end Go.Proofs.Ytechmknclefenaa.fnExactSerialSpan
