/-
  The program's WordsOf returns what the reference's WordsOf returns, at all arguments, and leaves them as they were: the law FnExactWordsOf returns true.
  Conditions: none.
-/
import Derived.Test.YtechmknclefenaaRows
import Derived.WalkKit
import Derived.ProofKit
import Derived.OpenShut
import Derived.ShutString
import Derived.ChangeOld
import Derived.Below
import Derived.Handy
import Derived.Test.YtechmknclefenaaText
import Derived.Test.YtechmknclefenaaOpen
namespace Go.Proofs.Ytechmknclefenaa.fnExactWordsOf
open Go.ChangeShapes Go.WideShapes Go.ChangeAt Go.RowKit
open Go.ChangeMaps (open_string shut_string)
set_option linter.unusedVariables false

set_option maxHeartbeats 1000000 in
theorem walk (a0 : ByteArray) (w : World) (w0 : a0.size ≤ maxLen) :
    Calls Try.prog 3 #[.string a0] w fun e w' => e = .returned (.bool true) ∧ Below w.heap.size w w' := by
  have bel := Below.refl w.heap.size w
  by_cases hl0 : (a0.size : Int) ≤ 1048576
  rotate_left
  · go_enter Try.func3, Try.ntmps3
    go_wp2
    go_ret
    exact ⟨rfl, bel⟩
  clear w0
  have hL : (wordsR a0).length ≤ 100000 := wordsR_len a0
  have CS := fun W => Lib.hid (c_specWordsOf a0 W)
  have CI := fun W => Lib.hid (c_implWordsOf a0 W)
  generalize wordsR a0 = L at *
  go_enter Try.func3, Try.ntmps3
  go_wp2_with fail
  refine ((CS _).out).mono ?_
  rintro e w1 ⟨As, cs, rfl, os, bs⟩
  have is := Lib.hid os.ints
  clear os
  replace bel := bel.trans (bs.mono (Nat.le_refl _))
  have lew : w.heap.size ≤ w1.heap.size := bs.size
  clear bs CS
  go_wp2_with fail
  refine ((CI _).out).mono ?_
  rintro e w2 ⟨Ag, cg, rfl, og, bg⟩
  replace is := Lib.hid (is.out.keep bg)
  have le1 := bg.size
  replace bel := bel.trans (bg.mono bel.size)
  clear bg
  go_wp2_with fail
  refine (c_eqIntS Ag As _ _ L _ og.ints is.out (Nat.le_refl _) le1 (by omega)).mono ?_
  rintro e w3 ⟨rfl, bq⟩
  replace og := og.keep bq
  replace is := Lib.hid (is.out.keep (bq.mono le1))
  replace le1 := Nat.le_trans le1 bq.size
  replace bel := bel.trans (bq.mono bel.size)
  clear bq
  go_wp2_with fail
  refine (c_markIntS Ag _ L 1 _ og (by omega) (by omega) (by omega)).mono ?_
  rintro e w4 ⟨rfl, om, bm, hz⟩
  clear og
  replace is := Lib.hid (is.out.keep bm)
  replace le1 : w1.heap.size ≤ w4.heap.size := by rw [hz]; exact le1
  have im := Lib.hid om.ints
  clear om hz
  replace bel := bel.trans (bm.mono lew)
  clear bm
  go_wp2_with fail
  refine (c_heldIntS Ag _ L.length 1 _ im.out (by omega) (by omega) (by omega)).mono ?_
  rintro e _ ⟨rfl, rfl⟩
  go_wp2_with fail
  refine ((CI _).out).mono ?_
  rintro e w5 ⟨Ah, ch, rfl, oh, bh⟩
  clear CI
  have ih := Lib.hid oh.ints
  clear oh
  replace im := Lib.hid (im.out.keep bh)
  replace is := Lib.hid (is.out.keep (bh.mono le1))
  have le4 := bh.size
  replace bel := bel.trans (bh.mono bel.size)
  clear bh
  go_wp2_with fail
  refine (c_eqIntS Ah As _ _ L _ ih.out is.out (Nat.le_refl _) (Nat.le_trans le1 le4) (by omega)).mono ?_
  rintro e w6 ⟨rfl, bq⟩
  replace im := Lib.hid (im.out.keep (bq.mono le4))
  replace bel := bel.trans (bq.mono bel.size)
  clear bq is ih
  go_wp2_with fail
  refine (c_heldIntS Ag _ L.length 1 _ im.out (by omega) (by omega) (by omega)).mono ?_
  rintro e _ ⟨rfl, rfl⟩
  go_wp2
  go_ret
  exact ⟨rfl, bel⟩

theorem own : ownKnob Try.prog.godebug = none := by kernel_rfl
theorem laidOut : laidOutB Try.prog = true := by kernel_rfl

set_option maxRecDepth 100000 in
theorem lifted (os : Os) (started : os.Started) (H : Type) (enc : TypeId × Value → H) :
    ReturnsInHanded {} Try.checked os 3 .any (Rows.fnExactWordsOfSpec.pre6 enc Try.prog Try.f3 Rows.fnExactWordsOfRow.domain false) (Rows.fnExactWordsOfSpec.post enc Try.prog Try.f3 false true false false) := by
  refine returnsInHanded_of_change (C := Try.checked) own started (by kernel_rfl) Try.func3
    (ChangeSpec.witness6 (enc := enc) (C := Try.checked) false ⟨#[], #[.string ByteArray.empty], []⟩ 8 (by kernel_rfl) (by kernel_rfl) (by kernel_rfl) (by kernel_rfl)) ?_
  intro W base args ds gs before hval0 hW hcnd _
  have hval : ∀ (j : Nat) t v, Try.f3.params[j]? = some t → args[j]? = some v → Value.okWide Try.prog W .any base t v := hval0
  have hW' := hW
  obtain ⟨p, q, hA0, hV, rfl, hfz, hnd⟩ := hW
  have hA : DataW.TrodAll enc Try.prog W 0 (fun _ => true) true Try.f3.params.toList args.toList ds p := hA0
  rw [Try.params3] at hA hval
  obtain ⟨v0, vs0, d0, ds0, p0, q0, hargs, rfl, rfl, h0, r0⟩ := trodAll_cons hA
  obtain ⟨rfl, rfl, rfl⟩ := trodAll_nil r0
  obtain rfl : args = #[v0] := by cases args; simp_all
  obtain ⟨rfl, rfl⟩ := trodVars_none hV
  obtain ⟨a0, rfl, rfl, rfl, w0⟩ := open_string Try.underlying9 (hval 0 9 v0 rfl rfl) h0
  clear hA0 hval0
  refine (walk a0 W w0).mono fun e W' ⟨he, bel⟩ => ?_
  subst he
  exact ⟨_, rfl, _, _, _, [], _, [], hW', trodAll_mk1 (shut_bool Try.underlying4 _), (trodAll_cons_mk (shut_string Try.underlying9 w0) trodAll_mk0), rfl, bel.frame _, fun h => by cases h⟩

theorem over : Rows.fnExactWordsOfRow.holds Try.pinned (OpenSpec.ofChange Rows.fnExactWordsOfSpec) :=
  OpenClaim.holds_of_wide 3 Try.f3 rfl rfl rfl rfl rfl rfl rfl ⟨rfl, rfl, rfl, rfl, rfl⟩ rfl rfl rfl rfl rfl (by kernel_rfl) Try.func3 (by kernel_rfl)
    (of_decide_eq_true (by kernel_rfl)) (by unfold Func.isWrapper; first | (rw [if_pos (by decide +kernel)]; kernel_rfl) | (rw [if_neg (by decide +kernel)]; exact ⟨rfl, rfl⟩))
    (fun os started H enc _ => lifted os started H enc)

/-- THE STATEMENT -/
theorem proved : Rows.FnExactWordsOfSaid := over
end Go.Proofs.Ytechmknclefenaa.fnExactWordsOf
