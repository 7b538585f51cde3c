/-
  The program's SplitString returns what the reference's SplitString returns, at all arguments, in memory of its own: the law FnExactSplitString returns true.
  Conditions: none.
-/
import Derived.Test.YtnbgjkblhbpjlaaDoorRows
import Derived.WalkKit
import Derived.ProofKit
import Derived.OpenShut
import Derived.ShutString
import Derived.ChangeOld
import Derived.Below
import Derived.Handy
import Derived.Test.YtnbgjkblhbpjlaaDoorWrap
import Derived.Test.YtnbgjkblhbpjlaaDoorCards
import Derived.Test.YtnbgjkblhbpjlaaDoorTie
import Derived.SevenTiedAt
import Derived.Test.YtnbgjkblhbpjlaaDoorSplit
import Derived.Test.YtnbgjkblhbpjlaaDoorOpen
namespace Go.Proofs.YtnbgjkblhbpjlaaDoor.fnExactSplitString
open Go.ChangeShapes Go.WideShapes Go.ChangeAt Go.RowKit
open Go.ChangeMaps (open_string shut_string)
set_option linter.unusedVariables false

set_option maxRecDepth 100000 in
set_option maxHeartbeats 2000000 in
theorem walk (a0 a1 : ByteArray) (w : World) (w0 : a0.size ≤ maxLen) (w1 : a1.size ≤ maxLen) (np : MaxW w w.heap.size) :
    Calls Tryd.prog 4 #[.string a0, .string a1] w fun e w' => e = .returned (.bool true) ∧ Below w.heap.size w w' := by
  have bel := Below.refl w.heap.size w
  by_cases hl0 : (a0.size : Int) ≤ 1048576
  rotate_left
  · go_enter Tryd.func4, Tryd.ntmps4
    go_wp2
    go_ret
    exact ⟨rfl, bel⟩
  by_cases hl1 : (a1.size : Int) ≤ 1048576
  rotate_left
  · go_enter Tryd.func4, Tryd.ntmps4
    go_wp2
    go_ret
    exact ⟨rfl, bel⟩
  clear w0 w1
  have hL : (splR a0 a1).length ≤ 100000 := splR_len a0 a1
  have CS := fun W => Lib.hid (c_specSplitString a0 a1 W (by omega) (by omega))
  have CI := fun W (h : MaxW W w.heap.size) => Lib.hid (c_implSplitString a0 a1 W h (by omega) (by omega))
  have NP := Lib.hid np
  clear np
  generalize splR a0 a1 = L at *
  generalize splOk a0 a1 = ok at *
  go_enter Tryd.func4, Tryd.ntmps4
  go_wp2_with fail
  refine ((CS _).out).mono ?_
  rintro e w1 ⟨As, cs, rfl, os, bs⟩
  have is := Lib.hid os.strs
  clear os
  replace bel := bel.trans (bs.mono (Nat.le_refl _))
  have lew : w.heap.size ≤ w1.heap.size := bs.size
  clear bs CS
  go_wp2_with fail
  refine ((CI _ (NP.out.keep bel (Nat.le_refl _))).out).mono ?_
  rintro e w2 ⟨Ag, cg, rfl, og, bg⟩
  replace is := Lib.hid (is.out.keep bg)
  have le1 := bg.size
  replace bel := bel.trans (bg.mono bel.size)
  clear bg
  go_wp2_with fail
  refine (c_eqStringS Ag As _ _ L _ og.strs is.out (Nat.le_refl _) le1 (by omega)).mono ?_
  rintro e w3 ⟨rfl, bq⟩
  replace og := og.keep bq
  replace is := Lib.hid (is.out.keep (bq.mono le1))
  replace le1 := Nat.le_trans le1 bq.size
  replace bel := bel.trans (bq.mono bel.size)
  clear bq
  go_wp2_with fail
  refine (c_markStringS Ag _ L 1 _ og le1 (by omega) (by omega) (by omega)).mono ?_
  rintro e w4 ⟨rfl, om, bm, hz, _⟩
  clear og
  replace is := Lib.hid (is.out.keep bm)
  replace le1 : w1.heap.size ≤ w4.heap.size := Nat.le_trans le1 hz
  have im := Lib.hid om.strs
  clear om hz
  replace bel := bel.trans (bm.mono lew)
  clear bm
  go_wp2_with fail
  refine (c_heldStringS Ag _ L.length 1 _ im.out (Nat.le_refl _) (by omega) (by omega) (by omega)).mono ?_
  rintro e w45 ⟨rfl, bz⟩
  have le3 := bz.size
  replace im := Lib.hid (im.out.keep bz)
  replace is := Lib.hid (is.out.keep (bz.mono le1))
  replace le1 := Nat.le_trans le1 le3
  replace bel := bel.trans (bz.mono bel.size)
  clear bz
  go_wp2_with fail
  refine ((CI _ (NP.out.keep bel (Nat.le_refl _))).out).mono ?_
  rintro e w5 ⟨Ah, ch, rfl, oh, bh⟩
  clear CI
  have ih := Lib.hid oh.strs
  clear oh
  replace im := Lib.hid (im.out.keep (bh.mono le3))
  replace is := Lib.hid (is.out.keep (bh.mono le1))
  have le4 := bh.size
  replace bel := bel.trans (bh.mono bel.size)
  clear bh
  go_wp2_with fail
  refine (c_eqStringS Ah As _ _ L _ ih.out is.out (Nat.le_refl _) (Nat.le_trans le1 le4) (by omega)).mono ?_
  rintro e w6 ⟨rfl, bq⟩
  replace im := Lib.hid (im.out.keep (bq.mono (Nat.le_trans le3 le4)))
  have le5 := bq.size
  replace bel := bel.trans (bq.mono bel.size)
  clear bq is ih
  go_wp2_with fail
  refine (c_heldStringS Ag _ L.length 1 _ im.out (by omega) (by omega) (by omega) (by omega)).mono ?_
  rintro e w7 ⟨rfl, bz⟩
  replace bel := bel.trans (bz.mono bel.size)
  clear bz
  go_wp2
  go_ret
  exact ⟨rfl, bel⟩

theorem own : ownKnob Tryd.prog.godebug = none := by kernel_rfl
theorem laidOut : laidOutB Tryd.prog = true := by kernel_rfl

set_option maxRecDepth 100000 in
theorem lifted (os : Os) (started : os.Started) (H : Type) (enc : TypeId × Value → H) :
    ReturnsInHanded {} Tryd.checked os 4 .any (fun w args => (Rows.fnExactSplitStringSpec.pre enc Tryd.prog Tryd.f4 [] false w args ∧ laidMetH Tryd.prog Rows.fnExactSplitStringRow.laid w) ∧ sizedMet enc Tryd.prog Tryd.f4 (OpenSpec.ofChange Rows.fnExactSplitStringSpec) false w args)
      (Rows.fnExactSplitStringSpec.post enc Tryd.prog Tryd.f4 false true false false) := by
  refine returns_all (C := Tryd.checked) (X := (fun w _ => laidMetH Tryd.prog Rows.fnExactSplitStringRow.laid w)) (fun _ _ _ hh h => h.of_heap hh) own started (by kernel_rfl) Tryd.func4
    (ChangeSpec.witness_shaped (enc := enc) (C := Tryd.checked) (os := os) (X := (fun w _ => laidMetH Tryd.prog Rows.fnExactSplitStringRow.laid w)) false (World.laidAll Tryd.prog os Rows.fnExactSplitStringRow.laid) #[.string ByteArray.empty, .string ByteArray.empty] 8 (World.laidAll_os _ _ _)
      (World.shaped_of_ZipB (by kernel_rfl) (by kernel_rfl)) (by kernel_rfl) (by kernel_rfl) (by kernel_rfl)
      (by rw [MakeChecks.laidMetH_plain _ _ _ (by kernel_rfl)]; exact laidMet_laidAll _ (by kernel_rfl) (by kernel_rfl))) ?_
  intro W base args ds gs before hval0 hW _ _ hL hsh
  rw [MakeChecks.laidMetH_plain _ _ _ (by kernel_rfl)] at hL
  have nmax : MaxW W W.heap.size := MaxW.of_shape hsh (Nat.le_refl _)
  have hval : ∀ (j : Nat) t v, Tryd.f4.params[j]? = some t → args[j]? = some v → Value.okWide Tryd.prog W .any base t v := hval0
  have hW' := hW
  obtain ⟨p, q, hA0, hV, rfl, hfz, hnd⟩ := hW
  have hA : DataW.TrodAll enc Tryd.prog W 0 (fun _ => true) true Tryd.f4.params.toList args.toList ds p := hA0
  rw [Tryd.params4] at hA hval
  obtain ⟨v0, vs0, d0, ds0, p0, q0, hargs, rfl, rfl, h0, r0⟩ := trodAll_cons hA
  obtain ⟨v1, vs1, d1, ds1, p1, q1, rfl, rfl, rfl, h1, r1⟩ := trodAll_cons r0
  obtain ⟨rfl, rfl, rfl⟩ := trodAll_nil r1
  obtain rfl : args = #[v0, v1] := by cases args; simp_all
  obtain ⟨rfl, rfl⟩ := trodVars_none hV
  obtain ⟨a0, rfl, rfl, rfl, w0⟩ := open_string Tryd.underlying9 (hval 0 9 v0 rfl rfl) h0
  obtain ⟨a1, rfl, rfl, rfl, w1⟩ := open_string Tryd.underlying9 (hval 1 9 v1 rfl rfl) h1
  clear hA0 hval0
  refine (walk a0 a1 W w0 w1 nmax).mono fun e W' ⟨he, bel⟩ => ?_
  subst he
  exact ⟨_, rfl, _, _, _, [], _, [], hW', trodAll_mk1 (shut_bool Tryd.underlying4 _), (trodAll_cons_mk (shut_string Tryd.underlying9 w0) (trodAll_cons_mk (shut_string Tryd.underlying9 w1) trodAll_mk0)), rfl, bel.frame _, fun h => by cases h⟩

theorem over : Rows.fnExactSplitStringRow.holds Tryd.pinned (OpenSpec.ofChange Rows.fnExactSplitStringSpec) :=
  OpenClaim.holds_of_wide 4 Tryd.f4 rfl rfl rfl rfl rfl rfl rfl ⟨rfl, rfl, rfl, rfl, rfl⟩ rfl rfl rfl rfl rfl (by kernel_rfl) Tryd.func4 (by kernel_rfl)
    (of_decide_eq_true (by kernel_rfl)) (by unfold Func.isWrapper; first | (rw [if_pos (by decide +kernel)]; kernel_rfl) | (rw [if_neg (by decide +kernel)]; exact ⟨rfl, rfl⟩))
    (fun os started H enc _ => lifted os started H enc)

/-- THE STATEMENT: the tied card. -/
theorem proved : Rows.FnExactSplitStringCardSaid :=
  Claim7.holds_tied_plain_at .later [] Rows.fnExactSplitStringCard.laidKinds true Rows.fnExactSplitStringCard.stood.harness Rows.fnExactSplitStringCard.stood.looks over (fun _ h => by cases h) (by kernel_rfl) (fun _ h => by cases h) fnExactSplitString_row_tie rfl ⟨rfl, rfl⟩ (by kernel_rfl) rfl
    (fun f fn hf hfn => by
      obtain rfl : f = 4 := Option.some.inj ((show Tryd.prog.funcNamed Rows.fnExactSplitStringRow.func = some 4 by kernel_rfl).symm.trans hf) |>.symm
      obtain rfl : fn = Tryd.f4 := (Option.some.inj (Tryd.func4.symm.trans hfn)).symm
      exact ⟨by kernel_rfl, fun j t ht => by
        rw [Tryd.params4] at ht
        have hm : t ∈ ([9, 9] : List Nat) := by simpa using Array.mem_of_getElem? ht
        have hall : (([9, 9] : List Nat).all fun u => !Tryd.prog.wantsStandIn u) = true := by kernel_rfl
        exact (show Tryd.prog.wantsStandIn t = false by simpa using List.all_eq_true.1 hall t hm)⟩)
    (by kernel_rfl)
end Go.Proofs.YtnbgjkblhbpjlaaDoor.fnExactSplitString
