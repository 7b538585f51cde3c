/-
  The program's ParseSet returns what the reference's ParseSet returns, at all arguments, in memory of its own: the law FnExactParseSet returns true.
  Conditions: none.
-/
import Derived.Test.YtomckpobnblogaaDoorRows
import Derived.WalkKit
import Derived.ProofKit
import Derived.OpenShut
import Derived.ShutString
import Derived.ChangeOld
import Derived.Below
import Derived.Handy
import Derived.Test.YtomckpobnblogaaDoorWrap
import Derived.Test.YtomckpobnblogaaDoorCards
import Derived.Test.YtomckpobnblogaaDoorTie
import Derived.SevenTiedAt
import Derived.Test.YtomckpobnblogaaDoorParseS
import Derived.Test.YtomckpobnblogaaDoorMarkR
namespace Go.Proofs.YtomckpobnblogaaDoor.fnExactParseSet
open Go.ChangeShapes Go.WideShapes Go.ChangeAt Go.RowKit
open Go.ChangeMaps (open_string shut_string)
set_option linter.unusedVariables false

set_option maxRecDepth 100000 in
set_option maxHeartbeats 4000000 in
theorem walk (a0 : ByteArray) (w : World) (w0 : a0.size ≤ maxLen) (npow : PowW w w.heap.size) (nerr : ErrW w w.heap.size) (nmax : MaxW w w.heap.size) :
    Calls Tryd.prog 3 #[.string a0] w fun e w' => e = .returned (.bool true) ∧ Below w.heap.size w w' := by
  clear w0
  by_cases hl0 : (a0.size : Int) ≤ 1048576
  rotate_left
  · have hl1 : (1048576 : Int) < (a0.size : Int) := by omega
    go_enter Tryd.func3, Tryd.ntmps3
    go_wp2
    go_ret
    exact ⟨rfl, Below.refl _ _⟩
  have hl1 : ¬ (1048576 : Int) < (a0.size : Int) := by omega
  have CS := Lib.hid (c_specParseSet a0 w (by omega))
  have NP := Lib.hid npow
  have NE := Lib.hid nerr
  have NM := Lib.hid nmax
  have hL := prL_len a0.data.toList
  clear npow nerr nmax
  have CI := fun (W : World) (b : Below w.heap.size w W) => Lib.hid (c_implParseSet a0 W (NP.out.keep b (Nat.le_refl _)) (NE.out.keep b (Nat.le_refl _)) (NM.out.keep b (Nat.le_refl _)) b.size (by omega))
  generalize prL a0.data.toList = L at *
  generalize prOk a0.data.toList = KK at *
  go_enter Tryd.func3, Tryd.ntmps3
  go_wp2_with fail
  refine CS.out.mono ?_
  rintro e u1 ⟨Aw, cw, rfl, ow, b1⟩
  have iw := ow.rngs
  have bel := b1
  have sb := b1.size
  clear ow b1
  go_wp2_with fail
  refine (CI u1 bel).out.mono ?_
  rintro e u2 ⟨Ag, cg, rfl, og, b2⟩
  have s1 := b2.size
  replace iw := iw.keep b2
  replace bel := bel.trans (b2.mono bel.size)
  clear b2
  go_wp2_with fail
  refine (c_eqRangeS Ag Aw _ _ L _ og.rngs iw (Nat.le_refl _) (by omega) (by omega)).mono ?_
  rintro e u3 ⟨rfl, b3⟩
  have s2 := b3.size
  replace iw := iw.keep (b3.mono (by omega))
  replace og := og.keep b3
  replace bel := bel.trans (b3.mono bel.size)
  clear b3
  have s0 := bel.size
  go_wp2_with fail
  refine (c_markRangeS Ag _ L 1 _ og (by omega) (by omega) (by omega)).mono ?_
  rintro e u7 ⟨rfl, om, bm, hz, _⟩
  clear og
  replace iw := iw.keep (bm.mono (by omega))
  replace bel := bel.trans (bm.mono (by omega))
  have im := om.rngs
  clear om bm
  go_wp2_with fail
  refine (c_heldRangeS Ag _ L.length 1 _ im (by omega) (by omega) (by omega)).mono ?_
  rintro e _ ⟨rfl, rfl⟩
  go_wp2_with fail
  refine (CI _ bel).out.mono ?_
  rintro e u8 ⟨Ar, cr, rfl, orr, b8⟩
  replace iw := iw.keep (b8.mono (by omega))
  replace im := im.keep (b8.mono (by omega))
  have s8 := b8.size
  replace bel := bel.trans (b8.mono bel.size)
  have ir := orr.rngs
  clear orr b8
  go_wp2_with fail
  refine (c_eqRangeS Ar Aw _ _ L _ ir iw (by omega) (by omega) (by omega)).mono ?_
  rintro e u9 ⟨rfl, b9⟩
  replace im := im.keep (b9.mono (by omega))
  replace bel := bel.trans (b9.mono bel.size)
  clear b9
  go_wp2_with fail
  refine (c_heldRangeS Ag _ L.length 1 _ im (by omega) (by omega) (by omega)).mono ?_
  rintro e _ ⟨rfl, rfl⟩
  go_wp2
  go_ret
  exact ⟨rfl, bel⟩

theorem own : ownKnob Tryd.prog.godebug = none := by kernel_rfl
theorem laidOut : laidOutB Tryd.prog = true := by kernel_rfl

set_option maxRecDepth 100000 in
theorem lifted (os : Os) (started : os.Started) (H : Type) (enc : TypeId × Value → H) :
    ReturnsInHanded {} Tryd.checked os 3 .any (fun w args => (Rows.fnExactParseSetSpec.pre enc Tryd.prog Tryd.f3 [] false w args ∧ laidMetH Tryd.prog Rows.fnExactParseSetRow.laid w) ∧ sizedMet enc Tryd.prog Tryd.f3 (OpenSpec.ofChange Rows.fnExactParseSetSpec) false w args)
      (Rows.fnExactParseSetSpec.post enc Tryd.prog Tryd.f3 false true false false) := by
  refine returns_all (C := Tryd.checked) (X := (fun w _ => laidMetH Tryd.prog Rows.fnExactParseSetRow.laid w)) (fun _ _ _ hh h => h.of_heap hh) own started (by kernel_rfl) Tryd.func3
    (ChangeSpec.witness_shaped (enc := enc) (C := Tryd.checked) (os := os) (X := (fun w _ => laidMetH Tryd.prog Rows.fnExactParseSetRow.laid w)) false (World.laidAll Tryd.prog os Rows.fnExactParseSetRow.laid) #[.string ByteArray.empty] 8 (World.laidAll_os _ _ _)
      (World.shaped_of_ZipB (by kernel_rfl) (by kernel_rfl)) (by kernel_rfl) (by kernel_rfl) (by kernel_rfl)
      (by rw [MakeChecks.laidMetH_plain _ _ _ (by kernel_rfl)]; exact laidMet_laidAll _ (by kernel_rfl) (by kernel_rfl))) ?_
  intro W base args ds gs before hval0 hW _ _ hL hsh
  rw [MakeChecks.laidMetH_plain _ _ _ (by kernel_rfl)] at hL
  have npow : PowW W W.heap.size := pow_of_reads (Lib.laidMet.reads hL (n := "internal/strconv.uint64pow10") (d := Rows.laid_internal_strconv_uint64pow10) (by simp only [Rows.fnExactParseSetRow]; first | exact .head _ | exact .tail _ (.head _) | exact .tail _ (.tail _ (.head _)) | exact .tail _ (.tail _ (.tail _ (.head _))) | exact .tail _ (.tail _ (.tail _ (.tail _ (.head _)))) | exact .tail _ (.tail _ (.tail _ (.tail _ (.tail _ (.head _))))) | exact .tail _ (.tail _ (.tail _ (.tail _ (.tail _ (.tail _ (.head _))))))))
  have nerr : ErrW W W.heap.size := err_of_reads (Lib.laidMet.reads hL (n := "strconv.ErrSyntax") (d := Rows.laid_strconv_ErrSyntax) (by simp only [Rows.fnExactParseSetRow]; first | exact .head _ | exact .tail _ (.head _) | exact .tail _ (.tail _ (.head _)) | exact .tail _ (.tail _ (.tail _ (.head _))) | exact .tail _ (.tail _ (.tail _ (.tail _ (.head _)))) | exact .tail _ (.tail _ (.tail _ (.tail _ (.tail _ (.head _))))) | exact .tail _ (.tail _ (.tail _ (.tail _ (.tail _ (.tail _ (.head _)))))))) (Lib.laidMet.reads hL (n := "strconv.ErrRange") (d := Rows.laid_strconv_ErrRange) (by simp only [Rows.fnExactParseSetRow]; first | exact .head _ | exact .tail _ (.head _) | exact .tail _ (.tail _ (.head _)) | exact .tail _ (.tail _ (.tail _ (.head _))) | exact .tail _ (.tail _ (.tail _ (.tail _ (.head _)))) | exact .tail _ (.tail _ (.tail _ (.tail _ (.tail _ (.head _))))) | exact .tail _ (.tail _ (.tail _ (.tail _ (.tail _ (.tail _ (.head _))))))))
  have nmax : MaxW W W.heap.size := MaxW.of_shape hsh (Nat.le_refl _)
  have hval : ∀ (j : Nat) t v, Tryd.f3.params[j]? = some t → args[j]? = some v → Value.okWide Tryd.prog W .any base t v := hval0
  have hW' := hW
  obtain ⟨p, q, hA0, hV, rfl, hfz, hnd⟩ := hW
  have hA : DataW.TrodAll enc Tryd.prog W 0 (fun _ => true) true Tryd.f3.params.toList args.toList ds p := hA0
  rw [Tryd.params3] at hA hval
  obtain ⟨v0, vs0, d0, ds0, p0, q0, hargs, rfl, rfl, h0, r0⟩ := trodAll_cons hA
  obtain ⟨rfl, rfl, rfl⟩ := trodAll_nil r0
  obtain rfl : args = #[v0] := by cases args; simp_all
  obtain ⟨rfl, rfl⟩ := trodVars_none hV
  obtain ⟨a0, rfl, rfl, rfl, w0⟩ := open_string Tryd.underlying9 (hval 0 9 v0 rfl rfl) h0
  clear hA0 hval0
  refine (walk a0 W w0 npow nerr nmax).mono fun e W' ⟨he, bel⟩ => ?_
  subst he
  exact ⟨_, rfl, _, _, _, [], _, [], hW', trodAll_mk1 (shut_bool Tryd.underlying4 _), (trodAll_cons_mk (shut_string Tryd.underlying9 w0) trodAll_mk0), rfl, bel.frame _, fun h => by cases h⟩

theorem over : Rows.fnExactParseSetRow.holds Tryd.pinned (OpenSpec.ofChange Rows.fnExactParseSetSpec) :=
  OpenClaim.holds_of_wide 3 Tryd.f3 rfl rfl rfl rfl rfl rfl rfl ⟨rfl, rfl, rfl, rfl, rfl⟩ rfl rfl rfl rfl rfl (by kernel_rfl) Tryd.func3 (by kernel_rfl)
    (of_decide_eq_true (by kernel_rfl)) (by unfold Func.isWrapper; first | (rw [if_pos (by decide +kernel)]; kernel_rfl) | (rw [if_neg (by decide +kernel)]; exact ⟨rfl, rfl⟩))
    (fun os started H enc _ => lifted os started H enc)

/-- THE STATEMENT: the tied card. -/
theorem proved : Rows.FnExactParseSetCardSaid :=
  Claim7.holds_tied_plain_at .later [] Rows.fnExactParseSetCard.laidKinds true Rows.fnExactParseSetCard.stood.harness Rows.fnExactParseSetCard.stood.looks over (fun _ h => by cases h) (by kernel_rfl) (fun _ h => by cases h) fnExactParseSet_row_tie rfl ⟨rfl, rfl⟩ (by kernel_rfl) rfl
    (fun f fn hf hfn => by
      obtain rfl : f = 3 := Option.some.inj ((show Tryd.prog.funcNamed Rows.fnExactParseSetRow.func = some 3 by kernel_rfl).symm.trans hf) |>.symm
      obtain rfl : fn = Tryd.f3 := (Option.some.inj (Tryd.func3.symm.trans hfn)).symm
      exact ⟨by kernel_rfl, fun j t ht => by
        rw [Tryd.params3] at ht
        have hm : t ∈ ([9] : List Nat) := by simpa using Array.mem_of_getElem? ht
        have hall : (([9] : List Nat).all fun u => !Tryd.prog.wantsStandIn u) = true := by kernel_rfl
        exact (show Tryd.prog.wantsStandIn t = false by simpa using List.all_eq_true.1 hall t hm)⟩)
    (by kernel_rfl)
end Go.Proofs.YtomckpobnblogaaDoor.fnExactParseSet
