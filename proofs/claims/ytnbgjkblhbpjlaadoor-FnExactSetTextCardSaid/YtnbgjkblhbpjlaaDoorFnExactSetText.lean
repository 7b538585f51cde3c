/-
  The program's SetText returns what the reference's SetText returns, at all arguments, and leaves them as they were: the law FnExactSetText returns true.
  Conditions: none.
-/
import Derived.Test.YtnbgjkblhbpjlaaDoorRows
import Derived.WalkKit
import Derived.ProofKit
import Derived.OpenShut
import Derived.ShutString
import Derived.ChangeOld
import Derived.Below
import Derived.Handy
import Derived.Test.YtnbgjkblhbpjlaaDoorWrap
import Derived.Test.YtnbgjkblhbpjlaaDoorCards
import Derived.Test.YtnbgjkblhbpjlaaDoorTie
import Derived.SevenTiedAt
import Derived.Test.YtnbgjkblhbpjlaaDoorSetS
import Derived.Test.YtnbgjkblhbpjlaaDoorOpen
namespace Go.Proofs.YtnbgjkblhbpjlaaDoor.fnExactSetText
open Go.ChangeShapes Go.WideShapes Go.ChangeAt Go.RowKit
open Go.ChangeMaps (open_string shut_string)
set_option linter.unusedVariables false

set_option maxRecDepth 100000 in
set_option maxHeartbeats 1600000 in
theorem walk (a0 : Option Addr) (cap0 : Nat) (z0 : List (Int × Int)) (w : World) (w0 : Rngs w w.heap.size a0 z0) (m0 : z0.length ≤ 9223372036854775807) (np : PowW w w.heap.size) :
    Calls Tryd.prog 10 #[.slice a0 z0.length cap0] w fun e w' => e = .returned (.bool true) ∧ Below w.heap.size w w' := by
  have bel := Below.refl w.heap.size w
  by_cases hl0 : (z0.length : Int) ≤ 1048576
  rotate_left
  · go_enter Tryd.func10, Tryd.ntmps10
    have hm : z0.length ≤ 9223372036854775807 := m0
    go_wp2_with fail
    refine (c_szRangeS _ _ _ _ _ hm (by omega) (by omega)).mono ?_
    rintro e w' ⟨rfl, rfl⟩
    rw [if_pos (by omega)]
    go_wp2
    go_ret
    exact ⟨rfl, bel⟩
  have NP := Lib.hid np
  clear np
  go_enter Tryd.func10, Tryd.ntmps10
  go_wp2_with fail
  refine (c_szRangeS _ _ _ _ _ (by omega) (by omega) (by omega)).mono ?_
  rintro e _ ⟨rfl, rfl⟩
  rw [if_neg (by omega)]
  go_wp2_with fail
  refine (c_toRangeS _ _ z0 _ w0 (Nat.le_refl _) (by omega)).mono ?_
  rintro e vs0 ⟨As0, cs0, rfl, os0, bs0⟩
  have is0 := os0.rngs
  clear os0
  replace w0 := (w0.keep bs0).more bs0.size
  replace bel := bel.trans (bs0.mono bel.size)
  clear bs0
  go_wp2_with fail
  refine (c_specSetText _ _ z0 _ is0 (Nat.le_refl _) (by omega)).mono ?_
  rintro e vspec ⟨rfl, bspec⟩
  replace w0 := (w0.keep bspec).more bspec.size
  replace is0 := (is0.keep bspec).more bspec.size
  replace bel := bel.trans (bspec.mono bel.size)
  clear bspec
  go_wp2_with fail
  refine (c_toRangeS _ _ z0 _ w0 (Nat.le_refl _) (by omega)).mono ?_
  rintro e vx0 ⟨Ax0, cx0, rfl, ox0, bx0⟩
  have ix0 := ox0.rngs
  clear ox0
  replace w0 := (w0.keep bx0).more bx0.size
  replace is0 := (is0.keep bx0).more bx0.size
  replace bel := bel.trans (bx0.mono bel.size)
  clear bx0
  go_wp2_with fail
  refine (c_implSetText _ _ z0 _ ((NP.out.keep bel (Nat.le_refl _)).more bel.size) ix0 (Nat.le_refl _) (by omega)).mono ?_
  rintro e vimpl ⟨rfl, bimpl⟩
  replace w0 := (w0.keep bimpl).more bimpl.size
  replace is0 := (is0.keep bimpl).more bimpl.size
  replace ix0 := (ix0.keep bimpl).more bimpl.size
  replace bel := bel.trans (bimpl.mono bel.size)
  clear bimpl
  go_wp2_with fail
  refine (c_toRangeS _ _ z0 _ w0 (Nat.le_refl _) (by omega)).mono ?_
  rintro e vy0 ⟨Ay0, cy0, rfl, oy0, by0⟩
  have iy0 := oy0.rngs
  clear oy0
  replace w0 := (w0.keep by0).more by0.size
  replace is0 := (is0.keep by0).more by0.size
  replace ix0 := (ix0.keep by0).more by0.size
  replace bel := bel.trans (by0.mono bel.size)
  clear by0
  go_wp2_with fail
  refine (c_eqRangeS _ _ _ _ z0 _ ix0 iy0 (Nat.le_refl _) (Nat.le_refl _) (by omega)).mono ?_
  rintro e vq0 ⟨rfl, bq0⟩
  replace w0 := (w0.keep bq0).more bq0.size
  replace is0 := (is0.keep bq0).more bq0.size
  replace ix0 := (ix0.keep bq0).more bq0.size
  replace iy0 := (iy0.keep bq0).more bq0.size
  replace bel := bel.trans (bq0.mono bel.size)
  clear bq0
  go_wp2
  go_ret
  exact ⟨rfl, bel⟩

theorem own : ownKnob Tryd.prog.godebug = none := by kernel_rfl
theorem laidOut : laidOutB Tryd.prog = true := by kernel_rfl

set_option maxRecDepth 100000 in
theorem lifted (os : Os) (started : os.Started) (H : Type) (enc : TypeId × Value → H) :
    ReturnsInHanded {} Tryd.checked os 10 .any (fun w args => (Rows.fnExactSetTextSpec.pre enc Tryd.prog Tryd.f10 [] false w args ∧ laidMetH Tryd.prog Rows.fnExactSetTextRow.laid w) ∧ sizedMet enc Tryd.prog Tryd.f10 (OpenSpec.ofChange Rows.fnExactSetTextSpec) false w args)
      (Rows.fnExactSetTextSpec.post enc Tryd.prog Tryd.f10 false true false false) := by
  refine returns_all (C := Tryd.checked) (X := (fun w _ => laidMetH Tryd.prog Rows.fnExactSetTextRow.laid w)) (fun _ _ _ hh h => h.of_heap hh) own started (by kernel_rfl) Tryd.func10
    (ChangeSpec.witness_shaped (enc := enc) (C := Tryd.checked) (os := os) (X := (fun w _ => laidMetH Tryd.prog Rows.fnExactSetTextRow.laid w)) false (World.laidAll Tryd.prog os Rows.fnExactSetTextRow.laid) #[.slice none 0 0] 8 (World.laidAll_os _ _ _)
      (World.shaped_of_ZipB (by kernel_rfl) (by kernel_rfl)) (by kernel_rfl) (by kernel_rfl) (by kernel_rfl)
      (by rw [MakeChecks.laidMetH_plain _ _ _ (by kernel_rfl)]; exact laidMet_laidAll _ (by kernel_rfl) (by kernel_rfl))) ?_
  intro W base args ds gs before hval0 hW _ _ hL hsh
  rw [MakeChecks.laidMetH_plain _ _ _ (by kernel_rfl)] at hL
  have npow : PowW W W.heap.size := pow_of_reads (Lib.laidMet.reads hL (n := "internal/strconv.uint64pow10") (d := Rows.laid_internal_strconv_uint64pow10) (by simp only [Rows.fnExactSetTextRow]; first | exact .head _ | exact .tail _ (.head _) | exact .tail _ (.tail _ (.head _)) | exact .tail _ (.tail _ (.tail _ (.head _))) | exact .tail _ (.tail _ (.tail _ (.tail _ (.head _)))) | exact .tail _ (.tail _ (.tail _ (.tail _ (.tail _ (.head _))))) | exact .tail _ (.tail _ (.tail _ (.tail _ (.tail _ (.tail _ (.head _))))))))
  have hval : ∀ (j : Nat) t v, Tryd.f10.params[j]? = some t → args[j]? = some v → Value.okWide Tryd.prog W .any base t v := hval0
  have hW' := hW
  obtain ⟨p, q, hA0, hV, rfl, hfz, hnd⟩ := hW
  have hA : DataW.TrodAll enc Tryd.prog W 0 (fun _ => true) true Tryd.f10.params.toList args.toList ds p := hA0
  rw [Tryd.params10] at hA hval
  obtain ⟨v0, vs0, d0, ds0, p0, q0, hargs, rfl, rfl, h0, r0⟩ := trodAll_cons hA
  obtain ⟨rfl, rfl, rfl⟩ := trodAll_nil r0
  obtain rfl : args = #[v0] := by cases args; simp_all
  obtain ⟨rfl, rfl⟩ := trodVars_none hV
  have k0 := h0
  have lt0 : ∀ x ∈ p0, x.block < W.heap.size := by obtain ⟨m, hm⟩ := k0; exact DataW.trod_lt m _ _ _ hm
  obtain ⟨a0, cap0, z0, rfl, w0, m0, f0⟩ := open_ranges (hval 0 45 v0 rfl rfl) h0
  clear hA0 hval0
  refine (walk a0 cap0 z0 W w0 m0 npow).mono fun e W' ⟨he, bel⟩ => ?_
  subst he
  exact ⟨_, rfl, _, _, _, [], _, [], hW', trodAll_mk1 (shut_bool Tryd.underlying4 _), (trodAll_cons_mk (Below.trod laidOut (by kernel_rfl) (of_decide_eq_true (by kernel_rfl)) k0 bel lt0) trodAll_mk0), rfl, bel.frame _, fun h => by cases h⟩

theorem over : Rows.fnExactSetTextRow.holds Tryd.pinned (OpenSpec.ofChange Rows.fnExactSetTextSpec) :=
  OpenClaim.holds_of_wide 10 Tryd.f10 rfl rfl rfl rfl rfl rfl rfl ⟨rfl, rfl, rfl, rfl, rfl⟩ rfl rfl rfl rfl rfl (by kernel_rfl) Tryd.func10 (by kernel_rfl)
    (of_decide_eq_true (by kernel_rfl)) (by unfold Func.isWrapper; first | (rw [if_pos (by decide +kernel)]; kernel_rfl) | (rw [if_neg (by decide +kernel)]; exact ⟨rfl, rfl⟩))
    (fun os started H enc _ => lifted os started H enc)

/-- THE STATEMENT: the tied card. -/
theorem proved : Rows.FnExactSetTextCardSaid :=
  Claim7.holds_tied_plain_at .later [] Rows.fnExactSetTextCard.laidKinds true Rows.fnExactSetTextCard.stood.harness Rows.fnExactSetTextCard.stood.looks over (fun _ h => by cases h) (by kernel_rfl) (fun _ h => by cases h) fnExactSetText_row_tie rfl ⟨rfl, rfl⟩ (by kernel_rfl) rfl
    (fun f fn hf hfn => by
      obtain rfl : f = 10 := Option.some.inj ((show Tryd.prog.funcNamed Rows.fnExactSetTextRow.func = some 10 by kernel_rfl).symm.trans hf) |>.symm
      obtain rfl : fn = Tryd.f10 := (Option.some.inj (Tryd.func10.symm.trans hfn)).symm
      exact ⟨by kernel_rfl, fun j t ht => by
        rw [Tryd.params10] at ht
        have hm : t ∈ ([45] : List Nat) := by simpa using Array.mem_of_getElem? ht
        have hall : (([45] : List Nat).all fun u => !Tryd.prog.wantsStandIn u) = true := by kernel_rfl
        exact (show Tryd.prog.wantsStandIn t = false by simpa using List.all_eq_true.1 hall t hm)⟩)
    (by kernel_rfl)
end Go.Proofs.YtnbgjkblhbpjlaaDoor.fnExactSetText
