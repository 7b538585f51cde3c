/-
  The law FnRangeSets returns true at every input and leaves its argument as it was: a number that is added is in the set and one that is removed is not, and the size changes by what was new.
  Conditions: none.
-/
import Derived.Test.YtomckpobnblogaaRows
import Derived.WalkKit
import Derived.ProofKit
import Derived.OpenShut
import Derived.ShutString
import Derived.ChangeOld
import Derived.Below
import Derived.Handy
import Derived.Test.YtomckpobnblogaaOpenB
import Derived.Test.YtomckpobnblogaaDrawN5
import Derived.Test.YtomckpobnblogaaRr
import Derived.Test.YtomckpobnblogaaSetSum
import Derived.Test.YtomckpobnblogaaImplU
import Derived.Deep.DeepCutAuto
namespace Go.Proofs.Ytomckpobnblogaa.fnRangeSets
open Go.ChangeShapes Go.WideShapes Go.ChangeAt Go.RowKit
open Go.ChangeMaps (open_string shut_string)
set_option linter.unusedVariables false

theorem two_of {vs : List Int} (h : vs.length = 2) : ∃ f t, vs = [f, t] := by
  match vs, h with
  | [a, b], _ => exact ⟨a, b, rfl⟩
theorem one_of {vs : List Int} (h : vs.length = 1) : ∃ f, vs = [f] := by
  match vs, h with
  | [a], _ => exact ⟨a, rfl⟩
theorem setSizeR_rng (L : List (Int × Int)) (h : L.length ≤ 10) : 0 ≤ setSizeR L ∧ setSizeR L ≤ 65536 * 10 := by
  unfold setSizeR
  split
  · rename_i g
    have := sizeL_rng g L.length (Nat.le_refl _)
    rw [List.take_length] at this
    omega
  · omega
set_option maxRecDepth 100000 in
set_option maxHeartbeats 64000000 in
theorem walk (a0 : Option Addr) (cap0 n0 : Nat) (w : World) (w0 : BytesAt w w.heap.size a0 n0) :
    Calls Try.prog 8 #[.slice a0 n0 cap0] w fun e w' => e = .returned (.bool true) ∧ Below w.heap.size w w' := by
  have W0 := Lib.hid w0
  clear w0
  by_cases hbig : (65536 : Int) < (n0 : Int)
  · go_enter Try.func8, Try.ntmps8
    go_wp2_with (go_at_call 24; refine (c_rBig _ _ _ _).mono ?_; rintro e _ ⟨rfl, rfl⟩)
    go_ret
    exact ⟨rfl, Below.refl _ _⟩
  go_enter Try.func8, Try.ntmps8
  go_wp2_with fail
  refine (c_rBig _ _ _ _).mono ?_
  rintro e _ ⟨rfl, rfl⟩
  go_wp2_with fail
  refine (c_DrawAddRange a0 n0 cap0 _ W0.out (by omega)).mono ?_
  rintro e w1 ⟨A1, c1, rs, vs, hvl, rfl, hlen, -, o1, b1⟩
  obtain ⟨f, t, rfl⟩ := two_of hvl
  have B1 := Lib.hid b1
  have I1 := Lib.hid o1.rngs
  clear b1 o1 hvl
  go_wp2_with fail
  refine (c_implAddRange A1 c1 rs f t _ I1.out (Nat.le_refl _) (by omega)).mono ?_
  rintro e w2 ⟨A2, c2, rfl, o2, b2⟩
  have B2 := Lib.hid (B1.out.trans (b2.mono B1.out.size))
  have I2 := Lib.hid o2.rngs
  have I12 := Lib.hid ((I1.out.keep b2).more b2.size)
  clear b2 o2 I1
  go_wp2_with fail
  refine (c_specAddRange A1 c1 rs f t _ I12.out (Nat.le_refl _) (by omega)).mono ?_
  rintro e w3 ⟨A3, c3, rfl, o3, b3⟩
  have B3 := Lib.hid (B2.out.trans (b3.mono B2.out.size))
  have I23 := Lib.hid ((I2.out.keep b3).more b3.size)
  have I3 := Lib.hid o3.rngs
  have I13 := Lib.hid ((I12.out.keep b3).more b3.size)
  clear b3 o3 I2 I12
  have hlM := sgl_len (uniOk rs [(f, t)]) (addL rs (f, t))
  generalize hM : sgl (uniOk rs [(f, t)]) (addL rs (f, t)) = M at *
  generalize hK : sOk (uniOk rs [(f, t)]) (addL rs (f, t)) = ok at *
  have HM := Lib.hid hM
  have HK := Lib.hid hK
  clear hM hK
  go_wp2_with fail
  refine (c_rRanges A2 A3 c2 c3 M _ I23.out I3.out (Nat.le_refl _) (Nat.le_refl _) (by omega)).mono ?_
  rintro e w4 ⟨rfl, b4⟩
  have B4 := Lib.hid (B3.out.trans (b4.mono B3.out.size))
  have I24 := Lib.hid ((I23.out.keep b4).more b4.size)
  have I14 := Lib.hid ((I13.out.keep b4).more b4.size)
  clear b4 I23 I3 I13
  go_wp2_with fail
  refine (c_implRemoveRange A1 c1 rs f t _ I14.out (Nat.le_refl _) (by omega)).mono ?_
  rintro e w5 ⟨A5, c5, rfl, o5, b5⟩
  have B5 := Lib.hid (B4.out.trans (b5.mono B4.out.size))
  have I5 := Lib.hid o5.rngs
  have I25 := Lib.hid ((I24.out.keep b5).more b5.size)
  have I15 := Lib.hid ((I14.out.keep b5).more b5.size)
  clear b5 o5 I24 I14
  go_wp2_with fail
  refine (c_specRemoveRange A1 c1 rs f t _ I15.out (Nat.le_refl _) (by omega)).mono ?_
  rintro e w6 ⟨A6, c6, rfl, o6, b6⟩
  have B6 := Lib.hid (B5.out.trans (b6.mono B5.out.size))
  have I56 := Lib.hid ((I5.out.keep b6).more b6.size)
  have I26 := Lib.hid ((I25.out.keep b6).more b6.size)
  have I6 := Lib.hid o6.rngs
  clear b6 o6 I5 I25 I15
  have hlR := sgl_len (uniOk rs [(f, t)]) (remL rs (f, t))
  generalize hR : sgl (uniOk rs [(f, t)]) (remL rs (f, t)) = R at *
  generalize hF : sOk (uniOk rs [(f, t)]) (remL rs (f, t)) = fine at *
  have HR := Lib.hid hR
  have HF := Lib.hid hF
  clear hR hF
  go_wp2_with fail
  refine (c_rRanges A5 A6 c5 c6 R _ I56.out I6.out (Nat.le_refl _) (Nat.le_refl _) (by omega)).mono ?_
  rintro e w7 ⟨rfl, b7⟩
  have B7 := Lib.hid (B6.out.trans (b7.mono B6.out.size))
  have I57 := Lib.hid ((I56.out.keep b7).more b7.size)
  have I27 := Lib.hid ((I26.out.keep b7).more b7.size)
  clear b7 I56 I26 I6 B1 B2 B3 B4 B5 B6
  go_upto_if 96 with fail
  go_cut [14, 15, 16, 17, 18, 19] (fun s14 s15 s16 s17 s18 s19 wx => Hid (Below w7.heap.size w7 wx))
  case first => as_aux_lemma =>
    cases ok
    · go_wp2_with fail
      go_meet
      exact Lib.hid (Below.refl _ _)
    · have eM : M = addL rs (f, t) := HM.out.symm.trans (sOk_t HK.out).2.2
      obtain ⟨p1, p2, p3, p4, p5, _⟩ := add_law HK.out
      have pn := add_next HK.out
      rw [← eM] at p1 p2 p3 p4 p5 pn
      have C1 := c_implHasNumber A2 c2 M f w7 I27.out (Nat.le_refl _) (by omega)
      rw [p2, p3] at C1
      have HC1 := Lib.hid C1
      have P4 := Lib.hid p4
      have P5 := Lib.hid p5
      have P1 := Lib.hid p1
      clear C1 eM p1 p2 p3 p4 p5
      go_wp2_with fail
      refine HC1.out.mono ?_
      rintro e x1 ⟨rfl, d1⟩
      have J1 := Lib.hid ((I27.out.keep d1).more d1.size)
      have D1 := Lib.hid d1
      have C2 := c_implHasNumber A2 c2 M t x1 J1.out (Nat.le_refl _) (by omega)
      rw [P4.out, P5.out] at C2
      have HC2 := Lib.hid C2
      clear d1 C2 HC1
      go_wp2_with fail
      refine HC2.out.mono ?_
      rintro e x2 ⟨rfl, d2⟩
      have J2 := Lib.hid ((J1.out.keep d2).more d2.size)
      have D2 := Lib.hid (D1.out.trans (d2.mono D1.out.size))
      clear d2 HC2 D1 J1
      have C3 := Lib.hid (c_implNextMissing A2 c2 M f x2 J2.out (Nat.le_refl _) (by omega))
      generalize nextR M f = nr at *
      generalize nextOk M f = no at *
      go_wp2_with fail
      refine C3.out.mono ?_
      rintro e x3 ⟨rfl, d3⟩
      have C4 := c_isRangeSet A2 c2 M x3 (J2.out.keep d3) d3.size (by omega)
      rw [P1.out] at C4
      have HC4 := Lib.hid C4
      have D3 := Lib.hid (D2.out.trans (d3.mono D2.out.size))
      clear d3 C3 C4 D2 J2
      cases no
      · go_wp2_with fail
        refine HC4.out.mono ?_
        rintro e x4 ⟨rfl, d4⟩
        have D4 := Lib.hid (D3.out.trans (d4.mono D3.out.size))
        clear d4
        go_wp2_with fail
        go_meet
        exact D4
      · have hnr : ¬ nr ≤ t := by simpa using pn
        go_wp2_with fail
        refine HC4.out.mono ?_
        rintro e x4 ⟨rfl, d4⟩
        have D4 := Lib.hid (D3.out.trans (d4.mono D3.out.size))
        clear d4
        go_wp2_with fail
        go_meet
        exact D4
  case rest => as_aux_lemma =>
    have B8 := hcut
    have I28 := Lib.hid ((I27.out.keep B8.out).more B8.out.size)
    have I58 := Lib.hid ((I57.out.keep B8.out).more B8.out.size)
    have E8 := Lib.hid (B7.out.trans (B8.out.mono B7.out.size))
    clear hcut B8 I27 I57 B7
    go_upto_if 142 with fail
    go_cut [20, 21, 22, 23] (fun s20 s21 s22 s23 wx => Hid (Below wc.heap.size wc wx))
    case first => as_aux_lemma =>
      cases fine
      · go_wp2_with fail
        go_meet
        exact Lib.hid (Below.refl _ _)
      · have eR : R = remL rs (f, t) := HR.out.symm.trans (sOk_t HF.out).2.2
        obtain ⟨p1, p2, p3, p4, p5⟩ := rem_law HF.out
        rw [← eR] at p1 p2 p3 p4 p5
        have C1 := c_implHasNumber A5 c5 R f wc I58.out (Nat.le_refl _) (by omega)
        rw [p2, p3] at C1
        have HC1 := Lib.hid C1
        have P4 := Lib.hid p4
        have P5 := Lib.hid p5
        have P1 := Lib.hid p1
        clear C1 eR p1 p2 p3 p4 p5
        go_wp2_with fail
        refine HC1.out.mono ?_
        rintro e x1 ⟨rfl, d1⟩
        have J1 := Lib.hid ((I58.out.keep d1).more d1.size)
        have D1 := Lib.hid d1
        have C2 := c_implHasNumber A5 c5 R t x1 J1.out (Nat.le_refl _) (by omega)
        rw [P4.out, P5.out] at C2
        have HC2 := Lib.hid C2
        clear d1 C2 HC1
        go_wp2_with fail
        refine HC2.out.mono ?_
        rintro e x2 ⟨rfl, d2⟩
        have C4 := c_isRangeSet A5 c5 R x2 (J1.out.keep d2) d2.size (by omega)
        rw [P1.out] at C4
        have HC4 := Lib.hid C4
        have D2 := Lib.hid (D1.out.trans (d2.mono D1.out.size))
        clear d2 HC2 D1 J1 C4
        go_wp2_with fail
        refine HC4.out.mono ?_
        rintro e x4 ⟨rfl, d4⟩
        have D4 := Lib.hid (D2.out.trans (d4.mono D2.out.size))
        clear d4
        go_wp2_with fail
        go_meet
        exact D4
    case rest => as_aux_lemma =>
      have B9 := hcut
      have I29 := Lib.hid ((I28.out.keep B9.out).more B9.out.size)
      have I59 := Lib.hid ((I58.out.keep B9.out).more B9.out.size)
      have E9 := Lib.hid (E8.out.trans (B9.out.mono E8.out.size))
      clear hcut B9 I28 I58 E8
      go_upto_region 23 with fail
      go_cut [175] (fun s175 wx => Hid (wx = wc) ∧ ∃ b, s175 = .bool b ∧ Hid (b = (ok && fine)))
      case first => as_aux_lemma =>
        cases ok <;> cases fine <;> (go_wp2_with fail; go_meet; exact ⟨Lib.hid rfl, _, rfl, Lib.hid rfl⟩)
      case rest => as_aux_lemma =>
      obtain ⟨hw, b, rfl, hb⟩ := hcut
      obtain rfl := hw.out
      clear hw
      go_step
      go_cut [24, 25, 26, 27] (fun s24 s25 s26 s27 wx => Hid (Below wc.heap.size wc wx))
      case first => as_aux_lemma =>
        cases b
        · go_wp2_with fail
          go_meet
          exact Lib.hid (Below.refl _ _)
        · have hb1 : (ok && fine) = true := hb.out.symm
          rw [Bool.and_eq_true] at hb1
          obtain ⟨rfl, rfl⟩ := hb1
          have eM : M = addL rs (f, t) := HM.out.symm.trans (sOk_t HK.out).2.2
          have eR : R = remL rs (f, t) := HR.out.symm.trans (sOk_t HF.out).2.2
          have q1 := (sOk_t HK.out).2.1
          have q2 := (sOk_t HF.out).2.1
          obtain ⟨_, r1, r2, r3⟩ := uniOk_t (sOk_t HK.out).1
          have sl := size_law HK.out HF.out
          rw [← eM] at sl q1
          rw [← eR] at sl q2
          have C1 := c_implSetSize A2 c2 M wc I29.out (Nat.le_refl _) (by omega)
          rw [q1] at C1
          have HC1 := Lib.hid C1
          have C2 := fun W h => c_implSetSize (H := W.heap.size) A5 c5 R W h (Nat.le_refl _) (by omega)
          rw [q2] at C2
          have HC2 := Lib.hid C2
          have g1 := setSizeR_rng M hlM
          have g2 := setSizeR_rng R hlR
          clear C1 C2 eM eR q1 q2
          generalize setSizeR M = x at *
          generalize setSizeR R = y at *
          have w1 : IntKind.i64.wrap (x - y) = t - f + 1 := by rw [IntWalk.i64_in _ (by omega)]; exact sl
          have w2 := IntWalk.i64_in (t - f) (by omega)
          have w3 := IntWalk.i64_in (t - f + 1) (by omega)
          clear sl
          go_wp2_with fail
          refine HC1.out.mono ?_
          rintro e x1 ⟨rfl, d1⟩
          have J1 := Lib.hid ((I59.out.keep d1).more d1.size)
          have D1 := Lib.hid d1
          clear d1
          go_wp2_with fail
          refine (HC2.out x1 J1.out).mono ?_
          rintro e x2 ⟨rfl, d2⟩
          have D2 := Lib.hid (D1.out.trans (d2.mono D1.out.size))
          clear d2
          go_wp2_with fail
          go_meet
          exact D2
      case rest => as_aux_lemma =>
        have B10 := hcut
        have E10 := Lib.hid (E9.out.trans (B10.out.mono E9.out.size))
        have W10 := Lib.hid ((W0.out.keep E10.out).more E10.out.size)
        clear hcut B10 E9 I29 I59 HM HK HR HF
        go_wp2_with fail
        refine (c_DrawNextMissing a0 n0 cap0 _ W10.out (by omega)).mono ?_
        rintro e y1 ⟨A7, c7, L, vs, hvl, rfl, hlL, -, o1, b1⟩
        obtain ⟨x, rfl⟩ := one_of hvl
        have E11 := Lib.hid (E10.out.trans (b1.mono E10.out.size))
        have W11 := Lib.hid ((W10.out.keep b1).more b1.size)
        have I1 := Lib.hid o1.rngs
        clear b1 o1 hvl E10 W10
        go_wp2_with fail
        refine (c_implNextMissing A7 c7 L x _ I1.out (Nat.le_refl _) (by omega)).mono ?_
        rintro e y2 ⟨rfl, b2⟩
        have E12 := Lib.hid (E11.out.trans (b2.mono E11.out.size))
        have W12 := Lib.hid ((W11.out.keep b2).more b2.size)
        have I2 := Lib.hid ((I1.out.keep b2).more b2.size)
        clear b2 E11 W11 I1
        go_wp2_with fail
        refine (c_specNextMissing A7 c7 L x _ I2.out (Nat.le_refl _) (by omega)).mono ?_
        rintro e y3 ⟨rfl, b3⟩
        have E13 := Lib.hid (E12.out.trans (b3.mono E12.out.size))
        have W13 := Lib.hid ((W12.out.keep b3).more b3.size)
        have I3 := Lib.hid ((I2.out.keep b3).more b3.size)
        clear b3 E12 W12 I2
        have HN := Lib.hid (@next_has L x)
        generalize hnx : nextR L x = nx at *
        generalize hno : nextOk L x = no at *
        clear hnx hno
        go_upto_if 227 with fail
        go_cut [34, 35] (fun s34 s35 wx => Hid (Below y3.heap.size y3 wx))
        case first => as_aux_lemma =>
          cases no
          · go_wp2_with fail
            go_meet
            exact Lib.hid (Below.refl _ _)
          · obtain ⟨p1, p2, p3⟩ := HN.out rfl
            have C1 := c_implHasNumber A7 c7 L nx y3 I3.out (Nat.le_refl _) (by omega)
            rw [p1, p2] at C1
            have HC1 := Lib.hid C1
            clear C1 p1 p2
            go_wp2_with fail
            refine HC1.out.mono ?_
            rintro e x1 ⟨rfl, d1⟩
            have D1 := Lib.hid d1
            clear d1
            go_wp2_with fail
            go_meet
            exact D1
        case rest => as_aux_lemma =>
          have B14 := hcut
          have E14 := Lib.hid (E13.out.trans (B14.out.mono E13.out.size))
          have W14 := Lib.hid ((W13.out.keep B14.out).more B14.out.size)
          clear hcut B14 E13 W13 I3 HN
          go_wp2_with fail
          refine (c_DrawHasNumber a0 n0 cap0 _ W14.out (by omega)).mono ?_
          rintro e y1 ⟨A8, c8, L8, vs, hvl, rfl, hl8, -, o1, b1⟩
          obtain ⟨z, rfl⟩ := one_of hvl
          have E15 := Lib.hid (E14.out.trans (b1.mono E14.out.size))
          have I1 := Lib.hid o1.rngs
          clear b1 o1 hvl E14 W14
          go_wp2_with fail
          refine (c_implHasNumber A8 c8 L8 z _ I1.out (Nat.le_refl _) (by omega)).mono ?_
          rintro e y2 ⟨rfl, b2⟩
          have E16 := Lib.hid (E15.out.trans (b2.mono E15.out.size))
          have I2 := Lib.hid ((I1.out.keep b2).more b2.size)
          clear b2 E15 I1
          go_wp2_with fail
          refine (c_specHasNumber A8 c8 L8 z _ I2.out (Nat.le_refl _) (by omega)).mono ?_
          rintro e y3 ⟨rfl, b3⟩
          have E17 := Lib.hid (E16.out.trans (b3.mono E16.out.size))
          clear b3 E16 I2
          go_wp2_with fail
          go_ret
          exact ⟨rfl, E17.out⟩

theorem own : ownKnob Try.prog.godebug = none := by kernel_rfl
theorem laidOut : laidOutB Try.prog = true := by kernel_rfl

set_option maxRecDepth 100000 in
theorem lifted (os : Os) (started : os.Started) (H : Type) (enc : TypeId × Value → H) :
    ReturnsInHanded {} Try.checked os 8 .any (Rows.fnRangeSetsSpec.pre6 enc Try.prog Try.f8 Rows.fnRangeSetsRow.domain false) (Rows.fnRangeSetsSpec.post enc Try.prog Try.f8 false true false false) := by
  refine returnsInHanded_of_change (C := Try.checked) own started (by kernel_rfl) Try.func8
    (ChangeSpec.witness6 (enc := enc) (C := Try.checked) false ⟨#[], #[.slice none 0 0], []⟩ 8 (by kernel_rfl) (by kernel_rfl) (by kernel_rfl) (by kernel_rfl)) ?_
  intro W base args ds gs before hval0 hW hcnd _
  have hval : ∀ (j : Nat) t v, Try.f8.params[j]? = some t → args[j]? = some v → Value.okWide Try.prog W .any base t v := hval0
  have hW' := hW
  obtain ⟨p, q, hA0, hV, rfl, hfz, hnd⟩ := hW
  have hA : DataW.TrodAll enc Try.prog W 0 (fun _ => true) true Try.f8.params.toList args.toList ds p := hA0
  rw [Try.params8] at hA hval
  obtain ⟨v0, vs0, d0, ds0, p0, q0, hargs, rfl, rfl, h0, r0⟩ := trodAll_cons hA
  obtain ⟨rfl, rfl, rfl⟩ := trodAll_nil r0
  obtain rfl : args = #[v0] := by cases args; simp_all
  obtain ⟨rfl, rfl⟩ := trodVars_none hV
  have k0 := h0
  have lt0 : ∀ x ∈ p0, x.block < W.heap.size := by obtain ⟨m, hm⟩ := k0; exact DataW.trod_lt m _ _ _ hm
  obtain ⟨a0, cap0, n0, rfl, w0⟩ := open_bytes' (hval 0 33 v0 rfl rfl) h0
  clear hA0 hval0
  refine (walk a0 cap0 n0 W w0).mono fun e W' ⟨he, bel⟩ => ?_
  subst he
  exact ⟨_, rfl, _, _, _, [], _, [], hW', trodAll_mk1 (shut_bool Try.underlying4 _), (trodAll_cons_mk (Below.trod laidOut (by kernel_rfl) (of_decide_eq_true (by kernel_rfl)) k0 bel lt0) trodAll_mk0), rfl, bel.frame _, fun h => by cases h⟩

theorem over : Rows.fnRangeSetsRow.holds Try.pinned (OpenSpec.ofChange Rows.fnRangeSetsSpec) :=
  OpenClaim.holds_of_wide 8 Try.f8 rfl rfl rfl rfl rfl rfl rfl ⟨rfl, rfl, rfl, rfl, rfl⟩ rfl rfl rfl rfl rfl (by kernel_rfl) Try.func8 (by kernel_rfl)
    (of_decide_eq_true (by kernel_rfl)) (by unfold Func.isWrapper; first | (rw [if_pos (by decide +kernel)]; kernel_rfl) | (rw [if_neg (by decide +kernel)]; exact ⟨rfl, rfl⟩))
    (fun os started H enc _ => lifted os started H enc)

/-- THE STATEMENT -/
theorem proved : Rows.FnRangeSetsSaid := over
end Go.Proofs.Ytomckpobnblogaa.fnRangeSets
