/-
  The law FnChecks returns true at every input and leaves its argument as it was: an updated check is that of the changed list or the other one of 0 and the greatest word, and the sum of two texts of even length is both sums added.
  Conditions: none.
-/
import Derived.Test.YtkoccbjeoihbiaaRows
import Derived.WalkKit
import Derived.ProofKit
import Derived.OpenShut
import Derived.ShutString
import Derived.ChangeOld
import Derived.Below
import Derived.Handy
import Derived.Test.YtkoccbjeoihbiaaTwo
import Derived.Test.YtkoccbjeoihbiaaOpenB
import Derived.Test.YtkoccbjeoihbiaaDrawX
import Derived.Test.YtkoccbjeoihbiaaDrawT
import Derived.Test.YtkoccbjeoihbiaaEqI
import Derived.Test.YtkoccbjeoihbiaaCheckLaw
import Derived.Handy
import Derived.Deep.RegionHeld3
import Derived.Deep.DeepCutAuto
namespace Go.Proofs.Ytkoccbjeoihbiaa.fnChecks
open Go.ChangeShapes Go.WideShapes Go.ChangeAt Go.RowKit
open Go.ChangeMaps (open_string shut_string)
set_option linter.unusedVariables false

theorem upd_call (before z again : Int) (W : World) (h1 : updOk before z (65535 - z) = true) (h2 : updR before z (65535 - z) = again) :
    Calls Try.prog 68 #[.int .i64 before, .int .i64 z, .int .i64 (65535 - z)] W fun e w' => e = .returned (.tuple #[.int .i64 again, .bool true]) ∧ Below W.heap.size W w' := by
  have h := c_implUpdateCheck before z (65535 - z) W
  rw [h1, h2] at h
  exact h
theorem own_set0 {w : World} {B g c : Nat} {zs : List Int} (h : OwnI w B (some ⟨g, 0, none⟩) c zs) (v : Int) : OwnI (w.setCell ⟨g, 0, none⟩ (.int .i64 v)) B (some ⟨g, 0, none⟩) c (zs.set 0 v) := by
  have h1 := (World.ownsRow.stored h 0 (.int .i64 v)).1
  unfold OwnI
  rw [List.length_set, List.map_set]
  exact h1
theorem own_row {w : World} {B c : Nat} {A : Option Addr} {zs : List Int} (h : OwnI w B A c zs) : w.ownsRow B 3 1 (.slice A zs.length c) zs.length (zs.map (Value.int .i64)) := h
theorem words_len2 (r : ByteArray) (h : wordsOk r = true) : (((wordsR r).length : Int) != ((r.size : Int) + 1) / 2) = false := by
  have e : wordsR r = wordsL r := by simp [wordsR, h]
  rw [e, wordsL_len]
  simp only [bne_eq_false_iff_eq]
  omega
set_option maxRecDepth 100000 in
set_option maxHeartbeats 64000000 in
theorem walk (a0 : Option Addr) (cap0 n0 : Nat) (w : World) (w0 : BytesAt w w.heap.size a0 n0) :
    Calls Try.prog 12 #[.slice a0 n0 cap0] w fun e w' => e = .returned (.bool true) ∧ Below w.heap.size w w' := by
  have W0 := Lib.hid w0
  clear w0
  by_cases hbig : (65536 : Int) < (n0 : Int)
  · go_enter Try.func12, Try.ntmps12
    go_wp2_with (go_at_call 56; refine (c_rBig _ _ _ _).mono ?_; rintro e _ ⟨rfl, rfl⟩)
    go_ret
    exact ⟨rfl, Below.refl _ _⟩
  go_enter Try.func12, Try.ntmps12
  go_wp2_with fail
  refine (c_rBig _ _ _ _).mono ?_
  rintro e _ ⟨rfl, rfl⟩
  go_wp2_with fail
  refine (c_DrawUpdateCheck a0 n0 cap0 _ W0.out (by omega)).mono ?_
  rintro e w1 ⟨x1, x2, x3, rfl, -, -, -, b1⟩
  have B1 := Lib.hid b1
  clear b1
  go_wp2_with fail
  refine (c_implUpdateCheck x1 x2 x3 _).mono ?_
  rintro e w2 ⟨rfl, b2⟩
  have B2 := Lib.hid (B1.out.trans (b2.mono B1.out.size))
  clear b2
  go_wp2_with fail
  refine (c_specUpdateCheck x1 x2 x3 _).mono ?_
  rintro e _ ⟨rfl, rfl⟩
  generalize updR x1 x2 x3 = u1 at *
  generalize updOk x1 x2 x3 = u2 at *
  go_wp2_with fail
  refine (c_DrawWordCheck a0 n0 cap0 _ ((W0.out.keep B2.out).more B2.out.size) (by omega)).mono ?_
  rintro e w3 ⟨A3, c3, zs, rfl, hl, -, o3, b3⟩
  have B3 := Lib.hid (B2.out.trans (b3.mono B2.out.size))
  have I3 := Lib.hid o3.ints
  clear b3 o3
  go_wp2_with fail
  refine (c_implWordCheck A3 c3 zs _ I3.out (by omega)).mono ?_
  rintro e _ ⟨rfl, rfl⟩
  go_upto_region 10 with fail
  go_cut [12, 92] (fun s12 s92 wx => s12 = .bool (goodB 40 65535 zs) ∧ s92 = .bool (goodB 40 65535 zs && decide (0 < zs.length)) ∧ wx = w3)
  case first => as_aux_lemma =>
    cases hg : goodB 40 65535 zs
    · go_wp2_with fail
      go_meet
      exact ⟨by simp [hg], by simp [hg], rfl⟩
    · by_cases h0 : 0 < zs.length
      · go_wp2_with fail
        go_meet
        exact ⟨by simp [hg], by simp [hg, h0], rfl⟩
      · go_wp2_with fail
        go_meet
        exact ⟨by simp [hg], by simp [hg, h0], rfl⟩
  case rest => as_aux_lemma =>
    obtain ⟨rfl, rfl, rfl⟩ := hcut
    go_upto_if 92 with fail
    go_cut [11, 13, 14, 15, 16, 17] (fun s11 s13 s14 s15 s16 s17 wx => Hid (Below w.heap.size w wx))
    case first => as_aux_lemma =>
      cases hb : (goodB 40 65535 zs && decide (0 < zs.length))
      · go_wp2_with fail
        go_meet
        exact B3
      · simp only [Bool.and_eq_true, decide_eq_true_eq] at hb
        obtain ⟨z, before, after, again, hz, ⟨z0, z1⟩, ⟨p0, p1⟩, ⟨q0, q1⟩, ⟨r0, r1⟩, E1, E2, E3, E4, E5, hmod⟩ := upd_law zs hb.1 hb.2
        have hl0 := hb.2
        obtain ⟨ad, rfl, hadb, hc0⟩ := I3.out.at_ hl0
        rw [hz] at hc0
        have C6 := Lib.hid (fun W => upd_call before z again W E4.out E5.out)
        have HE := Lib.hid (OwnI.empty wc wc.heap.size (Nat.le_refl _))
        have bE := (Below.refl wc.heap.size wc).alloc (Nat.le_refl _) (.cells #[] 3)
        have IE := Lib.hid (I3.out.keep bE)
        have hze := Lib.hid hz
        rw [E1.out]
        clear E1 E4 E5 hb hz
        go_wp2_with (at_builtin; refine wpList_appIs _ rfl _ _ rfl wc.heap.size _ 0 [] rfl HE.out zs ad c3 rfl IE.out (by simpa using (show zs.length ≤ 100000000 by omega)) bE.size ?_; intro A4 c4 w4 o4 b4; simp only [List.nil_append] at o4; obtain ⟨g, rfl, hgB⟩ := own_head o4 hl0; have hgw := (World.ownsRow.lt o4 g rfl).2; have B4 := bE.trans b4; have hc4 := (B4.cell (by rw [block_of_add]; exact hadb)).trans hc0; have hc4' := hc4; rw [add_zero'] at hc4'; have r4 := own_row o4; have hu := (r4.cellAt 0 (by omega)).trans (List.getElem?_eq_getElem (by simpa using hl0)); have hf := r4.frozenAt 0; clear r4; have O5 := Lib.hid (own_set0 o4 (65535 - z)); have B5 := Lib.hid (B4.setCell (p := ⟨g, 0, none⟩) hgB (.int .i64 (65535 - z))); have hne : ad.block ≠ g := (by omega); clear o4 b4)
        have hw4 : wc.heap.size ≤ w4.heap.size := B4.size
        have C5 := c_implWordCheck (some ⟨g, 0, none⟩) c4 (zs.set 0 (65535 - z)) (w4.setCell ⟨g, 0, none⟩ (.int .i64 (65535 - z))) O5.out.ints (by rw [List.length_set]; omega)
        rw [List.length_set, E2.out, E3.out] at C5
        have HC5 := Lib.hid C5
        have hs5 : (w4.setCell ⟨g, 0, none⟩ (.int .i64 (65535 - z))).heap.size = w4.heap.size := World.size_setCell _ _ _
        have hcl := (World.cell?_setCell_other w4 ⟨g, 0, none⟩ (ad.add 0) (.int .i64 (65535 - z)) (by rw [add_zero']; intro e; rw [← e] at hne; exact hne rfl)).trans hc4
        have hcg := World.cell?_setCell_same w4 ⟨g, 0, none⟩ (.int .i64 (65535 - z)) hu
        have hadw : ad.block < w4.heap.size := by omega
        have hcl2 := hcl
        rw [add_zero'] at hcl2
        clear C5 hc4 hc4' hu hf O5 HE IE bE B4
        generalize w4.setCell ⟨g, 0, none⟩ (.int .i64 (65535 - z)) = w5 at *
        go_wp2_with fail
        refine HC5.out.mono ?_
        rintro e _ ⟨rfl, rfl⟩
        go_wp2_with fail
        go_region_held3 (fun W => W.cell? (ad.add 0) = some (.int .i64 z) ∧ W.cell? ad = some (.int .i64 z) ∧ W.cell? ⟨g, 0, none⟩ = some (.int .i64 (65535 - z))) (go_keep)
          ((go_at_call 68; refine (C6.out _).mono ?_; rintro e w6 ⟨rfl, b6⟩; have k1 := (b6.cell (p := ad.add 0) (by rw [block_of_add]; simp; omega)).trans hcl; have k3 := k1; rw [add_zero'] at k3; have k2 := (b6.cell (p := ⟨g, 0, none⟩) (by simp; omega)).trans hcg))
        all_goals
          have B6 := Lib.hid (B3.out.trans ((B5.out.drew.trans (b6.mono (by simpa using B5.out.size))).mono B3.out.size))
          clear b6 k1 k2 k3
          go_wp2_with fail
          go_meet
          exact B6
    case rest => as_aux_lemma =>
      have B4 := hcut
      clear hcut B1 B2 B3 I3
      go_wp2_with fail
      refine (c_DrawTextSum a0 n0 cap0 _ ((W0.out.keep B4.out).more B4.out.size) (by omega)).mono ?_
      rintro e w7 ⟨s, t, rfl, ⟨hs, ht⟩, b7⟩
      have B7 := Lib.hid (B4.out.trans (b7.mono B4.out.size))
      clear b7
      go_wp2_with fail
      refine (c_implTextSum s t _ (by omega) (by omega)).mono ?_
      rintro e w8 ⟨rfl, b8⟩
      have B8 := Lib.hid (B7.out.trans (b8.mono B7.out.size))
      clear b8
      go_wp2_with fail
      refine (c_specTextSum s t _ (by omega) (by omega)).mono ?_
      rintro e w9 ⟨rfl, b9⟩
      have B9 := Lib.hid (B8.out.trans (b9.mono B8.out.size))
      clear b9 B7 B8 B4
      go_upto_region 22 with fail
      go_cut [21, 23, 162] (fun s21 s23 s162 wx => s21 = .bool (textOk s t) ∧ s162 = .bool (textOk s t && decide (s.size % 2 = 0)) ∧ wx = w9)
      case first => as_aux_lemma =>
        cases hg : textOk s t
        · go_wp2_with fail
          go_meet
          exact ⟨by simp [hg], by simp [hg], rfl⟩
        · by_cases h0 : s.size % 2 = 0
          · have hq : (s.size : Int) % 2 = 0 := by omega
            go_wp2_with fail
            go_meet
            exact ⟨by simp [hg], by simp [hg, h0], rfl⟩
          · have hq : (s.size : Int) % 2 = 1 := by omega
            go_wp2_with fail
            go_meet
            exact ⟨by simp [hg], by simp [hg, h0], rfl⟩
      case rest => as_aux_lemma =>
        obtain ⟨rfl, rfl, rfl⟩ := hcut
        go_upto_if 162 with fail
        go_cut [24, 25, 26, 27, 28, 29] (fun s24 s25 s26 s27 s28 s29 wx => Hid (Below w.heap.size w wx))
        case first => as_aux_lemma =>
          cases hb : (textOk s t && decide (s.size % 2 = 0))
          · go_wp2_with fail
            go_meet
            exact B9
          · simp only [Bool.and_eq_true, decide_eq_true_eq] at hb
            obtain ⟨x, y, E1, E2, E3, E4, E5, E6⟩ := text_law s t hb.1 hb.2
            clear hb
            generalize textR s t = v at *
            go_wp2_with fail
            refine (c_implTextSum s ⟨#[]⟩ _ (by omega) (by decide)).mono ?_
            rintro e w10 ⟨rfl, b10⟩
            rw [E1.out, E2.out]
            have B10 := Lib.hid (B9.out.trans (b10.mono B9.out.size))
            clear b10
            go_wp2_with fail
            refine (c_implTextSum ⟨#[]⟩ t _ (by decide) (by omega)).mono ?_
            rintro e w11 ⟨rfl, b11⟩
            rw [E3.out, E4.out]
            have B11 := Lib.hid (B10.out.trans (b11.mono B10.out.size))
            clear b11
            go_wp2_with fail
            refine (c_implAddWords x y _).mono ?_
            rintro e _ ⟨rfl, rfl⟩
            rw [E5.out, E6.out]
            go_wp2_with fail
            go_meet
            exact B11
        case rest => as_aux_lemma =>
          have B12 := hcut
          clear hcut B9
          go_wp2_with fail
          refine (c_DrawWordsOf a0 n0 cap0 _ ((W0.out.keep B12.out).more B12.out.size) (by omega)).mono ?_
          rintro e w13 ⟨r, rfl, hr, b13⟩
          have B13 := Lib.hid (B12.out.trans (b13.mono B12.out.size))
          clear b13
          go_wp2_with fail
          refine (c_implWordsOf r _).mono ?_
          rintro e w14 ⟨A14, c14, rfl, o14, b14⟩
          have B14 := Lib.hid (B13.out.trans (b14.mono B13.out.size))
          have I14 := Lib.hid o14.ints
          clear b14 o14
          go_wp2_with fail
          refine (c_specWordsOf r _).mono ?_
          rintro e w15 ⟨A15, c15, rfl, o15, b15⟩
          have B15 := Lib.hid (B14.out.trans (b15.mono B14.out.size))
          have I15 := Lib.hid o15.ints
          have J15 := Lib.hid (I14.out.keep b15)
          have S15 := Lib.hid b15.size
          clear b15 o15 I14
          have HC := Lib.hid (c_rInts A14 A15 c14 c15 (wordsR r) w15 J15.out I15.out S15.out (Nat.le_refl _) (by have := wordsR_len r; omega))
          have HLEN := Lib.hid (words_len2 r)
          generalize (wordsR r).length = m at *
          go_upto_region 31 with fail
          go_cut [32, 34, 226] (fun s32 s34 s226 wx => s226 = .bool false ∧ Hid (Below w.heap.size w wx))
          case first => as_aux_lemma =>
            cases hk : wordsOk r
            · go_wp2_with fail
              refine HC.out.mono ?_
              rintro e w16 ⟨rfl, b16⟩
              have B16 := Lib.hid (B15.out.trans (b16.mono B15.out.size))
              clear b16
              go_wp2_with fail
              go_meet
              exact ⟨rfl, B16⟩
            · have hne := HLEN.out hk
              go_wp2_with fail
              refine HC.out.mono ?_
              rintro e w16 ⟨rfl, b16⟩
              have B16 := Lib.hid (B15.out.trans (b16.mono B15.out.size))
              clear b16
              go_wp2_with fail
              go_meet
              exact ⟨rfl, B16⟩
          case rest => as_aux_lemma =>
            obtain ⟨rfl, B16⟩ := hcut
            clear HC HLEN J15 I15 B15 B14 B13 B12 S15
            go_wp2_with fail
            refine (c_DrawAddWords a0 n0 cap0 _ ((W0.out.keep B16.out).more B16.out.size) (by omega)).mono ?_
            rintro e w17 ⟨p, q, rfl, -, -, -, -, b17⟩
            have B17 := Lib.hid (B16.out.trans (b17.mono B16.out.size))
            clear b17
            go_wp2_with fail
            refine (c_implAddWords p q _).mono ?_
            rintro e _ ⟨rfl, rfl⟩
            go_wp2_with fail
            refine (c_implAddWords q p _).mono ?_
            rintro e _ ⟨rfl, rfl⟩
            rw [(addWords_comm p q).1, (addWords_comm p q).2]
            go_wp2_with fail
            refine (c_specAddWords p q _).mono ?_
            rintro e _ ⟨rfl, rfl⟩
            generalize addWordsR p q = v1 at *
            generalize addWordsOk p q = v2 at *
            go_wp2_with fail
            refine (c_DrawSwapWord a0 n0 cap0 _ ((W0.out.keep B17.out).more B17.out.size) (by omega)).mono ?_
            rintro e w18 ⟨x, rfl, -, -, b18⟩
            have B18 := Lib.hid (B17.out.trans (b18.mono B17.out.size))
            clear b18
            go_wp2_with fail
            refine (c_implSwapWord x _).mono ?_
            rintro e _ ⟨rfl, rfl⟩
            go_wp2_with fail
            refine (c_implSwapWord (swapR x) _).mono ?_
            rintro e _ ⟨rfl, rfl⟩
            go_wp2_with fail
            refine (c_specSwapWord x _).mono ?_
            rintro e _ ⟨rfl, rfl⟩
            cases hs : swapOk x
            · generalize swapR (swapR x) = v3 at *
              generalize swapOk (swapR x) = v4 at *
              generalize swapR x = v5 at *
              go_wp2
              go_ret
              exact ⟨by simp, B18.out⟩
            · rw [(swap_law x hs).1, (swap_law x hs).2]
              generalize swapR x = v5 at *
              go_wp2
              go_ret
              exact ⟨by simp, B18.out⟩

theorem own : ownKnob Try.prog.godebug = none := by kernel_rfl
theorem laidOut : laidOutB Try.prog = true := by kernel_rfl

set_option maxRecDepth 100000 in
theorem lifted (os : Os) (started : os.Started) (H : Type) (enc : TypeId × Value → H) :
    ReturnsInHanded {} Try.checked os 12 .any (Rows.fnChecksSpec.pre6 enc Try.prog Try.f12 Rows.fnChecksRow.domain false) (Rows.fnChecksSpec.post enc Try.prog Try.f12 false true false false) := by
  refine returnsInHanded_of_change (C := Try.checked) own started (by kernel_rfl) Try.func12
    (ChangeSpec.witness6 (enc := enc) (C := Try.checked) false ⟨#[], #[.slice none 0 0], []⟩ 8 (by kernel_rfl) (by kernel_rfl) (by kernel_rfl) (by kernel_rfl)) ?_
  intro W base args ds gs before hval0 hW hcnd _
  have hval : ∀ (j : Nat) t v, Try.f12.params[j]? = some t → args[j]? = some v → Value.okWide Try.prog W .any base t v := hval0
  have hW' := hW
  obtain ⟨p, q, hA0, hV, rfl, hfz, hnd⟩ := hW
  have hA : DataW.TrodAll enc Try.prog W 0 (fun _ => true) true Try.f12.params.toList args.toList ds p := hA0
  rw [Try.params12] at hA hval
  obtain ⟨v0, vs0, d0, ds0, p0, q0, hargs, rfl, rfl, h0, r0⟩ := trodAll_cons hA
  obtain ⟨rfl, rfl, rfl⟩ := trodAll_nil r0
  obtain rfl : args = #[v0] := by cases args; simp_all
  obtain ⟨rfl, rfl⟩ := trodVars_none hV
  have k0 := h0
  have lt0 : ∀ x ∈ p0, x.block < W.heap.size := by obtain ⟨m, hm⟩ := k0; exact DataW.trod_lt m _ _ _ hm
  obtain ⟨a0, cap0, n0, rfl, w0⟩ := open_bytes' (hval 0 37 v0 rfl rfl) h0
  clear hA0 hval0
  refine (walk a0 cap0 n0 W w0).mono fun e W' ⟨he, bel⟩ => ?_
  subst he
  exact ⟨_, rfl, _, _, _, [], _, [], hW', trodAll_mk1 (shut_bool Try.underlying4 _), (trodAll_cons_mk (Below.trod laidOut (by kernel_rfl) (of_decide_eq_true (by kernel_rfl)) k0 bel lt0) trodAll_mk0), rfl, bel.frame _, fun h => by cases h⟩

theorem over : Rows.fnChecksRow.holds Try.pinned (OpenSpec.ofChange Rows.fnChecksSpec) :=
  OpenClaim.holds_of_wide 12 Try.f12 rfl rfl rfl rfl rfl rfl rfl ⟨rfl, rfl, rfl, rfl, rfl⟩ rfl rfl rfl rfl rfl (by kernel_rfl) Try.func12 (by kernel_rfl)
    (of_decide_eq_true (by kernel_rfl)) (by unfold Func.isWrapper; first | (rw [if_pos (by decide +kernel)]; kernel_rfl) | (rw [if_neg (by decide +kernel)]; exact ⟨rfl, rfl⟩))
    (fun os started H enc _ => lifted os started H enc)

/-- THE STATEMENT -/
theorem proved : Rows.FnChecksSaid := over
end Go.Proofs.Ytkoccbjeoihbiaa.fnChecks
