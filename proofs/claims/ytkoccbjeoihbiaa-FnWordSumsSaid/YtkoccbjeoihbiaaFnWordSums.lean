/-
  The law FnWordSums returns true at every input and leaves its argument as it was: a sealed list is sound, the order of words does not matter, and swapped words have the swapped sum.
  Conditions: none.
-/
import Derived.Test.YtkoccbjeoihbiaaRows
import Derived.WalkKit
import Derived.ProofKit
import Derived.OpenShut
import Derived.ShutString
import Derived.ChangeOld
import Derived.Below
import Derived.Handy
import Derived.Test.YtkoccbjeoihbiaaTwo
import Derived.Test.YtkoccbjeoihbiaaOpenB
import Derived.Test.YtkoccbjeoihbiaaDrawX
import Derived.Test.YtkoccbjeoihbiaaEqI
import Derived.Test.YtkoccbjeoihbiaaGoodF
import Derived.Test.YtkoccbjeoihbiaaSeal
import Derived.Test.YtkoccbjeoihbiaaWordLaw
import Derived.Test.YtkoccbjeoihbiaaSerF
import Derived.Handy
namespace Go.Proofs.Ytkoccbjeoihbiaa.fnWordSums
open Go.ChangeShapes Go.WideShapes Go.ChangeAt Go.RowKit
open Go.ChangeMaps (open_string shut_string)
set_option linter.unusedVariables false

theorem rev_step (zs : List Int) (k : Nat) (h : k < zs.length) : (zs.drop k).reverse = (zs.drop (k + 1)).reverse ++ [zs.getD k 0] := by
  rw [List.drop_eq_getElem_cons h, List.reverse_cons]
  simp [h]
theorem swapR_y {x : Int} (h0 : 0 ≤ x) (h1 : x ≤ 65535) : swapOk x = true ∧ swapR x = swp x := by
  have h : swapOk x = true := inR_y ⟨h0, h1⟩
  exact ⟨h, by simp [swapR, h, swp]⟩
theorem good_of {n : Nat} {zs : List Int} (h1 : zs.length ≤ n) (h : ∀ z ∈ zs, 0 ≤ z ∧ z ≤ 65535) : goodB n 65535 zs = true :=
  goodB_y h1 (fun i hi => inR_y (h _ (by rw [show zs.getD i 0 = zs[i] from by simp [hi]]; exact List.getElem_mem _)))
theorem sealed (zs : List Int) (h : goodB 40 65535 zs = true) (h4 : zs.length ≠ 40) : sealOk zs = true ∧ ∃ L, sealL zs = L ∧ L.length ≤ 100 ∧ goodB 40 65535 L = true ∧ isSoundListR L = true := by
  have hm := (goodB_areW h).mem
  have hr := sumW_all (goodB_areW h)
  have hl := (goodB_t h).1
  have h1 : sealOk zs = true := by simp [sealOk, h, h4]
  have hg : goodB 40 65535 (zs ++ [65535 - sumW zs]) = true := by
    refine good_of (by simp; omega) (fun z hz => ?_)
    rcases List.mem_append.1 hz with hz | hz
    · exact hm z hz
    · simp at hz; omega
  refine ⟨h1, zs ++ [65535 - sumW zs], by simp [sealL, h1], by simp; omega, hg, ?_⟩
  simp only [isSoundListR, hg, if_true]
  rw [sumW_seal zs hm]
  rfl
theorem not_sealed (zs : List Int) (h : goodB 40 65535 zs = false) : sealOk zs = false ∧ wordSumR zs = 0 ∧ wordCheckR zs = 0 := by
  exact ⟨by simp [sealOk, h], by simp [wordSumR, h], by simp [wordCheckR, h]⟩
theorem sums_y (zs : List Int) (h : goodB 40 65535 zs = true) : (0 ≤ sumW zs ∧ sumW zs ≤ 65535) ∧ wordSumR zs = sumW zs ∧ wordCheckR zs = 65535 - sumW zs ∧ wordSumR zs.reverse = sumW zs ∧ goodB 40 65535 zs.reverse = true ∧ wordSumR (zs.reverse.map swp) = swp (sumW zs) ∧ goodB 40 65535 (zs.reverse.map swp) = true ∧ swapR (sumW zs) = swp (sumW zs) ∧ swapOk (sumW zs) = true := by
  have hm := (goodB_areW h).mem
  have hr := sumW_all (goodB_areW h)
  have hl := (goodB_t h).1
  have hmr : ∀ z ∈ zs.reverse, 0 ≤ z ∧ z ≤ 65535 := fun z hz => hm z (List.mem_reverse.1 hz)
  have g1 : goodB 40 65535 zs.reverse = true := good_of (by simpa using hl) hmr
  have g2 : goodB 40 65535 (zs.reverse.map swp) = true := good_of (by simpa using hl) (fun z hz => by
    obtain ⟨y, hy, rfl⟩ := List.mem_map.1 hz
    exact swp_rng (hmr y hy).1 (hmr y hy).2)
  refine ⟨hr, by simp [wordSumR, h], by simp [wordCheckR, h], ?_, g1, ?_, g2, (swapR_y hr.1 hr.2).2, (swapR_y hr.1 hr.2).1⟩
  · simp only [wordSumR, g1, if_true]
    exact sumW_rev zs hm
  · simp only [wordSumR, g2, if_true]
    rw [sumW_swp _ hmr, sumW_rev zs hm]
set_option maxRecDepth 100000 in
set_option maxHeartbeats 16000000 in
theorem walk (a0 : Option Addr) (cap0 n0 : Nat) (w : World) (w0 : BytesAt w w.heap.size a0 n0) :
    Calls Try.prog 11 #[.slice a0 n0 cap0] w fun e w' => e = .returned (.bool true) ∧ Below w.heap.size w w' := by
  have W0 := Lib.hid w0
  clear w0
  by_cases hbig : (65536 : Int) < (n0 : Int)
  · go_enter Try.func11, Try.ntmps11
    go_wp2_with (go_at_call 56; refine (c_rBig _ _ _ _).mono ?_; rintro e _ ⟨rfl, rfl⟩)
    go_ret
    exact ⟨rfl, Below.refl _ _⟩
  go_enter Try.func11, Try.ntmps11
  go_wp2_with fail
  refine (c_rBig _ _ _ _).mono ?_
  rintro e _ ⟨rfl, rfl⟩
  go_wp2_with fail
  refine (c_DrawSealWords a0 n0 cap0 _ W0.out (by omega)).mono ?_
  rintro e w1 ⟨A1, c1, zs, rfl, hl, -, o1, b1⟩
  have B1 := Lib.hid b1
  have I1 := Lib.hid o1.ints
  clear b1 o1
  go_wp2_with fail
  refine (c_implSealWords A1 c1 zs _ I1.out (Nat.le_refl _) (by omega)).mono ?_
  rintro e w2 ⟨A2, c2, rfl, o2, b2⟩
  have B2 := Lib.hid (B1.out.trans (b2.mono B1.out.size))
  have S2 := Lib.hid b2.size
  have I2 := Lib.hid (I1.out.keep b2)
  have J2 := Lib.hid o2.ints
  clear b2 o2 I1
  go_wp2_with fail
  refine (c_specSealWords A1 c1 zs _ I2.out S2.out (by omega)).mono ?_
  rintro e w3 ⟨A3, c3, rfl, o3, b3⟩
  have B3 := Lib.hid (B2.out.trans (b3.mono B2.out.size))
  have S3 := Lib.hid (show w1.heap.size ≤ w3.heap.size from Nat.le_trans S2.out b3.size)
  have I3 := Lib.hid (I2.out.keep (b3.mono S2.out))
  have J3 := Lib.hid (J2.out.keep b3)
  have K3 := Lib.hid o3.ints
  have T3 := Lib.hid b3.size
  have HL := sealL_len zs
  clear b3 o3 I2 J2
  go_wp2_with fail
  refine (c_rInts A2 A3 c2 c3 (sealL zs) _ J3.out K3.out T3.out (Nat.le_refl _) (by omega)).mono ?_
  rintro e w4 ⟨rfl, b4⟩
  have B4 := Lib.hid (B3.out.trans (b4.mono B3.out.size))
  have S4 := Lib.hid (show w1.heap.size ≤ w4.heap.size from Nat.le_trans S3.out b4.size)
  have I4 := Lib.hid (I3.out.keep (b4.mono S3.out))
  have J4 := Lib.hid (J3.out.keep (b4.mono T3.out))
  have T4 := Lib.hid (Nat.le_trans T3.out b4.size)
  clear b4 I3 J3 K3
  go_wp2_with fail
  refine (c_implWordSum A1 c1 zs _ I4.out (by omega)).mono ?_
  rintro e _ ⟨rfl, rfl⟩
  go_wp2_with fail
  refine (c_implWordCheck A1 c1 zs _ I4.out (by omega)).mono ?_
  rintro e _ ⟨rfl, rfl⟩
  go_wp2_with fail
  refine (c_specWordSum A1 c1 zs _ I4.out (by omega)).mono ?_
  rintro e _ ⟨rfl, rfl⟩
  go_wp2_with fail
  refine (c_specWordCheck A1 c1 zs _ I4.out (by omega)).mono ?_
  rintro e _ ⟨rfl, rfl⟩
  cases hG : goodB 40 65535 zs
  · obtain ⟨E1, E2, E3⟩ := not_sealed zs hG
    rw [E1, E2, E3]
    clear E1 E2 E3
    generalize sealL zs = L at *
    go_wp2_with fail
    refine (c_DrawIsSoundList a0 n0 cap0 _ ((W0.out.keep B4.out).more B4.out.size) (by omega)).mono ?_
    rintro e w8 ⟨A8, c8, ys, rfl, hl8, -, o8, b8⟩
    have B8 := Lib.hid (B4.out.trans (b8.mono B4.out.size))
    have I8 := Lib.hid o8.ints
    clear b8 o8
    go_wp2_with fail
    refine (c_implIsSoundList A8 c8 ys _ I8.out (by omega)).mono ?_
    rintro e _ ⟨rfl, rfl⟩
    go_wp2_with fail
    refine (c_specIsSoundList A8 c8 ys _ I8.out (by omega)).mono ?_
    rintro e _ ⟨rfl, rfl⟩
    generalize isSoundListR ys = u1 at *
    generalize goodB 40 65535 ys = u2 at *
    go_wp2
    go_ret
    exact ⟨by simp, B8.out⟩
  · obtain ⟨⟨r0, r1⟩, E1, E2, E3, E4, E5, E6, E7, E8⟩ := sums_y zs hG
    have hm := (goodB_areW hG).mem
    have F3 := Lib.hid E3
    have F4 := Lib.hid E4
    have F5 := Lib.hid E5
    have F6 := Lib.hid E6
    have F7 := Lib.hid E7
    have F8 := Lib.hid E8
    have HM := Lib.hid hm
    rw [E1, E2]
    clear E1 E2 E3 E4 E5 E6 E7 E8 hm
    generalize sumW zs = s at *
    by_cases h4 : zs.length = 40
    focus
      have E9 : sealOk zs = false := by simp [sealOk, h4]
      rw [E9]
      clear E9
      generalize sealL zs = L at *
      have H4 := Lib.hid h4
      clear h4
      go_wp2_with fail
    rotate_left
    focus
      obtain ⟨E9, L, EL, hL, EG, ES⟩ := sealed zs hG h4
      rw [EL] at J4
      rw [E9, EL]
      clear EL E9
      go_wp2_with fail
      refine (c_implIsSoundList A2 c2 L _ J4.out (by omega)).mono ?_
      rintro e _ ⟨rfl, rfl⟩
      rw [EG, ES]
      go_wp2_with fail
    all_goals
      have T := Lib.hid (Two.start w4)
      have BT := Lib.hid (((Below.refl w4.heap.size w4).alloc (Nat.le_refl _) (.cells #[] 3)).alloc (by simp) (.cells #[] 3))
      have IT := Lib.hid (I4.out.keep (BT.out.mono S4.out))
      have B5 := Lib.hid (B4.out.trans (BT.out.mono B4.out.size))
      have S5 := Lib.hid (Nat.le_trans S4.out BT.out.size)
      have S6 := Lib.hid B4.out.size
      have HS := Lib.hid (BT.out.size)
      clear BT I4 J4
      generalize (w4.alloc (.cells #[] 3)).alloc (.cells #[] 3) = w5 at *
      go_loopw [18, 19, 20] (fun v v' i wr => ∃ (k m : Nat) (A c A' c' : _), k ≤ zs.length ∧ m + k = zs.length ∧ i = .int .i64 ((k : Int) - 1) ∧ v = .slice A m c ∧ v' = .slice A' m c' ∧ Hid (Two wr w4.heap.size A c (zs.drop k).reverse A' c' ((zs.drop k).reverse.map swp)) ∧ Hid (Below w4.heap.size w5 wr) ∧ Hid (w4.heap.size ≤ wr.heap.size)) (fun _ _ i _ => (intOf i + 1).toNat)
      case atStart => exact ⟨zs.length, 0, _, _, _, _, Nat.le_refl _, by omega, rfl, rfl, rfl, Lib.hid (by rw [List.drop_length]; exact T.out), Lib.hid (Below.refl _ _), HS⟩
      case round =>
        clear T HS
        obtain ⟨k, m, A, c, A', c', hk, hm, rfl, rfl, rfl, HT, HB, HZ⟩ := hrel
        by_cases hk0 : 0 < k
        · obtain ⟨j, rfl⟩ : ∃ j, k = j + 1 := ⟨k - 1, by omega⟩
          have hj : j < zs.length := by omega
          have e1 : ((j + 1 : Nat) : Int) - 1 = (j : Int) := by omega
          rw [e1]
          obtain ⟨ad, rfl, hadb, hcz⟩ := (IT.out.keep (HB.out.mono S4.out)).at_ hj
          have hx := HM.out (zs.getD j 0) (by rw [show zs.getD j 0 = zs[j] from by simp [hj]]; exact List.getElem_mem _)
          have HR := Lib.hid (rev_step zs j hj)
          have HR2 := Lib.hid (congrArg (List.map swp) (rev_step zs j hj))
          generalize zs.getD j 0 = x at *
          obtain ⟨E1, E2⟩ := swapR_y hx.1 hx.2
          have HLm := Lib.hid (show ((zs.drop (j + 1)).reverse).length = m by rw [List.length_reverse, List.length_drop]; omega)
          have HLs := Lib.hid (show ((zs.drop (j + 1)).reverse.map swp).length = m by rw [List.length_map]; exact HLm.out)
          rw [List.map_append] at HR2
          generalize (zs.drop (j + 1)).reverse = L at *
          clear e1
          go_wp2_with fail
          refine (c_implSwapWord x _).mono ?_
          rintro e _ ⟨rfl, rfl⟩
          rw [E1, E2]
          clear E1 E2
          have hce := new1_cell wr (.int .i64 x) 3
          have bo := (Below.refl w4.heap.size wr).alloc HZ.out (.cells #[.int .i64 x] 3)
          have zo := Nat.le_trans HZ.out bo.size
          go_wp2_with (first
            | (at_builtin; refine wpList_appN2 _ rfl _ _ rfl w4.heap.size A c L m (m + 1) HLm.out rfl rfl (HT.out.push (.cells #[.int .i64 x] 3)).1 x _ rfl hce (by omega) zo ?_; intro A2 c2 w6 o6 g6 a6; have T6 := Lib.hid ((HT.out.push (.cells #[.int .i64 x] 3)).fst o6 g6 a6); have B6 := Lib.hid (grown_own bo g6 zo HT.out.1.low); have Z6 := Lib.hid (Nat.le_trans HZ.out B6.out.size); clear hce bo zo o6 g6 a6 hcz; have hce := new1_cell w6 (.int .i64 (swp x)) 3; have bo := B6.out.alloc Z6.out (.cells #[.int .i64 (swp x)] 3); have zo := Nat.le_trans HZ.out bo.size)
            | (at_builtin; refine wpList_appN2 _ rfl _ _ rfl w4.heap.size A' c' (L.map swp) m (m + 1) HLs.out rfl rfl (T6.out.push (.cells #[.int .i64 (swp x)] 3)).2.1 (swp x) _ rfl hce (by omega) zo ?_; intro A3 c3 w7 o7 g7 a7))
          have T7 := Lib.hid ((T6.out.push (.cells #[.int .i64 (swp x)] 3)).symm.fst o7 g7 a7).symm
          have B7 := Lib.hid (grown_own bo g7 zo T6.out.2.1.low)
          have Z7 := Lib.hid (Nat.le_trans HZ.out B7.out.size)
          have HB7 := Lib.hid (HB.out.trans B7.out)
          clear hce bo zo o7 g7 a7 T6 B6 Z6 HT
          go_wp2
          go_roundw
          case rel => exact ⟨j, m + 1, A2, c2, A3, c3, by omega, by omega, by first | rfl | go_num, rfl, rfl, Lib.hid (by rw [HR2.out, HR.out]; exact T7.out), HB7, Z7⟩
          case measure => first | (simp [intOf]; done) | (simp [intOf]; omega)
        · obtain rfl : k = 0 := by omega
          obtain rfl : m = zs.length := by omega
          have T9 : Hid (Two wr w4.heap.size A c zs.reverse A' c' (zs.reverse.map swp)) := Lib.hid (by have := HT.out; rwa [List.drop_zero] at this)
          have B9 := Lib.hid (B5.out.trans (HB.out.mono S6.out))
          have C2 := c_implWordSum A' c' (zs.reverse.map swp) wr T9.out.2.1.ints (by simp; omega)
          rw [List.length_map, List.length_reverse] at C2
          have HC2 := Lib.hid C2
          have C1 := c_implWordSum A c zs.reverse wr T9.out.1.ints (by simp; omega)
          rw [List.length_reverse] at C1
          have HC1 := Lib.hid C1
          clear C2 C1 HT
          rw [show ((0 : Nat) : Int) - 1 = -1 from rfl]
          go_wp2_with fail
          refine HC1.out.mono ?_
          rintro e _ ⟨rfl, rfl⟩
          rw [F3.out, F4.out]
          go_wp2_with fail
          refine HC2.out.mono ?_
          rintro e _ ⟨rfl, rfl⟩
          rw [F5.out, F6.out]
          go_wp2_with fail
          refine (c_implSwapWord s _).mono ?_
          rintro e _ ⟨rfl, rfl⟩
          rw [F7.out, F8.out]
          go_wp2_with fail
          refine (c_DrawIsSoundList a0 n0 cap0 _ ((W0.out.keep B9.out).more B9.out.size) (by omega)).mono ?_
          rintro e w8 ⟨A8, c8, ys, rfl, hl8, -, o8, b8⟩
          have B8 := Lib.hid (B9.out.trans (b8.mono B9.out.size))
          have I8 := Lib.hid o8.ints
          clear b8 o8
          go_wp2_with fail
          refine (c_implIsSoundList A8 c8 ys _ I8.out (by omega)).mono ?_
          rintro e _ ⟨rfl, rfl⟩
          go_wp2_with fail
          refine (c_specIsSoundList A8 c8 ys _ I8.out (by omega)).mono ?_
          rintro e _ ⟨rfl, rfl⟩
          generalize isSoundListR ys = u1 at *
          generalize goodB 40 65535 ys = u2 at *
          go_wp2
          go_ret
          exact ⟨by simp, B8.out⟩

theorem own : ownKnob Try.prog.godebug = none := by kernel_rfl
theorem laidOut : laidOutB Try.prog = true := by kernel_rfl

set_option maxRecDepth 100000 in
theorem lifted (os : Os) (started : os.Started) (H : Type) (enc : TypeId × Value → H) :
    ReturnsInHanded {} Try.checked os 11 .any (Rows.fnWordSumsSpec.pre6 enc Try.prog Try.f11 Rows.fnWordSumsRow.domain false) (Rows.fnWordSumsSpec.post enc Try.prog Try.f11 false true false false) := by
  refine returnsInHanded_of_change (C := Try.checked) own started (by kernel_rfl) Try.func11
    (ChangeSpec.witness6 (enc := enc) (C := Try.checked) false ⟨#[], #[.slice none 0 0], []⟩ 8 (by kernel_rfl) (by kernel_rfl) (by kernel_rfl) (by kernel_rfl)) ?_
  intro W base args ds gs before hval0 hW hcnd _
  have hval : ∀ (j : Nat) t v, Try.f11.params[j]? = some t → args[j]? = some v → Value.okWide Try.prog W .any base t v := hval0
  have hW' := hW
  obtain ⟨p, q, hA0, hV, rfl, hfz, hnd⟩ := hW
  have hA : DataW.TrodAll enc Try.prog W 0 (fun _ => true) true Try.f11.params.toList args.toList ds p := hA0
  rw [Try.params11] at hA hval
  obtain ⟨v0, vs0, d0, ds0, p0, q0, hargs, rfl, rfl, h0, r0⟩ := trodAll_cons hA
  obtain ⟨rfl, rfl, rfl⟩ := trodAll_nil r0
  obtain rfl : args = #[v0] := by cases args; simp_all
  obtain ⟨rfl, rfl⟩ := trodVars_none hV
  have k0 := h0
  have lt0 : ∀ x ∈ p0, x.block < W.heap.size := by obtain ⟨m, hm⟩ := k0; exact DataW.trod_lt m _ _ _ hm
  obtain ⟨a0, cap0, n0, rfl, w0⟩ := open_bytes' (hval 0 37 v0 rfl rfl) h0
  clear hA0 hval0
  refine (walk a0 cap0 n0 W w0).mono fun e W' ⟨he, bel⟩ => ?_
  subst he
  exact ⟨_, rfl, _, _, _, [], _, [], hW', trodAll_mk1 (shut_bool Try.underlying4 _), (trodAll_cons_mk (Below.trod laidOut (by kernel_rfl) (of_decide_eq_true (by kernel_rfl)) k0 bel lt0) trodAll_mk0), rfl, bel.frame _, fun h => by cases h⟩

theorem over : Rows.fnWordSumsRow.holds Try.pinned (OpenSpec.ofChange Rows.fnWordSumsSpec) :=
  OpenClaim.holds_of_wide 11 Try.f11 rfl rfl rfl rfl rfl rfl rfl ⟨rfl, rfl, rfl, rfl, rfl⟩ rfl rfl rfl rfl rfl (by kernel_rfl) Try.func11 (by kernel_rfl)
    (of_decide_eq_true (by kernel_rfl)) (by unfold Func.isWrapper; first | (rw [if_pos (by decide +kernel)]; kernel_rfl) | (rw [if_neg (by decide +kernel)]; exact ⟨rfl, rfl⟩))
    (fun os started H enc _ => lifted os started H enc)

/-- THE STATEMENT -/
theorem proved : Rows.FnWordSumsSaid := over
end Go.Proofs.Ytkoccbjeoihbiaa.fnWordSums
