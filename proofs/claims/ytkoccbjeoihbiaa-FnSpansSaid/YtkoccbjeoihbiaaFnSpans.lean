/-
  The law FnSpans returns true at every input and leaves its argument as it was: the serials of a span are in it, sorting keeps all serials, and the shortest span has all serials of a list.
  Conditions: none.
-/
import Derived.Test.YtkoccbjeoihbiaaRows
import Derived.WalkKit
import Derived.ProofKit
import Derived.OpenShut
import Derived.ShutString
import Derived.ChangeOld
import Derived.Below
import Derived.Handy
import Derived.Test.YtkoccbjeoihbiaaOpenB
import Derived.Test.YtkoccbjeoihbiaaDrawP
import Derived.Test.YtkoccbjeoihbiaaEqI
import Derived.Test.YtkoccbjeoihbiaaSpanLaw
import Derived.Test.YtkoccbjeoihbiaaSortS
import Derived.Handy
namespace Go.Proofs.Ytkoccbjeoihbiaa.fnSpans
open Go.ChangeShapes Go.WideShapes Go.ChangeAt Go.RowKit
open Go.ChangeMaps (open_string shut_string)
set_option linter.unusedVariables false

set_option maxRecDepth 100000 in
set_option maxHeartbeats 64000000 in
theorem walk (a0 : Option Addr) (cap0 n0 : Nat) (w : World) (w0 : BytesAt w w.heap.size a0 n0) :
    Calls Try.prog 14 #[.slice a0 n0 cap0] w fun e w' => e = .returned (.bool true) ∧ Below w.heap.size w w' := by
  have W0 := Lib.hid w0
  clear w0
  by_cases hbig : (65536 : Int) < (n0 : Int)
  · go_enter Try.func14, Try.ntmps14
    go_wp2_with (go_at_call 26; refine (c_vBig _ _ _ _).mono ?_; rintro e _ ⟨rfl, rfl⟩)
    go_ret
    exact ⟨rfl, Below.refl _ _⟩
  go_enter Try.func14, Try.ntmps14
  go_wp2_with fail
  refine (c_vBig _ _ _ _).mono ?_
  rintro e _ ⟨rfl, rfl⟩
  go_wp2_with fail
  refine (c_DrawSerialSpan a0 n0 cap0 _ W0.out (by omega)).mono ?_
  rintro e w1 ⟨a, b, rfl, -, -, -, -, b1⟩
  have B1 := Lib.hid b1
  clear b1
  go_wp2_with fail
  refine (c_implSerialSpan a b _).mono ?_
  rintro e w2 ⟨A2, c2, rfl, o2, b2⟩
  have B2 := Lib.hid (B1.out.trans (b2.mono B1.out.size))
  have I2 := Lib.hid o2.ints
  clear b2 o2
  go_wp2_with fail
  refine (c_specSerialSpan a b _).mono ?_
  rintro e w3 ⟨A3, c3, rfl, o3, b3⟩
  have B3 := Lib.hid (B2.out.trans (b3.mono B2.out.size))
  have I3 := Lib.hid (I2.out.keep b3)
  have J3 := Lib.hid o3.ints
  have S3 := Lib.hid b3.size
  clear b3 o3 I2
  have HL := sspanL_len a b
  have HIN := Lib.hid (span_in a b)
  generalize sspanL a b = L at *
  generalize sspanOk a b = ok at *
  go_wp2_with fail
  refine (c_vInts A2 A3 c2 c3 L _ I3.out J3.out S3.out (Nat.le_refl _) (by omega)).mono ?_
  rintro e w4 ⟨rfl, b4⟩
  have B4 := Lib.hid (B3.out.trans (b4.mono B3.out.size))
  have I4 := Lib.hid (I3.out.keep (b4.mono S3.out))
  clear b4 I3 J3 B3 B2 B1 S3
  go_wp2
  go_loop [9] (fun i => ∃ k : Nat, k ≤ L.length ∧ i = .int .i64 k) (fun i => L.length - (intOf i).toNat)
  case atStart => exact ⟨0, Nat.zero_le _, rfl⟩
  case round =>
    obtain ⟨k, hk, rfl⟩ := hrel
    by_cases hlt : k < L.length
    · obtain ⟨x, hx, E1, E2⟩ := HIN.out k hlt
      obtain ⟨ad, rfl, hadb, hc⟩ := I4.out.at_ hlt
      rw [hx] at hc
      clear hx
      go_wp2_with fail
      refine (c_implInSpan x a (L.length : Int) _).mono ?_
      rintro e _ ⟨rfl, rfl⟩
      rw [E1.out, E2.out]
      go_wp2
      go_round
      case rel => exact ⟨k + 1, by omega, by go_num⟩
      case measure => simp [intOf]; omega
    · obtain rfl : k = L.length := by omega
      clear HIN I4
      go_wp2_with fail
      refine (c_DrawSortSerials a0 n0 cap0 _ ((W0.out.keep B4.out).more B4.out.size) (by omega)).mono ?_
      rintro e w5 ⟨A5, c5, zs, fr, rfl, hl5, -, -, o5, b5⟩
      have B5 := Lib.hid (B4.out.trans (b5.mono B4.out.size))
      have I5 := Lib.hid o5.ints
      clear b5 o5 B4
      go_wp2_with fail
      refine (c_implSortSerials A5 c5 zs fr _ I5.out (Nat.le_refl _) (by omega)).mono ?_
      rintro e w6 ⟨A6, c6, rfl, o6, b6⟩
      have B6 := Lib.hid (B5.out.trans (b6.mono B5.out.size))
      have I6 := Lib.hid (I5.out.keep b6)
      have J6 := Lib.hid o6.ints
      have S6 := Lib.hid b6.size
      clear b6 o6 I5 B5
      go_wp2_with fail
      refine (c_specSortSerials A5 c5 zs fr _ I6.out S6.out (by omega)).mono ?_
      rintro e w7 ⟨A7, c7, rfl, o7, b7⟩
      have B7 := Lib.hid (B6.out.trans (b7.mono B6.out.size))
      have I7 := Lib.hid (I6.out.keep (b7.mono S6.out))
      have J7 := Lib.hid (J6.out.keep b7)
      have K7 := Lib.hid o7.ints
      have S7 := Lib.hid b7.size
      have T7 := Lib.hid (Nat.le_trans S6.out b7.size)
      clear b7 o7 I6 J6 B6 S6
      have HL7 := ssL_len zs fr
      have HSRT := Lib.hid (sort_law zs fr)
      have HSZ := Lib.hid (ssL_size zs fr)
      generalize ssL zs fr = S at *
      cases hok : ssB zs fr
      rotate_left
      focus
        have hsz := HSZ.out hok
        have hne : ((S.length : Int) != (zs.length : Int)) = false := by rw [hsz]; simp
        clear hsz
        go_wp2_with fail
        refine (c_vInts A6 A7 c6 c7 S _ J7.out K7.out S7.out (Nat.le_refl _) (by omega)).mono ?_
        rintro e w8 ⟨rfl, b8⟩
        go_wp2
        clear hne
      rotate_left
      focus
        go_wp2_with fail
        refine (c_vInts A6 A7 c6 c7 S _ J7.out K7.out S7.out (Nat.le_refl _) (by omega)).mono ?_
        rintro e w8 ⟨rfl, b8⟩
        go_wp2
      all_goals
        have B8 := Lib.hid (B7.out.trans (b8.mono B7.out.size))
        have I8 := Lib.hid (I7.out.keep (b8.mono T7.out))
        have J8 := Lib.hid (J7.out.keep (b8.mono S7.out))
        clear b8 I7 J7 K7 S7 T7 B7 HSZ
        go_loop [18] (fun i => ∃ k : Nat, 1 ≤ k ∧ k ≤ S.length + 1 ∧ i = .int .i64 k) (fun i => S.length + 1 - (intOf i).toNat)
        case atStart => exact ⟨1, by omega, by omega, rfl⟩
        case round =>
          obtain ⟨k, hk1, hk, rfl⟩ := hrel
          by_cases hlt : k < S.length
          · obtain ⟨j, hj⟩ : ∃ j, k = j + 1 := ⟨k - 1, by omega⟩
            obtain ⟨x, y, p, q, hx, hy, E1, E2, E3, E4, hpq, HM⟩ := HSRT.out j (by omega)
            obtain ⟨ad, rfl, hadb, hc1⟩ := J8.out.at_ (k := j) (by omega)
            obtain ⟨ad', e', _, hc2⟩ := J8.out.at_ hlt
            cases e'
            rw [hx] at hc1
            rw [hj, hy, ← hj] at hc2
            have e1 : (k : Int) - 1 = j := by omega
            have e2 := IntWalk.i64_in (j : Int) (by omega)
            have l1 : j < S.length := by omega
            clear hx hy hj
            go_wp2_with fail
            refine (c_implSerialGap fr x _).mono ?_
            rintro e _ ⟨rfl, rfl⟩
            rw [E1.out, E2.out]
            go_wp2_with fail
            refine (c_implSerialGap fr y _).mono ?_
            rintro e _ ⟨rfl, rfl⟩
            rw [E3.out, E4.out]
            go_wp2_with fail
            refine (c_vHas A5 c5 zs y _ I8.out (by omega) HM.out).mono ?_
            rintro e _ ⟨rfl, rfl⟩
            go_wp2
            go_round
            case rel => exact ⟨k + 1, by omega, by omega, by go_num⟩
            case measure => simp [intOf]; omega
          · clear HSRT I8 J8
            go_wp2_with fail
            refine (c_DrawSpanOf a0 n0 cap0 _ ((W0.out.keep B8.out).more B8.out.size) (by omega)).mono ?_
            rintro e w9 ⟨A9, c9, xs, rfl, hl9, -, o9, b9⟩
            have B9 := Lib.hid (B8.out.trans (b9.mono B8.out.size))
            have I9 := Lib.hid o9.ints
            clear b9 o9 B8
            go_wp2_with fail
            refine (c_implSpanOf A9 c9 xs _ I9.out (Nat.le_refl _) (by omega)).mono ?_
            rintro e w10 ⟨rfl, b10⟩
            have B10 := Lib.hid (B9.out.trans (b10.mono B9.out.size))
            have I10 := Lib.hid (I9.out.keep b10)
            have S10 := Lib.hid b10.size
            clear b10 I9
            go_wp2_with fail
            refine (c_specSpanOf A9 c9 xs _ I10.out S10.out (by omega)).mono ?_
            rintro e w11 ⟨rfl, b11⟩
            have B11 := Lib.hid (B10.out.trans (b11.mono B10.out.size))
            have I11 := Lib.hid (I10.out.keep (b11.mono S10.out))
            clear b11 I10 S10 B9 B10
            cases hok2 : spanOk xs
            · generalize spanB xs = u1 at *
              generalize spanC xs = u2 at *
              go_wp2
              go_loop [30] (fun i => i = .int .i64 0) (fun _ => 0)
              case atStart => rfl
              case round =>
                obtain rfl := hrel
                by_cases h0 : 0 < xs.length
                all_goals
                  go_wp2
                  go_ret
                  exact ⟨rfl, B11.out⟩
            · obtain ⟨p, q, E1, E2, HM, HX⟩ := span_law xs hok2
              have HXX := Lib.hid HX
              clear HX
              rw [E1.out, E2.out]
              go_wp2
              go_loop [30] (fun i => ∃ k : Nat, k ≤ xs.length ∧ i = .int .i64 k) (fun i => xs.length - (intOf i).toNat)
              case atStart => exact ⟨0, Nat.zero_le _, rfl⟩
              case round =>
                obtain ⟨k, hk, rfl⟩ := hrel
                by_cases hlt : k < xs.length
                · obtain ⟨ad, rfl, hadb, hc⟩ := I11.out.at_ hlt
                  obtain ⟨F1, F2⟩ := HXX.out k hlt
                  generalize xs.getD k 0 = x at *
                  go_wp2_with fail
                  refine (c_implInSpan x p q _).mono ?_
                  rintro e _ ⟨rfl, rfl⟩
                  rw [F1.out, F2.out]
                  go_wp2_with fail
                  refine (c_vHas _ c9 xs p _ I11.out (by omega) HM.out).mono ?_
                  rintro e _ ⟨rfl, rfl⟩
                  go_wp2
                  go_round
                  case rel => exact ⟨k + 1, by omega, by go_num⟩
                  case measure => simp [intOf]; omega
                · go_wp2
                  go_ret
                  exact ⟨rfl, B11.out⟩

theorem own : ownKnob Try.prog.godebug = none := by kernel_rfl
theorem laidOut : laidOutB Try.prog = true := by kernel_rfl

set_option maxRecDepth 100000 in
theorem lifted (os : Os) (started : os.Started) (H : Type) (enc : TypeId × Value → H) :
    ReturnsInHanded {} Try.checked os 14 .any (Rows.fnSpansSpec.pre6 enc Try.prog Try.f14 Rows.fnSpansRow.domain false) (Rows.fnSpansSpec.post enc Try.prog Try.f14 false true false false) := by
  refine returnsInHanded_of_change (C := Try.checked) own started (by kernel_rfl) Try.func14
    (ChangeSpec.witness6 (enc := enc) (C := Try.checked) false ⟨#[], #[.slice none 0 0], []⟩ 8 (by kernel_rfl) (by kernel_rfl) (by kernel_rfl) (by kernel_rfl)) ?_
  intro W base args ds gs before hval0 hW hcnd _
  have hval : ∀ (j : Nat) t v, Try.f14.params[j]? = some t → args[j]? = some v → Value.okWide Try.prog W .any base t v := hval0
  have hW' := hW
  obtain ⟨p, q, hA0, hV, rfl, hfz, hnd⟩ := hW
  have hA : DataW.TrodAll enc Try.prog W 0 (fun _ => true) true Try.f14.params.toList args.toList ds p := hA0
  rw [Try.params14] at hA hval
  obtain ⟨v0, vs0, d0, ds0, p0, q0, hargs, rfl, rfl, h0, r0⟩ := trodAll_cons hA
  obtain ⟨rfl, rfl, rfl⟩ := trodAll_nil r0
  obtain rfl : args = #[v0] := by cases args; simp_all
  obtain ⟨rfl, rfl⟩ := trodVars_none hV
  have k0 := h0
  have lt0 : ∀ x ∈ p0, x.block < W.heap.size := by obtain ⟨m, hm⟩ := k0; exact DataW.trod_lt m _ _ _ hm
  obtain ⟨a0, cap0, n0, rfl, w0⟩ := open_bytes' (hval 0 37 v0 rfl rfl) h0
  clear hA0 hval0
  refine (walk a0 cap0 n0 W w0).mono fun e W' ⟨he, bel⟩ => ?_
  subst he
  exact ⟨_, rfl, _, _, _, [], _, [], hW', trodAll_mk1 (shut_bool Try.underlying4 _), (trodAll_cons_mk (Below.trod laidOut (by kernel_rfl) (of_decide_eq_true (by kernel_rfl)) k0 bel lt0) trodAll_mk0), rfl, bel.frame _, fun h => by cases h⟩

theorem over : Rows.fnSpansRow.holds Try.pinned (OpenSpec.ofChange Rows.fnSpansSpec) :=
  OpenClaim.holds_of_wide 14 Try.f14 rfl rfl rfl rfl rfl rfl rfl ⟨rfl, rfl, rfl, rfl, rfl⟩ rfl rfl rfl rfl rfl (by kernel_rfl) Try.func14 (by kernel_rfl)
    (of_decide_eq_true (by kernel_rfl)) (by unfold Func.isWrapper; first | (rw [if_pos (by decide +kernel)]; kernel_rfl) | (rw [if_neg (by decide +kernel)]; exact ⟨rfl, rfl⟩))
    (fun os started H enc _ => lifted os started H enc)

/-- THE STATEMENT -/
theorem proved : Rows.FnSpansSaid := over
end Go.Proofs.Ytkoccbjeoihbiaa.fnSpans
