/-
  The law FnSerials returns true at every input and leaves its argument as it was: steps forward and back lead to the same serial, and of two serials at most one is before the other.
  Conditions: none.
-/
import Derived.Test.YtkoccbjeoihbiaaRows
import Derived.WalkKit
import Derived.ProofKit
import Derived.OpenShut
import Derived.ShutString
import Derived.ChangeOld
import Derived.Below
import Derived.Handy
import Derived.Test.YtkoccbjeoihbiaaOpenB
import Derived.Test.YtkoccbjeoihbiaaDrawS
import Derived.Test.YtkoccbjeoihbiaaSerF
import Derived.Handy
namespace Go.Proofs.Ytkoccbjeoihbiaa.fnSerials
open Go.ChangeShapes Go.WideShapes Go.ChangeAt Go.RowKit
open Go.ChangeMaps (open_string shut_string)
set_option linter.unusedVariables false

theorem step_back (x n : Int) (h : afterSerialOk x n = true) :
    (0 ≤ x ∧ x ≤ 65535) ∧ (-65536 ≤ n ∧ n ≤ 65536) ∧ ∃ y g : Int, (0 ≤ y ∧ y ≤ 65535) ∧ (0 ≤ g ∧ g ≤ 65535) ∧ Hid (afterSerialR x n = y) ∧ Hid (afterSerialOk y (-n) = true) ∧ Hid (afterSerialR y (-n) = x) ∧ Hid (serialGapOk x y = true) ∧ Hid (serialGapR x y = g) ∧ (g - n).tmod 65536 = 0 ∧ Hid (inR y 0 65535 = true) := by
  have h0 := h
  simp only [afterSerialOk, Bool.and_eq_true] at h0
  have hx := inR_t h0.1
  have hn := inR_t h0.2
  have hr := aftV_rng x n
  have hg := gapV_rng x (aftV x n)
  have h2 : afterSerialOk (aftV x n) (-n) = true := by simp only [afterSerialOk, Bool.and_eq_true]; exact ⟨inR_y hr, inR_y (by omega)⟩
  have h3 : serialGapOk x (aftV x n) = true := by simp only [serialGapOk, Bool.and_eq_true]; exact ⟨inR_y hx, inR_y hr⟩
  refine ⟨hx, hn, aftV x n, gapV x (aftV x n), hr, hg, Lib.hid (by simp [afterSerialR, h]), Lib.hid h2, Lib.hid ?_, Lib.hid h3, Lib.hid (by simp [serialGapR, h3]), ?_, Lib.hid (inR_y hr)⟩
  · simp only [afterSerialR, h2, if_true]
    unfold aftV
    omega
  · obtain ⟨q, hq⟩ : ∃ q : Int, gapV x (aftV x n) - n = 65536 * q := by
      unfold gapV aftV
      exact ⟨(((x + n) % 65536 - x) % 65536 - n) / 65536, by omega⟩
    rw [hq]
    exact Int.mul_tmod_right _ _
theorem pair (a b : Int) (h : isBeforeOk a b = true) :
    (0 ≤ a ∧ a ≤ 65535) ∧ (0 ≤ b ∧ b ≤ 65535) ∧ ∃ g : Int, (0 ≤ g ∧ g ≤ 65535) ∧ Hid (serialGapR a b = g) ∧ Hid (serialGapOk a b = true) ∧ Hid (afterSerialR a g = b) ∧ Hid (afterSerialOk a g = true) ∧ Hid (isBeforeOk b a = true) ∧ Hid (laterSerialOk a b = true) ∧
      ((Hid (isBeforeR a b = true) ∧ Hid (isBeforeR b a = false) ∧ Hid (laterSerialR a b = b) ∧ (a != b) = true ∧ 1 ≤ g ∧ g < 32768) ∨
       (Hid (isBeforeR a b = false) ∧ Hid (laterSerialR a b = a) ∧ (((a == b) = true ∧ g < 1) ∨ ((a == b) = false ∧ 32768 ≤ g)))) := by
  have h0 := h
  simp only [isBeforeOk, Bool.and_eq_true] at h0
  have ha := inR_t h0.1
  have hb := inR_t h0.2
  have hg := gapV_rng a b
  have o1 : serialGapOk a b = true := by simp only [serialGapOk, Bool.and_eq_true]; exact ⟨inR_y ha, inR_y hb⟩
  have o2 : afterSerialOk a (gapV a b) = true := by simp only [afterSerialOk, Bool.and_eq_true]; exact ⟨inR_y ha, inR_y (by omega)⟩
  have o3 : isBeforeOk b a = true := by simp only [isBeforeOk, Bool.and_eq_true]; exact ⟨inR_y hb, inR_y ha⟩
  have o4 : laterSerialOk a b = true := by simp only [laterSerialOk, Bool.and_eq_true]; exact ⟨inR_y ha, inR_y hb⟩
  refine ⟨ha, hb, gapV a b, hg, Lib.hid (by simp [serialGapR, o1]), Lib.hid o1, Lib.hid ?_, Lib.hid o2, Lib.hid o3, Lib.hid o4, ?_⟩
  · simp only [afterSerialR, o2, if_true]
    unfold aftV gapV
    omega
  · cases hf : befB a b
    · right
      have hn := inR_f (show inR (gapV a b) 1 32767 = false from hf)
      refine ⟨Lib.hid (by simp [isBeforeR, h, hf]), Lib.hid (by simp [laterSerialR, o4, hf]), ?_⟩
      by_cases e : a = b
      · left
        subst e
        exact ⟨by simp, by unfold gapV; omega⟩
      · right
        refine ⟨beq_eq_false_iff_ne.2 e, ?_⟩
        have : gapV a b ≠ 0 := by unfold gapV; omega
        omega
    · left
      have hn := inR_t (show inR (gapV a b) 1 32767 = true from hf)
      refine ⟨Lib.hid (by simp [isBeforeR, h, hf]), Lib.hid ?_, Lib.hid (by simp [laterSerialR, o4, hf]), bne_iff_ne.2 ?_, by omega, by omega⟩
      · simp only [isBeforeR, o3, if_true]
        exact inR_n (by unfold gapV at *; omega)
      · intro e
        subst e
        unfold gapV at hn
        omega
theorem not_pair (a b : Int) (h : isBeforeOk a b = false) : Hid (isBeforeR a b = false) ∧ Hid (isBeforeR b a = false) ∧ Hid (isBeforeOk b a = false) := by
  have o3 : isBeforeOk b a = false := by
    simp only [isBeforeOk] at h ⊢
    rw [Bool.and_comm]
    exact h
  exact ⟨Lib.hid (by simp [isBeforeR, h]), Lib.hid (by simp [isBeforeR, o3]), Lib.hid o3⟩
set_option maxRecDepth 100000 in
set_option maxHeartbeats 8000000 in
theorem walk (a0 : Option Addr) (cap0 n0 : Nat) (w : World) (w0 : BytesAt w w.heap.size a0 n0) :
    Calls Try.prog 5 #[.slice a0 n0 cap0] w fun e w' => e = .returned (.bool true) ∧ Below w.heap.size w w' := by
  have W0 := Lib.hid w0
  clear w0
  by_cases hbig : (65536 : Int) < (n0 : Int)
  · go_enter Try.func5, Try.ntmps5
    go_wp2_with (go_at_call 26; refine (c_vBig _ _ _ _).mono ?_; rintro e _ ⟨rfl, rfl⟩)
    go_ret
    exact ⟨rfl, Below.refl _ _⟩
  go_enter Try.func5, Try.ntmps5
  go_wp2_with fail
  refine (c_vBig _ _ _ _).mono ?_
  rintro e _ ⟨rfl, rfl⟩
  go_wp2_with fail
  refine (c_DrawAfterSerial a0 n0 cap0 _ W0.out (by omega)).mono ?_
  rintro e w1 ⟨x, n, rfl, hx0, hx1, hn0, hn1, b1⟩
  have B1 := Lib.hid b1
  clear b1
  go_wp2_with fail
  refine (c_implAfterSerial x n _).mono ?_
  rintro e _ ⟨rfl, rfl⟩
  go_wp2_with fail
  refine (c_specAfterSerial x n _).mono ?_
  rintro e _ ⟨rfl, rfl⟩
  cases hok : afterSerialOk x n
  rotate_left
  focus
    obtain ⟨⟨p0, p1⟩, ⟨p2, p3⟩, y, g, ⟨p4, p5⟩, ⟨p6, p7⟩, E1, E2, E3, E4, E5, hz, E6⟩ := step_back x n hok
    rw [E1.out]
    go_wp2_with fail
    refine (c_implAfterSerial y (-n) _).mono ?_
    rintro e _ ⟨rfl, rfl⟩
    rw [E2.out, E3.out]
    go_wp2_with fail
    refine (c_implSerialGap x y _).mono ?_
    rintro e _ ⟨rfl, rfl⟩
    rw [E4.out, E5.out]
    go_wp2_with fail
    refine (c_isSerial y _).mono ?_
    rintro e _ ⟨rfl, rfl⟩
    rw [E6.out]
    go_wp2_with fail
    clear p0 p1 p2 p3 p4 p5 p6 p7 E1 E2 E3 E4 E5 hz E6
  rotate_left
  focus
    generalize afterSerialR x n = y at *
    go_wp2_with fail
  all_goals
    clear hok hx0 hx1 hn0 hn1
    refine (c_DrawIsBefore a0 n0 cap0 _ ((W0.out.keep B1.out).more B1.out.size) (by omega)).mono ?_
    rintro e w2 ⟨a, b, rfl, hx0, hx1, hn0, hn1, b2⟩
    have B2 := Lib.hid (B1.out.trans (b2.mono B1.out.size))
    clear b2
    go_wp2_with fail
    refine (c_implIsBefore a b _).mono ?_
    rintro e _ ⟨rfl, rfl⟩
    go_wp2_with fail
    refine (c_implIsBefore b a _).mono ?_
    rintro e _ ⟨rfl, rfl⟩
    go_wp2_with fail
    refine (c_specIsBefore a b _).mono ?_
    rintro e _ ⟨rfl, rfl⟩
    cases hok : isBeforeOk a b
    · obtain ⟨E1, E2, E3⟩ := not_pair a b hok
      rw [E1.out, E2.out, E3.out]
      go_wp2_with fail
      refine (c_implLaterSerial a b _).mono ?_
      rintro e _ ⟨rfl, rfl⟩
      go_wp2_with fail
      refine (c_specLaterSerial a b _).mono ?_
      rintro e _ ⟨rfl, rfl⟩
      rw [show laterSerialOk a b = false from hok]
      generalize laterSerialR a b = l at *
      go_wp2_with fail
      refine (c_DrawInSpan a0 n0 cap0 _ ((W0.out.keep B2.out).more B2.out.size) (by omega)).mono ?_
      rintro e w3 ⟨p, q, r, rfl, -, -, -, b3⟩
      have B3 := Lib.hid (B2.out.trans (b3.mono B2.out.size))
      clear b3
      go_wp2_with fail
      refine (c_implInSpan p q r _).mono ?_
      rintro e _ ⟨rfl, rfl⟩
      go_wp2_with fail
      refine (c_specInSpan p q r _).mono ?_
      rintro e _ ⟨rfl, rfl⟩
      generalize inSpanR p q r = u1 at *
      generalize inSpanOk p q r = u2 at *
      go_wp2_with fail
      refine (c_isSerial p _).mono ?_
      rintro e _ ⟨rfl, rfl⟩
      go_wp2_with fail
      refine (c_specIsSerial p _).mono ?_
      rintro e _ ⟨rfl, rfl⟩
      generalize inR p 0 65535 = u3 at *
      go_wp2
      go_ret
      exact ⟨by simp, B3.out⟩
    · obtain ⟨⟨p0, p1⟩, ⟨p2, p3⟩, g, ⟨p4, p5⟩, E1, E2, E3, E4, E5, E6, hcase⟩ := pair a b hok
      rcases hcase with ⟨F1, F2, F3, hab, hg1, hg2⟩ | ⟨F1, F3, hcase⟩
      · rw [F1.out, F2.out, E5.out]
        go_wp2_with fail
        refine (c_implLaterSerial a b _).mono ?_
        rintro e _ ⟨rfl, rfl⟩
        go_wp2_with fail
        refine (c_specLaterSerial a b _).mono ?_
        rintro e _ ⟨rfl, rfl⟩
        rw [F3.out, E6.out]
        go_wp2_with fail
        refine (c_implSerialGap a b _).mono ?_
        rintro e _ ⟨rfl, rfl⟩
        rw [E1.out, E2.out]
        go_wp2_with fail
        refine (c_implAfterSerial a g _).mono ?_
        rintro e _ ⟨rfl, rfl⟩
        rw [E3.out, E4.out]
        go_wp2_with fail
        refine (c_DrawInSpan a0 n0 cap0 _ ((W0.out.keep B2.out).more B2.out.size) (by omega)).mono ?_
        rintro e w3 ⟨p, q, r, rfl, -, -, -, b3⟩
        have B3 := Lib.hid (B2.out.trans (b3.mono B2.out.size))
        clear b3
        go_wp2_with fail
        refine (c_implInSpan p q r _).mono ?_
        rintro e _ ⟨rfl, rfl⟩
        go_wp2_with fail
        refine (c_specInSpan p q r _).mono ?_
        rintro e _ ⟨rfl, rfl⟩
        generalize inSpanR p q r = u1 at *
        generalize inSpanOk p q r = u2 at *
        go_wp2_with fail
        refine (c_isSerial p _).mono ?_
        rintro e _ ⟨rfl, rfl⟩
        go_wp2_with fail
        refine (c_specIsSerial p _).mono ?_
        rintro e _ ⟨rfl, rfl⟩
        generalize inR p 0 65535 = u3 at *
        go_wp2
        go_ret
        exact ⟨by simp, B3.out⟩
      · generalize isBeforeR b a = sec at *
        rcases hcase with ⟨hab, hg1⟩ | ⟨hab, hg1⟩
        all_goals
          rw [F1.out, E5.out]
          go_wp2_with fail
          refine (c_implLaterSerial a b _).mono ?_
          rintro e _ ⟨rfl, rfl⟩
          go_wp2_with fail
          refine (c_specLaterSerial a b _).mono ?_
          rintro e _ ⟨rfl, rfl⟩
          rw [F3.out, E6.out]
          go_wp2_with fail
          refine (c_implSerialGap a b _).mono ?_
          rintro e _ ⟨rfl, rfl⟩
          rw [E1.out, E2.out]
          go_wp2_with fail
          refine (c_implAfterSerial a g _).mono ?_
          rintro e _ ⟨rfl, rfl⟩
          rw [E3.out, E4.out]
          go_wp2_with fail
          refine (c_DrawInSpan a0 n0 cap0 _ ((W0.out.keep B2.out).more B2.out.size) (by omega)).mono ?_
          rintro e w3 ⟨p, q, r, rfl, -, -, -, b3⟩
          have B3 := Lib.hid (B2.out.trans (b3.mono B2.out.size))
          clear b3
          go_wp2_with fail
          refine (c_implInSpan p q r _).mono ?_
          rintro e _ ⟨rfl, rfl⟩
          go_wp2_with fail
          refine (c_specInSpan p q r _).mono ?_
          rintro e _ ⟨rfl, rfl⟩
          generalize inSpanR p q r = u1 at *
          generalize inSpanOk p q r = u2 at *
          go_wp2_with fail
          refine (c_isSerial p _).mono ?_
          rintro e _ ⟨rfl, rfl⟩
          go_wp2_with fail
          refine (c_specIsSerial p _).mono ?_
          rintro e _ ⟨rfl, rfl⟩
          generalize inR p 0 65535 = u3 at *
          go_wp2
          go_ret
          exact ⟨by simp, B3.out⟩

theorem own : ownKnob Try.prog.godebug = none := by kernel_rfl
theorem laidOut : laidOutB Try.prog = true := by kernel_rfl

set_option maxRecDepth 100000 in
theorem lifted (os : Os) (started : os.Started) (H : Type) (enc : TypeId × Value → H) :
    ReturnsInHanded {} Try.checked os 5 .any (Rows.fnSerialsSpec.pre6 enc Try.prog Try.f5 Rows.fnSerialsRow.domain false) (Rows.fnSerialsSpec.post enc Try.prog Try.f5 false true false false) := by
  refine returnsInHanded_of_change (C := Try.checked) own started (by kernel_rfl) Try.func5
    (ChangeSpec.witness6 (enc := enc) (C := Try.checked) false ⟨#[], #[.slice none 0 0], []⟩ 8 (by kernel_rfl) (by kernel_rfl) (by kernel_rfl) (by kernel_rfl)) ?_
  intro W base args ds gs before hval0 hW hcnd _
  have hval : ∀ (j : Nat) t v, Try.f5.params[j]? = some t → args[j]? = some v → Value.okWide Try.prog W .any base t v := hval0
  have hW' := hW
  obtain ⟨p, q, hA0, hV, rfl, hfz, hnd⟩ := hW
  have hA : DataW.TrodAll enc Try.prog W 0 (fun _ => true) true Try.f5.params.toList args.toList ds p := hA0
  rw [Try.params5] at hA hval
  obtain ⟨v0, vs0, d0, ds0, p0, q0, hargs, rfl, rfl, h0, r0⟩ := trodAll_cons hA
  obtain ⟨rfl, rfl, rfl⟩ := trodAll_nil r0
  obtain rfl : args = #[v0] := by cases args; simp_all
  obtain ⟨rfl, rfl⟩ := trodVars_none hV
  have k0 := h0
  have lt0 : ∀ x ∈ p0, x.block < W.heap.size := by obtain ⟨m, hm⟩ := k0; exact DataW.trod_lt m _ _ _ hm
  obtain ⟨a0, cap0, n0, rfl, w0⟩ := open_bytes' (hval 0 37 v0 rfl rfl) h0
  clear hA0 hval0
  refine (walk a0 cap0 n0 W w0).mono fun e W' ⟨he, bel⟩ => ?_
  subst he
  exact ⟨_, rfl, _, _, _, [], _, [], hW', trodAll_mk1 (shut_bool Try.underlying4 _), (trodAll_cons_mk (Below.trod laidOut (by kernel_rfl) (of_decide_eq_true (by kernel_rfl)) k0 bel lt0) trodAll_mk0), rfl, bel.frame _, fun h => by cases h⟩

theorem over : Rows.fnSerialsRow.holds Try.pinned (OpenSpec.ofChange Rows.fnSerialsSpec) :=
  OpenClaim.holds_of_wide 5 Try.f5 rfl rfl rfl rfl rfl rfl rfl ⟨rfl, rfl, rfl, rfl, rfl⟩ rfl rfl rfl rfl rfl (by kernel_rfl) Try.func5 (by kernel_rfl)
    (of_decide_eq_true (by kernel_rfl)) (by unfold Func.isWrapper; first | (rw [if_pos (by decide +kernel)]; kernel_rfl) | (rw [if_neg (by decide +kernel)]; exact ⟨rfl, rfl⟩))
    (fun os started H enc _ => lifted os started H enc)

/-- THE STATEMENT -/
theorem proved : Rows.FnSerialsSaid := over
end Go.Proofs.Ytkoccbjeoihbiaa.fnSerials
