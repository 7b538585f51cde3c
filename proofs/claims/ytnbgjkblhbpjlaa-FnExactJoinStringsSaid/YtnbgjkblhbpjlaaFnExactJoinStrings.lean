/-
  The program's JoinStrings returns what the reference's JoinStrings returns, at all arguments, and leaves them as they were: the law FnExactJoinStrings returns true.
  Conditions: none.
-/
import Derived.Test.YtnbgjkblhbpjlaaRows
import Derived.WalkKit
import Derived.ProofKit
import Derived.OpenShut
import Derived.ShutString
import Derived.ChangeOld
import Derived.Below
import Derived.Handy
import Derived.HandedShaped
import Derived.Test.YtnbgjkblhbpjlaaOpenS
import Derived.Test.YtnbgjkblhbpjlaaJoin
namespace Go.Proofs.Ytnbgjkblhbpjlaa.fnExactJoinStrings
open Go.ChangeShapes Go.WideShapes Go.ChangeAt Go.RowKit
open Go.ChangeMaps (open_string shut_string)
set_option linter.unusedVariables false

set_option maxRecDepth 100000 in
set_option maxHeartbeats 4000000 in
theorem walk (A : Option Addr) (cap : Nat) (xs : List (List UInt8)) (sep : ByteArray) (w : World) (w0 : Strs w w.heap.size A xs) (hl : xs.length ≤ 9223372036854775807) (hx : ∀ x ∈ xs, x.length ≤ 9223372036854775807) (hs : sep.size ≤ maxLen) (nmax : MaxW w w.heap.size) :
    Calls Try.prog 3 #[.slice A xs.length cap, .string sep] w fun e w' => e = .returned (.bool true) ∧ Below w.heap.size w w' := by
  by_cases hs1 : (sep.size : Int) ≤ 1048576
  rotate_left
  · go_enter Try.func3, Try.ntmps3
    go_wp2
    go_ret
    exact ⟨rfl, Below.refl _ _⟩
  clear hs
  have CZ := Lib.hid (c_szStringS A cap xs 1048576 w w0 (Nat.le_refl _) hl hx (by omega) (by omega))
  by_cases hbig : (xs.length : Int) + (sumS xs xs.length : Int) ≤ 1048576
  rotate_left
  · rw [show szS xs 1048576 = -1 from by unfold szS; rw [if_neg hbig]] at CZ
    go_enter Try.func3, Try.ntmps3
    go_wp2_with fail
    refine CZ.out.mono ?_
    rintro e w1 ⟨rfl, b1⟩
    go_wp2
    go_ret
    exact ⟨rfl, b1⟩
  rw [show szS xs 1048576 = 1048576 - (xs.length : Int) - (sumS xs xs.length : Int) from by unfold szS; rw [if_pos hbig]] at CZ
  have hng : ¬ (1048576 : Int) - (xs.length : Int) - (sumS xs xs.length : Int) < 0 := by omega
  have hl2 : xs.length ≤ 2000000 := by omega
  have HX := Lib.hid (fun x (h : x ∈ xs) => show x.length ≤ 2000000 by have := sumS_elem xs x h; omega)
  have HJ := Lib.hid (fun b => show (jn b xs).length ≤ 4000000 by have := jn_sum b xs; omega)
  have W0 := Lib.hid w0
  have NM := Lib.hid nmax
  clear hx w0 nmax hbig hl
  generalize sumS xs xs.length = tot at *
  go_enter Try.func3, Try.ntmps3
  go_wp2_with fail
  refine CZ.out.mono ?_
  rintro e w1 ⟨rfl, b1⟩
  have B1 := Lib.hid b1
  clear b1 CZ
  go_wp2_with fail
  refine (c_toStringS A cap xs _ (W0.out.keep B1.out) B1.out.size (by omega)).mono ?_
  rintro e w2 ⟨A2, c2, rfl, o2, b2⟩
  have B2 := Lib.hid (B1.out.trans (b2.mono B1.out.size))
  have O2 := Lib.hid o2
  clear b2 o2 B1
  go_wp2_with fail
  refine (c_specJoinStrings A2 c2 xs sep _ O2.out.strs (Nat.le_refl _) (by omega) (fun x h => by have := HX.out x h; omega) (by omega)).mono ?_
  rintro e w3 ⟨rfl, b3⟩
  have B3 := Lib.hid (B2.out.trans (b3.mono B2.out.size))
  clear b3 B2 O2
  go_wp2_with fail
  refine (c_toStringS A cap xs _ (W0.out.keep B3.out) B3.out.size (by omega)).mono ?_
  rintro e w4 ⟨A4, c4, rfl, o4, b4⟩
  have B4 := Lib.hid (B3.out.trans (b4.mono B3.out.size))
  have O4 := Lib.hid o4
  clear b4 o4 B3
  go_wp2_with fail
  refine (c_implJoinStrings A4 c4 xs sep _ (NM.out.keep B4.out (Nat.le_refl _)) B4.out.size O4.out (by omega) (fun x h => by have := HX.out x h; omega) (fun b => by have := HJ.out b; omega) (by omega)).mono ?_
  rintro e w5 ⟨rfl, b5⟩
  have B5 := Lib.hid (B4.out.trans (b5.mono B4.out.size))
  have O5 := Lib.hid (O4.out.keep b5)
  clear b5 B4 O4
  generalize joinT xs sep = J at *
  generalize joinOk xs sep = jok at *
  go_wp2_with fail
  refine (c_toStringS A cap xs _ (W0.out.keep B5.out) B5.out.size (by omega)).mono ?_
  rintro e w6 ⟨A6, c6, rfl, o6, b6⟩
  have B6 := Lib.hid (B5.out.trans (b6.mono B5.out.size))
  have O6 := Lib.hid o6
  have O5b := Lib.hid (O5.out.keep b6)
  clear b6 o6 B5 O5
  go_wp2_with fail
  refine (c_eqStringS A4 A6 _ _ xs _ O5b.out.strs O6.out.strs (Nat.le_refl _) (Nat.le_refl _) (by omega)).mono ?_
  rintro e w7 ⟨rfl, b7⟩
  have B7 := Lib.hid (B6.out.trans (b7.mono B6.out.size))
  clear b7
  go_wp2
  go_ret
  exact ⟨rfl, B7.out⟩

theorem own : ownKnob Try.prog.godebug = none := by kernel_rfl
theorem laidOut : laidOutB Try.prog = true := by kernel_rfl

set_option maxRecDepth 100000 in
theorem lifted (os : Os) (started : os.Started) (H : Type) (enc : TypeId × Value → H) :
    ReturnsInHanded {} Try.checked os 3 .any (Rows.fnExactJoinStringsSpec.pre6 enc Try.prog Try.f3 Rows.fnExactJoinStringsRow.domain false) (Rows.fnExactJoinStringsSpec.post enc Try.prog Try.f3 false true false false) := by
  refine returnsInHanded_of_change_shaped (C := Try.checked) own started (by kernel_rfl) Try.func3
    (ChangeSpec.witness6 (enc := enc) (C := Try.checked) false ⟨#[], #[.slice none 0 0, .string ByteArray.empty], []⟩ 8 (by kernel_rfl) (by kernel_rfl) (by kernel_rfl) (by kernel_rfl)) ?_
  intro W base args ds gs before hval0 hW hcnd _ hsh _
  have nmax : MaxW W W.heap.size := MaxW.of_shape hsh (Nat.le_refl _)
  have hval : ∀ (j : Nat) t v, Try.f3.params[j]? = some t → args[j]? = some v → Value.okWide Try.prog W .any base t v := hval0
  have hW' := hW
  obtain ⟨p, q, hA0, hV, rfl, hfz, hnd⟩ := hW
  have hA : DataW.TrodAll enc Try.prog W 0 (fun _ => true) true Try.f3.params.toList args.toList ds p := hA0
  rw [Try.params3] at hA hval
  obtain ⟨v0, vs0, d0, ds0, p0, q0, hargs, rfl, rfl, h0, r0⟩ := trodAll_cons hA
  obtain ⟨v1, vs1, d1, ds1, p1, q1, rfl, rfl, rfl, h1, r1⟩ := trodAll_cons r0
  obtain ⟨rfl, rfl, rfl⟩ := trodAll_nil r1
  obtain rfl : args = #[v0, v1] := by cases args; simp_all
  obtain ⟨rfl, rfl⟩ := trodVars_none hV
  have k0 := h0
  have lt0 : ∀ x ∈ p0, x.block < W.heap.size := by obtain ⟨m, hm⟩ := k0; exact DataW.trod_lt m _ _ _ hm
  obtain ⟨a0, cap0, z0, rfl, w0, m0, f0⟩ := open_strs' (hval 0 22 v0 rfl rfl) h0
  obtain ⟨a1, rfl, rfl, rfl, w1⟩ := open_string Try.underlying9 (hval 1 9 v1 rfl rfl) h1
  clear hA0 hval0
  refine (walk a0 cap0 z0 a1 W w0 m0 f0 w1 nmax).mono fun e W' ⟨he, bel⟩ => ?_
  subst he
  exact ⟨_, rfl, _, _, _, [], _, [], hW', trodAll_mk1 (shut_bool Try.underlying4 _), (trodAll_cons_mk (Below.trod laidOut (by kernel_rfl) (of_decide_eq_true (by kernel_rfl)) k0 bel lt0) (trodAll_cons_mk (shut_string Try.underlying9 w1) trodAll_mk0)), rfl, bel.frame _, fun h => by cases h⟩

theorem over : Rows.fnExactJoinStringsRow.holds Try.pinned (OpenSpec.ofChange Rows.fnExactJoinStringsSpec) :=
  OpenClaim.holds_of_wide 3 Try.f3 rfl rfl rfl rfl rfl rfl rfl ⟨rfl, rfl, rfl, rfl, rfl⟩ rfl rfl rfl rfl rfl (by kernel_rfl) Try.func3 (by kernel_rfl)
    (of_decide_eq_true (by kernel_rfl)) (by unfold Func.isWrapper; first | (rw [if_pos (by decide +kernel)]; kernel_rfl) | (rw [if_neg (by decide +kernel)]; exact ⟨rfl, rfl⟩))
    (fun os started H enc _ => lifted os started H enc)

/-- THE STATEMENT -/
theorem proved : Rows.FnExactJoinStringsSaid := over
end Go.Proofs.Ytnbgjkblhbpjlaa.fnExactJoinStrings
