/-
  The program's RepairOf returns what the reference's RepairOf returns, at all arguments: the law FnExactRepairOf returns true.
  Conditions: none.
-/
import Derived.Test.YtnbgjkblhbpjlaaDoorRows
import Derived.WalkKit
import Derived.ProofKit
import Derived.OpenShut
import Derived.ShutString
import Derived.ChangeOld
import Derived.Below
import Derived.Handy
import Derived.Test.YtnbgjkblhbpjlaaDoorWrap
import Derived.Test.YtnbgjkblhbpjlaaDoorCards
import Derived.Test.YtnbgjkblhbpjlaaDoorTie
import Derived.SevenTiedAt
import Derived.Test.YtnbgjkblhbpjlaaDoorOpenP
namespace Go.Proofs.YtnbgjkblhbpjlaaDoor.fnExactRepairOf
open Go.ChangeShapes Go.WideShapes Go.ChangeAt Go.RowKit
open Go.ChangeMaps (open_string shut_string)
set_option linter.unusedVariables false

set_option maxRecDepth 100000 in
set_option maxHeartbeats 4000000 in
theorem walk (k n t l : Int) (d : List UInt8) (tr le : Int) (w : World) (w0 : d.length ≤ 9223372036854775807) (wt : (Lit.int .i64 tr).wf = true) (wl : (Lit.int .i64 le).wf = true)  :
    Calls Tryd.prog 12 #[.agg (pkC k n t l d), .int .i64 tr, .int .i64 le] w fun e w' => e = .returned (.bool true) ∧ Below w.heap.size w w' := by
  have KX := Lib.hid (pkAt_new k n t l d w 53)
  have BX := Lib.hid ((Below.refl w.heap.size w).alloc (Nat.le_refl _) (.cells #[.int .i64 k, .int .i64 n, .int .i64 t, .int .i64 l, .string (str d)] 53))
  by_cases hd : (d.length : Int) ≤ 1048576
  rotate_left
  · have C := Lib.hid (c_szPacket k n t l d 1048576 (w.alloc (.cells #[.int .i64 k, .int .i64 n, .int .i64 t, .int .i64 l, .string (str d)] 53)) w0 (by omega) (by omega))
    rw [if_pos (by omega)] at C
    unfold pkC at *
    go_enter Tryd.func12, Tryd.ntmps12
    go_wp2_with fail
    refine C.out.mono ?_
    rintro e w1 ⟨rfl, b1⟩
    have BX2 := Lib.hid (BX.out.trans (b1.mono BX.out.size))
    clear b1 BX KX
    go_wp2
    go_ret
    exact ⟨rfl, BX2.out⟩
  have C := Lib.hid (c_szPacket k n t l d 1048576 (w.alloc (.cells #[.int .i64 k, .int .i64 n, .int .i64 t, .int .i64 l, .string (str d)] 53)) w0 (by omega) (by omega))
  rw [if_neg (by omega)] at C
  have HD := Lib.hid (show d.length ≤ 100000000 from by omega)
  have hd2 : d.length ≤ 100000000 := HD.out
  have hng : decide ((1048576 : Int) - (d.length : Int) < 0) = false := decide_eq_false (by omega)
  clear hd
  clear wt wl
  obtain ⟨k', n', t', l', d', hrep⟩ : ∃ k' n' t' l' d', repC k n t l d tr le = pkC k' n' t' l' d' := rep_pk k n t l d tr le
  have CS := fun W => c_specRepairOf k n t l d tr le W (by omega)
  have CI := fun W => c_implRepairOf k n t l d tr le W (by omega)
  have CE := fun W => c_eqPacket k' n' t' l' d' W
  rw [hrep] at CS CI
  clear hrep
  generalize repOk k n t l d tr le = ok at *
  unfold pkC at *
  have CS := fun W => Lib.hid (CS W)
  have CI := fun W => Lib.hid (CI W)
  have CE := fun W => Lib.hid (CE W)
  go_enter Tryd.func12, Tryd.ntmps12
  go_wp2_with fail
  refine (C.out).mono ?_
  rintro e v1 ⟨rfl, b1⟩
  obtain ⟨qb, q0, q1, q2, q3, q4⟩ := (show PkAt k n t l d w.heap.size v1 from KX.out.keep b1)
  have KX1 := Lib.hid (KX.out.keep b1)
  have BX1 := Lib.hid (BX.out.trans (b1.mono BX.out.size))
  clear b1 KX BX
  have KX := KX1
  have BX := BX1
  clear KX1 BX1
  clear C
  go_wp2_with fail
  refine (c_toPacket k n t l d _).mono ?_
  rintro e v2 ⟨rfl, b2⟩
  obtain ⟨qb, q0, q1, q2, q3, q4⟩ := (show PkAt k n t l d w.heap.size v2 from KX.out.keep b2)
  have KX2 := Lib.hid (KX.out.keep b2)
  have BX2 := Lib.hid (BX.out.trans (b2.mono BX.out.size))
  clear b2 KX BX
  have KX := KX2
  have BX := BX2
  clear KX2 BX2
  clear qb q0 q1 q2 q3 q4
  go_wp2_with fail
  refine (CS _).out.mono ?_
  rintro e v3 ⟨rfl, b3⟩
  obtain ⟨qb, q0, q1, q2, q3, q4⟩ := (show PkAt k n t l d w.heap.size v3 from KX.out.keep b3)
  have KX3 := Lib.hid (KX.out.keep b3)
  have BX3 := Lib.hid (BX.out.trans (b3.mono BX.out.size))
  clear b3 KX BX
  have KX := KX3
  have BX := BX3
  clear KX3 BX3
  clear qb q0 q1 q2 q3 q4
  have bA := (Below.refl v3.heap.size v3).alloc (Nat.le_refl _) (.cells #[.int .i64 k', .int .i64 n', .int .i64 t', .int .i64 l', .string (str d')] 56)
  have KX2 := Lib.hid (KX.out.keep bA)
  have BX2 := Lib.hid (BX.out.trans (bA.mono BX.out.size))
  have KR := Lib.hid (pkAt_new k' n' t' l' d' v3 56)
  clear bA KX BX
  have KX := KX2
  have BX := BX2
  clear KX2 BX2
  obtain ⟨qb, q0, q1, q2, q3, q4⟩ := KX.out
  go_wp2_with fail
  refine (c_toPacket k n t l d _).mono ?_
  rintro e v4 ⟨rfl, b4⟩
  obtain ⟨qb, q0, q1, q2, q3, q4⟩ := (show PkAt k n t l d w.heap.size v4 from KX.out.keep b4)
  have KX4 := Lib.hid (KX.out.keep b4)
  have BX4 := Lib.hid (BX.out.trans (b4.mono BX.out.size))
  replace KR := Lib.hid (KR.out.keep b4)
  clear b4 KX BX
  have KX := KX4
  have BX := BX4
  clear KX4 BX4
  clear qb q0 q1 q2 q3 q4
  go_wp2_with fail
  refine (CI _).out.mono ?_
  rintro e v5 ⟨rfl, b5⟩
  obtain ⟨qb, q0, q1, q2, q3, q4⟩ := (show PkAt k n t l d w.heap.size v5 from KX.out.keep b5)
  have KX5 := Lib.hid (KX.out.keep b5)
  have BX5 := Lib.hid (BX.out.trans (b5.mono BX.out.size))
  replace KR := Lib.hid (KR.out.keep b5)
  clear b5 KX BX
  have KX := KX5
  have BX := BX5
  clear KX5 BX5
  clear qb q0 q1 q2 q3 q4
  have bA := (Below.refl v5.heap.size v5).alloc (Nat.le_refl _) (.cells #[.int .i64 k', .int .i64 n', .int .i64 t', .int .i64 l', .string (str d')] 56)
  have KX2 := Lib.hid (KX.out.keep bA)
  have BX2 := Lib.hid (BX.out.trans (bA.mono BX.out.size))
  replace KR := Lib.hid (KR.out.keep bA)
  have KG := Lib.hid (pkAt_new k' n' t' l' d' v5 56)
  clear bA KX BX
  have KX := KX2
  have BX := BX2
  clear KX2 BX2
  obtain ⟨qb, q0, q1, q2, q3, q4⟩ := KX.out
  obtain ⟨rb, r0, r1, r2, r3, r4⟩ := KR.out
  obtain ⟨gb, g0, g1, g2, g3, g4⟩ := KG.out
  clear qb q0 q1 q2 q3 q4
  go_wp2_with fail
  refine (CE _).out.mono ?_
  rintro e v6 ⟨rfl, b6⟩
  have BX2 := Lib.hid (BX.out.trans (b6.mono BX.out.size))
  clear b6
  go_wp2
  go_ret
  exact ⟨rfl, BX2.out⟩

theorem own : ownKnob Tryd.prog.godebug = none := by kernel_rfl
theorem laidOut : laidOutB Tryd.prog = true := by kernel_rfl

set_option maxRecDepth 100000 in
theorem lifted (os : Os) (started : os.Started) (H : Type) (enc : TypeId × Value → H) :
    ReturnsInHanded {} Tryd.checked os 12 .any (fun w args => (Rows.fnExactRepairOfSpec.pre enc Tryd.prog Tryd.f12 [] false w args ∧ laidMetH Tryd.prog Rows.fnExactRepairOfRow.laid w) ∧ sizedMet enc Tryd.prog Tryd.f12 (OpenSpec.ofChange Rows.fnExactRepairOfSpec) false w args)
      (Rows.fnExactRepairOfSpec.post enc Tryd.prog Tryd.f12 false true false false) := by
  refine returns_all (C := Tryd.checked) (X := (fun w _ => laidMetH Tryd.prog Rows.fnExactRepairOfRow.laid w)) (fun _ _ _ hh h => h.of_heap hh) own started (by kernel_rfl) Tryd.func12
    (ChangeSpec.witness_shaped (enc := enc) (C := Tryd.checked) (os := os) (X := (fun w _ => laidMetH Tryd.prog Rows.fnExactRepairOfRow.laid w)) false (World.laidAll Tryd.prog os Rows.fnExactRepairOfRow.laid) #[.agg #[.int .i64 0, .int .i64 0, .int .i64 0, .int .i64 0, .string ByteArray.empty], .int .i64 0, .int .i64 0] 8 (World.laidAll_os _ _ _)
      (World.shaped_of_ZipB (by kernel_rfl) (by kernel_rfl)) (by kernel_rfl) (by kernel_rfl) (by kernel_rfl)
      (by rw [MakeChecks.laidMetH_plain _ _ _ (by kernel_rfl)]; exact laidMet_laidAll _ (by kernel_rfl) (by kernel_rfl))) ?_
  intro W base args ds gs before hval0 hW _ _ hL hsh
  rw [MakeChecks.laidMetH_plain _ _ _ (by kernel_rfl)] at hL
  have hval : ∀ (j : Nat) t v, Tryd.f12.params[j]? = some t → args[j]? = some v → Value.okWide Tryd.prog W .any base t v := hval0
  have hW' := hW
  obtain ⟨p, q, hA0, hV, rfl, hfz, hnd⟩ := hW
  have hA : DataW.TrodAll enc Tryd.prog W 0 (fun _ => true) true Tryd.f12.params.toList args.toList ds p := hA0
  rw [Tryd.params12] at hA hval
  obtain ⟨v0, vs0, d0, ds0, p0, q0, hargs, rfl, rfl, h0, r0⟩ := trodAll_cons hA
  obtain ⟨v1, vs1, d1, ds1, p1, q1, rfl, rfl, rfl, h1, r1⟩ := trodAll_cons r0
  obtain ⟨v2, vs2, d2, ds2, p2, q2, rfl, rfl, rfl, h2, r2⟩ := trodAll_cons r1
  obtain ⟨rfl, rfl, rfl⟩ := trodAll_nil r2
  obtain rfl : args = #[v0, v1, v2] := by cases args; simp_all
  obtain ⟨rfl, rfl⟩ := trodVars_none hV
  have k0 := h0
  have lt0 : ∀ x ∈ p0, x.block < W.heap.size := by obtain ⟨m, hm⟩ := k0; exact DataW.trod_lt m _ _ _ hm
  obtain ⟨pk0, pn0, pt0, pl0, pd0, rfl, w0⟩ := open_packet (hval 0 53 v0 rfl rfl) h0
  obtain ⟨a1, rfl, rfl, rfl, w1⟩ := open_int Tryd.underlying3 (hval 1 3 v1 rfl rfl) h1
  obtain ⟨a2, rfl, rfl, rfl, w2⟩ := open_int Tryd.underlying3 (hval 2 3 v2 rfl rfl) h2
  clear hA0 hval0
  refine (walk pk0 pn0 pt0 pl0 pd0 a1 a2 W w0 w1 w2).mono fun e W' ⟨he, bel⟩ => ?_
  subst he
  exact ⟨_, rfl, _, _, _, [], _, [], hW', trodAll_mk1 (shut_bool Tryd.underlying4 _), (trodAll_cons_mk (Below.trod laidOut (by kernel_rfl) (of_decide_eq_true (by kernel_rfl)) k0 bel lt0) (trodAll_cons_mk (shut_int Tryd.underlying3 w1) (trodAll_cons_mk (shut_int Tryd.underlying3 w2) trodAll_mk0))), rfl, bel.frame _, fun h => by cases h⟩

theorem over : Rows.fnExactRepairOfRow.holds Tryd.pinned (OpenSpec.ofChange Rows.fnExactRepairOfSpec) :=
  OpenClaim.holds_of_wide 12 Tryd.f12 rfl rfl rfl rfl rfl rfl rfl ⟨rfl, rfl, rfl, rfl, rfl⟩ rfl rfl rfl rfl rfl (by kernel_rfl) Tryd.func12 (by kernel_rfl)
    (of_decide_eq_true (by kernel_rfl)) (by unfold Func.isWrapper; first | (rw [if_pos (by decide +kernel)]; kernel_rfl) | (rw [if_neg (by decide +kernel)]; exact ⟨rfl, rfl⟩))
    (fun os started H enc _ => lifted os started H enc)

/-- THE STATEMENT: the tied card. -/
theorem proved : Rows.FnExactRepairOfCardSaid :=
  Claim7.holds_tied_plain_at .later [] Rows.fnExactRepairOfCard.laidKinds true Rows.fnExactRepairOfCard.stood.harness Rows.fnExactRepairOfCard.stood.looks over (fun _ h => by cases h) (by kernel_rfl) (fun _ h => by cases h) fnExactRepairOf_row_tie rfl ⟨rfl, rfl⟩ (by kernel_rfl) rfl
    (fun f fn hf hfn => by
      obtain rfl : f = 12 := Option.some.inj ((show Tryd.prog.funcNamed Rows.fnExactRepairOfRow.func = some 12 by kernel_rfl).symm.trans hf) |>.symm
      obtain rfl : fn = Tryd.f12 := (Option.some.inj (Tryd.func12.symm.trans hfn)).symm
      exact ⟨by kernel_rfl, fun j t ht => by
        rw [Tryd.params12] at ht
        have hm : t ∈ ([53, 3, 3] : List Nat) := by simpa using Array.mem_of_getElem? ht
        have hall : (([53, 3, 3] : List Nat).all fun u => !Tryd.prog.wantsStandIn u) = true := by kernel_rfl
        exact (show Tryd.prog.wantsStandIn t = false by simpa using List.all_eq_true.1 hall t hm)⟩)
    (by kernel_rfl)
end Go.Proofs.YtnbgjkblhbpjlaaDoor.fnExactRepairOf
