/-
  The program's OctetsOf returns what the reference's OctetsOf returns, at all arguments: the law FnExactOctetsOf returns true.
  Conditions: none.
-/
import Derived.Test.YtnbgjkblhbpjlaaDoorRows
import Derived.WalkKit
import Derived.ProofKit
import Derived.OpenShut
import Derived.ShutString
import Derived.ChangeOld
import Derived.Below
import Derived.Handy
import Derived.Test.YtnbgjkblhbpjlaaDoorWrap
import Derived.Test.YtnbgjkblhbpjlaaDoorCards
import Derived.Test.YtnbgjkblhbpjlaaDoorTie
import Derived.SevenTiedAt
import Derived.Test.YtnbgjkblhbpjlaaDoorOpenP
import Derived.Test.YtnbgjkblhbpjlaaDoorOctP
namespace Go.Proofs.YtnbgjkblhbpjlaaDoor.fnExactOctetsOf
open Go.ChangeShapes Go.WideShapes Go.ChangeAt Go.RowKit
open Go.ChangeMaps (open_string shut_string)
set_option linter.unusedVariables false

set_option maxRecDepth 100000 in
set_option maxHeartbeats 4000000 in
theorem walk (k n t l : Int) (d : List UInt8) (w : World) (w0 : d.length ≤ 9223372036854775807)  :
    Calls Tryd.prog 13 #[.agg (pkC k n t l d)] w fun e w' => e = .returned (.bool true) ∧ Below w.heap.size w w' := by
  have KX := Lib.hid (pkAt_new k n t l d w 53)
  have BX := Lib.hid ((Below.refl w.heap.size w).alloc (Nat.le_refl _) (.cells #[.int .i64 k, .int .i64 n, .int .i64 t, .int .i64 l, .string (str d)] 53))
  by_cases hd : (d.length : Int) ≤ 1048576
  rotate_left
  · have C := Lib.hid (c_szPacket k n t l d 1048576 (w.alloc (.cells #[.int .i64 k, .int .i64 n, .int .i64 t, .int .i64 l, .string (str d)] 53)) w0 (by omega) (by omega))
    rw [if_pos (by omega)] at C
    unfold pkC at *
    go_enter Tryd.func13, Tryd.ntmps13
    go_wp2_with fail
    refine C.out.mono ?_
    rintro e w1 ⟨rfl, b1⟩
    have BX2 := Lib.hid (BX.out.trans (b1.mono BX.out.size))
    clear b1 BX KX
    go_wp2
    go_ret
    exact ⟨rfl, BX2.out⟩
  have C := Lib.hid (c_szPacket k n t l d 1048576 (w.alloc (.cells #[.int .i64 k, .int .i64 n, .int .i64 t, .int .i64 l, .string (str d)] 53)) w0 (by omega) (by omega))
  rw [if_neg (by omega)] at C
  have HD := Lib.hid (show d.length ≤ 100000000 from by omega)
  have hd2 : d.length ≤ 100000000 := HD.out
  have hng : decide ((1048576 : Int) - (d.length : Int) < 0) = false := decide_eq_false (by omega)
  clear hd
  have hL : (octR k n t l d).length ≤ 18 := octR_len k n t l d
  have CS := fun W => Lib.hid (c_specOctetsOf k n t l d W (by omega))
  have CI := fun W => Lib.hid (c_implOctetsOf k n t l d W (by omega))
  generalize octR k n t l d = L at *
  generalize goodP k n t l d = ok at *
  unfold pkC at *
  go_enter Tryd.func13, Tryd.ntmps13
  go_wp2_with fail
  refine (C.out).mono ?_
  rintro e v1 ⟨rfl, b1⟩
  clear C
  have KX2 := Lib.hid (KX.out.keep b1)
  have BX2 := Lib.hid (BX.out.trans (b1.mono BX.out.size))
  clear KX BX
  have KX := KX2
  have BX := BX2
  clear KX2 BX2
  clear b1
  obtain ⟨qb, q0, q1, q2, q3, q4⟩ := (show PkAt k n t l d w.heap.size v1 from KX.out)
  go_wp2_with fail
  refine (c_toPacket k n t l d _).mono ?_
  rintro e v2 ⟨rfl, b2⟩
  clear qb q0 q1 q2 q3 q4
  have KX2 := Lib.hid (KX.out.keep b2)
  have BX2 := Lib.hid (BX.out.trans (b2.mono BX.out.size))
  clear KX BX
  have KX := KX2
  have BX := BX2
  clear KX2 BX2
  clear b2
  go_wp2_with fail
  refine (CS _).out.mono ?_
  rintro e v3 ⟨As, cs, rfl, os, b3⟩
  have is := Lib.hid os.ints
  clear os CS
  have KX2 := Lib.hid (KX.out.keep b3)
  have BX2 := Lib.hid (BX.out.trans (b3.mono BX.out.size))
  clear KX BX
  have KX := KX2
  have BX := BX2
  clear KX2 BX2
  clear b3
  obtain ⟨qb, q0, q1, q2, q3, q4⟩ := (show PkAt k n t l d w.heap.size v3 from KX.out)
  go_wp2_with fail
  refine (c_toPacket k n t l d _).mono ?_
  rintro e v4 ⟨rfl, b4⟩
  clear qb q0 q1 q2 q3 q4
  replace is := Lib.hid ((is.out.keep b4).more b4.size)
  have KX2 := Lib.hid (KX.out.keep b4)
  have BX2 := Lib.hid (BX.out.trans (b4.mono BX.out.size))
  clear KX BX
  have KX := KX2
  have BX := BX2
  clear KX2 BX2
  clear b4
  have hwb := Nat.le_of_lt KX.out.1
  have hwp := Lib.hid KX.out.1
  go_wp2_with fail
  refine (CI _).out.mono ?_
  rintro e v5 ⟨Ag, cg, rfl, og, b5⟩
  replace is := Lib.hid (is.out.keep b5)
  have le5 := b5.size
  have KX2 := Lib.hid (KX.out.keep b5)
  have BX2 := Lib.hid (BX.out.trans (b5.mono BX.out.size))
  clear KX BX
  have KX := KX2
  have BX := BX2
  clear KX2 BX2
  clear b5
  go_wp2_with fail
  refine (c_eqIntS Ag As _ _ L _ og.ints is.out (Nat.le_refl _) le5 (by omega)).mono ?_
  rintro e v6 ⟨rfl, b6⟩
  replace og := og.keep b6
  replace is := Lib.hid (is.out.keep (b6.mono le5))
  replace le5 := Nat.le_trans le5 b6.size
  have KX2 := Lib.hid (KX.out.keep b6)
  have BX2 := Lib.hid (BX.out.trans (b6.mono BX.out.size))
  clear KX BX
  have KX := KX2
  have BX := BX2
  clear KX2 BX2
  clear b6
  go_wp2_with fail
  refine (c_markIntS Ag _ L 1 _ og (by omega) (by omega) (by omega)).mono ?_
  rintro e v7 ⟨rfl, om, b7, hz, _⟩
  clear og
  replace is := Lib.hid (is.out.keep b7)
  replace le5 : v4.heap.size ≤ v7.heap.size := by rw [hz]; exact le5
  clear hz
  have im := Lib.hid om.ints
  clear om
  have KX2 := Lib.hid (KX.out.keepB hwp.out b7)
  have BX2 := Lib.hid (BX.out.trans (b7.mono hwb))
  clear KX BX
  have KX := KX2
  have BX := BX2
  clear KX2 BX2
  clear b7 hwb hwp
  go_wp2_with fail
  refine (c_heldIntS Ag _ L.length 1 _ im.out (by omega) (by omega) (by omega)).mono ?_
  rintro e _ ⟨rfl, rfl⟩
  obtain ⟨qb, q0, q1, q2, q3, q4⟩ := (show PkAt k n t l d w.heap.size v7 from KX.out)
  go_wp2_with fail
  refine (c_toPacket k n t l d _).mono ?_
  rintro e v8 ⟨rfl, b8⟩
  clear qb q0 q1 q2 q3 q4
  replace is := Lib.hid (is.out.keep (b8.mono le5))
  replace im := Lib.hid ((im.out.keep b8).more b8.size)
  replace le5 := Nat.le_trans le5 b8.size
  have KX2 := Lib.hid (KX.out.keep b8)
  have BX2 := Lib.hid (BX.out.trans (b8.mono BX.out.size))
  clear KX BX
  have KX := KX2
  have BX := BX2
  clear KX2 BX2
  clear b8
  go_wp2_with fail
  refine (CI _).out.mono ?_
  rintro e v9 ⟨Ah, ch, rfl, oh, b9⟩
  clear CI
  have ih := Lib.hid oh.ints
  clear oh
  replace is := Lib.hid (is.out.keep (b9.mono le5))
  replace im := Lib.hid ((im.out.keep b9).more b9.size)
  replace le5 := Nat.le_trans le5 b9.size
  have KX2 := Lib.hid (KX.out.keep b9)
  have BX2 := Lib.hid (BX.out.trans (b9.mono BX.out.size))
  clear KX BX
  have KX := KX2
  have BX := BX2
  clear KX2 BX2
  clear b9
  go_wp2_with fail
  refine (c_eqIntS Ah As _ _ L _ ih.out is.out (Nat.le_refl _) le5 (by omega)).mono ?_
  rintro e v10 ⟨rfl, b10⟩
  replace im := Lib.hid ((im.out.keep b10).more b10.size)
  have BX2 := Lib.hid (BX.out.trans (b10.mono BX.out.size))
  clear b10 is ih
  go_wp2_with fail
  refine (c_heldIntS Ag _ L.length 1 _ im.out (by omega) (by omega) (by omega)).mono ?_
  rintro e _ ⟨rfl, rfl⟩
  go_wp2
  go_ret
  exact ⟨rfl, BX2.out⟩

theorem own : ownKnob Tryd.prog.godebug = none := by kernel_rfl
theorem laidOut : laidOutB Tryd.prog = true := by kernel_rfl

set_option maxRecDepth 100000 in
theorem lifted (os : Os) (started : os.Started) (H : Type) (enc : TypeId × Value → H) :
    ReturnsInHanded {} Tryd.checked os 13 .any (fun w args => (Rows.fnExactOctetsOfSpec.pre enc Tryd.prog Tryd.f13 [] false w args ∧ laidMetH Tryd.prog Rows.fnExactOctetsOfRow.laid w) ∧ sizedMet enc Tryd.prog Tryd.f13 (OpenSpec.ofChange Rows.fnExactOctetsOfSpec) false w args)
      (Rows.fnExactOctetsOfSpec.post enc Tryd.prog Tryd.f13 false true false false) := by
  refine returns_all (C := Tryd.checked) (X := (fun w _ => laidMetH Tryd.prog Rows.fnExactOctetsOfRow.laid w)) (fun _ _ _ hh h => h.of_heap hh) own started (by kernel_rfl) Tryd.func13
    (ChangeSpec.witness_shaped (enc := enc) (C := Tryd.checked) (os := os) (X := (fun w _ => laidMetH Tryd.prog Rows.fnExactOctetsOfRow.laid w)) false (World.laidAll Tryd.prog os Rows.fnExactOctetsOfRow.laid) #[.agg #[.int .i64 0, .int .i64 0, .int .i64 0, .int .i64 0, .string ByteArray.empty]] 8 (World.laidAll_os _ _ _)
      (World.shaped_of_ZipB (by kernel_rfl) (by kernel_rfl)) (by kernel_rfl) (by kernel_rfl) (by kernel_rfl)
      (by rw [MakeChecks.laidMetH_plain _ _ _ (by kernel_rfl)]; exact laidMet_laidAll _ (by kernel_rfl) (by kernel_rfl))) ?_
  intro W base args ds gs before hval0 hW _ _ hL hsh
  rw [MakeChecks.laidMetH_plain _ _ _ (by kernel_rfl)] at hL
  have hval : ∀ (j : Nat) t v, Tryd.f13.params[j]? = some t → args[j]? = some v → Value.okWide Tryd.prog W .any base t v := hval0
  have hW' := hW
  obtain ⟨p, q, hA0, hV, rfl, hfz, hnd⟩ := hW
  have hA : DataW.TrodAll enc Tryd.prog W 0 (fun _ => true) true Tryd.f13.params.toList args.toList ds p := hA0
  rw [Tryd.params13] at hA hval
  obtain ⟨v0, vs0, d0, ds0, p0, q0, hargs, rfl, rfl, h0, r0⟩ := trodAll_cons hA
  obtain ⟨rfl, rfl, rfl⟩ := trodAll_nil r0
  obtain rfl : args = #[v0] := by cases args; simp_all
  obtain ⟨rfl, rfl⟩ := trodVars_none hV
  have k0 := h0
  have lt0 : ∀ x ∈ p0, x.block < W.heap.size := by obtain ⟨m, hm⟩ := k0; exact DataW.trod_lt m _ _ _ hm
  obtain ⟨pk0, pn0, pt0, pl0, pd0, rfl, w0⟩ := open_packet (hval 0 53 v0 rfl rfl) h0
  clear hA0 hval0
  refine (walk pk0 pn0 pt0 pl0 pd0 W w0).mono fun e W' ⟨he, bel⟩ => ?_
  subst he
  exact ⟨_, rfl, _, _, _, [], _, [], hW', trodAll_mk1 (shut_bool Tryd.underlying4 _), (trodAll_cons_mk (Below.trod laidOut (by kernel_rfl) (of_decide_eq_true (by kernel_rfl)) k0 bel lt0) trodAll_mk0), rfl, bel.frame _, fun h => by cases h⟩

theorem over : Rows.fnExactOctetsOfRow.holds Tryd.pinned (OpenSpec.ofChange Rows.fnExactOctetsOfSpec) :=
  OpenClaim.holds_of_wide 13 Tryd.f13 rfl rfl rfl rfl rfl rfl rfl ⟨rfl, rfl, rfl, rfl, rfl⟩ rfl rfl rfl rfl rfl (by kernel_rfl) Tryd.func13 (by kernel_rfl)
    (of_decide_eq_true (by kernel_rfl)) (by unfold Func.isWrapper; first | (rw [if_pos (by decide +kernel)]; kernel_rfl) | (rw [if_neg (by decide +kernel)]; exact ⟨rfl, rfl⟩))
    (fun os started H enc _ => lifted os started H enc)

/-- THE STATEMENT: the tied card. -/
theorem proved : Rows.FnExactOctetsOfCardSaid :=
  Claim7.holds_tied_plain_at .later [] Rows.fnExactOctetsOfCard.laidKinds true Rows.fnExactOctetsOfCard.stood.harness Rows.fnExactOctetsOfCard.stood.looks over (fun _ h => by cases h) (by kernel_rfl) (fun _ h => by cases h) fnExactOctetsOf_row_tie rfl ⟨rfl, rfl⟩ (by kernel_rfl) rfl
    (fun f fn hf hfn => by
      obtain rfl : f = 13 := Option.some.inj ((show Tryd.prog.funcNamed Rows.fnExactOctetsOfRow.func = some 13 by kernel_rfl).symm.trans hf) |>.symm
      obtain rfl : fn = Tryd.f13 := (Option.some.inj (Tryd.func13.symm.trans hfn)).symm
      exact ⟨by kernel_rfl, fun j t ht => by
        rw [Tryd.params13] at ht
        have hm : t ∈ ([53] : List Nat) := by simpa using Array.mem_of_getElem? ht
        have hall : (([53] : List Nat).all fun u => !Tryd.prog.wantsStandIn u) = true := by kernel_rfl
        exact (show Tryd.prog.wantsStandIn t = false by simpa using List.all_eq_true.1 hall t hm)⟩)
    (by kernel_rfl)
end Go.Proofs.YtnbgjkblhbpjlaaDoor.fnExactOctetsOf
