/-
  The program's PacketLine returns what the reference's PacketLine returns, at all arguments: the law FnExactPacketLine returns true.
  Conditions: none.
-/
import Derived.Test.YtnabiehbecojlaaDoorRows
import Derived.WalkKit
import Derived.ProofKit
import Derived.OpenShut
import Derived.ShutString
import Derived.ChangeOld
import Derived.Below
import Derived.Handy
import Derived.Test.YtnabiehbecojlaaDoorWrap
import Derived.Test.YtnabiehbecojlaaDoorCards
import Derived.Test.YtnabiehbecojlaaDoorTie
import Derived.SevenTiedAt
import Derived.Test.YtnabiehbecojlaaDoorOpenP
import Derived.Test.YtnabiehbecojlaaDoorLineP
namespace Go.Proofs.YtnabiehbecojlaaDoor.fnExactPacketLine
open Go.ChangeShapes Go.WideShapes Go.ChangeAt Go.RowKit
open Go.ChangeMaps (open_string shut_string)
set_option linter.unusedVariables false

set_option maxRecDepth 100000 in
set_option maxHeartbeats 4000000 in
theorem walk (k n t l : Int) (d : List UInt8) (w : World) (w0 : d.length ≤ 9223372036854775807) (nkind : KindW w w.heap.size) (npow : PowW w w.heap.size) :
    Calls Tryd.prog 5 #[.agg (pkC k n t l d)] w fun e w' => e = .returned (.bool true) ∧ Below w.heap.size w w' := by
  have Hnkind := Lib.hid nkind
  clear nkind
  have Hnpow := Lib.hid npow
  clear npow
  have KX := Lib.hid (pkAt_new k n t l d w 23)
  have BX := Lib.hid ((Below.refl w.heap.size w).alloc (Nat.le_refl _) (.cells #[.int .i64 k, .int .i64 n, .int .i64 t, .int .i64 l, .string (str d)] 23))
  by_cases hd : (d.length : Int) ≤ 1048576
  rotate_left
  · have C := Lib.hid (c_szPacket k n t l d 1048576 (w.alloc (.cells #[.int .i64 k, .int .i64 n, .int .i64 t, .int .i64 l, .string (str d)] 23)) w0 (by omega) (by omega))
    rw [if_pos (by omega)] at C
    unfold pkC at *
    go_enter Tryd.func5, Tryd.ntmps5
    go_wp2_with fail
    refine C.out.mono ?_
    rintro e w1 ⟨rfl, b1⟩
    have BX2 := Lib.hid (BX.out.trans (b1.mono BX.out.size))
    clear b1 BX KX
    go_wp2
    go_ret
    exact ⟨rfl, BX2.out⟩
  have C := Lib.hid (c_szPacket k n t l d 1048576 (w.alloc (.cells #[.int .i64 k, .int .i64 n, .int .i64 t, .int .i64 l, .string (str d)] 23)) w0 (by omega) (by omega))
  rw [if_neg (by omega)] at C
  have hd2 : d.length ≤ 100000000 := by omega
  have hng : decide ((1048576 : Int) - (d.length : Int) < 0) = false := decide_eq_false (by omega)
  clear hd
  have CS := fun W => Lib.hid (c_specPacketLine k n t l d W (by omega))
  have CI := fun (W : World) (b : Hid (Below w.heap.size w W)) => Lib.hid (c_implPacketLine k n t l d W (Hnkind.out.keep b.out (Nat.le_refl _)) (Hnpow.out.keep b.out (Nat.le_refl _)) b.out.size (by omega))
  generalize lineR k n t l d = L at *
  generalize goodP k n t l d = ok at *
  unfold pkC at *
  go_enter Tryd.func5, Tryd.ntmps5
  go_wp2_with fail
  refine (C.out).mono ?_
  rintro e v1 ⟨rfl, b1⟩
  clear C
  have KX2 := Lib.hid (KX.out.keep b1)
  have BX2 := Lib.hid (BX.out.trans (b1.mono BX.out.size))
  clear KX BX b1
  obtain ⟨qb, q0, q1, q2, q3, q4⟩ := (show PkAt k n t l d w.heap.size v1 from KX2.out)
  go_wp2_with fail
  refine (c_toPacket k n t l d _).mono ?_
  rintro e v2 ⟨rfl, b2⟩
  clear qb q0 q1 q2 q3 q4
  have KX3 := Lib.hid (KX2.out.keep b2)
  have BX3 := Lib.hid (BX2.out.trans (b2.mono BX2.out.size))
  clear KX2 BX2 b2
  go_wp2_with fail
  refine (CS v2).out.mono ?_
  rintro e v3 ⟨rfl, b3⟩
  clear CS
  have KX4 := Lib.hid (KX3.out.keep b3)
  have BX4 := Lib.hid (BX3.out.trans (b3.mono BX3.out.size))
  clear KX3 BX3 b3
  obtain ⟨qb, q0, q1, q2, q3, q4⟩ := (show PkAt k n t l d w.heap.size v3 from KX4.out)
  go_wp2_with fail
  refine (c_toPacket k n t l d _).mono ?_
  rintro e v4 ⟨rfl, b4⟩
  clear qb q0 q1 q2 q3 q4
  have BX5 := Lib.hid (BX4.out.trans (b4.mono BX4.out.size))
  clear KX4 BX4 b4
  go_wp2_with fail
  refine (CI v4 BX5).out.mono ?_
  rintro e v5 ⟨rfl, b5⟩
  have BX6 := Lib.hid (BX5.out.trans (b5.mono BX5.out.size))
  clear BX5 b5 CI
  go_wp2
  go_ret
  exact ⟨rfl, BX6.out⟩

theorem own : ownKnob Tryd.prog.godebug = none := by kernel_rfl
theorem laidOut : laidOutB Tryd.prog = true := by kernel_rfl

set_option maxRecDepth 100000 in
theorem lifted (os : Os) (started : os.Started) (H : Type) (enc : TypeId × Value → H) :
    ReturnsInHanded {} Tryd.checked os 5 .any (fun w args => (Rows.fnExactPacketLineSpec.pre enc Tryd.prog Tryd.f5 [] false w args ∧ laidMetH Tryd.prog Rows.fnExactPacketLineRow.laid w) ∧ sizedMet enc Tryd.prog Tryd.f5 (OpenSpec.ofChange Rows.fnExactPacketLineSpec) false w args)
      (Rows.fnExactPacketLineSpec.post enc Tryd.prog Tryd.f5 false true false false) := by
  refine returns_all (C := Tryd.checked) (X := (fun w _ => laidMetH Tryd.prog Rows.fnExactPacketLineRow.laid w)) (fun _ _ _ hh h => h.of_heap hh) own started (by kernel_rfl) Tryd.func5
    (ChangeSpec.witness_shaped (enc := enc) (C := Tryd.checked) (os := os) (X := (fun w _ => laidMetH Tryd.prog Rows.fnExactPacketLineRow.laid w)) false (World.laidAll Tryd.prog os Rows.fnExactPacketLineRow.laid) #[.agg #[.int .i64 0, .int .i64 0, .int .i64 0, .int .i64 0, .string ByteArray.empty]] 8 (World.laidAll_os _ _ _)
      (World.shaped_of_ZipB (by kernel_rfl) (by kernel_rfl)) (by kernel_rfl) (by kernel_rfl) (by kernel_rfl)
      (by rw [MakeChecks.laidMetH_plain _ _ _ (by kernel_rfl)]; exact laidMet_laidAll _ (by kernel_rfl) (by kernel_rfl))) ?_
  intro W base args ds gs before hval0 hW _ _ hL hsh
  rw [MakeChecks.laidMetH_plain _ _ _ (by kernel_rfl)] at hL
  have nkind : KindW W W.heap.size := kind_of_reads (Lib.laidMet.reads hL (n := "loop.example/g00840/impl.kindWords") (d := Rows.laid_loop_example_g00840_impl_kindWords) (by simp only [Rows.fnExactPacketLineRow]; first | exact .head _ | exact .tail _ (.head _) | exact .tail _ (.tail _ (.head _)) | exact .tail _ (.tail _ (.tail _ (.head _))) | exact .tail _ (.tail _ (.tail _ (.tail _ (.head _)))) | exact .tail _ (.tail _ (.tail _ (.tail _ (.tail _ (.head _))))) | exact .tail _ (.tail _ (.tail _ (.tail _ (.tail _ (.tail _ (.head _))))))))
  have npow : PowW W W.heap.size := pow_of_reads (Lib.laidMet.reads hL (n := "internal/strconv.uint64pow10") (d := Rows.laid_internal_strconv_uint64pow10) (by simp only [Rows.fnExactPacketLineRow]; first | exact .head _ | exact .tail _ (.head _) | exact .tail _ (.tail _ (.head _)) | exact .tail _ (.tail _ (.tail _ (.head _))) | exact .tail _ (.tail _ (.tail _ (.tail _ (.head _)))) | exact .tail _ (.tail _ (.tail _ (.tail _ (.tail _ (.head _))))) | exact .tail _ (.tail _ (.tail _ (.tail _ (.tail _ (.tail _ (.head _))))))))
  have hval : ∀ (j : Nat) t v, Tryd.f5.params[j]? = some t → args[j]? = some v → Value.okWide Tryd.prog W .any base t v := hval0
  have hW' := hW
  obtain ⟨p, q, hA0, hV, rfl, hfz, hnd⟩ := hW
  have hA : DataW.TrodAll enc Tryd.prog W 0 (fun _ => true) true Tryd.f5.params.toList args.toList ds p := hA0
  rw [Tryd.params5] at hA hval
  obtain ⟨v0, vs0, d0, ds0, p0, q0, hargs, rfl, rfl, h0, r0⟩ := trodAll_cons hA
  obtain ⟨rfl, rfl, rfl⟩ := trodAll_nil r0
  obtain rfl : args = #[v0] := by cases args; simp_all
  have hV2 := hV
  obtain ⟨gv, tv, csv, fv, dv, pv, rfl, hv1, hv2, hv3, hv4, rfl⟩ := trodVars_one hV
  have k0 := h0
  have lt0 : ∀ x ∈ p0, x.block < W.heap.size := by obtain ⟨m, hm⟩ := k0; exact DataW.trod_lt m _ _ _ hm
  obtain ⟨pk0, pn0, pt0, pl0, pd0, rfl, w0⟩ := open_packet (hval 0 23 v0 rfl rfl) h0
  clear hA0 hval0
  refine (walk pk0 pn0 pt0 pl0 pd0 W w0 nkind npow).mono fun e W' ⟨he, bel⟩ => ?_
  subst he
  exact ⟨_, rfl, _, _, _, [], _, _, hW', trodAll_mk1 (shut_bool Tryd.underlying4 _), (trodAll_cons_mk (Below.trod laidOut (by kernel_rfl) (of_decide_eq_true (by kernel_rfl)) k0 bel lt0) trodAll_mk0), kind_vars hV2 bel, bel.frame _, fun h => by cases h⟩

theorem over : Rows.fnExactPacketLineRow.holds Tryd.pinned (OpenSpec.ofChange Rows.fnExactPacketLineSpec) :=
  OpenClaim.holds_of_wide 5 Tryd.f5 rfl rfl rfl rfl rfl rfl rfl ⟨rfl, rfl, rfl, rfl, rfl⟩ rfl rfl rfl rfl rfl (by kernel_rfl) Tryd.func5 (by kernel_rfl)
    (of_decide_eq_true (by kernel_rfl)) (by unfold Func.isWrapper; first | (rw [if_pos (by decide +kernel)]; kernel_rfl) | (rw [if_neg (by decide +kernel)]; exact ⟨rfl, rfl⟩))
    (fun os started H enc _ => lifted os started H enc)

/-- THE STATEMENT: the tied card. -/
theorem proved : Rows.FnExactPacketLineCardSaid :=
  Claim7.holds_tied_plain_at .later [] Rows.fnExactPacketLineCard.laidKinds true Rows.fnExactPacketLineCard.stood.harness Rows.fnExactPacketLineCard.stood.looks over (fun _ h => by cases h) (by kernel_rfl) (fun _ h => by cases h) fnExactPacketLine_row_tie rfl ⟨rfl, rfl⟩ (by kernel_rfl) rfl
    (fun f fn hf hfn => by
      obtain rfl : f = 5 := Option.some.inj ((show Tryd.prog.funcNamed Rows.fnExactPacketLineRow.func = some 5 by kernel_rfl).symm.trans hf) |>.symm
      obtain rfl : fn = Tryd.f5 := (Option.some.inj (Tryd.func5.symm.trans hfn)).symm
      exact ⟨by kernel_rfl, fun j t ht => by
        rw [Tryd.params5] at ht
        have hm : t ∈ ([23] : List Nat) := by simpa using Array.mem_of_getElem? ht
        have hall : (([23] : List Nat).all fun u => !Tryd.prog.wantsStandIn u) = true := by kernel_rfl
        exact (show Tryd.prog.wantsStandIn t = false by simpa using List.all_eq_true.1 hall t hm)⟩)
    (by kernel_rfl)
end Go.Proofs.YtnabiehbecojlaaDoor.fnExactPacketLine
