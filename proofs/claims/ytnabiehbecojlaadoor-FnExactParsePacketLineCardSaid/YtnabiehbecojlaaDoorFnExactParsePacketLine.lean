/-
  The program's ParsePacketLine returns what the reference's ParsePacketLine returns, at all arguments: the law FnExactParsePacketLine returns true.
  Conditions: none.
-/
import Derived.Test.YtnabiehbecojlaaDoorRows
import Derived.WalkKit
import Derived.ProofKit
import Derived.OpenShut
import Derived.ShutString
import Derived.ChangeOld
import Derived.Below
import Derived.Handy
import Derived.Test.YtnabiehbecojlaaDoorWrap
import Derived.Test.YtnabiehbecojlaaDoorCards
import Derived.Test.YtnabiehbecojlaaDoorTie
import Derived.SevenTiedAt
import Derived.Test.YtnabiehbecojlaaDoorOpenP
import Derived.Test.YtnabiehbecojlaaDoorLineT
namespace Go.Proofs.YtnabiehbecojlaaDoor.fnExactParsePacketLine
open Go.ChangeShapes Go.WideShapes Go.ChangeAt Go.RowKit
open Go.ChangeMaps (open_string shut_string)
set_option linter.unusedVariables false

set_option maxRecDepth 100000 in
set_option maxHeartbeats 8000000 in
theorem walk (a0 : ByteArray) (w : World) (w0 : a0.size ≤ maxLen) (nkind : KindW w w.heap.size) (npow : PowW w w.heap.size) (nerr : ErrW w w.heap.size) (nmax : MaxW w w.heap.size) :
    Calls Tryd.prog 6 #[.string a0] w fun e w' => e = .returned (.bool true) ∧ Below w.heap.size w w' := by
  clear w0
  have Hkind := Lib.hid nkind
  clear nkind
  have Hpow := Lib.hid npow
  clear npow
  have Herr := Lib.hid nerr
  clear nerr
  have Hmax := Lib.hid nmax
  clear nmax
  by_cases hl0 : (a0.size : Int) ≤ 1048576
  rotate_left
  · have hl1 : (1048576 : Int) < (a0.size : Int) := by omega
    go_enter Tryd.func6, Tryd.ntmps6
    go_wp2
    go_ret
    exact ⟨rfl, Below.refl _ _⟩
  have hl1 : ¬ (1048576 : Int) < (a0.size : Int) := by omega
  obtain ⟨l, rfl⟩ : ∃ l, a0 = str l := ⟨a0.data.toList, (str_list a0).symm⟩
  have hll : l.length ≤ 10000000 := by rw [str_size] at hl0; omega
  obtain ⟨k, n, t, l', d, hd, hdl⟩ := plC_pk l
  have CS := fun W => Lib.hid (c_specParsePacketLine l W hll)
  have CI := fun (W : World) (b : Hid (Below w.heap.size w W)) => Lib.hid (c_implParsePacketLine l W (Hkind.out.keep b.out (Nat.le_refl _)) (Hpow.out.keep b.out (Nat.le_refl _)) (Herr.out.keep b.out (Nat.le_refl _)) (Hmax.out.keep b.out (Nat.le_refl _)) b.out.size hll)
  have CE := fun W => Lib.hid (c_eqPacket k n t l' d W)
  simp only [hd] at CS CI
  generalize plOk l = ok at *
  clear hd
  unfold pkC at *
  go_enter Tryd.func6, Tryd.ntmps6
  go_wp2_with fail
  refine (CS _).out.mono ?_
  rintro e v1 ⟨rfl, b1⟩
  have bA := (Below.refl v1.heap.size v1).alloc (Nat.le_refl _) (.cells #[.int .i64 k, .int .i64 n, .int .i64 t, .int .i64 l', .string (str d)] 27)
  have BX := Lib.hid (b1.trans (bA.mono b1.size))
  have KR := Lib.hid (pkAt_new k n t l' d v1 27)
  clear b1 bA CS
  go_wp2_with fail
  refine (CI _ BX).out.mono ?_
  rintro e v2 ⟨rfl, b2⟩
  have bA := (Below.refl v2.heap.size v2).alloc (Nat.le_refl _) (.cells #[.int .i64 k, .int .i64 n, .int .i64 t, .int .i64 l', .string (str d)] 27)
  have BX2 := Lib.hid ((BX.out.trans (b2.mono BX.out.size)).trans (bA.mono (Nat.le_trans BX.out.size b2.size)))
  have KR2 := Lib.hid ((KR.out.keep b2).keep bA)
  have KG := Lib.hid (pkAt_new k n t l' d v2 27)
  clear b2 bA CI KR BX
  obtain ⟨rb, r0, r1, r2, r3, r4⟩ := KR2.out
  obtain ⟨gb, g0, g1, g2, g3, g4⟩ := KG.out
  go_wp2_with fail
  refine (CE _).out.mono ?_
  rintro e v6 ⟨rfl, b6⟩
  have BX6 := Lib.hid (BX2.out.trans (b6.mono BX2.out.size))
  clear b6
  go_wp2
  go_ret
  exact ⟨rfl, BX6.out⟩

theorem own : ownKnob Tryd.prog.godebug = none := by kernel_rfl
theorem laidOut : laidOutB Tryd.prog = true := by kernel_rfl

set_option maxRecDepth 100000 in
theorem lifted (os : Os) (started : os.Started) (H : Type) (enc : TypeId × Value → H) :
    ReturnsInHanded {} Tryd.checked os 6 .any (fun w args => (Rows.fnExactParsePacketLineSpec.pre enc Tryd.prog Tryd.f6 [] false w args ∧ laidMetH Tryd.prog Rows.fnExactParsePacketLineRow.laid w) ∧ sizedMet enc Tryd.prog Tryd.f6 (OpenSpec.ofChange Rows.fnExactParsePacketLineSpec) false w args)
      (Rows.fnExactParsePacketLineSpec.post enc Tryd.prog Tryd.f6 false true false false) := by
  refine returns_all (C := Tryd.checked) (X := (fun w _ => laidMetH Tryd.prog Rows.fnExactParsePacketLineRow.laid w)) (fun _ _ _ hh h => h.of_heap hh) own started (by kernel_rfl) Tryd.func6
    (ChangeSpec.witness_shaped (enc := enc) (C := Tryd.checked) (os := os) (X := (fun w _ => laidMetH Tryd.prog Rows.fnExactParsePacketLineRow.laid w)) false (World.laidAll Tryd.prog os Rows.fnExactParsePacketLineRow.laid) #[.string ByteArray.empty] 8 (World.laidAll_os _ _ _)
      (World.shaped_of_ZipB (by kernel_rfl) (by kernel_rfl)) (by kernel_rfl) (by kernel_rfl) (by kernel_rfl)
      (by rw [MakeChecks.laidMetH_plain _ _ _ (by kernel_rfl)]; exact laidMet_laidAll _ (by kernel_rfl) (by kernel_rfl))) ?_
  intro W base args ds gs before hval0 hW _ _ hL hsh
  rw [MakeChecks.laidMetH_plain _ _ _ (by kernel_rfl)] at hL
  have nkind : KindW W W.heap.size := kind_of_reads (Lib.laidMet.reads hL (n := "loop.example/g00840/impl.kindWords") (d := Rows.laid_loop_example_g00840_impl_kindWords) (by simp only [Rows.fnExactParsePacketLineRow]; first | exact .head _ | exact .tail _ (.head _) | exact .tail _ (.tail _ (.head _)) | exact .tail _ (.tail _ (.tail _ (.head _))) | exact .tail _ (.tail _ (.tail _ (.tail _ (.head _)))) | exact .tail _ (.tail _ (.tail _ (.tail _ (.tail _ (.head _))))) | exact .tail _ (.tail _ (.tail _ (.tail _ (.tail _ (.tail _ (.head _))))))))
  have npow : PowW W W.heap.size := pow_of_reads (Lib.laidMet.reads hL (n := "internal/strconv.uint64pow10") (d := Rows.laid_internal_strconv_uint64pow10) (by simp only [Rows.fnExactParsePacketLineRow]; first | exact .head _ | exact .tail _ (.head _) | exact .tail _ (.tail _ (.head _)) | exact .tail _ (.tail _ (.tail _ (.head _))) | exact .tail _ (.tail _ (.tail _ (.tail _ (.head _)))) | exact .tail _ (.tail _ (.tail _ (.tail _ (.tail _ (.head _))))) | exact .tail _ (.tail _ (.tail _ (.tail _ (.tail _ (.tail _ (.head _))))))))
  have nerr : ErrW W W.heap.size := err_of_reads (Lib.laidMet.reads hL (n := "strconv.ErrSyntax") (d := Rows.laid_strconv_ErrSyntax) (by simp only [Rows.fnExactParsePacketLineRow]; first | exact .head _ | exact .tail _ (.head _) | exact .tail _ (.tail _ (.head _)) | exact .tail _ (.tail _ (.tail _ (.head _))) | exact .tail _ (.tail _ (.tail _ (.tail _ (.head _)))) | exact .tail _ (.tail _ (.tail _ (.tail _ (.tail _ (.head _))))) | exact .tail _ (.tail _ (.tail _ (.tail _ (.tail _ (.tail _ (.head _)))))))) (Lib.laidMet.reads hL (n := "strconv.ErrRange") (d := Rows.laid_strconv_ErrRange) (by simp only [Rows.fnExactParsePacketLineRow]; first | exact .head _ | exact .tail _ (.head _) | exact .tail _ (.tail _ (.head _)) | exact .tail _ (.tail _ (.tail _ (.head _))) | exact .tail _ (.tail _ (.tail _ (.tail _ (.head _)))) | exact .tail _ (.tail _ (.tail _ (.tail _ (.tail _ (.head _))))) | exact .tail _ (.tail _ (.tail _ (.tail _ (.tail _ (.tail _ (.head _))))))))
  have nmax : MaxW W W.heap.size := MaxW.of_shape hsh (Nat.le_refl _)
  have hval : ∀ (j : Nat) t v, Tryd.f6.params[j]? = some t → args[j]? = some v → Value.okWide Tryd.prog W .any base t v := hval0
  have hW' := hW
  obtain ⟨p, q, hA0, hV, rfl, hfz, hnd⟩ := hW
  have hA : DataW.TrodAll enc Tryd.prog W 0 (fun _ => true) true Tryd.f6.params.toList args.toList ds p := hA0
  rw [Tryd.params6] at hA hval
  obtain ⟨v0, vs0, d0, ds0, p0, q0, hargs, rfl, rfl, h0, r0⟩ := trodAll_cons hA
  obtain ⟨rfl, rfl, rfl⟩ := trodAll_nil r0
  obtain rfl : args = #[v0] := by cases args; simp_all
  have hV2 := hV
  obtain ⟨gv, tv, csv, fv, dv, pv, rfl, hv1, hv2, hv3, hv4, rfl⟩ := trodVars_one hV
  obtain ⟨a0, rfl, rfl, rfl, w0⟩ := open_string Tryd.underlying9 (hval 0 9 v0 rfl rfl) h0
  clear hA0 hval0
  refine (walk a0 W w0 nkind npow nerr nmax).mono fun e W' ⟨he, bel⟩ => ?_
  subst he
  exact ⟨_, rfl, _, _, _, [], _, _, hW', trodAll_mk1 (shut_bool Tryd.underlying4 _), (trodAll_cons_mk (shut_string Tryd.underlying9 w0) trodAll_mk0), kind_vars hV2 bel, bel.frame _, fun h => by cases h⟩

theorem over : Rows.fnExactParsePacketLineRow.holds Tryd.pinned (OpenSpec.ofChange Rows.fnExactParsePacketLineSpec) :=
  OpenClaim.holds_of_wide 6 Tryd.f6 rfl rfl rfl rfl rfl rfl rfl ⟨rfl, rfl, rfl, rfl, rfl⟩ rfl rfl rfl rfl rfl (by kernel_rfl) Tryd.func6 (by kernel_rfl)
    (of_decide_eq_true (by kernel_rfl)) (by unfold Func.isWrapper; first | (rw [if_pos (by decide +kernel)]; kernel_rfl) | (rw [if_neg (by decide +kernel)]; exact ⟨rfl, rfl⟩))
    (fun os started H enc _ => lifted os started H enc)

/-- THE STATEMENT: the tied card. -/
theorem proved : Rows.FnExactParsePacketLineCardSaid :=
  Claim7.holds_tied_plain_at .later [] Rows.fnExactParsePacketLineCard.laidKinds true Rows.fnExactParsePacketLineCard.stood.harness Rows.fnExactParsePacketLineCard.stood.looks over (fun _ h => by cases h) (by kernel_rfl) (fun _ h => by cases h) fnExactParsePacketLine_row_tie rfl ⟨rfl, rfl⟩ (by kernel_rfl) rfl
    (fun f fn hf hfn => by
      obtain rfl : f = 6 := Option.some.inj ((show Tryd.prog.funcNamed Rows.fnExactParsePacketLineRow.func = some 6 by kernel_rfl).symm.trans hf) |>.symm
      obtain rfl : fn = Tryd.f6 := (Option.some.inj (Tryd.func6.symm.trans hfn)).symm
      exact ⟨by kernel_rfl, fun j t ht => by
        rw [Tryd.params6] at ht
        have hm : t ∈ ([9] : List Nat) := by simpa using Array.mem_of_getElem? ht
        have hall : (([9] : List Nat).all fun u => !Tryd.prog.wantsStandIn u) = true := by kernel_rfl
        exact (show Tryd.prog.wantsStandIn t = false by simpa using List.all_eq_true.1 hall t hm)⟩)
    (by kernel_rfl)
end Go.Proofs.YtnabiehbecojlaaDoor.fnExactParsePacketLine
