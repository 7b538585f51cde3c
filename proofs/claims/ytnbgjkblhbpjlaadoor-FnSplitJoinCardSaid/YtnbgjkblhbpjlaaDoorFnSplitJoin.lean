/-
  The law FnSplitJoin returns true at every input and leaves its argument as it was: SplitString and JoinStrings are inverse, and LessString is a strict order.
  Conditions: none.
-/
import Derived.Test.YtnbgjkblhbpjlaaDoorRows
import Derived.WalkKit
import Derived.ProofKit
import Derived.OpenShut
import Derived.ShutString
import Derived.ChangeOld
import Derived.Below
import Derived.Handy
import Derived.Test.YtnbgjkblhbpjlaaDoorWrap
import Derived.Test.YtnbgjkblhbpjlaaDoorCards
import Derived.Test.YtnbgjkblhbpjlaaDoorTie
import Derived.SevenTiedAt
import Derived.Test.YtnbgjkblhbpjlaaDoorOpenB
import Derived.Test.YtnbgjkblhbpjlaaDoorDrawN
import Derived.Test.YtnbgjkblhbpjlaaDoorJoin
import Derived.Test.YtnbgjkblhbpjlaaDoorSplit
namespace Go.Proofs.YtnbgjkblhbpjlaaDoor.fnSplitJoin
open Go.ChangeShapes Go.WideShapes Go.ChangeAt Go.RowKit
open Go.ChangeMaps (open_string shut_string)
set_option linter.unusedVariables false

theorem less_not : ∀ a b : List UInt8, Op.bytesLess a b = true → Op.bytesLess b a = false := by
  intro a
  induction a with
  | nil => intro b h; cases b <;> simp_all [Op.bytesLess]
  | cons x a ih =>
    intro b h
    cases b with
    | nil => simp [Op.bytesLess] at h
    | cons y b =>
      simp only [Op.bytesLess] at h ⊢
      simp only [Bool.or_eq_true, Bool.and_eq_true, decide_eq_true_eq, beq_iff_eq, UInt8.lt_iff_toNat_lt] at h
      have hn : ¬ y < x := by
        rw [UInt8.lt_iff_toNat_lt]
        rcases h with h | ⟨rfl, _⟩ <;> omega
      rw [Bool.or_eq_false_iff, Bool.and_eq_false_iff]
      refine ⟨decide_eq_false hn, ?_⟩
      rcases h with h | ⟨_, h⟩
      · left
        rw [beq_eq_false_iff_ne]
        intro e
        rw [e] at h
        omega
      · right
        exact ih b h
theorem jn_bound (b : UInt8) (M : Nat) : ∀ xs : List (List UInt8), SmallS xs → xs.length ≤ M → (jn b xs).length ≤ xs.length * 5001
  | [], _, _ => by simp [jn]
  | [x], h, _ => by
    have := h x (by simp)
    simp [jn]
    omega
  | x :: y :: r, h, hM => by
    rw [jn_cons b x (by simp), List.length_append, List.length_cons]
    have h1 := h x (by simp)
    have h2 := jn_bound b M (y :: r) (fun z hz => h z (List.mem_cons_of_mem _ hz)) (by simp only [List.length_cons] at hM ⊢; omega)
    simp only [List.length_cons] at h2 ⊢
    omega
theorem split_y (s : ByteArray) (b : UInt8) (h : s.size ≤ 4000) : splOk s (str [b]) = true ∧ joinOk (splR s (str [b])) (str [b]) = true ∧ joinT (splR s (str [b])) (str [b]) = s.data.toList ∧ (∀ x ∈ splR s (str [b]), x.length ≤ 4000) ∧ ∀ c, (jn c (splR s (str [b]))).length ≤ 100000000 := by
  have h1 : splOk s (str [b]) = true := by simp [splOk, h, str_size]
  have h2 : splR s (str [b]) = spl b s.data.toList := by simp [splR, h1, list_str]
  have hl : s.data.toList.length = s.size := size_list s
  have h3 := joinT_y (b := b) (spl_ne b s.data.toList) (anyB_no fun j hj => hasB_f (spl_not_mem s.data.toList _ (by rw [show (spl b s.data.toList).getD j [] = (spl b s.data.toList)[j] from by simp [hj]]; exact List.getElem_mem _))) (by rw [jn_spl]; omega)
  rw [jn_spl] at h3
  rw [h2]
  have h4 : ∀ x ∈ spl b s.data.toList, x.length ≤ 4000 := fun x hx => by have := spl_elem_le b s.data.toList x hx; omega
  refine ⟨h1, h3.1, h3.2, h4, fun c => ?_⟩
  have h5 := spl_len_le b s.data.toList
  have h6 := jn_bound c 100000 (spl b s.data.toList) (fun x hx => by have := h4 x hx; omega) (by omega)
  omega
theorem split_n {s sep : ByteArray} (h : sep.size ≠ 1) : splOk s sep = false ∧ splR s sep = [] := by
  have h1 : splOk s sep = false := by simp [splOk, h]
  exact ⟨h1, by simp [splR, h1]⟩
theorem c_implLess (a b : ByteArray) (w : World) : Calls Tryd.prog 37 #[.string a, .string b] w fun e w' => e = .returned (.bool (Op.bytesLess a.toList b.toList)) ∧ w = w' := by
  go_enter Tryd.func37, Tryd.ntmps37
  go_wp2
  go_ret
  exact ⟨rfl, rfl⟩
theorem c_specLess (a b : ByteArray) (w : World) : Calls Tryd.prog 38 #[.string a, .string b] w fun e w' => e = .returned (.bool (Op.bytesLess a.toList b.toList)) ∧ w = w' := by
  go_enter Tryd.func38, Tryd.ntmps38
  go_wp2
  go_ret
  exact ⟨rfl, rfl⟩
set_option maxRecDepth 100000 in
set_option maxHeartbeats 4000000 in
theorem walk (a0 : Option Addr) (cap0 n0 : Nat) (w : World) (w0 : BytesAt w w.heap.size a0 n0) (nmax : MaxW w w.heap.size) :
    Calls Tryd.prog 9 #[.slice a0 n0 cap0] w fun e w' => e = .returned (.bool true) ∧ Below w.heap.size w w' := by
  have W0 := Lib.hid w0
  have NM := Lib.hid nmax
  clear w0 nmax
  by_cases hbig : (65536 : Int) < (n0 : Int)
  · go_enter Tryd.func9, Tryd.ntmps9
    go_wp2_with (go_at_call 27; refine (c_vBig _ _ _ _).mono ?_; rintro e _ ⟨rfl, rfl⟩)
    go_ret
    exact ⟨rfl, Below.refl _ _⟩
  go_enter Tryd.func9, Tryd.ntmps9
  go_wp2_with fail
  refine (c_vBig _ _ _ _).mono ?_
  rintro e _ ⟨rfl, rfl⟩
  go_wp2_with fail
  refine (c_DrawSplitString a0 n0 cap0 _ W0.out (by omega)).mono ?_
  rintro e w1 ⟨s, sep, rfl, ⟨hs, hsep⟩, b1⟩
  have B1 := Lib.hid b1
  clear b1
  go_wp2_with fail
  refine (c_implSplitString s sep _ (NM.out.keep B1.out (Nat.le_refl _)) (by omega) (by omega)).mono ?_
  rintro e w2 ⟨A1, c1, rfl, o1, b2⟩
  have O1 := Lib.hid o1
  have B2 := Lib.hid (B1.out.trans (b2.mono B1.out.size))
  clear b2 B1 o1
  go_wp2_with fail
  refine (c_DrawJoinStrings a0 n0 cap0 _ ((W0.out.keep B2.out).more B2.out.size) (by omega)).mono ?_
  rintro e w3 ⟨A2, c2, xs, mark, rfl, hxl, hxs, hmark, o2, b3⟩
  have O1a := Lib.hid (O1.out.keep b3)
  have O2 := Lib.hid o2
  have B3 := Lib.hid (B2.out.trans (b3.mono B2.out.size))
  have HXS := Lib.hid hxs
  clear b3 B2 o2 O1 hxs
  go_wp2_with fail
  refine (c_implJoinStrings A2 c2 xs mark _ (NM.out.keep B3.out (Nat.le_refl _)) B3.out.size O2.out (by omega) (fun x hx => by have := HXS.out x hx; omega) (fun b => by have := jn_bound b 100 xs HXS.out (by omega); omega) (by omega)).mono ?_
  rintro e w4 ⟨rfl, b4⟩
  have O1b := Lib.hid (O1a.out.keep b4)
  have O2b := Lib.hid (O2.out.keep b4)
  have B4 := Lib.hid (B3.out.trans (b4.mono B3.out.size))
  clear b4 B3 O1a O2
  go_wp2_with fail
  refine (c_specJoinStrings A2 c2 xs mark _ O2b.out.strs (Nat.le_refl _) (by omega) (fun x hx => by have := HXS.out x hx; omega) (by omega)).mono ?_
  rintro e w5 ⟨rfl, b5⟩
  have O1c := Lib.hid (O1b.out.keep b5)
  have B5 := Lib.hid (B4.out.trans (b5.mono B4.out.size))
  clear b5 B4 O1b O2b HXS
  generalize joinT xs mark = J at *
  generalize joinOk xs mark = jok at *
  go_wp2_with fail
  refine (c_DrawLessString a0 n0 cap0 _ ((W0.out.keep B5.out).more B5.out.size) (by omega)).mono ?_
  rintro e w6 ⟨a, b, rfl, ⟨ha, hb⟩, b6⟩
  have O1d := Lib.hid (O1c.out.keep b6)
  have B6 := Lib.hid (B5.out.trans (b6.mono B5.out.size))
  clear b6 B5 O1c
  have HLS := Lib.hid (less_not a.toList b.toList)
  have C1 := fun W => Lib.hid (c_implLess a b W)
  have C2 := fun W => Lib.hid (c_implLess b a W)
  have C3 := fun W => Lib.hid (c_specLess a b W)
  generalize Op.bytesLess a.toList b.toList = p at *
  generalize Op.bytesLess b.toList a.toList = q at *
  cases p
  · clear HLS
    by_cases g1 : sep.size = 1
    rotate_left
    · obtain ⟨e1, e2⟩ := split_n (s := s) g1
      have g2 : ((sep.size : Int) == 1) = false := by simp; omega
      have g3 : ((sep.size : Int) != 1) = true := by simp; omega
      rw [e1, e2] at *
      go_wp2_with (first | (go_at_call 37; (first | refine (C1 _).out.mono ?_ | refine (C2 _).out.mono ?_); rintro e _ ⟨rfl, rfl⟩) | (go_at_call 38; refine (C3 _).out.mono ?_; rintro e _ ⟨rfl, rfl⟩))
      go_ret
      exact ⟨rfl, B6.out⟩
    · obtain ⟨c, rfl⟩ := one_byte sep g1
      obtain ⟨e1, e2, e3, e4, e5⟩ := split_y s c (by omega)
      have CJ := Lib.hid (c_implJoinStrings A1 c1 (splR s (str [c])) (str [c]) w6 (NM.out.keep B6.out (Nat.le_refl _)) B6.out.size O1d.out (by have := splR_len s (str [c]); omega) (fun x hx => by have := e4 x hx; omega) (fun b => by have := e5 b; omega) (by omega))
      rw [e2, e3, str_list] at CJ
      rw [e1]
      clear e1 e2 e3 e4 e5 O1d
      generalize splR s (str [c]) = L at *
      go_wp2_with (first | (go_at_call 37; (first | refine (C1 _).out.mono ?_ | refine (C2 _).out.mono ?_); rintro e _ ⟨rfl, rfl⟩) | (go_at_call 38; refine (C3 _).out.mono ?_; rintro e _ ⟨rfl, rfl⟩))
      refine CJ.out.mono ?_
      rintro e w7 ⟨rfl, b7⟩
      have B7 := Lib.hid (B6.out.trans (b7.mono B6.out.size))
      clear b7
      go_wp2
      go_ret
      exact ⟨rfl, B7.out⟩
  · obtain rfl := HLS.out rfl
    clear HLS
    by_cases g1 : sep.size = 1
    rotate_left
    · obtain ⟨e1, e2⟩ := split_n (s := s) g1
      have g2 : ((sep.size : Int) == 1) = false := by simp; omega
      have g3 : ((sep.size : Int) != 1) = true := by simp; omega
      rw [e1, e2] at *
      go_wp2_with (first | (go_at_call 37; (first | refine (C1 _).out.mono ?_ | refine (C2 _).out.mono ?_); rintro e _ ⟨rfl, rfl⟩) | (go_at_call 38; refine (C3 _).out.mono ?_; rintro e _ ⟨rfl, rfl⟩))
      go_ret
      exact ⟨rfl, B6.out⟩
    · obtain ⟨c, rfl⟩ := one_byte sep g1
      obtain ⟨e1, e2, e3, e4, e5⟩ := split_y s c (by omega)
      have CJ := Lib.hid (c_implJoinStrings A1 c1 (splR s (str [c])) (str [c]) w6 (NM.out.keep B6.out (Nat.le_refl _)) B6.out.size O1d.out (by have := splR_len s (str [c]); omega) (fun x hx => by have := e4 x hx; omega) (fun b => by have := e5 b; omega) (by omega))
      rw [e2, e3, str_list] at CJ
      rw [e1]
      clear e1 e2 e3 e4 e5 O1d
      generalize splR s (str [c]) = L at *
      go_wp2_with (first | (go_at_call 37; (first | refine (C1 _).out.mono ?_ | refine (C2 _).out.mono ?_); rintro e _ ⟨rfl, rfl⟩) | (go_at_call 38; refine (C3 _).out.mono ?_; rintro e _ ⟨rfl, rfl⟩))
      refine CJ.out.mono ?_
      rintro e w7 ⟨rfl, b7⟩
      have B7 := Lib.hid (B6.out.trans (b7.mono B6.out.size))
      clear b7
      go_wp2
      go_ret
      exact ⟨rfl, B7.out⟩

theorem own : ownKnob Tryd.prog.godebug = none := by kernel_rfl
theorem laidOut : laidOutB Tryd.prog = true := by kernel_rfl

set_option maxRecDepth 100000 in
theorem lifted (os : Os) (started : os.Started) (H : Type) (enc : TypeId × Value → H) :
    ReturnsInHanded {} Tryd.checked os 9 .any (fun w args => (Rows.fnSplitJoinSpec.pre enc Tryd.prog Tryd.f9 [] false w args ∧ laidMetH Tryd.prog Rows.fnSplitJoinRow.laid w) ∧ sizedMet enc Tryd.prog Tryd.f9 (OpenSpec.ofChange Rows.fnSplitJoinSpec) false w args)
      (Rows.fnSplitJoinSpec.post enc Tryd.prog Tryd.f9 false true false false) := by
  refine returns_all (C := Tryd.checked) (X := (fun w _ => laidMetH Tryd.prog Rows.fnSplitJoinRow.laid w)) (fun _ _ _ hh h => h.of_heap hh) own started (by kernel_rfl) Tryd.func9
    (ChangeSpec.witness_shaped (enc := enc) (C := Tryd.checked) (os := os) (X := (fun w _ => laidMetH Tryd.prog Rows.fnSplitJoinRow.laid w)) false (World.laidAll Tryd.prog os Rows.fnSplitJoinRow.laid) #[.slice none 0 0] 8 (World.laidAll_os _ _ _)
      (World.shaped_of_ZipB (by kernel_rfl) (by kernel_rfl)) (by kernel_rfl) (by kernel_rfl) (by kernel_rfl)
      (by rw [MakeChecks.laidMetH_plain _ _ _ (by kernel_rfl)]; exact laidMet_laidAll _ (by kernel_rfl) (by kernel_rfl))) ?_
  intro W base args ds gs before hval0 hW _ _ hL hsh
  rw [MakeChecks.laidMetH_plain _ _ _ (by kernel_rfl)] at hL
  have nmax : MaxW W W.heap.size := MaxW.of_shape hsh (Nat.le_refl _)
  have hval : ∀ (j : Nat) t v, Tryd.f9.params[j]? = some t → args[j]? = some v → Value.okWide Tryd.prog W .any base t v := hval0
  have hW' := hW
  obtain ⟨p, q, hA0, hV, rfl, hfz, hnd⟩ := hW
  have hA : DataW.TrodAll enc Tryd.prog W 0 (fun _ => true) true Tryd.f9.params.toList args.toList ds p := hA0
  rw [Tryd.params9] at hA hval
  obtain ⟨v0, vs0, d0, ds0, p0, q0, hargs, rfl, rfl, h0, r0⟩ := trodAll_cons hA
  obtain ⟨rfl, rfl, rfl⟩ := trodAll_nil r0
  obtain rfl : args = #[v0] := by cases args; simp_all
  obtain ⟨rfl, rfl⟩ := trodVars_none hV
  have k0 := h0
  have lt0 : ∀ x ∈ p0, x.block < W.heap.size := by obtain ⟨m, hm⟩ := k0; exact DataW.trod_lt m _ _ _ hm
  obtain ⟨a0, cap0, n0, rfl, w0⟩ := open_bytes' (hval 0 35 v0 rfl rfl) h0
  clear hA0 hval0
  refine (walk a0 cap0 n0 W w0 nmax).mono fun e W' ⟨he, bel⟩ => ?_
  subst he
  exact ⟨_, rfl, _, _, _, [], _, [], hW', trodAll_mk1 (shut_bool Tryd.underlying4 _), (trodAll_cons_mk (Below.trod laidOut (by kernel_rfl) (of_decide_eq_true (by kernel_rfl)) k0 bel lt0) trodAll_mk0), rfl, bel.frame _, fun h => by cases h⟩

theorem over : Rows.fnSplitJoinRow.holds Tryd.pinned (OpenSpec.ofChange Rows.fnSplitJoinSpec) :=
  OpenClaim.holds_of_wide 9 Tryd.f9 rfl rfl rfl rfl rfl rfl rfl ⟨rfl, rfl, rfl, rfl, rfl⟩ rfl rfl rfl rfl rfl (by kernel_rfl) Tryd.func9 (by kernel_rfl)
    (of_decide_eq_true (by kernel_rfl)) (by unfold Func.isWrapper; first | (rw [if_pos (by decide +kernel)]; kernel_rfl) | (rw [if_neg (by decide +kernel)]; exact ⟨rfl, rfl⟩))
    (fun os started H enc _ => lifted os started H enc)

/-- THE STATEMENT: the tied card. -/
theorem proved : Rows.FnSplitJoinCardSaid :=
  Claim7.holds_tied_plain_at .later [] Rows.fnSplitJoinCard.laidKinds true Rows.fnSplitJoinCard.stood.harness Rows.fnSplitJoinCard.stood.looks over (fun _ h => by cases h) (by kernel_rfl) (fun _ h => by cases h) fnSplitJoin_row_tie rfl ⟨rfl, rfl⟩ (by kernel_rfl) rfl
    (fun f fn hf hfn => by
      obtain rfl : f = 9 := Option.some.inj ((show Tryd.prog.funcNamed Rows.fnSplitJoinRow.func = some 9 by kernel_rfl).symm.trans hf) |>.symm
      obtain rfl : fn = Tryd.f9 := (Option.some.inj (Tryd.func9.symm.trans hfn)).symm
      exact ⟨by kernel_rfl, fun j t ht => by
        rw [Tryd.params9] at ht
        have hm : t ∈ ([35] : List Nat) := by simpa using Array.mem_of_getElem? ht
        have hall : (([35] : List Nat).all fun u => !Tryd.prog.wantsStandIn u) = true := by kernel_rfl
        exact (show Tryd.prog.wantsStandIn t = false by simpa using List.all_eq_true.1 hall t hm)⟩)
    (by kernel_rfl)
end Go.Proofs.YtnbgjkblhbpjlaaDoor.fnSplitJoin
