/-
  The law FnPacketLines returns true at every input and leaves its argument as it was: packets are recovered from their lines, lines from their packets, and a repair has the number and the data of its packet.
  Conditions: none.
-/
import Derived.Test.YtpmfaiocmgkmpaaGreatDoorRows
import Derived.WalkKit
import Derived.ProofKit
import Derived.OpenShut
import Derived.ShutString
import Derived.ChangeOld
import Derived.Below
import Derived.Handy
import Derived.Test.YtpmfaiocmgkmpaaGreatDoorWrap
import Derived.Test.YtpmfaiocmgkmpaaGreatDoorCards
import Derived.Test.YtpmfaiocmgkmpaaGreatDoorTie
import Derived.SevenTiedAt
import Derived.Test.YtpmfaiocmgkmpaaGreatDoorOpenB
import Derived.Test.YtpmfaiocmgkmpaaGreatDoorDrawL
import Derived.Test.YtpmfaiocmgkmpaaGreatDoorDrawRep
import Derived.Test.YtpmfaiocmgkmpaaGreatDoorLineT
import Derived.Test.YtpmfaiocmgkmpaaGreatDoorOct
import Derived.Deep.DeepCutAuto
namespace Go.Proofs.YtpmfaiocmgkmpaaGreatDoor.fnPacketLines
open Go.ChangeShapes Go.WideShapes Go.ChangeAt Go.RowKit
open Go.ChangeMaps (open_string shut_string)
set_option linter.unusedVariables false

theorem lineR_len (k n t l : Int) (d : List UInt8) : (lineR k n t l d).length ≤ 60 := by
  by_cases h : goodP k n t l d = true
  · obtain ⟨⟨m, rfl, _, _⟩, _⟩ := good_rng h
    rw [lineR_good h]
    exact (line_facts h rfl).1
  · unfold lineR
    rw [if_neg h]
    simp
theorem line_back {k n t l : Int} {d : List UInt8} (hg : goodP k n t l d = true) : plOk (lineR k n t l d) = true ∧ plC (lineR k n t l d) = pkC k n t l d :=
  ⟨(pl_some (plOf_line hg rfl)).2, (pl_some (plOf_line hg rfl)).1⟩
theorem line_pk (x : List UInt8) : ∃ k n t l d, plC x = pkC k n t l d ∧ d.length ≤ x.length + 18 ∧ (plOk x = true → goodP k n t l d = true ∧ lineR k n t l d = x) := by
  cases h : plOf x with
  | none => exact ⟨0, 0, 0, 0, [], (pl_none h).1, by simp, fun e => by rw [(pl_none h).2] at e; cases e⟩
  | some p =>
    obtain ⟨k, n, t, l, d⟩ := p
    have hg := plOf_good h
    exact ⟨k, n, t, l, d, (pl_some h).1, by have := (good_rng hg.1).2.2.2.2; omega, fun _ => hg⟩
theorem rep_pk2 (k n t l : Int) (d : List UInt8) (tr le : Int) (hd : d.length ≤ 20) : ∃ k' n' t' l' d', repC k n t l d tr le = pkC k' n' t' l' d' ∧ (repOk k n t l d tr le = true → k' = 2 ∧ n' = n ∧ d' = d) := by
  unfold repC
  cases h : repOk k n t l d tr le
  · exact ⟨0, 0, 0, 0, [], rfl, fun e => by cases e⟩
  · exact ⟨2, n, tr, le, d, rfl, fun _ => ⟨rfl, rfl, rfl⟩⟩
set_option maxRecDepth 100000 in
set_option maxHeartbeats 64000000 in
theorem walk (a0 : Option Addr) (cap0 n0 : Nat) (w : World) (w0 : BytesAt w w.heap.size a0 n0) (nkind : KindW w w.heap.size) (npow : PowW w w.heap.size) (nerr : ErrW w w.heap.size) (nmax : MaxW w w.heap.size) :
    Calls Tryz.prog 3 #[.slice a0 n0 cap0] w fun e w' => e = .returned (.bool true) ∧ Below w.heap.size w w' := by
  have W0 := Lib.hid w0
  clear w0
  have Hkind := Lib.hid nkind
  have Hpow := Lib.hid npow
  have Herr := Lib.hid nerr
  have Hmax := Lib.hid nmax
  clear nkind npow nerr nmax
  by_cases hbig : (65536 : Int) < (n0 : Int)
  · go_enter Tryz.func3, Tryz.ntmps3
    go_wp2_with (go_at_call 4; refine (c_vBig _ _ _ _).mono ?_; rintro e _ ⟨rfl, rfl⟩)
    go_ret
    exact ⟨rfl, Below.refl _ _⟩
  have CL := Lib.hid (fun (k n t l : Int) (d : List UInt8) (hd : d.length ≤ 1000000000) (W : World) (b : Hid (Below w.heap.size w W)) => c_implPacketLine k n t l d W (Hkind.out.keep b.out (Nat.le_refl _)) (Hpow.out.keep b.out (Nat.le_refl _)) b.out.size hd)
  have CP := Lib.hid (fun (x : List UInt8) (hx : x.length ≤ 10000000) (W : World) (b : Hid (Below w.heap.size w W)) => c_implParsePacketLine x W (Hkind.out.keep b.out (Nat.le_refl _)) (Hpow.out.keep b.out (Nat.le_refl _)) (Herr.out.keep b.out (Nat.le_refl _)) (Hmax.out.keep b.out (Nat.le_refl _)) b.out.size hx)
  clear Hkind Hpow Herr Hmax
  go_enter Tryz.func3, Tryz.ntmps3
  go_wp2_with fail
  refine (c_vBig _ _ _ _).mono ?_
  rintro e _ ⟨rfl, rfl⟩
  go_wp2_with fail
  refine (c_DrawPacketLine a0 n0 cap0 _ W0.out (by omega)).mono ?_
  rintro e w1 ⟨k, n, t, l, d, rfl, hd, b1⟩
  have hd : d.length ≤ 20 := hd
  have bA := (Below.refl w1.heap.size w1).alloc (Nat.le_refl _) (.cells #[.int .i64 k, .int .i64 n, .int .i64 t, .int .i64 l, .string (str d)] 25)
  have BV := Lib.hid (b1.trans (bA.mono b1.size))
  have KP := Lib.hid (pkAt_new k n t l d w1 25)
  clear b1 bA
  unfold pkC
  go_upto_region 4 with fail
  generalize w1.alloc (.cells #[.int .i64 k, .int .i64 n, .int .i64 t, .int .i64 l, .string (str d)] 25) = v1 at *
  obtain ⟨pb, p0, p1, p2, p3, p4⟩ := KP.out
  have CE := Lib.hid (CL.out k n t l d (by omega) v1 BV)
  unfold pkC at CE
  go_wp2_with fail
  refine CE.out.mono ?_
  rintro e w2 ⟨rfl, b2⟩
  have KP2 := Lib.hid (KP.out.keep b2)
  have BW2 := Lib.hid (BV.out.trans (b2.mono BV.out.size))
  clear b2 CE BV KP p0 p1 p2 p3 p4 pb
  have hel := lineR_len k n t l d
  have hx : ∃ k' n' t' l' d', plC (lineR k n t l d) = pkC k' n' t' l' d' ∧ (goodP k n t l d = true → k' = k ∧ n' = n ∧ t' = t ∧ l' = l ∧ d' = d) := by
    cases g : goodP k n t l d
    · obtain ⟨k', n', t', l', d', h, _⟩ := line_pk (lineR k n t l d)
      exact ⟨k', n', t', l', d', h, fun h => by cases h⟩
    · exact ⟨k, n, t, l, d, (line_back g).2, fun _ => ⟨rfl, rfl, rfl, rfl, rfl⟩⟩
  obtain ⟨k', n', t', l', d', hdc, hsame⟩ := hx
  have HSAME := Lib.hid hsame
  have HOK := Lib.hid (fun h => (@line_back k n t l d h).1)
  have CD := Lib.hid (CP.out (lineR k n t l d) (by omega) w2 BW2)
  have CS := fun W => Lib.hid (c_specPacketLine k n t l d W (by omega))
  rw [hdc] at CD
  clear hsame hdc
  generalize lineR k n t l d = E at *
  generalize plOk E = okd at *
  unfold pkC at CD CS
  go_wp2_with fail
  refine CD.out.mono ?_
  rintro e w3 ⟨rfl, b3⟩
  have bA := (Below.refl w3.heap.size w3).alloc (Nat.le_refl _) (.cells #[.int .i64 k', .int .i64 n', .int .i64 t', .int .i64 l', .string (str d')] 25)
  have KP3 := Lib.hid ((KP2.out.keep b3).keep bA)
  have BW3 := Lib.hid ((BW2.out.trans (b3.mono BW2.out.size)).trans (bA.mono (Nat.le_trans BW2.out.size b3.size)))
  have KQ3 := Lib.hid (pkAt_new k' n' t' l' d' w3 25)
  clear b3 bA CD KP2 BW2
  go_upto_region 6 with fail
  generalize w3.alloc (.cells #[.int .i64 k', .int .i64 n', .int .i64 t', .int .i64 l', .string (str d')] 25) = v3 at *
  obtain ⟨pb, p0, p1, p2, p3, p4⟩ := KP3.out
  go_wp2_with fail
  refine (CS _).out.mono ?_
  rintro e w4 ⟨rfl, b4⟩
  have KP4 := Lib.hid (KP3.out.keep b4)
  have KQ4 := Lib.hid (KQ3.out.keep b4)
  have BW4 := Lib.hid (BW3.out.trans (b4.mono BW3.out.size))
  clear b4 KP3 KQ3 BW3 p0 p1 p2 p3 p4 pb CS
  obtain ⟨pb, p0, p1, p2, p3, p4⟩ := KP4.out
  obtain ⟨qb, q0, q1, q2, q3, q4⟩ := KQ4.out
  have t1 := str_tl E
  have te : (E == E) = true := beq_self_eq_true _
  generalize goodP k n t l d = gd at *
  go_upto_region 7 with fail
  go_cut [67] from 48 to 66 (fun sx wx => sx = .bool false ∧ wx = w4)
  case first => as_aux_lemma =>
    cases gd
    · go_wp2_with fail
      go_meet
      exact ⟨rfl, rfl⟩
    · have hk := HOK.out rfl
      obtain ⟨e1, e2, e3, e4, e5⟩ := HSAME.out rfl
      subst e1 e2 e3 e4 e5
      subst hk
      have td := str_tl d'
      have tdd : (d' == d') = true := beq_self_eq_true _
      go_wp2_with fail
      go_meet
      exact ⟨rfl, rfl⟩
  case rest => as_aux_lemma =>
    obtain ⟨rfl, rfl⟩ := hcut
    have WR := Lib.hid (W0.out.keep BW4.out)
    clear p0 p1 p2 p3 p4 pb q0 q1 q2 q3 q4 qb KP4 KQ4 te t1 HOK HSAME hel
    go_wp2_with fail
    refine (c_DrawParsePacketLine a0 n0 cap0 _ (WR.out.more BW4.out.size) (by omega)).mono ?_
    rintro e w6 ⟨s, rfl, hs, b6⟩
    have hs : s.size ≤ 100 := hs
    obtain ⟨x, rfl⟩ : ∃ x, s = str x := ⟨s.data.toList, (str_list s).symm⟩
    have hxl : x.length ≤ 100 := by rw [str_size] at hs; exact hs
    have BR6 := Lib.hid (BW4.out.trans (b6.mono BW4.out.size))
    clear b6 BW4 hs
    obtain ⟨k2, n2, t2, l2, d2, hdc2, hd2, hyes⟩ := line_pk x
    have HYES := Lib.hid hyes
    have CD2 := Lib.hid (CP.out x (by omega) w6 BR6)
    have CS2 := fun W => Lib.hid (c_specParsePacketLine x W (by omega))
    have CE2 := Lib.hid (CL.out k2 n2 t2 l2 d2 (by omega))
    simp only [hdc2] at CD2 CS2
    clear hdc2 hyes
    generalize plOk x = ok2 at *
    generalize goodP k2 n2 t2 l2 d2 = g2 at *
    generalize lineR k2 n2 t2 l2 d2 = E2 at *
    unfold pkC at CD2 CS2 CE2
    go_wp2_with fail
    refine CD2.out.mono ?_
    rintro e w7 ⟨rfl, b7⟩
    have bA := (Below.refl w7.heap.size w7).alloc (Nat.le_refl _) (.cells #[.int .i64 k2, .int .i64 n2, .int .i64 t2, .int .i64 l2, .string (str d2)] 25)
    have BR7 := Lib.hid ((BR6.out.trans (b7.mono BR6.out.size)).trans (bA.mono (Nat.le_trans BR6.out.size b7.size)))
    have KT7 := Lib.hid (pkAt_new k2 n2 t2 l2 d2 w7 25)
    clear b7 bA CD2 BR6
    go_upto_region 11 with fail
    generalize w7.alloc (.cells #[.int .i64 k2, .int .i64 n2, .int .i64 t2, .int .i64 l2, .string (str d2)] 25) = v7 at *
    obtain ⟨pb, p0, p1, p2, p3, p4⟩ := KT7.out
    go_wp2_with fail
    refine (CE2.out _ BR7).mono ?_
    rintro e w8 ⟨rfl, b8⟩
    have KT8 := Lib.hid (KT7.out.keep b8)
    have BR8 := Lib.hid (BR7.out.trans (b8.mono BR7.out.size))
    clear b8 KT7 BR7 CE2 p0 p1 p2 p3 p4 pb
    go_wp2_with fail
    refine (CS2 _).out.mono ?_
    rintro e w9 ⟨rfl, b9⟩
    have bA := (Below.refl w9.heap.size w9).alloc (Nat.le_refl _) (.cells #[.int .i64 k2, .int .i64 n2, .int .i64 t2, .int .i64 l2, .string (str d2)] 25)
    have KT9 := Lib.hid ((KT8.out.keep b9).keep bA)
    have BR9 := Lib.hid ((BR8.out.trans (b9.mono BR8.out.size)).trans (bA.mono (Nat.le_trans BR8.out.size b9.size)))
    have KU9 := Lib.hid (pkAt_new k2 n2 t2 l2 d2 w9 25)
    clear b9 bA CS2 KT8 BR8
    go_upto_region 13 with fail
    generalize w9.alloc (.cells #[.int .i64 k2, .int .i64 n2, .int .i64 t2, .int .i64 l2, .string (str d2)] 25) = v9 at *
    obtain ⟨pb, p0, p1, p2, p3, p4⟩ := KT9.out
    obtain ⟨qb, q0, q1, q2, q3, q4⟩ := KU9.out
    have td := str_tl d2
    have tdd : (d2 == d2) = true := beq_self_eq_true _
    have tx := str_tl x
    have txx : (x == x) = true := beq_self_eq_true _
    go_cut [104] from 85 to 103 (fun sx wx => sx = .bool false ∧ wx = v9)
    case first => as_aux_lemma =>
      cases ok2
      · go_wp2_with fail
        go_meet
        exact ⟨rfl, rfl⟩
      · obtain ⟨e1, e2⟩ := HYES.out rfl
        subst e1 e2
        go_wp2_with fail
        go_meet
        exact ⟨rfl, rfl⟩
    case rest => as_aux_lemma =>
      obtain ⟨rfl, rfl⟩ := hcut
      have WR9 := Lib.hid (W0.out.keep BR9.out)
      clear p0 p1 p2 p3 p4 pb q0 q1 q2 q3 q4 qb td tdd tx txx KT9 KU9 HYES
      go_wp2_with fail
      refine (c_DrawRepairOf a0 n0 cap0 _ (WR9.out.more BR9.out.size) (by omega)).mono ?_
      rintro e wa ⟨k3, n3, t3, l3, d3, tr, le, rfl, hd3, ba⟩
      have bA := (Below.refl wa.heap.size wa).alloc (Nat.le_refl _) (.cells #[.int .i64 k3, .int .i64 n3, .int .i64 t3, .int .i64 l3, .string (str d3)] 25)
      have BRa := Lib.hid ((BR9.out.trans (ba.mono BR9.out.size)).trans (bA.mono (Nat.le_trans BR9.out.size ba.size)))
      have KXa := Lib.hid (pkAt_new k3 n3 t3 l3 d3 wa 25)
      clear ba bA BR9 WR9
      obtain ⟨k4, n4, t4, l4, d4, hrep, hyes⟩ := rep_pk2 k3 n3 t3 l3 d3 tr le hd3
      have HYES := Lib.hid hyes
      have CI3 := fun W => Lib.hid (c_implRepairOf k3 n3 t3 l3 d3 tr le W (by omega))
      have CS3 := fun W => Lib.hid (c_specRepairOf k3 n3 t3 l3 d3 tr le W (by omega))
      simp only [hrep] at CI3 CS3
      clear hrep hyes
      generalize repOk k3 n3 t3 l3 d3 tr le = ok3 at *
      unfold pkC at CI3 CS3 ⊢
      go_upto_region 16 with fail
      generalize wa.alloc (.cells #[.int .i64 k3, .int .i64 n3, .int .i64 t3, .int .i64 l3, .string (str d3)] 25) = va at *
      obtain ⟨pb, p0, p1, p2, p3, p4⟩ := KXa.out
      go_wp2_with fail
      refine (CI3 _).out.mono ?_
      rintro e wb ⟨rfl, bb⟩
      have bA := (Below.refl wb.heap.size wb).alloc (Nat.le_refl _) (.cells #[.int .i64 k4, .int .i64 n4, .int .i64 t4, .int .i64 l4, .string (str d4)] 25)
      have BRb := Lib.hid ((BRa.out.trans (bb.mono BRa.out.size)).trans (bA.mono (Nat.le_trans BRa.out.size bb.size)))
      have KXb := Lib.hid ((KXa.out.keep bb).keep bA)
      have KRb := Lib.hid (pkAt_new k4 n4 t4 l4 d4 wb 25)
      clear bb bA BRa KXa CI3 p0 p1 p2 p3 p4 pb
      go_upto_region 17 with fail
      generalize wb.alloc (.cells #[.int .i64 k4, .int .i64 n4, .int .i64 t4, .int .i64 l4, .string (str d4)] 25) = vb at *
      obtain ⟨pb, p0, p1, p2, p3, p4⟩ := KXb.out
      go_wp2_with fail
      refine (CS3 _).out.mono ?_
      rintro e wc ⟨rfl, bc⟩
      have bA := (Below.refl wc.heap.size wc).alloc (Nat.le_refl _) (.cells #[.int .i64 k4, .int .i64 n4, .int .i64 t4, .int .i64 l4, .string (str d4)] 25)
      have BRc := Lib.hid ((BRb.out.trans (bc.mono BRb.out.size)).trans (bA.mono (Nat.le_trans BRb.out.size bc.size)))
      have KXc := Lib.hid ((KXb.out.keep bc).keep bA)
      have KRc := Lib.hid ((KRb.out.keep bc).keep bA)
      have KSc := Lib.hid (pkAt_new k4 n4 t4 l4 d4 wc 25)
      clear bc bA BRb KXb KRb CS3 p0 p1 p2 p3 p4 pb
      go_upto_region 18 with fail
      generalize wc.alloc (.cells #[.int .i64 k4, .int .i64 n4, .int .i64 t4, .int .i64 l4, .string (str d4)] 25) = vc at *
      obtain ⟨pb, p0, p1, p2, p3, p4⟩ := KXc.out
      obtain ⟨qb, q0, q1, q2, q3, q4⟩ := KRc.out
      obtain ⟨rb, r0, r1, r2, r3, r4⟩ := KSc.out
      have td := str_tl d4
      have tdd : (d4 == d4) = true := beq_self_eq_true _
      go_cut [154] from 125 to 153 (fun sx wx => sx = .bool false ∧ wx = vc)
      case first => as_aux_lemma =>
        cases ok3
        · go_wp2_with fail
          go_meet
          exact ⟨rfl, rfl⟩
        · obtain ⟨e1, e2, e3⟩ := HYES.out rfl
          subst e1 e2 e3
          go_wp2_with fail
          go_meet
          exact ⟨rfl, rfl⟩
      case rest => as_aux_lemma =>
        obtain ⟨rfl, rfl⟩ := hcut
        have WRc := Lib.hid (W0.out.keep BRc.out)
        clear p0 p1 p2 p3 p4 pb q0 q1 q2 q3 q4 qb r0 r1 r2 r3 r4 rb td tdd KXc KRc KSc HYES
        go_wp2_with fail
        refine (c_DrawCheckOf a0 n0 cap0 _ (WRc.out.more BRc.out.size) (by omega)).mono ?_
        rintro e wd ⟨A1, c1, zs, rfl, hzl, -, o1, bd⟩
        have I1 := Lib.hid o1.ints
        have BRd := Lib.hid (BRc.out.trans (bd.mono BRc.out.size))
        clear o1 bd BRc WRc
        have CI4 := Lib.hid (c_implCheckOf A1 c1 zs wd I1.out (by omega))
        have CS4 := Lib.hid (c_specCheckOf A1 c1 zs wd I1.out (by omega))
        generalize checkR zs = cr at *
        generalize goodB 40 255 zs = cg at *
        go_wp2_with fail
        refine CI4.out.mono ?_
        rintro e _ ⟨rfl, rfl⟩
        go_wp2_with fail
        refine CS4.out.mono ?_
        rintro e _ ⟨rfl, rfl⟩
        cases cg
        · go_wp2
          go_ret
          exact ⟨rfl, BRd.out⟩
        · go_wp2
          go_ret
          exact ⟨rfl, BRd.out⟩

theorem own : ownKnob Tryz.prog.godebug = none := by kernel_rfl
theorem laidOut : laidOutB Tryz.prog = true := by kernel_rfl

set_option maxRecDepth 100000 in
theorem lifted (os : Os) (started : os.Started) (H : Type) (enc : TypeId × Value → H) :
    ReturnsInHanded {} Tryz.checked os 3 .any (fun w args => (Rows.fnPacketLinesSpec.pre enc Tryz.prog Tryz.f3 [] false w args ∧ laidMetH Tryz.prog Rows.fnPacketLinesRow.laid w) ∧ sizedMet enc Tryz.prog Tryz.f3 (OpenSpec.ofChange Rows.fnPacketLinesSpec) false w args)
      (Rows.fnPacketLinesSpec.post enc Tryz.prog Tryz.f3 false true false false) := by
  refine returns_all (C := Tryz.checked) (X := (fun w _ => laidMetH Tryz.prog Rows.fnPacketLinesRow.laid w)) (fun _ _ _ hh h => h.of_heap hh) own started (by kernel_rfl) Tryz.func3
    (ChangeSpec.witness_shaped (enc := enc) (C := Tryz.checked) (os := os) (X := (fun w _ => laidMetH Tryz.prog Rows.fnPacketLinesRow.laid w)) false (World.laidAll Tryz.prog os Rows.fnPacketLinesRow.laid) #[.slice none 0 0] 8 (World.laidAll_os _ _ _)
      (World.shaped_of_ZipB (by kernel_rfl) (by kernel_rfl)) (by kernel_rfl) (by kernel_rfl) (by kernel_rfl)
      (by rw [MakeChecks.laidMetH_plain _ _ _ (by kernel_rfl)]; exact laidMet_laidAll _ (by kernel_rfl) (by kernel_rfl))) ?_
  intro W base args ds gs before hval0 hW _ _ hL hsh
  rw [MakeChecks.laidMetH_plain _ _ _ (by kernel_rfl)] at hL
  have nkind : KindW W W.heap.size := kind_of_reads (Lib.laidMet.reads hL (n := "loop.example/g00840/impl.kindWords") (d := Rows.laid_loop_example_g00840_impl_kindWords) (by simp only [Rows.fnPacketLinesRow]; first | exact .head _ | exact .tail _ (.head _) | exact .tail _ (.tail _ (.head _)) | exact .tail _ (.tail _ (.tail _ (.head _))) | exact .tail _ (.tail _ (.tail _ (.tail _ (.head _)))) | exact .tail _ (.tail _ (.tail _ (.tail _ (.tail _ (.head _))))) | exact .tail _ (.tail _ (.tail _ (.tail _ (.tail _ (.tail _ (.head _))))))))
  have npow : PowW W W.heap.size := pow_of_reads (Lib.laidMet.reads hL (n := "internal/strconv.uint64pow10") (d := Rows.laid_internal_strconv_uint64pow10) (by simp only [Rows.fnPacketLinesRow]; first | exact .head _ | exact .tail _ (.head _) | exact .tail _ (.tail _ (.head _)) | exact .tail _ (.tail _ (.tail _ (.head _))) | exact .tail _ (.tail _ (.tail _ (.tail _ (.head _)))) | exact .tail _ (.tail _ (.tail _ (.tail _ (.tail _ (.head _))))) | exact .tail _ (.tail _ (.tail _ (.tail _ (.tail _ (.tail _ (.head _))))))))
  have nerr : ErrW W W.heap.size := err_of_reads (Lib.laidMet.reads hL (n := "strconv.ErrSyntax") (d := Rows.laid_strconv_ErrSyntax) (by simp only [Rows.fnPacketLinesRow]; first | exact .head _ | exact .tail _ (.head _) | exact .tail _ (.tail _ (.head _)) | exact .tail _ (.tail _ (.tail _ (.head _))) | exact .tail _ (.tail _ (.tail _ (.tail _ (.head _)))) | exact .tail _ (.tail _ (.tail _ (.tail _ (.tail _ (.head _))))) | exact .tail _ (.tail _ (.tail _ (.tail _ (.tail _ (.tail _ (.head _)))))))) (Lib.laidMet.reads hL (n := "strconv.ErrRange") (d := Rows.laid_strconv_ErrRange) (by simp only [Rows.fnPacketLinesRow]; first | exact .head _ | exact .tail _ (.head _) | exact .tail _ (.tail _ (.head _)) | exact .tail _ (.tail _ (.tail _ (.head _))) | exact .tail _ (.tail _ (.tail _ (.tail _ (.head _)))) | exact .tail _ (.tail _ (.tail _ (.tail _ (.tail _ (.head _))))) | exact .tail _ (.tail _ (.tail _ (.tail _ (.tail _ (.tail _ (.head _))))))))
  have nmax : MaxW W W.heap.size := MaxW.of_shape hsh (Nat.le_refl _)
  have hval : ∀ (j : Nat) t v, Tryz.f3.params[j]? = some t → args[j]? = some v → Value.okWide Tryz.prog W .any base t v := hval0
  have hW' := hW
  obtain ⟨p, q, hA0, hV, rfl, hfz, hnd⟩ := hW
  have hA : DataW.TrodAll enc Tryz.prog W 0 (fun _ => true) true Tryz.f3.params.toList args.toList ds p := hA0
  rw [Tryz.params3] at hA hval
  obtain ⟨v0, vs0, d0, ds0, p0, q0, hargs, rfl, rfl, h0, r0⟩ := trodAll_cons hA
  obtain ⟨rfl, rfl, rfl⟩ := trodAll_nil r0
  obtain rfl : args = #[v0] := by cases args; simp_all
  have hV2 := hV
  obtain ⟨gv, tv, csv, fv, dv, pv, rfl, hv1, hv2, hv3, hv4, rfl⟩ := trodVars_one hV
  have k0 := h0
  have lt0 : ∀ x ∈ p0, x.block < W.heap.size := by obtain ⟨m, hm⟩ := k0; exact DataW.trod_lt m _ _ _ hm
  obtain ⟨a0, cap0, n0, rfl, w0⟩ := open_bytes' (hval 0 22 v0 rfl rfl) h0
  clear hA0 hval0
  refine (walk a0 cap0 n0 W w0 nkind npow nerr nmax).mono fun e W' ⟨he, bel⟩ => ?_
  subst he
  exact ⟨_, rfl, _, _, _, [], _, _, hW', trodAll_mk1 (shut_bool Tryz.underlying4 _), (trodAll_cons_mk (Below.trod laidOut (by kernel_rfl) (of_decide_eq_true (by kernel_rfl)) k0 bel lt0) trodAll_mk0), kind_vars hV2 bel, bel.frame _, fun h => by cases h⟩

theorem over : Rows.fnPacketLinesRow.holds Tryz.pinned (OpenSpec.ofChange Rows.fnPacketLinesSpec) :=
  OpenClaim.holds_of_wide 3 Tryz.f3 rfl rfl rfl rfl rfl rfl rfl ⟨rfl, rfl, rfl, rfl, rfl⟩ rfl rfl rfl rfl rfl (by kernel_rfl) Tryz.func3 (by kernel_rfl)
    (of_decide_eq_true (by kernel_rfl)) (by unfold Func.isWrapper; first | (rw [if_pos (by decide +kernel)]; kernel_rfl) | (rw [if_neg (by decide +kernel)]; exact ⟨rfl, rfl⟩))
    (fun os started H enc _ => lifted os started H enc)

/-- THE STATEMENT: the tied card. -/
theorem proved : Rows.FnPacketLinesCardSaid :=
  Claim7.holds_tied_plain_at .later [] Rows.fnPacketLinesCard.laidKinds true Rows.fnPacketLinesCard.stood.harness Rows.fnPacketLinesCard.stood.looks over (fun _ h => by cases h) (by kernel_rfl) (fun _ h => by cases h) fnPacketLines_row_tie rfl ⟨rfl, rfl⟩ (by kernel_rfl) rfl
    (fun f fn hf hfn => by
      obtain rfl : f = 3 := Option.some.inj ((show Tryz.prog.funcNamed Rows.fnPacketLinesRow.func = some 3 by kernel_rfl).symm.trans hf) |>.symm
      obtain rfl : fn = Tryz.f3 := (Option.some.inj (Tryz.func3.symm.trans hfn)).symm
      exact ⟨by kernel_rfl, fun j t ht => by
        rw [Tryz.params3] at ht
        have hm : t ∈ ([22] : List Nat) := by simpa using Array.mem_of_getElem? ht
        have hall : (([22] : List Nat).all fun u => !Tryz.prog.wantsStandIn u) = true := by kernel_rfl
        exact (show Tryz.prog.wantsStandIn t = false by simpa using List.all_eq_true.1 hall t hm)⟩)
    (by kernel_rfl)
end Go.Proofs.YtpmfaiocmgkmpaaGreatDoor.fnPacketLines
