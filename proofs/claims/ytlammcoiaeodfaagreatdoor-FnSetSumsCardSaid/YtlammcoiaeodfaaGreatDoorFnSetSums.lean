/-
  The law FnSetSums returns true at every input and leaves its argument as it was: the sizes of the union and of the common numbers add up to both sizes, and sets are recovered from their texts.
  Conditions: none.
-/
import Derived.Test.YtlammcoiaeodfaaGreatDoorRows
import Derived.WalkKit
import Derived.ProofKit
import Derived.OpenShut
import Derived.ShutString
import Derived.ChangeOld
import Derived.Below
import Derived.Handy
import Derived.Test.YtlammcoiaeodfaaGreatDoorWrap
import Derived.Test.YtlammcoiaeodfaaGreatDoorCards
import Derived.Test.YtlammcoiaeodfaaGreatDoorTie
import Derived.SevenTiedAt
import Derived.Test.YtlammcoiaeodfaaGreatDoorOpenB
import Derived.Test.YtlammcoiaeodfaaGreatDoorDrawN5
import Derived.Test.YtlammcoiaeodfaaGreatDoorDrawQ
import Derived.Test.YtlammcoiaeodfaaGreatDoorRr
import Derived.Test.YtlammcoiaeodfaaGreatDoorSumL
import Derived.Test.YtlammcoiaeodfaaGreatDoorImplU
import Derived.Test.YtlammcoiaeodfaaGreatDoorParseS
import Derived.Deep.DeepCutAuto
namespace Go.Proofs.YtlammcoiaeodfaaGreatDoor.fnSetSums
open Go.ChangeShapes Go.WideShapes Go.ChangeAt Go.RowKit
open Go.ChangeMaps (open_string shut_string)
set_option linter.unusedVariables false

set_option maxRecDepth 100000 in
set_option maxHeartbeats 64000000 in
theorem walk (a0 : Option Addr) (cap0 n0 : Nat) (w : World) (w0 : BytesAt w w.heap.size a0 n0) (npow : PowW w w.heap.size) (nerr : ErrW w w.heap.size) (nmax : MaxW w w.heap.size) :
    Calls Tryz.prog 3 #[.slice a0 n0 cap0] w fun e w' => e = .returned (.bool true) ∧ Below w.heap.size w w' := by
  have W0 := Lib.hid w0
  clear w0
  have Hpow := Lib.hid npow
  have Herr := Lib.hid nerr
  have Hmax := Lib.hid nmax
  clear npow nerr nmax
  by_cases hbig : (65536 : Int) < (n0 : Int)
  · go_enter Tryz.func3, Tryz.ntmps3
    go_wp2_with (go_at_call 4; refine (c_rBig _ _ _ _).mono ?_; rintro e _ ⟨rfl, rfl⟩)
    go_ret
    exact ⟨rfl, Below.refl _ _⟩
  have CT := Lib.hid (fun (A : Option Addr) (cap : Nat) (rs : List (Int × Int)) (hl : rs.length ≤ 100000000) (W : World) (h : Rngs W W.heap.size A rs) (b : Hid (Below w.heap.size w W)) => c_implSetText A cap rs W ((Hpow.out.keep b.out (Nat.le_refl _)).more b.out.size) h (Nat.le_refl _) hl)
  have CP := Lib.hid (fun (s : ByteArray) (hs : s.size ≤ 1100000) (W : World) (b : Hid (Below w.heap.size w W)) => c_implParseSet s W (Hpow.out.keep b.out (Nat.le_refl _)) (Herr.out.keep b.out (Nat.le_refl _)) (Hmax.out.keep b.out (Nat.le_refl _)) b.out.size hs)
  clear Hpow Herr Hmax
  go_enter Tryz.func3, Tryz.ntmps3
  go_wp2_with fail
  refine (c_rBig _ _ _ _).mono ?_
  rintro e _ ⟨rfl, rfl⟩
  go_wp2_with fail
  refine (c_DrawUnionOf a0 n0 cap0 _ W0.out (by omega)).mono ?_
  rintro e w1 ⟨A1, c1, ra, A2, c2, rb, rfl, hla, hlb, i1, i2, b1⟩
  have B1 := Lib.hid b1
  have S1 := Lib.hid (RsAt.cons i1 (RsAt.cons i2 (RsAt.nil _)))
  clear b1 i1 i2
  have CS1 := fun W h k => Lib.hid (c_specUnionOf (H := W.heap.size) A1 c1 ra A2 c2 rb W h k (Nat.le_refl _) (by omega) (by omega))
  have CS2 := fun W h k => Lib.hid (c_specCommonOf (H := W.heap.size) A1 c1 ra A2 c2 rb W h k (Nat.le_refl _) (by omega) (by omega))
  have CS3 := fun W h k => Lib.hid (c_specWithoutOf (H := W.heap.size) A1 c1 ra A2 c2 rb W h k (Nat.le_refl _) (by omega) (by omega))
  go_wp2_with fail
  refine (c_implUnionOf A1 c1 ra A2 c2 rb _ S1.out.at0 S1.out.at1 (Nat.le_refl _) (by omega) (by omega)).mono ?_
  rintro e w2 ⟨A3, c3, rfl, o3, b2⟩
  have B2 := Lib.hid (B1.out.trans (b2.mono B1.out.size))
  have S2 := Lib.hid (RsAt.cons o3.rngs (S1.out.keep b2))
  clear b2 o3 B1 S1
  go_wp2_with fail
  refine (c_implCommonOf A1 c1 ra A2 c2 rb _ S2.out.at1 S2.out.at2 (Nat.le_refl _) (by omega) (by omega)).mono ?_
  rintro e w3 ⟨A4, c4, rfl, o4, b3⟩
  have B3 := Lib.hid (B2.out.trans (b3.mono B2.out.size))
  have S3 := Lib.hid (RsAt.cons o4.rngs (S2.out.keep b3))
  clear b3 o4 B2 S2
  go_wp2_with fail
  refine (c_implWithoutOf A1 c1 ra A2 c2 rb _ S3.out.at2 S3.out.at3 (Nat.le_refl _) (by omega) (by omega)).mono ?_
  rintro e w4 ⟨A5, c5, rfl, o5, b4⟩
  have B4 := Lib.hid (B3.out.trans (b4.mono B3.out.size))
  have S4 := Lib.hid (RsAt.cons o5.rngs (S3.out.keep b4))
  clear b4 o5 B3 S3
  have HL1 := Lib.hid (@sums_one ra rb)
  have HL2 := Lib.hid (@sums_two ra rb)
  have hlU := sgl_len (uniOk ra rb) (addAll ra rb)
  have hlC := sgl_len (uniOk ra rb) (remAll ra (remAll ra rb))
  have hlR := sgl_len (uniOk ra rb) (remAll ra rb)
  generalize sgl (uniOk ra rb) (addAll ra rb) = U at *
  generalize sOk (uniOk ra rb) (addAll ra rb) = ok at *
  generalize sgl (uniOk ra rb) (remAll ra (remAll ra rb)) = C at *
  generalize sOk (uniOk ra rb) (remAll ra (remAll ra rb)) = fine at *
  generalize sgl (uniOk ra rb) (remAll ra rb) = R at *
  generalize sOk (uniOk ra rb) (remAll ra rb) = told at *
  go_wp2_with fail
  refine (CS1 _ S4.out.at3 S4.out.at4).out.mono ?_
  rintro e w5 ⟨A6, c6, rfl, o6, b5⟩
  have B5 := Lib.hid (B4.out.trans (b5.mono B4.out.size))
  have S5 := Lib.hid (RsAt.cons o6.rngs (S4.out.keep b5))
  clear b5 o6 B4 S4 CS1
  go_wp2_with fail
  refine (c_rRanges A3 A6 c3 c6 U _ S5.out.at3 S5.out.at0 (Nat.le_refl _) (Nat.le_refl _) (by omega)).mono ?_
  rintro e w6 ⟨rfl, b6⟩
  have B6 := Lib.hid (B5.out.trans (b6.mono B5.out.size))
  have S6 := Lib.hid (S5.out.tail.keep b6)
  clear b6 B5 S5
  go_wp2_with fail
  refine (CS2 _ S6.out.at3 S6.out.at4).out.mono ?_
  rintro e w7 ⟨A7, c7, rfl, o7, b7⟩
  have B7 := Lib.hid (B6.out.trans (b7.mono B6.out.size))
  have S7 := Lib.hid (RsAt.cons o7.rngs (S6.out.keep b7))
  clear b7 o7 B6 S6 CS2
  go_wp2_with fail
  refine (c_rRanges A4 A7 c4 c7 C _ S7.out.at2 S7.out.at0 (Nat.le_refl _) (Nat.le_refl _) (by omega)).mono ?_
  rintro e w8 ⟨rfl, b8⟩
  have B8 := Lib.hid (B7.out.trans (b8.mono B7.out.size))
  have S8 := Lib.hid (S7.out.tail.keep b8)
  clear b8 B7 S7
  go_wp2_with fail
  refine (CS3 _ S8.out.at3 S8.out.at4).out.mono ?_
  rintro e w9 ⟨A9, c9, rfl, o9, b9⟩
  have B9 := Lib.hid (B8.out.trans (b9.mono B8.out.size))
  have S9 := Lib.hid (RsAt.cons o9.rngs (S8.out.keep b9))
  clear b9 o9 B8 S8 CS3
  go_wp2_with fail
  refine (c_rRanges A5 A9 c5 c9 R _ S9.out.at1 S9.out.at0 (Nat.le_refl _) (Nat.le_refl _) (by omega)).mono ?_
  rintro e wa ⟨rfl, ba⟩
  have Ba := Lib.hid (B9.out.trans (ba.mono B9.out.size))
  have Sa := Lib.hid (S9.out.tail.keep ba)
  clear ba B9 S9
  have CZ1 := fun W h => Lib.hid (c_implSetSize (H := W.heap.size) A1 c1 ra W h (Nat.le_refl _) (by omega))
  have CZ2 := fun W h => Lib.hid (c_implSetSize (H := W.heap.size) A2 c2 rb W h (Nat.le_refl _) (by omega))
  have CZ3 := fun W h => Lib.hid (c_implSetSize (H := W.heap.size) A3 c3 U W h (Nat.le_refl _) (by omega))
  have CZ4 := fun W h => Lib.hid (c_implSetSize (H := W.heap.size) A4 c4 C W h (Nat.le_refl _) (by omega))
  have CZ5 := fun W h => Lib.hid (c_implSetSize (H := W.heap.size) A5 c5 R W h (Nat.le_refl _) (by omega))
  have CU1 := fun W h k => Lib.hid (c_implUnionOf (H := W.heap.size) A2 c2 rb A1 c1 ra W h k (Nat.le_refl _) (by omega) (by omega))
  have CU2 := fun W h k => Lib.hid (c_implUnionOf (H := W.heap.size) A4 c4 C A5 c5 R W h k (Nat.le_refl _) (by omega) (by omega))
  obtain ⟨hx0, hx1⟩ := size_rng ra
  obtain ⟨hy0, hy1⟩ := size_rng rb
  obtain ⟨hu0, hu1⟩ := size_rng U
  obtain ⟨hv0, hv1⟩ := size_rng C
  obtain ⟨hw0, hw1⟩ := size_rng R
  generalize setSizeR ra = x at *
  generalize setSizeR rb = y at *
  generalize setSizeR U = u at *
  generalize setSizeR C = v at *
  generalize setSizeR R = z at *
  generalize setB ra = ga at *
  generalize setB rb = gb at *
  generalize setB U = gU at *
  generalize setB C = gC at *
  generalize setB R = gR at *
  generalize sgl (uniOk rb ra) (addAll rb ra) = V at *
  generalize sOk (uniOk rb ra) (addAll rb ra) = five at *
  generalize sgl (uniOk C R) (addAll C R) = K at *
  generalize sOk (uniOk C R) (addAll C R) = okK at *
  go_wp2_with fail
  refine (CZ1 _ Sa.out.at3).out.mono ?_
  rintro e wb ⟨rfl, bb⟩
  have Bb := Lib.hid (Ba.out.trans (bb.mono Ba.out.size))
  have Sb := Lib.hid (Sa.out.keep bb)
  clear bb Ba Sa CZ1
  go_wp2_with fail
  refine (CZ2 _ Sb.out.at4).out.mono ?_
  rintro e wd ⟨rfl, bd⟩
  have Bd := Lib.hid (Bb.out.trans (bd.mono Bb.out.size))
  have Sd := Lib.hid (Sb.out.keep bd)
  clear bd Bb Sb CZ2
  go_upto_region 18 with fail
  go_cut [128] (fun s wx => Hid (wx = wd) ∧ ∃ b, s = .bool b ∧ Hid (b = (ok && fine)))
  case first => as_aux_lemma =>
    cases ok <;> cases fine <;> (go_wp2_with fail; go_meet; exact ⟨Lib.hid rfl, _, rfl, Lib.hid rfl⟩)
  case rest => as_aux_lemma =>
  obtain ⟨hw, b, rfl, hb⟩ := hcut
  obtain rfl := hw.out
  clear hw
  go_step
  go_cut [21, 22, 23, 24, 25, 26] (fun s21 s22 s23 s24 s25 s26 wx => Hid (Below wc.heap.size wc wx))
  case first => as_aux_lemma =>
    cases b
    · go_wp2_with fail
      go_meet
      exact Lib.hid (Below.refl _ _)
    · have hb1 : (ok && fine) = true := hb.out.symm
      rw [Bool.and_eq_true] at hb1
      obtain ⟨rfl, rfl⟩ := hb1
      obtain ⟨rfl, rfl, rfl, rfl, hs, rfl, rfl⟩ := HL1.out rfl rfl
      have k1 : IntKind.i64.wrap (u + v) = x + y := by rw [IntWalk.i64_in _ (by omega)]; exact hs
      have k2 : IntKind.i64.wrap (x + y) = x + y := IntWalk.i64_in _ (by omega)
      clear hs HL2 CU2
      go_wp2_with fail
      refine (CZ3 _ Sd.out.at2).out.mono ?_
      rintro e x1 ⟨rfl, d1⟩
      have J1 := Lib.hid (Sd.out.keep d1)
      have D1 := Lib.hid d1
      clear d1
      go_wp2_with fail
      refine (CZ4 _ J1.out.at1).out.mono ?_
      rintro e x2 ⟨rfl, d2⟩
      have J2 := Lib.hid (J1.out.keep d2)
      have D2 := Lib.hid (D1.out.trans (d2.mono D1.out.size))
      clear d2 D1 J1
      go_wp2_with fail
      refine (CU1 _ J2.out.at4 J2.out.at3).out.mono ?_
      rintro e x3 ⟨Ax, cx, rfl, ox, d3⟩
      have J3 := Lib.hid (RsAt.cons ox.rngs (J2.out.keep d3))
      have D3 := Lib.hid (D2.out.trans (d3.mono D2.out.size))
      clear d3 D2 J2 ox
      go_wp2_with fail
      refine (c_rRanges Ax A3 cx c3 _ _ J3.out.at0 J3.out.at3 (Nat.le_refl _) (Nat.le_refl _) (by omega)).mono ?_
      rintro e x4 ⟨rfl, d4⟩
      have D4 := Lib.hid (D3.out.trans (d4.mono D3.out.size))
      clear d4 D3 J3
      go_wp2_with fail
      go_meet
      exact D4
  case rest => as_aux_lemma =>
  have Be := Lib.hid (Bd.out.trans (hcut.out.mono Bd.out.size))
  have Se := Lib.hid (Sd.out.keep hcut.out)
  clear hcut Bd Sd HL1 hb CU1 CZ3
  go_upto_region 24 with fail
  go_cut [181] (fun s wx => Hid (wx = wc) ∧ ∃ b, s = .bool b ∧ Hid (b = (fine && told)))
  case first => as_aux_lemma =>
    cases fine <;> cases told <;> (go_wp2_with fail; go_meet; exact ⟨Lib.hid rfl, _, rfl, Lib.hid rfl⟩)
  case rest => as_aux_lemma =>
  obtain ⟨hw, b, rfl, hb⟩ := hcut
  obtain rfl := hw.out
  clear hw
  go_step
  go_cut [27, 28, 29, 30, 31, 32] (fun s27 s28 s29 s30 s31 s32 wx => Hid (Below wc.heap.size wc wx))
  case first => as_aux_lemma =>
    cases b
    · go_wp2_with fail
      go_meet
      exact Lib.hid (Below.refl _ _)
    · have hb1 : (fine && told) = true := hb.out.symm
      rw [Bool.and_eq_true] at hb1
      obtain ⟨rfl, rfl⟩ := hb1
      obtain ⟨rfl, rfl, hs, hk⟩ := HL2.out rfl rfl
      have HK := Lib.hid hk
      have k1 : IntKind.i64.wrap (v + z) = x := by rw [IntWalk.i64_in _ (by omega)]; exact hs
      clear hs hk HL2
      go_wp2_with fail
      refine (CZ4 _ Se.out.at1).out.mono ?_
      rintro e x1 ⟨rfl, d1⟩
      have J1 := Lib.hid (Se.out.keep d1)
      have D1 := Lib.hid d1
      clear d1
      go_wp2_with fail
      refine (CZ5 _ J1.out.at0).out.mono ?_
      rintro e x2 ⟨rfl, d2⟩
      have J2 := Lib.hid (J1.out.keep d2)
      have D2 := Lib.hid (D1.out.trans (d2.mono D1.out.size))
      clear d2 D1 J1
      go_wp2_with fail
      refine (CU2 _ J2.out.at1 J2.out.at0).out.mono ?_
      rintro e x3 ⟨Ax, cx, rfl, ox, d3⟩
      have J3 := Lib.hid (RsAt.cons ox.rngs (J2.out.keep d3))
      have D3 := Lib.hid (D2.out.trans (d3.mono D2.out.size))
      clear d3 D2 J2 ox
      cases okK
      · go_wp2_with fail
        go_meet
        exact D3
      · obtain rfl := HK.out rfl
        go_wp2_with fail
        refine (c_rRanges Ax A1 cx c1 _ _ J3.out.at0 J3.out.at4 (Nat.le_refl _) (Nat.le_refl _) (by omega)).mono ?_
        rintro e x4 ⟨rfl, d4⟩
        have D4 := Lib.hid (D3.out.trans (d4.mono D3.out.size))
        clear d4 D3 J3
        go_wp2_with fail
        go_meet
        exact D4
  case rest => as_aux_lemma =>
  have Bf := Lib.hid (Be.out.trans (hcut.out.mono Be.out.size))
  have Wf := Lib.hid ((W0.out.keep Bf.out).more Bf.out.size)
  clear hcut Be Se HL2 hb CU2 CZ4 CZ5 W0
  go_wp2_with fail
  refine (c_DrawSetText a0 n0 cap0 _ Wf.out (by omega)).mono ?_
  rintro e y1 ⟨As, cs, rs, rfl, hls, i1, d1⟩
  have Bg := Lib.hid (Bf.out.trans (d1.mono Bf.out.size))
  have Wg := Lib.hid ((Wf.out.keep d1).more d1.size)
  have Ig := Lib.hid i1
  have C1 := Lib.hid (CT.out As cs rs (by omega) y1 i1 Bg)
  have C2 := fun W h => Lib.hid (c_specSetText (H := W.heap.size) As cs rs W h (Nat.le_refl _) (by omega))
  have C3 := fun W h => Lib.hid (c_implIsRangeSet (H := W.heap.size) As cs rs W h (Nat.le_refl _) (by omega))
  have HT := Lib.hid (@text_back rs)
  have hT := setTT_len rs
  generalize setTT rs = l at *
  generalize setB rs = gs at *
  clear i1 d1 Bf Wf CT
  go_wp2_with fail
  refine C1.out.mono ?_
  rintro e y2 ⟨rfl, d2⟩
  have Bh := Lib.hid (Bg.out.trans (d2.mono Bg.out.size))
  have Wh := Lib.hid ((Wg.out.keep d2).more d2.size)
  have Ih := Lib.hid ((Ig.out.keep d2).more d2.size)
  clear d2 Bg Wg Ig C1
  go_wp2_with fail
  refine (C2 _ Ih.out).out.mono ?_
  rintro e y3 ⟨rfl, d3⟩
  have Bi := Lib.hid (Bh.out.trans (d3.mono Bh.out.size))
  have Wi := Lib.hid ((Wh.out.keep d3).more d3.size)
  have Ii := Lib.hid ((Ih.out.keep d3).more d3.size)
  clear d3 Bh Wh Ih C2
  go_wp2_with fail
  refine (C3 _ Ii.out).out.mono ?_
  rintro e y4 ⟨rfl, d4⟩
  have Bj := Lib.hid (Bi.out.trans (d4.mono Bi.out.size))
  have Wj := Lib.hid ((Wi.out.keep d4).more d4.size)
  have Ij := Lib.hid ((Ii.out.keep d4).more d4.size)
  have hsz := str_size l
  have c4 := CP.out (str l) (by omega) y4 Bj
  rw [list_str] at c4
  have C4 := Lib.hid c4
  have hpl := prL_len l
  generalize prL l = ps at *
  generalize prOk l = pk at *
  clear d4 Bi Wi Ii C3 c4
  go_wp2_with fail
  refine C4.out.mono ?_
  rintro e y5 ⟨Ap, cp, rfl, op, d5⟩
  have Bk := Lib.hid (Bj.out.trans (d5.mono Bj.out.size))
  have Wk := Lib.hid ((Wj.out.keep d5).more d5.size)
  have Ik := Lib.hid ((Ij.out.keep d5).more d5.size)
  have Ip := Lib.hid op.rngs
  clear d5 Bj Wj Ij C4 op
  go_upto_region 36 with fail
  go_cut [261] (fun s wx => s = .bool false ∧ Hid (Below y5.heap.size y5 wx))
  case first => as_aux_lemma =>
    cases gs
    · go_wp2_with fail
      go_meet
      exact ⟨rfl, Lib.hid (Below.refl _ _)⟩
    · obtain ⟨rfl, rfl⟩ := HT.out rfl
      go_wp2_with fail
      refine (c_rRanges Ap As cp cs _ _ Ip.out Ik.out (Nat.le_refl _) (Nat.le_refl _) (by omega)).mono ?_
      rintro e z1 ⟨rfl, d⟩
      have D := Lib.hid d
      clear d
      go_wp2_with fail
      go_meet
      exact ⟨rfl, D⟩
  case rest => as_aux_lemma =>
  obtain ⟨rfl, hbel⟩ := hcut
  have Bl := Lib.hid (Bk.out.trans (hbel.out.mono Bk.out.size))
  have Wl := Lib.hid ((Wk.out.keep hbel.out).more hbel.out.size)
  clear hbel Bk Wk Ik Ip HT hT hsz
  go_step
  go_wp2_with fail
  refine (c_DrawParseSet a0 n0 cap0 _ Wl.out (by omega)).mono ?_
  rintro e z1 ⟨s, rfl, hs0, d1⟩
  have hs : s.size ≤ 200 := hs0
  have Bm := Lib.hid (Bl.out.trans (d1.mono Bl.out.size))
  have C1 := Lib.hid (CP.out s (by omega) z1 Bm)
  have C2 := fun W => Lib.hid (c_specParseSet s W (by omega))
  have hpl2 := prL_len s.data.toList
  generalize prL s.data.toList = qs at *
  generalize prOk s.data.toList = qk at *
  clear d1 hs0 Bl Wl CP
  go_wp2_with fail
  refine C1.out.mono ?_
  rintro e z2 ⟨Aq, cq, rfl, oq, d2⟩
  have Bn := Lib.hid (Bm.out.trans (d2.mono Bm.out.size))
  have In := Lib.hid oq.rngs
  clear d2 oq Bm C1
  go_wp2_with fail
  refine (C2 _).out.mono ?_
  rintro e z3 ⟨Aw, cw, rfl, ow, d3⟩
  have Bo := Lib.hid (Bn.out.trans (d3.mono Bn.out.size))
  have Io := Lib.hid ((In.out.keep d3).more d3.size)
  have Iw := Lib.hid ow.rngs
  clear d3 ow Bn In C2
  go_wp2_with fail
  refine (c_rRanges Aq Aw cq cw _ _ Io.out Iw.out (Nat.le_refl _) (Nat.le_refl _) (by omega)).mono ?_
  rintro e z4 ⟨rfl, d4⟩
  have Bp := Lib.hid (Bo.out.trans (d4.mono Bo.out.size))
  clear d4
  go_wp2
  go_ret
  exact ⟨rfl, Bp.out⟩

theorem own : ownKnob Tryz.prog.godebug = none := by kernel_rfl
theorem laidOut : laidOutB Tryz.prog = true := by kernel_rfl

set_option maxRecDepth 100000 in
theorem lifted (os : Os) (started : os.Started) (H : Type) (enc : TypeId × Value → H) :
    ReturnsInHanded {} Tryz.checked os 3 .any (fun w args => (Rows.fnSetSumsSpec.pre enc Tryz.prog Tryz.f3 [] false w args ∧ laidMetH Tryz.prog Rows.fnSetSumsRow.laid w) ∧ sizedMet enc Tryz.prog Tryz.f3 (OpenSpec.ofChange Rows.fnSetSumsSpec) false w args)
      (Rows.fnSetSumsSpec.post enc Tryz.prog Tryz.f3 false true false false) := by
  refine returns_all (C := Tryz.checked) (X := (fun w _ => laidMetH Tryz.prog Rows.fnSetSumsRow.laid w)) (fun _ _ _ hh h => h.of_heap hh) own started (by kernel_rfl) Tryz.func3
    (ChangeSpec.witness_shaped (enc := enc) (C := Tryz.checked) (os := os) (X := (fun w _ => laidMetH Tryz.prog Rows.fnSetSumsRow.laid w)) false (World.laidAll Tryz.prog os Rows.fnSetSumsRow.laid) #[.slice none 0 0] 8 (World.laidAll_os _ _ _)
      (World.shaped_of_ZipB (by kernel_rfl) (by kernel_rfl)) (by kernel_rfl) (by kernel_rfl) (by kernel_rfl)
      (by rw [MakeChecks.laidMetH_plain _ _ _ (by kernel_rfl)]; exact laidMet_laidAll _ (by kernel_rfl) (by kernel_rfl))) ?_
  intro W base args ds gs before hval0 hW _ _ hL hsh
  rw [MakeChecks.laidMetH_plain _ _ _ (by kernel_rfl)] at hL
  have npow : PowW W W.heap.size := pow_of_reads (Lib.laidMet.reads hL (n := "internal/strconv.uint64pow10") (d := Rows.laid_internal_strconv_uint64pow10) (by simp only [Rows.fnSetSumsRow]; first | exact .head _ | exact .tail _ (.head _) | exact .tail _ (.tail _ (.head _)) | exact .tail _ (.tail _ (.tail _ (.head _))) | exact .tail _ (.tail _ (.tail _ (.tail _ (.head _)))) | exact .tail _ (.tail _ (.tail _ (.tail _ (.tail _ (.head _))))) | exact .tail _ (.tail _ (.tail _ (.tail _ (.tail _ (.tail _ (.head _))))))))
  have nerr : ErrW W W.heap.size := err_of_reads (Lib.laidMet.reads hL (n := "strconv.ErrSyntax") (d := Rows.laid_strconv_ErrSyntax) (by simp only [Rows.fnSetSumsRow]; first | exact .head _ | exact .tail _ (.head _) | exact .tail _ (.tail _ (.head _)) | exact .tail _ (.tail _ (.tail _ (.head _))) | exact .tail _ (.tail _ (.tail _ (.tail _ (.head _)))) | exact .tail _ (.tail _ (.tail _ (.tail _ (.tail _ (.head _))))) | exact .tail _ (.tail _ (.tail _ (.tail _ (.tail _ (.tail _ (.head _)))))))) (Lib.laidMet.reads hL (n := "strconv.ErrRange") (d := Rows.laid_strconv_ErrRange) (by simp only [Rows.fnSetSumsRow]; first | exact .head _ | exact .tail _ (.head _) | exact .tail _ (.tail _ (.head _)) | exact .tail _ (.tail _ (.tail _ (.head _))) | exact .tail _ (.tail _ (.tail _ (.tail _ (.head _)))) | exact .tail _ (.tail _ (.tail _ (.tail _ (.tail _ (.head _))))) | exact .tail _ (.tail _ (.tail _ (.tail _ (.tail _ (.tail _ (.head _))))))))
  have nmax : MaxW W W.heap.size := MaxW.of_shape hsh (Nat.le_refl _)
  have hval : ∀ (j : Nat) t v, Tryz.f3.params[j]? = some t → args[j]? = some v → Value.okWide Tryz.prog W .any base t v := hval0
  have hW' := hW
  obtain ⟨p, q, hA0, hV, rfl, hfz, hnd⟩ := hW
  have hA : DataW.TrodAll enc Tryz.prog W 0 (fun _ => true) true Tryz.f3.params.toList args.toList ds p := hA0
  rw [Tryz.params3] at hA hval
  obtain ⟨v0, vs0, d0, ds0, p0, q0, hargs, rfl, rfl, h0, r0⟩ := trodAll_cons hA
  obtain ⟨rfl, rfl, rfl⟩ := trodAll_nil r0
  obtain rfl : args = #[v0] := by cases args; simp_all
  obtain ⟨rfl, rfl⟩ := trodVars_none hV
  have k0 := h0
  have lt0 : ∀ x ∈ p0, x.block < W.heap.size := by obtain ⟨m, hm⟩ := k0; exact DataW.trod_lt m _ _ _ hm
  obtain ⟨a0, cap0, n0, rfl, w0⟩ := open_bytes' (hval 0 22 v0 rfl rfl) h0
  clear hA0 hval0
  refine (walk a0 cap0 n0 W w0 npow nerr nmax).mono fun e W' ⟨he, bel⟩ => ?_
  subst he
  exact ⟨_, rfl, _, _, _, [], _, [], hW', trodAll_mk1 (shut_bool Tryz.underlying4 _), (trodAll_cons_mk (Below.trod laidOut (by kernel_rfl) (of_decide_eq_true (by kernel_rfl)) k0 bel lt0) trodAll_mk0), rfl, bel.frame _, fun h => by cases h⟩

theorem over : Rows.fnSetSumsRow.holds Tryz.pinned (OpenSpec.ofChange Rows.fnSetSumsSpec) :=
  OpenClaim.holds_of_wide 3 Tryz.f3 rfl rfl rfl rfl rfl rfl rfl ⟨rfl, rfl, rfl, rfl, rfl⟩ rfl rfl rfl rfl rfl (by kernel_rfl) Tryz.func3 (by kernel_rfl)
    (of_decide_eq_true (by kernel_rfl)) (by unfold Func.isWrapper; first | (rw [if_pos (by decide +kernel)]; kernel_rfl) | (rw [if_neg (by decide +kernel)]; exact ⟨rfl, rfl⟩))
    (fun os started H enc _ => lifted os started H enc)

/-- THE STATEMENT: the tied card. -/
theorem proved : Rows.FnSetSumsCardSaid :=
  Claim7.holds_tied_plain_at .later [] Rows.fnSetSumsCard.laidKinds true Rows.fnSetSumsCard.stood.harness Rows.fnSetSumsCard.stood.looks over (fun _ h => by cases h) (by kernel_rfl) (fun _ h => by cases h) fnSetSums_row_tie rfl ⟨rfl, rfl⟩ (by kernel_rfl) rfl
    (fun f fn hf hfn => by
      obtain rfl : f = 3 := Option.some.inj ((show Tryz.prog.funcNamed Rows.fnSetSumsRow.func = some 3 by kernel_rfl).symm.trans hf) |>.symm
      obtain rfl : fn = Tryz.f3 := (Option.some.inj (Tryz.func3.symm.trans hfn)).symm
      exact ⟨by kernel_rfl, fun j t ht => by
        rw [Tryz.params3] at ht
        have hm : t ∈ ([22] : List Nat) := by simpa using Array.mem_of_getElem? ht
        have hall : (([22] : List Nat).all fun u => !Tryz.prog.wantsStandIn u) = true := by kernel_rfl
        exact (show Tryz.prog.wantsStandIn t = false by simpa using List.all_eq_true.1 hall t hm)⟩)
    (by kernel_rfl)
end Go.Proofs.YtlammcoiaeodfaaGreatDoor.fnSetSums
