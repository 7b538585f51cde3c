/-
  The law FnPackets returns true at every input and leaves its argument as it was: packets are recovered from their texts, a text with one digit changed is no packet's, and the check lies behind the octets.
  Conditions: none.
-/
import Derived.Test.YtnabiehbecojlaaDoorRows
import Derived.WalkKit
import Derived.ProofKit
import Derived.OpenShut
import Derived.ShutString
import Derived.ChangeOld
import Derived.Below
import Derived.Handy
import Derived.Test.YtnabiehbecojlaaDoorWrap
import Derived.Test.YtnabiehbecojlaaDoorCards
import Derived.Test.YtnabiehbecojlaaDoorTie
import Derived.SevenTiedAt
import Derived.Test.YtnabiehbecojlaaDoorOpenB
import Derived.Test.YtnabiehbecojlaaDoorOpenP
import Derived.Test.YtnabiehbecojlaaDoorEqI
import Derived.Test.YtnabiehbecojlaaDoorDrawA
import Derived.Test.YtnabiehbecojlaaDoorDrawD
import Derived.Test.YtnabiehbecojlaaDoorDecL
import Derived.Deep.DeepCutAuto
namespace Go.Proofs.YtnabiehbecojlaaDoor.fnPackets
open Go.ChangeShapes Go.WideShapes Go.ChangeAt Go.RowKit
open Go.ChangeMaps (open_string shut_string)
set_option linter.unusedVariables false

theorem enc_back {k n t l : Int} {d : List UInt8} (hg : goodP k n t l d = true) : decOk (encR k n t l d) = true ∧ dC (encR k n t l d) = pkC k n t l d := by
  have e : encR k n t l d = hexL (octL k n t l d) := by unfold encR; rw [if_pos hg]
  obtain ⟨h1, h2⟩ := dec_enc hg
  rw [e]
  refine ⟨h2, ?_⟩
  obtain ⟨p1, p2, p3, p4, p5⟩ := pk_octL hg
  unfold dC
  rw [if_pos h2, (un_good h1).1, p1, p2, p3, p4, p5]
theorem encR_len (k n t l : Int) (d : List UInt8) : (encR k n t l d).length ≤ 40 := by
  unfold encR
  split
  · next h =>
    rw [hexL_length, octL_length]
    have := (goodP_t h).2.2.2.2.2
    omega
  · simp
theorem oct_split {k n t l : Int} {d : List UInt8} (h : goodP k n t l d = true) : ∃ B : List Int, octR k n t l d = B ++ [chkO B / 256, chkO B % 256] ∧ goodB 40 255 B = true ∧ 0 ≤ chkO B ∧ chkO B ≤ 65520 ∧ B.length ≤ 16 := by
  obtain ⟨h1, h2⟩ := octB_areO h
  refine ⟨octB k n t l d, by unfold octR; rw [if_pos h]; rfl, ?_, ?_, ?_, h2⟩
  · exact goodB_y (by omega) (fun i hi => by
      obtain ⟨h3, h4⟩ := h1 i hi
      unfold inR
      simp only [decide_eq_true_eq]
      omega)
  · unfold chkO; omega
  · unfold chkO; omega
theorem ints_pre {w : World} {H : Nat} {A : Option Addr} {xs ys : List Int} (h : Ints w H A (xs ++ ys)) : Ints w H A xs := fun hn => by
  obtain ⟨ad, e, hb, hc⟩ := h (by rw [List.map_append, List.length_append]; omega)
  exact ⟨ad, e, hb, fun j u hu => hc j u (by
    rw [List.map_append, List.getElem?_append_left (List.getElem?_eq_some_iff.1 hu).1]
    exact hu)⟩
theorem dec_pk (x : List UInt8) : ∃ k n t l d, dC x = pkC k n t l d ∧ d.length ≤ x.length + 18 ∧ (decOk x = true → goodP k n t l d = true ∧ encR k n t l d = x) := by
  cases hk : decOk x
  · obtain ⟨k, n, t, l, d, h, hl⟩ := dC_pk x
    exact ⟨k, n, t, l, d, h, hl, fun h => by cases h⟩
  · have hb : unOk x = true ∧ 10 ≤ (unz x).length ∧ (unz x).length ≤ 18 := Decidable.byContradiction fun h => by
      rw [dec_bad h] at hk
      cases hk
    have he := dec_good hb.1 hb.2.1 hb.2.2
    rw [hk] at he
    have he := of_decide_eq_true he.symm
    refine ⟨_, _, _, _, _, by unfold dC; rw [if_pos hk], ?_, fun _ => ⟨?_, he⟩⟩
    · unfold pkD
      rw [List.length_map, List.length_take]
      omega
    · cases hg : goodP (pkK (unz x)) (pkN (unz x)) (pkT (unz x)) (pkL (unz x)) (pkD (unz x))
      · exfalso
        unfold encR at he
        rw [hg] at he
        simp at he
        subst he
        have := hb.2.1
        simp [unz, unhex] at this
      · rfl
set_option maxRecDepth 100000 in
set_option maxHeartbeats 64000000 in
theorem walk (a0 : Option Addr) (cap0 n0 : Nat) (w : World) (w0 : BytesAt w w.heap.size a0 n0) :
    Calls Tryd.prog 7 #[.slice a0 n0 cap0] w fun e w' => e = .returned (.bool true) ∧ Below w.heap.size w w' := by
  have W0 := Lib.hid w0
  clear w0
  by_cases hbig : (65536 : Int) < (n0 : Int)
  · go_enter Tryd.func7, Tryd.ntmps7
    go_wp2_with (go_at_call 19; refine (c_vBig _ _ _ _).mono ?_; rintro e _ ⟨rfl, rfl⟩)
    go_ret
    exact ⟨rfl, Below.refl _ _⟩
  go_enter Tryd.func7, Tryd.ntmps7
  go_wp2_with fail
  refine (c_vBig _ _ _ _).mono ?_
  rintro e _ ⟨rfl, rfl⟩
  go_wp2_with fail
  refine (c_DrawEncodePacket a0 n0 cap0 _ W0.out (by omega)).mono ?_
  rintro e w1 ⟨k, n, t, l, d, rfl, hd, b1⟩
  have hd : d.length ≤ 20 := hd
  have bA := (Below.refl w1.heap.size w1).alloc (Nat.le_refl _) (.cells #[.int .i64 k, .int .i64 n, .int .i64 t, .int .i64 l, .string (str d)] 27)
  have BV := Lib.hid (b1.trans (bA.mono b1.size))
  have KP := Lib.hid (pkAt_new k n t l d w1 27)
  clear b1 bA
  unfold pkC
  go_upto_region 4 with fail
  generalize w1.alloc (.cells #[.int .i64 k, .int .i64 n, .int .i64 t, .int .i64 l, .string (str d)] 27) = v1 at *
  obtain ⟨pb, p0, p1, p2, p3, p4⟩ := KP.out
  have CE := Lib.hid (c_implEncodePacket k n t l d v1 (by omega))
  unfold pkC at CE
  go_wp2_with fail
  refine CE.out.mono ?_
  rintro e w2 ⟨rfl, b2⟩
  have KP2 := Lib.hid (KP.out.keep b2)
  have BW2 := Lib.hid (BV.out.trans (b2.mono BV.out.size))
  clear b2 CE BV KP p0 p1 p2 p3 p4 pb
  have hel := encR_len k n t l d
  have hx : ∃ k' n' t' l' d', dC (encR k n t l d) = pkC k' n' t' l' d' ∧ (goodP k n t l d = true → k' = k ∧ n' = n ∧ t' = t ∧ l' = l ∧ d' = d) := by
    cases g : goodP k n t l d
    · obtain ⟨k', n', t', l', d', h, _⟩ := dC_pk (encR k n t l d)
      exact ⟨k', n', t', l', d', h, fun h => by cases h⟩
    · exact ⟨k, n, t, l, d, (enc_back g).2, fun _ => ⟨rfl, rfl, rfl, rfl, rfl⟩⟩
  obtain ⟨k', n', t', l', d', hdc, hsame⟩ := hx
  have HSAME := Lib.hid hsame
  have HOK := Lib.hid (fun h => (@enc_back k n t l d h).1)
  have CD := Lib.hid (c_implDecodePacket (encR k n t l d) w2 (by omega))
  have CS := fun W => Lib.hid (c_specEncodePacket k n t l d W (by omega))
  have CV := fun W => Lib.hid (c_implIsValidPacket k n t l d W (by omega))
  rw [hdc] at CD
  have HE : Hid (goodP k n t l d = false → encR k n t l d = []) := Lib.hid (fun h => by unfold encR; rw [h]; rfl)
  have HEL : Hid (goodP k n t l d = true → (encR k n t l d).length = 2 * (octR k n t l d).length) := Lib.hid (fun h => by unfold encR octR; rw [if_pos h, if_pos h, hexL_length])
  clear hsame hdc
  generalize encR k n t l d = E at *
  have HDG := Lib.hid (fun (i : Nat) (c : UInt8) (h : decOk E = true) (hi : i < E.length) (hc : c ≠ E[i]) => digit_changed h hi hc)
  generalize hok : decOk E = okd at *
  have HOKE := Lib.hid hok
  clear hok
  unfold pkC at CD CS CV
  go_wp2_with fail
  refine CD.out.mono ?_
  rintro e w3 ⟨rfl, b3⟩
  have bA := (Below.refl w3.heap.size w3).alloc (Nat.le_refl _) (.cells #[.int .i64 k', .int .i64 n', .int .i64 t', .int .i64 l', .string (str d')] 27)
  have KP3 := Lib.hid ((KP2.out.keep b3).keep bA)
  have BW3 := Lib.hid ((BW2.out.trans (b3.mono BW2.out.size)).trans (bA.mono (Nat.le_trans BW2.out.size b3.size)))
  have KQ3 := Lib.hid (pkAt_new k' n' t' l' d' w3 27)
  clear b3 bA CD KP2 BW2
  go_upto_region 6 with fail
  generalize w3.alloc (.cells #[.int .i64 k', .int .i64 n', .int .i64 t', .int .i64 l', .string (str d')] 27) = v3 at *
  obtain ⟨pb, p0, p1, p2, p3, p4⟩ := KP3.out
  go_wp2_with fail
  refine (CS _).out.mono ?_
  rintro e w4 ⟨rfl, b4⟩
  have KP4 := Lib.hid (KP3.out.keep b4)
  have KQ4 := Lib.hid (KQ3.out.keep b4)
  have BW4 := Lib.hid (BW3.out.trans (b4.mono BW3.out.size))
  clear b4 KP3 KQ3 BW3 p0 p1 p2 p3 p4 pb CS
  obtain ⟨pb, p0, p1, p2, p3, p4⟩ := KP4.out
  obtain ⟨qb, q0, q1, q2, q3, q4⟩ := KQ4.out
  have t1 := str_tl E
  have te : (E == E) = true := beq_self_eq_true _
  have CO1 := fun W => Lib.hid (c_implOctetsOf k n t l d W (by omega))
  have CO2 := fun W => Lib.hid (c_specOctetsOf k n t l d W (by omega))
  have HOL := Lib.hid (fun h => @oct_split k n t l d h)
  have hol := octR_len k n t l d
  unfold pkC at CO1 CO2
  generalize octR k n t l d = L at *
  generalize goodP k n t l d = gd at *
  go_upto_region 7 with fail
  go_cut [72] from 47 to 71 (fun sx wx => sx = .bool false ∧ Hid (Below w4.heap.size w4 wx))
  case first => as_aux_lemma =>
    cases gd
    · go_wp2_with fail
      refine (CV _).out.mono ?_
      rintro e w5 ⟨rfl, b5⟩
      have B5 := Lib.hid b5
      clear b5
      go_wp2_with fail
      go_meet
      exact ⟨rfl, B5⟩
    · have hk := HOK.out rfl
      obtain ⟨e1, e2, e3, e4, e5⟩ := HSAME.out rfl
      subst e1 e2 e3 e4 e5
      subst hk
      have td := str_tl d'
      have tdd : (d' == d') = true := beq_self_eq_true _
      go_wp2_with fail
      refine (CV _).out.mono ?_
      rintro e w5 ⟨rfl, b5⟩
      have B5 := Lib.hid b5
      have KP5 := KP4.out.keep b5
      have KQ5 := KQ4.out.keep b5
      obtain ⟨pb5, r0, r1, r2, r3, r4⟩ := KP5
      obtain ⟨qb5, s0, s1, s2, s3, s4⟩ := KQ5
      clear b5
      go_wp2_with fail
      go_meet
      exact ⟨rfl, B5⟩
  case rest => as_aux_lemma =>
    obtain ⟨rfl, HC⟩ := hcut
    have KPc := Lib.hid (KP4.out.keep HC.out)
    have BWc := Lib.hid (BW4.out.trans (HC.out.mono BW4.out.size))
    have hsE := str_size E
    have HALL : Hid (0 < E.length → okd = true) := Lib.hid (fun h => by
      cases gd
      · rw [HE.out rfl] at h; simp at h
      · exact HOK.out rfl)
    clear p0 p1 p2 p3 p4 pb q0 q1 q2 q3 q4 qb KP4 KQ4 BW4 HC te t1
    go_wp2_with fail
    go_loopw [2, 10, 11, 12, 13] (fun s2 i s11 s12 s13 wr => ∃ j : Nat, j ≤ E.length + 3 ∧ s2 = .bool false ∧ i = .int .i64 j ∧ Hid (Below wc.heap.size wc wr)) (fun _ i _ _ _ _ => E.length + 4 - (intOf i).toNat)
    case atStart => exact ⟨0, by omega, rfl, rfl, Lib.hid (Below.refl _ _)⟩
    case round =>
      obtain ⟨j, hj, rfl, rfl, HR⟩ := hrel
      by_cases hlt : j < E.length
      · have hi : (j : Int) < (E.length : Int) := by omega
        have s1 := run_index_str E j j rfl hlt
        have hgd : E.getD j 0 = E[j] := by simp [hlt]
        have wj : IntKind.i64.wrap ((j : Int) + 1) = (j : Int) + 1 := IntWalk.i64_in _ (by omega)
        have w3j : IntKind.i64.wrap ((j : Int) + 3) = (j : Int) + 3 := IntWalk.i64_in _ (by omega)
        have r1 := fun W => run_pre E j (by omega) W
        have r3 := fun W => run_suf E (j + 1) (by omega) W
        have r3 : ∀ W, (Instr.slice 9 (.string (str E)) (some (.int .i64 ((j : Int) + 1))) none none).run Tryd.prog W = .ok (.string (str (E.drop (j + 1)))) W := r3
        obtain ⟨c', hc', hne⟩ : ∃ c' : UInt8, c' = (if E.getD j 0 = 48 then 55 else 48) ∧ c' ≠ E[j] := by
          refine ⟨_, rfl, ?_⟩
          rw [← hgd]
          split
          · next h => rw [h]; decide
          · next h => exact fun e => h e.symm
        have HX := Lib.hid (HDG.out j c' (HALL.out (by omega)) hlt hne)
        rw [List.set_eq_take_append_cons_drop, if_pos hlt] at HX
        have hla : (E.take j).length = j := by rw [List.length_take]; omega
        have hlc : (E.drop (j + 1)).length = E.length - (j + 1) := List.length_drop
        generalize E.take j = A at *
        generalize E.drop (j + 1) = C at *
        have a1 := fun W => run_add_str A [c'] (A ++ [c']) rfl (by simp; omega) W
        have a2 := fun W => run_add_str (A ++ [c']) C (A ++ c' :: C) (by simp) (by simp; omega) W
        obtain ⟨kx, nx, tx, lx, dx, hdx, _⟩ := dC_pk (A ++ c' :: C)
        have CDx := fun W => Lib.hid (c_implDecodePacket (A ++ c' :: C) W (by simp; omega))
        rw [HX.out, hdx] at CDx
        unfold pkC at CDx
        generalize E.getD j 0 = c at *
        clear HX hdx hne hgd
        generalize A ++ c' :: C = X at *
        generalize A ++ [c'] = Y at *
        by_cases h48 : c = 48
        · rw [if_pos h48] at hc'
          subst hc'
          subst h48
          have hb : (((48 : UInt8).toNat : Int) == 48) = true := rfl
          have a1 : ∀ W, (Op.stringOp .add (str A) ⟨#[55]⟩).run Tryd.prog W = .ok (.string (str Y)) W := a1
          go_upto_region 15 with fail
          go_cut [12, 13] from 83 to 96 (fun s12 s13 wx => s13 = .bool false ∧ Hid (Below wr.heap.size wr wx))
          case first => as_aux_lemma =>
            go_region_held3 (fun W => True) (trivial)
              (first
                | (go_at_call 13; refine (CDx _).out.mono ?_; rintro e w5 ⟨rfl, b5⟩; first | (have KQ := ((pkAt_new 0 0 0 0 [] wr 27).keep ((Below.refl _ _).drew)).keep b5; have FQ := Free.keep (show Free wr.heap.size ((wr.alloc (.cells #[.int .i64 0, .int .i64 0, .int .i64 0, .int .i64 0, .string ⟨#[]⟩] 27)).drew) from fun j => free_new wr #[.int .i64 0, .int .i64 0, .int .i64 0, .int .i64 0, .string ⟨#[]⟩] 27 j) (by simp) b5; obtain ⟨ub, u0, u1, u2, u3, u4⟩ := KQ; have g0 := FQ 0; have g1 := FQ 1; have g2 := FQ 2; have g3 := FQ 3; have g4 := FQ 4) | skip))
            all_goals (go_wp2_with fail; go_meet; first | exact ⟨rfl, Lib.hid ((((Below.refl wr.heap.size wr).drew).trans b5).alloc b5.size _)⟩ | exact ⟨rfl, Lib.hid (set5 ((((Below.refl wr.heap.size wr).alloc (Nat.le_refl _) _).drew).trans (b5.mono (by simp))) (Nat.le_refl _) _ _ _ _ _)⟩)
          case rest => as_aux_lemma =>
            obtain ⟨rfl, HC2⟩ := hcut
            have HR2 := Lib.hid (HR.out.trans (HC2.out.mono HR.out.size))
            go_wp2
            go_roundw
            case rel => exact ⟨j + 3, by omega, rfl, by go_num, HR2⟩
            case measure => simp [intOf]; omega
        · rw [if_neg h48] at hc'
          subst hc'
          have hb : ((c.toNat : Int) == 48) = false := beq_eq_false_iff_ne.2 (fun e => h48 (UInt8.toNat_inj.1 (by show c.toNat = 48; omega)))
          have a1 : ∀ W, (Op.stringOp .add (str A) ⟨#[48]⟩).run Tryd.prog W = .ok (.string (str Y)) W := a1
          go_upto_region 15 with fail
          go_cut [12, 13] from 83 to 96 (fun s12 s13 wx => s13 = .bool false ∧ Hid (Below wr.heap.size wr wx))
          case first => as_aux_lemma =>
            go_region_held3 (fun W => True) (trivial)
              (first
                | (go_at_call 13; refine (CDx _).out.mono ?_; rintro e w5 ⟨rfl, b5⟩; first | (have KQ := ((pkAt_new 0 0 0 0 [] wr 27).keep ((Below.refl _ _).drew)).keep b5; have FQ := Free.keep (show Free wr.heap.size ((wr.alloc (.cells #[.int .i64 0, .int .i64 0, .int .i64 0, .int .i64 0, .string ⟨#[]⟩] 27)).drew) from fun j => free_new wr #[.int .i64 0, .int .i64 0, .int .i64 0, .int .i64 0, .string ⟨#[]⟩] 27 j) (by simp) b5; obtain ⟨ub, u0, u1, u2, u3, u4⟩ := KQ; have g0 := FQ 0; have g1 := FQ 1; have g2 := FQ 2; have g3 := FQ 3; have g4 := FQ 4) | skip))
            all_goals (go_wp2_with fail; go_meet; first | exact ⟨rfl, Lib.hid ((((Below.refl wr.heap.size wr).drew).trans b5).alloc b5.size _)⟩ | exact ⟨rfl, Lib.hid (set5 ((((Below.refl wr.heap.size wr).alloc (Nat.le_refl _) _).drew).trans (b5.mono (by simp))) (Nat.le_refl _) _ _ _ _ _)⟩)
          case rest => as_aux_lemma =>
            obtain ⟨rfl, HC2⟩ := hcut
            have HR2 := Lib.hid (HR.out.trans (HC2.out.mono HR.out.size))
            go_wp2
            go_roundw
            case rel => exact ⟨j + 3, by omega, rfl, by go_num, HR2⟩
            case measure => simp [intOf]; omega
      · have hi : ¬ (j : Int) < (E.length : Int) := by omega
        have BR := Lib.hid (BWc.out.trans (HR.out.mono BWc.out.size))
        have KR := Lib.hid (KPc.out.keep HR.out)
        have WR := Lib.hid (W0.out.keep BR.out)
        clear HR KPc BWc HDG HALL
        go_wp2_with fail
        refine (c_DrawDecodePacket a0 n0 cap0 _ (WR.out.more BR.out.size) (by omega)).mono ?_
        rintro e w6 ⟨s, rfl, hs, b6⟩
        have hs : s.size ≤ 100 := hs
        obtain ⟨x, rfl⟩ : ∃ x, s = str x := ⟨s.data.toList, (str_list s).symm⟩
        have hxl : x.length ≤ 100 := by rw [str_size] at hs; exact hs
        have KR6 := Lib.hid (KR.out.keep b6)
        have BR6 := Lib.hid (BR.out.trans (b6.mono BR.out.size))
        clear b6 KR BR WR hs
        obtain ⟨k2, n2, t2, l2, d2, hdc2, hd2, hyes⟩ := dec_pk x
        have HYES := Lib.hid hyes
        have CD2 := fun W => Lib.hid (c_implDecodePacket x W (by omega))
        have CS2 := fun W => Lib.hid (c_specDecodePacket x W (by omega))
        have CE2 := fun W => Lib.hid (c_implEncodePacket k2 n2 t2 l2 d2 W (by omega))
        simp only [hdc2] at CD2 CS2
        clear hdc2 hyes
        generalize decOk x = ok2 at *
        generalize goodP k2 n2 t2 l2 d2 = g2 at *
        generalize encR k2 n2 t2 l2 d2 = E2 at *
        unfold pkC at CD2 CS2 CE2
        go_wp2_with fail
        refine (CD2 _).out.mono ?_
        rintro e w7 ⟨rfl, b7⟩
        have bA := (Below.refl w7.heap.size w7).alloc (Nat.le_refl _) (.cells #[.int .i64 k2, .int .i64 n2, .int .i64 t2, .int .i64 l2, .string (str d2)] 27)
        have KR7 := Lib.hid ((KR6.out.keep b7).keep bA)
        have BR7 := Lib.hid ((BR6.out.trans (b7.mono BR6.out.size)).trans (bA.mono (Nat.le_trans BR6.out.size b7.size)))
        have KT7 := Lib.hid (pkAt_new k2 n2 t2 l2 d2 w7 27)
        clear b7 bA CD2 KR6 BR6
        go_upto_region 20 with fail
        generalize w7.alloc (.cells #[.int .i64 k2, .int .i64 n2, .int .i64 t2, .int .i64 l2, .string (str d2)] 27) = v7 at *
        obtain ⟨pb, p0, p1, p2, p3, p4⟩ := KT7.out
        go_wp2_with fail
        refine (CE2 _).out.mono ?_
        rintro e w8 ⟨rfl, b8⟩
        have KR8 := Lib.hid (KR7.out.keep b8)
        have KT8 := Lib.hid (KT7.out.keep b8)
        have BR8 := Lib.hid (BR7.out.trans (b8.mono BR7.out.size))
        clear b8 KR7 KT7 BR7 CE2 p0 p1 p2 p3 p4 pb
        go_wp2_with fail
        refine (CS2 _).out.mono ?_
        rintro e w9 ⟨rfl, b9⟩
        have bA := (Below.refl w9.heap.size w9).alloc (Nat.le_refl _) (.cells #[.int .i64 k2, .int .i64 n2, .int .i64 t2, .int .i64 l2, .string (str d2)] 27)
        have KR9 := Lib.hid ((KR8.out.keep b9).keep bA)
        have KT9 := Lib.hid ((KT8.out.keep b9).keep bA)
        have BR9 := Lib.hid ((BR8.out.trans (b9.mono BR8.out.size)).trans (bA.mono (Nat.le_trans BR8.out.size b9.size)))
        have KU9 := Lib.hid (pkAt_new k2 n2 t2 l2 d2 w9 27)
        clear b9 bA CS2 KR8 KT8 BR8
        go_upto_region 22 with fail
        generalize w9.alloc (.cells #[.int .i64 k2, .int .i64 n2, .int .i64 t2, .int .i64 l2, .string (str d2)] 27) = v9 at *
        obtain ⟨pb, p0, p1, p2, p3, p4⟩ := KT9.out
        obtain ⟨qb, q0, q1, q2, q3, q4⟩ := KU9.out
        have td := str_tl d2
        have tdd : (d2 == d2) = true := beq_self_eq_true _
        have tx := str_tl x
        have txx : (x == x) = true := beq_self_eq_true _
        go_cut [134] from 115 to 133 (fun sx wx => sx = .bool false ∧ wx = v9)
        case first => as_aux_lemma =>
          cases ok2
          · go_wp2_with fail
            go_meet
            exact ⟨rfl, rfl⟩
          · obtain ⟨e1, e2⟩ := HYES.out rfl
            subst e1 e2
            go_wp2_with fail
            go_meet
            exact ⟨rfl, rfl⟩
        case rest => as_aux_lemma =>
          obtain ⟨rfl, rfl⟩ := hcut
          obtain ⟨rb, r0, r1, r2, r3, r4⟩ := KR9.out
          go_wp2_with fail
          refine (CO1 _).out.mono ?_
          rintro e wa ⟨A1, c1, rfl, o1, ba⟩
          have I1 := Lib.hid o1.ints
          have HCAP : Hid (0 < L.length → L.length ≤ c1) := Lib.hid (fun h => (own_cap o1 h).1)
          have KRa := Lib.hid (KR9.out.keep ba)
          have BRa := Lib.hid (BR9.out.trans (ba.mono BR9.out.size))
          clear o1 ba r0 r1 r2 r3 r4 rb
          obtain ⟨rb, r0, r1, r2, r3, r4⟩ := KRa.out
          go_wp2_with fail
          refine (CO2 _).out.mono ?_
          rintro e wb ⟨A2, c2, rfl, o2, bb⟩
          have I2 := Lib.hid o2.ints
          have I1b := Lib.hid ((I1.out.keep bb).more bb.size)
          have BRb := Lib.hid (BRa.out.trans (bb.mono BRa.out.size))
          clear o2 bb I1
          go_wp2_with fail
          refine (c_vInts A1 A2 c1 c2 L _ I1b.out I2.out (Nat.le_refl _) (Nat.le_refl _) (by omega)).mono ?_
          rintro e wd ⟨rfl, bd⟩
          have I1d := Lib.hid (I1b.out.keep bd)
          have BRd := Lib.hid (BRb.out.trans (bd.mono BRb.out.size))
          clear bd I2 I1b
          cases gd
          · go_wp2
            go_ret
            exact ⟨rfl, BRd.out⟩
          · obtain ⟨B, rfl, hB, hc0, hc1, hBl⟩ := HOL.out rfl
            have hel2 := HEL.out rfl
            obtain ⟨ad, rfl, _, k0⟩ := I1d.out.at_ (k := B.length) (by simp)
            obtain ⟨_, e1, _, k1⟩ := I1d.out.at_ (k := B.length + 1) (by simp)
            cases e1
            have hlen : (B ++ [chkO B / 256, chkO B % 256]).length = B.length + 2 := by simp
            have hcp := HCAP.out (by rw [hlen]; omega)
            rw [hlen] at hcp hel2
            have CH := Lib.hid (c_implCheckOf (some ad) c1 B wd (ints_pre I1d.out) (by omega))
            rw [show checkR B = chkO B from by unfold checkR; rw [if_pos hB], hB] at CH
            replace k0 : wd.cell? (ad.add B.length) = some (.int .i64 (chkO B / 256)) := by simpa using k0
            replace k1 : wd.cell? (ad.add (B.length + 1)) = some (.int .i64 (chkO B % 256)) := by simpa using k1
            have x1 : IntKind.i64.wrap (B.length : Int) = (B.length : Int) := IntWalk.i64_in _ (by omega)
            have x2 : (B.length : Int) ≤ (c1 : Int) := by omega
            have x3 : B.length ≤ c1 := by omega
            have x4 : IntKind.i64.wrap ((B.length : Int) + 2 - 2) = (B.length : Int) := by rw [show (B.length : Int) + 2 - 2 = (B.length : Int) by omega]; exact x1
            have x5 : IntKind.i64.wrap ((B.length : Int) + 2 - 1) = (B.length : Int) + 1 := by rw [show (B.length : Int) + 2 - 1 = (B.length : Int) + 1 by omega]; exact IntWalk.i64_in _ (by omega)
            have x6 : (B.length : Int) < (B.length : Int) + 2 := by omega
            have x7 : (B.length : Int) + 1 < (B.length : Int) + 2 := by omega
            have x8 : IntKind.i64.wrap (2 * ((B.length : Int) + 2)) = (E.length : Int) := by rw [show 2 * ((B.length : Int) + 2) = (E.length : Int) by omega]; exact IntWalk.i64_in _ (by omega)
            have x9 : IntKind.i64.wrap ((B.length : Int) + 1) = (B.length : Int) + 1 := IntWalk.i64_in _ (by omega)
            have x10 : (0 : Int) ≤ (B.length : Int) + 1 := by omega
            have x11 : ((B.length : Int) + 1).toNat = B.length + 1 := by omega
            have x12 : B.length + 1 < B.length + 2 := by omega
            have x13 : wd.cell? (ad.add (((B.length : Int) + 1).toNat)) = some (.int .i64 (chkO B % 256)) := by rw [x11]; exact k1
            have k2 : wd.cell? ⟨ad.block, ad.off + (B.length + 1), none⟩ = some (.int .i64 (chkO B % 256)) := by simpa [Addr.add] using k1
            have k3 : wd.cell? ⟨ad.block, ad.off + B.length + 1, none⟩ = some (.int .i64 (chkO B % 256)) := by rw [Nat.add_assoc]; exact k2
            clear hlen HOL HEL HCAP I1d hB
            generalize chkO B = c at *
            have y1 : IntKind.i64.wrap (c / 256 * 256) = c / 256 * 256 := IntWalk.i64_in _ (by omega)
            have y2 : IntKind.i64.wrap (c / 256 * 256 + c % 256) = c := by rw [show c / 256 * 256 + c % 256 = c by omega]; exact IntWalk.i64_in _ (by omega)
            go_wp2_with fail
            refine CH.out.mono ?_
            rintro e _ ⟨rfl, rfl⟩
            go_wp2_with fail
            go_quiet (fail)
            go_wp2
            go_ret
            exact ⟨rfl, below_dr BRd.out _⟩

theorem own : ownKnob Tryd.prog.godebug = none := by kernel_rfl
theorem laidOut : laidOutB Tryd.prog = true := by kernel_rfl

set_option maxRecDepth 100000 in
theorem lifted (os : Os) (started : os.Started) (H : Type) (enc : TypeId × Value → H) :
    ReturnsInHanded {} Tryd.checked os 7 .any (fun w args => (Rows.fnPacketsSpec.pre enc Tryd.prog Tryd.f7 [] false w args ∧ laidMetH Tryd.prog Rows.fnPacketsRow.laid w) ∧ sizedMet enc Tryd.prog Tryd.f7 (OpenSpec.ofChange Rows.fnPacketsSpec) false w args)
      (Rows.fnPacketsSpec.post enc Tryd.prog Tryd.f7 false true false false) := by
  refine returns_all (C := Tryd.checked) (X := (fun w _ => laidMetH Tryd.prog Rows.fnPacketsRow.laid w)) (fun _ _ _ hh h => h.of_heap hh) own started (by kernel_rfl) Tryd.func7
    (ChangeSpec.witness_shaped (enc := enc) (C := Tryd.checked) (os := os) (X := (fun w _ => laidMetH Tryd.prog Rows.fnPacketsRow.laid w)) false (World.laidAll Tryd.prog os Rows.fnPacketsRow.laid) #[.slice none 0 0] 8 (World.laidAll_os _ _ _)
      (World.shaped_of_ZipB (by kernel_rfl) (by kernel_rfl)) (by kernel_rfl) (by kernel_rfl) (by kernel_rfl)
      (by rw [MakeChecks.laidMetH_plain _ _ _ (by kernel_rfl)]; exact laidMet_laidAll _ (by kernel_rfl) (by kernel_rfl))) ?_
  intro W base args ds gs before hval0 hW _ _ hL hsh
  rw [MakeChecks.laidMetH_plain _ _ _ (by kernel_rfl)] at hL
  have hval : ∀ (j : Nat) t v, Tryd.f7.params[j]? = some t → args[j]? = some v → Value.okWide Tryd.prog W .any base t v := hval0
  have hW' := hW
  obtain ⟨p, q, hA0, hV, rfl, hfz, hnd⟩ := hW
  have hA : DataW.TrodAll enc Tryd.prog W 0 (fun _ => true) true Tryd.f7.params.toList args.toList ds p := hA0
  rw [Tryd.params7] at hA hval
  obtain ⟨v0, vs0, d0, ds0, p0, q0, hargs, rfl, rfl, h0, r0⟩ := trodAll_cons hA
  obtain ⟨rfl, rfl, rfl⟩ := trodAll_nil r0
  obtain rfl : args = #[v0] := by cases args; simp_all
  obtain ⟨rfl, rfl⟩ := trodVars_none hV
  have k0 := h0
  have lt0 : ∀ x ∈ p0, x.block < W.heap.size := by obtain ⟨m, hm⟩ := k0; exact DataW.trod_lt m _ _ _ hm
  obtain ⟨a0, cap0, n0, rfl, w0⟩ := open_bytes' (hval 0 34 v0 rfl rfl) h0
  clear hA0 hval0
  refine (walk a0 cap0 n0 W w0).mono fun e W' ⟨he, bel⟩ => ?_
  subst he
  exact ⟨_, rfl, _, _, _, [], _, [], hW', trodAll_mk1 (shut_bool Tryd.underlying4 _), (trodAll_cons_mk (Below.trod laidOut (by kernel_rfl) (of_decide_eq_true (by kernel_rfl)) k0 bel lt0) trodAll_mk0), rfl, bel.frame _, fun h => by cases h⟩

theorem over : Rows.fnPacketsRow.holds Tryd.pinned (OpenSpec.ofChange Rows.fnPacketsSpec) :=
  OpenClaim.holds_of_wide 7 Tryd.f7 rfl rfl rfl rfl rfl rfl rfl ⟨rfl, rfl, rfl, rfl, rfl⟩ rfl rfl rfl rfl rfl (by kernel_rfl) Tryd.func7 (by kernel_rfl)
    (of_decide_eq_true (by kernel_rfl)) (by unfold Func.isWrapper; first | (rw [if_pos (by decide +kernel)]; kernel_rfl) | (rw [if_neg (by decide +kernel)]; exact ⟨rfl, rfl⟩))
    (fun os started H enc _ => lifted os started H enc)

/-- THE STATEMENT: the tied card. -/
theorem proved : Rows.FnPacketsCardSaid :=
  Claim7.holds_tied_plain_at .later [] Rows.fnPacketsCard.laidKinds true Rows.fnPacketsCard.stood.harness Rows.fnPacketsCard.stood.looks over (fun _ h => by cases h) (by kernel_rfl) (fun _ h => by cases h) fnPackets_row_tie rfl ⟨rfl, rfl⟩ (by kernel_rfl) rfl
    (fun f fn hf hfn => by
      obtain rfl : f = 7 := Option.some.inj ((show Tryd.prog.funcNamed Rows.fnPacketsRow.func = some 7 by kernel_rfl).symm.trans hf) |>.symm
      obtain rfl : fn = Tryd.f7 := (Option.some.inj (Tryd.func7.symm.trans hfn)).symm
      exact ⟨by kernel_rfl, fun j t ht => by
        rw [Tryd.params7] at ht
        have hm : t ∈ ([34] : List Nat) := by simpa using Array.mem_of_getElem? ht
        have hall : (([34] : List Nat).all fun u => !Tryd.prog.wantsStandIn u) = true := by kernel_rfl
        exact (show Tryd.prog.wantsStandIn t = false by simpa using List.all_eq_true.1 hall t hm)⟩)
    (by kernel_rfl)
end Go.Proofs.YtnabiehbecojlaaDoor.fnPackets
