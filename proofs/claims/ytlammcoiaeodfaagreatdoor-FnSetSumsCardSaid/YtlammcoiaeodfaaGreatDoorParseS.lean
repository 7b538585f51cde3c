/- Sets' texts, read by the reference. -/
import Derived.Test.YtlammcoiaeodfaaGreatDoorParseI
namespace Go.Proofs.YtlammcoiaeodfaaGreatDoor
open Go.RowKit
set_option linter.unusedVariables false
set_option maxRecDepth 100000

theorem scells_head {es : List (List UInt8)} (h : 0 < es.length) : (scells es)[0]? = some (.string (str (es.headD []))) := by
  rw [scells_get es 0 h]
  cases es with
  | nil => simp at h
  | cons a t => rfl
theorem scells_last {es : List (List UInt8)} {m : Nat} (h : es.length = m + 1) : (scells es)[m]? = some (.string (str (es.getLastD []))) := by
  rw [scells_get es m (by omega)]
  have e : es.getLastD [] = es.getD m [] := by
    rw [List.getLastD_eq_getLast?, List.getLast?_eq_getElem?, h]
    simp [List.getD]
  rw [e]
theorem pr_stopS {l : List UInt8} {ps : List (List UInt8)} (hi : pI l = chkP l (allO partS ps)) (h : allO partS ps = none) : pI l = none := by rw [hi, h]; rfl
set_option maxHeartbeats 8000000 in
theorem c_specParseSet (s : ByteArray) (w : World) (hs : s.size ≤ 1100000) :
    Calls Tryz.prog 20 #[.string s] w fun e w' => ∃ A cap, e = .returned (.tuple #[.slice A (prL s.data.toList).length cap, .bool (prOk s.data.toList)]) ∧ OwnR w' w.heap.size A cap (prL s.data.toList) ∧ Below w.heap.size w w' := by
  have HE := Lib.hid (OwnR.empty w w.heap.size (Nat.le_refl _))
  have bel := Lib.hid ((Below.refl w.heap.size w).alloc (Nat.le_refl _) (.cells #[] 47))
  have s0 : w.heap.size < (w.alloc (.cells #[] 47)).heap.size := by simp
  have C0 := Lib.hid (c_l5Text (some ⟨w.heap.size, 0, none⟩) 0 [] (w.alloc (.cells #[] 47)) (Rngs.nil _ 0 _) (by omega) (by simp) (fun k hk => by simp at hk))
  have e1 := Lib.toList_data s
  have e2 := Lib.toList_data (str noneT)
  rw [list_str] at e2
  have et : setT [] = noneT := rfl
  rw [et] at C0
  clear et
  by_cases hn : s.data.toList = noneT
  · have HN := Lib.hid (pr_some (l := s.data.toList) (rs := []) (by rw [hn]; rfl))
    have hbe : (s.data.toList == noneT) = true := beq_iff_eq.2 hn
    clear hn
    go_enter Tryz.func20, Tryz.ntmps20
    go_wp2_with fail
    refine C0.out.mono ?_
    rintro e w1 ⟨rfl, b1⟩
    have HE1 := Lib.hid (HE.out.keep b1)
    have HB1 := Lib.hid (bel.out.trans (b1.mono (by omega)))
    clear b1 HE bel
    go_wp2
    go_ret2
    exact ⟨_, 0, by rw [HN.out.1, HN.out.2]; rfl, by rw [HN.out.1]; exact HE1.out, HB1.out⟩
  have hbe : (s.data.toList == noneT) = false := beq_eq_false_iff_ne.2 hn
  have HNN := Lib.hid hn
  clear hn
  by_cases hlen : s.size ≤ 120
  rotate_left
  · have HN := Lib.hid (pr_none (l := s.data.toList) (by rw [pI_eq]; unfold pS; rw [if_neg HNN.out, if_pos (by rw [size_list]; omega)]))
    have hl2 : (120 : Int) < (s.size : Int) := by omega
    clear hlen
    go_enter Tryz.func20, Tryz.ntmps20
    go_wp2_with fail
    refine C0.out.mono ?_
    rintro e w1 ⟨rfl, b1⟩
    have HE1 := Lib.hid (HE.out.keep b1)
    have HB1 := Lib.hid (bel.out.trans (b1.mono (by omega)))
    clear b1 HE bel
    go_wp2
    go_ret2
    exact ⟨_, 0, by rw [HN.out.1, HN.out.2]; rfl, by rw [HN.out.1]; exact HE1.out, HB1.out⟩
  have hl2 : ¬ (120 : Int) < (s.size : Int) := by omega
  go_enter Tryz.func20, Tryz.ntmps20
  go_wp2_with fail
  refine C0.out.mono ?_
  rintro e w1 ⟨rfl, b1⟩
  have HE1 := Lib.hid (HE.out.keep b1)
  have HB1 := Lib.hid (bel.out.trans (b1.mono (by omega)))
  have s1 : w.heap.size < w1.heap.size := Nat.lt_of_lt_of_le s0 b1.size
  have C1 := c_l1Split s 44 w1 (by omega)
  have e44 : ((44 : UInt8).toNat : Int) = 44 := rfl
  rw [e44] at C1
  have HC1 := Lib.hid C1
  clear b1 HE bel C1 e44 s0 C0
  go_wp2_with fail
  refine HC1.out.mono ?_
  rintro e w2 ⟨Ap, cp, rfl, o1, b1⟩
  have hpl := spl_len_le 44 s.data.toList
  have HPE := Lib.hid (spl_elem_le 44 s.data.toList)
  have hsl : s.data.toList.length ≤ 120 := by rw [size_list]; exact hlen
  have HIN : Hid (pI s.data.toList = chkP s.data.toList (allO partS (spl 44 s.data.toList))) := Lib.hid (by rw [pI_eq]; unfold pS; rw [if_neg HNN.out, if_neg (by omega)])
  have hpp := spl_pos 44 s.data.toList
  generalize spl 44 s.data.toList = ps at *
  obtain ⟨gp, rfl, hgp⟩ := own_head o1 hpp
  have S : Hid (PrW w (some ⟨gp, 0, none⟩) cp ps (some ⟨w.heap.size, 0, none⟩) 0 [] w2) := Lib.hid ⟨own_base o1 (by omega), HE1.out.keep b1, fun k hk e => by simp [ownB] at hk e; omega, HB1.out.trans (b1.mono (by omega))⟩
  clear o1 b1 HC1 HNN HE1 HB1 hgp
  go_wp2
  go_loopw [4, 6] (fun v i wr => ∃ (k : Nat) (L : List (Int × Int)) (A1 : Option Addr) (c1 : Nat), k ≤ ps.length ∧ i = .int .i64 k ∧ v = .slice A1 L.length c1 ∧ Hid (allO partS (ps.take k) = some L) ∧ Hid (PrW w (some ⟨gp, 0, none⟩) cp ps A1 c1 L wr)) (fun _ i _ => ps.length - (intOf i).toNat)
  case atStart => exact ⟨0, [], _, 0, Nat.zero_le _, rfl, rfl, Lib.hid rfl, S⟩
  case round =>
    clear S
    obtain ⟨k, L, A1, c1, hk, rfl, rfl, HV, HS⟩ := hrel
    have hLl : L.length ≤ k := by have := allO_len HV.out; rw [List.length_take] at this; omega
    have hsz := HS.out.bel.size
    by_cases hlt : k < ps.length
    · have hc : wr.cell? ⟨gp, k, none⟩ = some (.string (str (ps.getD k []))) := (World.ownsRow.cellAt HS.out.parts k (by omega)).trans (scells_get ps k hlt)
      have hi : (k : Int) < (ps.length : Int) := by omega
      have hxk : ps.getD k [] = ps[k] := by simp [hlt]
      rw [hxk] at hc
      have hxl := HPE.out ps[k] (List.getElem_mem hlt)
      have HT := Lib.hid (allO_take hlt HV.out)
      have HST := Lib.hid (fun hn => allO_stop (f := partS) hlt hn)
      clear hxk HPE
      generalize ps[k] = x at *
      have CC := c_l1Split (str x) 45 wr (by rw [str_size]; omega)
      have e45 : ((45 : UInt8).toNat : Int) = 45 := rfl
      rw [list_str, e45] at CC
      clear e45
      have hel := spl_len_le 45 x
      have hep := spl_pos 45 x
      have HEE := Lib.hid (spl_elem_le 45 x)
      have HPT : Hid (partS x = pairO (readI ((spl 45 x).headD [])) (readI ((spl 45 x).getLastD []))) := Lib.hid rfl
      generalize spl 45 x = es at *
      obtain ⟨m, hm⟩ : ∃ m, es.length = m + 1 := ⟨es.length - 1, by omega⟩
      rw [hm] at CC
      have HL0 := Lib.hid (scells_head hep)
      have HL1 := Lib.hid (scells_last hm)
      have hle0 : (es.headD []).length ≤ x.length := by
        cases es with
        | nil => simp at hep
        | cons a t => exact HEE.out a (by simp)
      have hle1 : (es.getLastD []).length ≤ x.length := by
        cases es with
        | nil => simp at hep
        | cons a t => exact HEE.out _ (by simp only [List.getLastD_cons]; exact List.getLastD_mem_cons)
      have hm121 : m ≤ 121 := by omega
      have HMM := Lib.hid hm
      clear HEE hep hel hm
      obtain ⟨a, ha⟩ : ∃ a, a = es.headD [] := ⟨_, rfl⟩
      obtain ⟨b, hb⟩ : ∃ b, b = es.getLastD [] := ⟨_, rfl⟩
      rw [← ha, ← hb] at HPT
      rw [← ha] at HL0 hle0
      rw [← hb] at HL1 hle1
      clear ha hb
      have HCC := Lib.hid CC
      clear CC
      have CA := fun W => Lib.hid (c_l1Read (str a) W (by rw [str_size]; omega))
      have CB := fun W => Lib.hid (c_l1Read (str b) W (by rw [str_size]; omega))
      simp only [list_str] at CA CB
      have hj1 : (m : Int) < (m : Int) + 1 := by omega
      have hw1 := IntWalk.i64_in (m : Int) (by omega)
      go_wp2_with fail
      refine HCC.out.mono ?_
      rintro e w3 ⟨Ae, ce, rfl, oe, be⟩
      obtain ⟨ge, rfl, hge⟩ := own_head oe (by rw [HMM.out]; omega)
      have j0 : w3.cell? ⟨ge, 0, none⟩ = some (.string (str a)) := (World.ownsRow.cellAt oe 0 (by rw [HMM.out]; omega)).trans HL0.out
      have j1 : w3.cell? ⟨ge, m, none⟩ = some (.string (str b)) := (World.ownsRow.cellAt oe m (by rw [HMM.out]; omega)).trans HL1.out
      have HS3 := Lib.hid (HS.out.keep be)
      clear oe be HS hc HCC
      cases ra : readI a with
      | none =>
        have HN := Lib.hid (pr_none (pr_stopS HIN.out (HST.out (HPT.out.trans (by rw [ra]; rfl)))))
        obtain ⟨z1, z2⟩ := rd_none ra
        simp only [z1, z2] at CA
        clear ra z1 z2 HT HST HPT HV HIN
        go_wp2_with fail
        refine (CA _).out.mono ?_
        rintro e _ ⟨rfl, q1, rfl⟩
        go_wp2_with fail
        refine (CB _).out.mono ?_
        rintro e _ ⟨rfl, q2, rfl⟩
        have HE4 := Lib.hid (OwnR.empty (w3.drewN (q1 + q2)) w.heap.size (HS3.out.bel.size))
        have HB4 := Lib.hid (((HS3.out.drewN (q1 + q2)).push (.cells #[] 47)).bel)
        clear HS3
        go_wp2
        go_ret2
        exact ⟨_, 0, by rw [HN.out.1, HN.out.2]; rfl, by rw [HN.out.1]; exact HE4.out, HB4.out⟩
      | some r1 =>
      obtain ⟨z1, z2⟩ := rd_some ra
      simp only [z1, z2] at CA
      cases rb : readI b with
      | none =>
        have HN := Lib.hid (pr_none (pr_stopS HIN.out (HST.out (HPT.out.trans (by rw [ra, rb]; rfl)))))
        obtain ⟨y1, y2⟩ := rd_none rb
        simp only [y1, y2] at CB
        clear ra rb z1 z2 y1 y2 HT HST HPT HV HIN
        go_wp2_with fail
        refine (CA _).out.mono ?_
        rintro e _ ⟨rfl, q1, rfl⟩
        go_wp2_with fail
        refine (CB _).out.mono ?_
        rintro e _ ⟨rfl, q2, rfl⟩
        have HE4 := Lib.hid (OwnR.empty (w3.drewN (q1 + q2)) w.heap.size (HS3.out.bel.size))
        have HB4 := Lib.hid (((HS3.out.drewN (q1 + q2)).push (.cells #[] 47)).bel)
        clear HS3
        go_wp2
        go_ret2
        exact ⟨_, 0, by rw [HN.out.1, HN.out.2]; rfl, by rw [HN.out.1]; exact HE4.out, HB4.out⟩
      | some r2 =>
        obtain ⟨y1, y2⟩ := rd_some rb
        simp only [y1, y2] at CB
        have HN : Hid (allO partS (ps.take (k + 1)) = some (L ++ [(r1, r2)])) := Lib.hid (by rw [HT.out, HPT.out, ra, rb]; rfl)
        clear ra rb z1 z2 y1 y2 HT HST HPT HV HIN
        go_wp2_with fail
        refine (CA _).out.mono ?_
        rintro e _ ⟨rfl, q1, rfl⟩
        go_wp2_with fail
        refine (CB _).out.mono ?_
        rintro e _ ⟨rfl, q2, rfl⟩
        go_wp2_with (at_builtin; refine wpList_appR_at _ rfl _ _ rfl w.heap.size A1 c1 L rfl ((HS3.out.drewN _).push _).out (r1, r2) _ rfl (two_cells_at _ _ _ _ _ (by simp)).1 (two_cells_at _ _ _ _ _ (by simp)).2 (by omega) ((HS3.out.drewN _).push _).bel.size ?_; intro A4 c4 w4 o4 g4 t4)
        have HS4 := Lib.hid (((HS3.out.drewN _).push _).next o4 g4 t4)
        clear o4 g4 t4 HS3 j0 j1
        go_wp2
        go_roundw
        case rel => exact ⟨k + 1, L ++ [(r1, r2)], A4, c4, by omega, by go_num, by simp, HN, HS4⟩
        case measure => simp [intOf]; omega
    · obtain rfl : k = ps.length := by omega
      have HV2 : Hid (pI s.data.toList = chkP s.data.toList (some L)) := Lib.hid (by
        have := HV.out
        rw [List.take_length] at this
        rw [HIN.out, this])
      have C2 := Lib.hid (c_l5Good A1 c1 L wr HS.out.out.rngs (Nat.le_refl _) (by omega))
      clear HV HIN HPE
      cases g0 : setB L
      · have HN := Lib.hid (pr_none (l := s.data.toList) (by rw [HV2.out]; simp [chkP, g0]))
        rw [g0] at C2
        clear HV2 g0
        go_wp2_with fail
        refine C2.out.mono ?_
        rintro e w2 ⟨rfl, b2⟩
        have HS2 := Lib.hid (HS.out.keep b2)
        have HE4 := Lib.hid (OwnR.empty w2 w.heap.size (HS2.out.bel.size))
        have HB4 := Lib.hid ((HS2.out.push (.cells #[] 47)).bel)
        clear b2
        go_wp2
        go_ret2
        exact ⟨_, 0, by rw [HN.out.1, HN.out.2]; rfl, by rw [HN.out.1]; exact HE4.out, HB4.out⟩
      have hgd := setB_good.1 g0
      have HWR := Lib.hid (WordsR.of (goodR_word hgd))
      have hl10 := hgd.2
      rw [g0] at C2
      have e3 := Lib.toList_data (str (setT L))
      rw [list_str] at e3
      by_cases ht : setT L = s.data.toList
      · have HN := Lib.hid (pr_some (l := s.data.toList) (rs := L) (by rw [HV2.out]; simp [chkP, g0, ht]))
        have hbe2 : (setT L == s.data.toList) = true := beq_iff_eq.2 ht
        clear HV2 g0 ht hgd
        go_wp2_with fail
        refine C2.out.mono ?_
        rintro e w2 ⟨rfl, b2⟩
        have HS2 := Lib.hid (HS.out.keep b2)
        clear b2 HS C2
        go_wp2_with fail
        refine (c_l5Text A1 c1 L w2 HS2.out.out.rngs (Nat.le_refl _) (by omega) HWR.out).mono ?_
        rintro e w3 ⟨rfl, b3⟩
        have HS3 := Lib.hid (HS2.out.keep b3)
        clear b3 HS2
        go_wp2
        go_ret2
        exact ⟨A1, c1, by rw [HN.out.1, HN.out.2]; rfl, by rw [HN.out.1]; exact HS3.out.out, HS3.out.bel⟩
      · have HN := Lib.hid (pr_none (l := s.data.toList) (by rw [HV2.out]; simp [chkP, g0, ht]))
        have hbe2 : (setT L == s.data.toList) = false := beq_eq_false_iff_ne.2 ht
        clear HV2 g0 ht hgd
        go_wp2_with fail
        refine C2.out.mono ?_
        rintro e w2 ⟨rfl, b2⟩
        have HS2 := Lib.hid (HS.out.keep b2)
        clear b2 HS C2
        go_wp2_with fail
        refine (c_l5Text A1 c1 L w2 HS2.out.out.rngs (Nat.le_refl _) (by omega) HWR.out).mono ?_
        rintro e w3 ⟨rfl, b3⟩
        have HS3 := Lib.hid (HS2.out.keep b3)
        have HE4 := Lib.hid (OwnR.empty w3 w.heap.size (HS3.out.bel.size))
        have HB4 := Lib.hid ((HS3.out.push (.cells #[] 47)).bel)
        clear b3 HS2
        go_wp2
        go_ret2
        exact ⟨_, 0, by rw [HN.out.1, HN.out.2]; rfl, by rw [HN.out.1]; exact HE4.out, HB4.out⟩
end Go.Proofs.YtlammcoiaeodfaaGreatDoor
