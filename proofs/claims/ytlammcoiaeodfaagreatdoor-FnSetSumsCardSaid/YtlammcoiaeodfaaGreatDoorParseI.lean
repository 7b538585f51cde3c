/- Sets' texts, read by the program. -/
import Derived.Test.YtlammcoiaeodfaaGreatDoorParse
namespace Go.Proofs.YtlammcoiaeodfaaGreatDoor
open Go.RowKit
set_option linter.unusedVariables false
set_option maxRecDepth 100000

theorem str_none : str noneT = ⟨#[110, 111, 110, 101]⟩ := rfl
theorem cut_len (x : List UInt8) (b : UInt8) : (Lib.cut x [b]).1.length ≤ x.length ∧ (Lib.cut x [b]).2.1.length ≤ x.length := by
  rcases cut_cases b x with h | ⟨p, r, rfl, h⟩
  · rw [cut_miss h]
    simp
  · rw [cut_at r h]
    simp
    omega
theorem strs_new (w : World) (xs : List (List UInt8)) : Strs (w.alloc (.cells (scells xs).toArray 9)) (w.heap.size + 1) (some ⟨w.heap.size, 0, none⟩) xs := fun hn => by
  refine ⟨_, rfl, Nat.lt_succ_self _, fun j u hu => ?_⟩
  rw [add_lit]
  simp [go_sem]
  exact hu
/-- The two ends of a part, read. -/
theorem prw_ints {B : Nat} {w wr : World} {Ap A1 : Option Addr} {cp c1 : Nat} {ps : List (List UInt8)} {L : List (Int × Int)} (h : PrW w Ap cp ps A1 c1 L wr) (hp : PowW w B) (hE : ErrW w B) (hB : B ≤ w.heap.size) (q : Nat) (f t : List UInt8) (hf : f.length ≤ 10000000) (ht : t.length ≤ 10000000) :
    Calls Tryz.prog 37 #[.slice (some ⟨wr.heap.size, 0, none⟩) 2 2] ((wr.drewN q).alloc (.cells #[.string (str f), .string (str t)] 9)) fun e w' => ∃ A' cap', e = .returned (.tuple #[.slice A' ((allO readI [f, t]).getD []).length cap', .bool (allO readI [f, t]).isSome]) ∧ OwnI w' (wr.heap.size + 1) A' cap' ((allO readI [f, t]).getD []) ∧ PrW w Ap cp ps A1 c1 L w' := by
  have h2 := (h.drewN q).push (.cells #[.string (str f), .string (str t)] 9)
  have hsz := h.bel.size
  have C := c_parseInts (some ⟨wr.heap.size, 0, none⟩) 2 [f, t] ((wr.drewN q).alloc (.cells #[.string (str f), .string (str t)] 9)) (hp.keep h2.bel hB) (hE.keep h2.bel hB) (by simp; omega) (strs_new (wr.drewN q) [f, t]) (by simp) (fun x hx => by
    simp at hx
    rcases hx with rfl | rfl
    · exact hf
    · exact ht) (by simp)
  refine C.mono ?_
  rintro e w' ⟨A', c', he, o, b⟩
  exact ⟨A', c', he, o.base (by simp), h2.keep b⟩
theorem pr_stop {l : List UInt8} {ps : List (List UInt8)} (hi : pI l = chkP l (allO partI ps)) (h : allO partI ps = none) : pI l = none := by rw [hi, h]; rfl
set_option maxHeartbeats 4000000 in
theorem c_implParseSet {B : Nat} (s : ByteArray) (w : World) (hp : PowW w B) (hE : ErrW w B) (hm : MaxW w B) (hB : B ≤ w.heap.size) (hs : s.size ≤ 1100000) :
    Calls Tryz.prog 18 #[.string s] w fun e w' => ∃ A cap, e = .returned (.tuple #[.slice A (prL s.data.toList).length cap, .bool (prOk s.data.toList)]) ∧ OwnR w' w.heap.size A cap (prL s.data.toList) ∧ Below w.heap.size w w' := by
  by_cases hn : s.data.toList = noneT
  · obtain rfl : s = str noneT := by rw [← hn, str_list]
    obtain ⟨e1, e2⟩ := pr_some (l := (str noneT).data.toList) (rs := []) (by rw [list_str]; rfl)
    rw [e1, e2, str_none]
    clear hp hE hm
    go_enter Tryz.func18, Tryz.ntmps18
    go_wp2
    go_ret2
    exact ⟨none, 0, rfl, OwnR.nil _ _, Below.refl _ _⟩
  have hbe : (s.data.toList == [110, 111, 110, 101]) = false := beq_eq_false_iff_ne.2 hn
  have e1 := Lib.toList_data s
  have HP := Lib.hid hp
  have HE := Lib.hid hE
  have HM := Lib.hid hm
  have C1 := Lib.hid (c_split s 44 w hm (by omega))
  have HNN := Lib.hid hn
  clear hp hE hm hn
  go_enter Tryz.func18, Tryz.ntmps18
  go_wp2_with fail
  refine C1.out.mono ?_
  rintro e w1 ⟨Ap, cp, rfl, o1, b1⟩
  have hpl := spl_len_le 44 s.data.toList
  have HPE := Lib.hid (spl_elem_le 44 s.data.toList)
  have hsl : s.data.toList.length ≤ 1100000 := by rw [size_list]; exact hs
  have HIN : Hid (pI s.data.toList = chkP s.data.toList (allO partI (spl 44 s.data.toList))) := Lib.hid (by unfold pI; rw [if_neg HNN.out])
  generalize spl 44 s.data.toList = ps at *
  have S : Hid (PrW w Ap cp ps none 0 [] w1) := Lib.hid ⟨o1, OwnR.nil _ _, fun k hk => (by simp [ownB] at hk), b1⟩
  clear o1 b1 C1 HNN
  go_wp2
  go_loopw [4, 17] (fun v i wr => ∃ (k : Nat) (L : List (Int × Int)) (A1 : Option Addr) (c1 : Nat), k ≤ ps.length ∧ i = .int .i64 k ∧ v = .slice A1 L.length c1 ∧ Hid (allO partI (ps.take k) = some L) ∧ Hid (PrW w Ap cp ps A1 c1 L wr)) (fun _ i _ => ps.length - (intOf i).toNat)
  case atStart => exact ⟨0, [], none, 0, Nat.zero_le _, rfl, rfl, Lib.hid rfl, S⟩
  case round =>
    clear S
    obtain ⟨k, L, A1, c1, hk, rfl, rfl, HV, HS⟩ := hrel
    have hLl : L.length ≤ k := by have := allO_len HV.out; rw [List.length_take] at this; omega
    have hsz := HS.out.bel.size
    by_cases hlt : k < ps.length
    · obtain ⟨ad, hAp, hadb, hc⟩ := HS.out.parts.strs.at_ hlt
      have hi : (k : Int) < (ps.length : Int) := by omega
      subst hAp
      have hxk : ps.getD k [] = ps[k] := by simp [hlt]
      rw [hxk] at hc
      have hxl := HPE.out ps[k] (List.getElem_mem hlt)
      have HT := Lib.hid (allO_take hlt HV.out)
      have HST := Lib.hid (fun hn => allO_stop (f := partI) hlt hn)
      clear hxk HPE
      generalize ps[k] = x at *
      have CC := c_cut (str x) 45 wr (HM.out.keep HS.out.bel hB) (by rw [str_size]; omega)
      rw [list_str] at CC
      obtain ⟨hf1, hf2⟩ := cut_len x 45
      have HPT : Hid (partI x = pairO (readI (Lib.cut x [45]).1) (readI (if (Lib.cut x [45]).2.2 then (Lib.cut x [45]).2.1 else (Lib.cut x [45]).1))) := Lib.hid rfl
      generalize Lib.cut x [45] = q at *
      obtain ⟨f, t, both⟩ := q
      simp only at CC hf1 hf2 HPT
      have HCC := Lib.hid CC
      clear CC
      cases both
      · go_wp2_with fail
        refine HCC.out.mono ?_
        rintro e w2 ⟨rfl, n2, rfl⟩
        have CP := Lib.hid (prw_ints HS.out HP.out HE.out hB n2 f f (by omega) (by omega))
        have HPT2 : Hid (partI x = pairO (readI f) (readI f)) := Lib.hid HPT.out
        rw [allO2] at CP
        clear HPT HCC HM
        cases hpr : pairO (readI f) (readI f) with
        | none =>
          rw [hpr] at CP
          have HN := Lib.hid (pr_none (pr_stop HIN.out (HST.out (HPT2.out.trans hpr))))
          clear hpr hc HT HST HPT2 HV HIN
          go_wp2_with fail
          refine CP.out.mono ?_
          rintro e w3 ⟨A3, c3, rfl, _, h3⟩
          have HS3 := Lib.hid h3
          clear h3 CP
          go_wp2
          go_ret2
          exact ⟨none, 0, by rw [HN.out.1, HN.out.2]; rfl, by rw [HN.out.1]; exact OwnR.nil _ _, HS3.out.bel⟩
        | some r =>
          obtain ⟨r1, r2⟩ := r
          rw [hpr] at CP
          have HN : Hid (allO partI (ps.take (k + 1)) = some (L ++ [(r1, r2)])) := Lib.hid (by rw [HT.out, HPT2.out, hpr])
          clear hpr hc HT HST HPT2 HV HIN
          go_wp2_with fail
          refine CP.out.mono ?_
          rintro e w3 ⟨A3, c3, rfl, o3, h3⟩
          obtain ⟨g, rfl, hg⟩ := own_head o3 (by simp)
          have hc0 : w3.cell? ⟨g, 0, none⟩ = some (.int .i64 r1) := World.ownsRow.cellAt o3 0 (by simp)
          have hc1 : w3.cell? ⟨g, 1, none⟩ = some (.int .i64 r2) := World.ownsRow.cellAt o3 1 (by simp)
          have hgl : g < w3.heap.size := (World.ownsRow.lt o3 g rfl).2
          have HS3 := Lib.hid h3
          have hAo : Hid (ownB A1 ≠ some g) := Lib.hid (fun e => by
            have := (World.ownsRow.lt HS.out.out g (by rw [ownB_eq]; exact e)).2
            omega)
          have hs3 := HS3.out.bel.size
          clear o3 h3 CP HS
          go_wp2_with fail
          go_region_held3 (fun W => W.cell? ⟨g, 0, none⟩ = some (.int .i64 r1) ∧ W.cell? ⟨g, 1, none⟩ = some (.int .i64 r2)) (refine ⟨?_, ?_⟩ <;> first | assumption | go_keep)
            (first
              | (refine step_appR_at _ (by rfl) _ _ (by rfl) w.heap.size A1 c1 L (by rfl) ((HS3.out.drew).push _).out (r1, r2) _ (by rfl) (two_cells_at _ _ _ _ _ (by simp)).1 (two_cells_at _ _ _ _ _ (by simp)).2 (by omega) ((HS3.out.drew).push _).bel.size ?_; intro A4 c4 w4 o4 g4 t4; have k0 : w4.cell? ⟨g, 0, none⟩ = some (.int .i64 r1) := (g4.cell_far ⟨g, 0, none⟩ (by simp; omega) (fun e => hAo.out e.symm)).trans ((World.cell?_alloc_lt _ _ _ (by simp; omega)).trans hc0); have k1 : w4.cell? ⟨g, 1, none⟩ = some (.int .i64 r2) := (g4.cell_far ⟨g, 1, none⟩ (by simp; omega) (fun e => hAo.out e.symm)).trans ((World.cell?_alloc_lt _ _ _ (by simp; omega)).trans hc1)))
          have HS4 := Lib.hid (((HS3.out.drew).push _).next o4 g4 t4)
          clear o4 g4 t4 k0 k1 hc0 hc1 HS3 hAo
          go_wp2
          go_roundw
          case rel => exact ⟨k + 1, L ++ [(r1, r2)], A4, c4, by omega, by go_num, by simp, HN, HS4⟩
          case measure => simp [intOf]; omega
      · go_wp2_with fail
        refine HCC.out.mono ?_
        rintro e w2 ⟨rfl, n2, rfl⟩
        have CP := Lib.hid (prw_ints HS.out HP.out HE.out hB n2 f t (by omega) (by omega))
        have HPT2 : Hid (partI x = pairO (readI f) (readI t)) := Lib.hid HPT.out
        rw [allO2] at CP
        clear HPT HCC HM
        cases hpr : pairO (readI f) (readI t) with
        | none =>
          rw [hpr] at CP
          have HN := Lib.hid (pr_none (pr_stop HIN.out (HST.out (HPT2.out.trans hpr))))
          clear hpr hc HT HST HPT2 HV HIN
          go_wp2_with fail
          refine CP.out.mono ?_
          rintro e w3 ⟨A3, c3, rfl, _, h3⟩
          have HS3 := Lib.hid h3
          clear h3 CP
          go_wp2
          go_ret2
          exact ⟨none, 0, by rw [HN.out.1, HN.out.2]; rfl, by rw [HN.out.1]; exact OwnR.nil _ _, HS3.out.bel⟩
        | some r =>
          obtain ⟨r1, r2⟩ := r
          rw [hpr] at CP
          have HN : Hid (allO partI (ps.take (k + 1)) = some (L ++ [(r1, r2)])) := Lib.hid (by rw [HT.out, HPT2.out, hpr])
          clear hpr hc HT HST HPT2 HV HIN
          go_wp2_with fail
          refine CP.out.mono ?_
          rintro e w3 ⟨A3, c3, rfl, o3, h3⟩
          obtain ⟨g, rfl, hg⟩ := own_head o3 (by simp)
          have hc0 : w3.cell? ⟨g, 0, none⟩ = some (.int .i64 r1) := World.ownsRow.cellAt o3 0 (by simp)
          have hc1 : w3.cell? ⟨g, 1, none⟩ = some (.int .i64 r2) := World.ownsRow.cellAt o3 1 (by simp)
          have hgl : g < w3.heap.size := (World.ownsRow.lt o3 g rfl).2
          have HS3 := Lib.hid h3
          have hAo : Hid (ownB A1 ≠ some g) := Lib.hid (fun e => by
            have := (World.ownsRow.lt HS.out.out g (by rw [ownB_eq]; exact e)).2
            omega)
          have hs3 := HS3.out.bel.size
          clear o3 h3 CP HS
          go_wp2_with fail
          go_region_held3 (fun W => W.cell? ⟨g, 0, none⟩ = some (.int .i64 r1) ∧ W.cell? ⟨g, 1, none⟩ = some (.int .i64 r2)) (refine ⟨?_, ?_⟩ <;> first | assumption | go_keep)
            (first
              | (refine step_appR_at _ (by rfl) _ _ (by rfl) w.heap.size A1 c1 L (by rfl) ((HS3.out.drew).push _).out (r1, r2) _ (by rfl) (two_cells_at _ _ _ _ _ (by simp)).1 (two_cells_at _ _ _ _ _ (by simp)).2 (by omega) ((HS3.out.drew).push _).bel.size ?_; intro A4 c4 w4 o4 g4 t4; have k0 : w4.cell? ⟨g, 0, none⟩ = some (.int .i64 r1) := (g4.cell_far ⟨g, 0, none⟩ (by simp; omega) (fun e => hAo.out e.symm)).trans ((World.cell?_alloc_lt _ _ _ (by simp; omega)).trans hc0); have k1 : w4.cell? ⟨g, 1, none⟩ = some (.int .i64 r2) := (g4.cell_far ⟨g, 1, none⟩ (by simp; omega) (fun e => hAo.out e.symm)).trans ((World.cell?_alloc_lt _ _ _ (by simp; omega)).trans hc1)))
          have HS4 := Lib.hid (((HS3.out.drew).push _).next o4 g4 t4)
          clear o4 g4 t4 k0 k1 hc0 hc1 HS3 hAo
          go_wp2
          go_roundw
          case rel => exact ⟨k + 1, L ++ [(r1, r2)], A4, c4, by omega, by go_num, by simp, HN, HS4⟩
          case measure => simp [intOf]; omega
    · obtain rfl : k = ps.length := by omega
      have HV2 : Hid (pI s.data.toList = chkP s.data.toList (some L)) := Lib.hid (by
        have := HV.out
        rw [List.take_length] at this
        rw [HIN.out, this])
      have C2 := Lib.hid (c_isRangeSet A1 c1 L wr HS.out.out.rngs (Nat.le_refl _) (by omega))
      clear HV HIN HPE HM
      cases g0 : setB L
      · have HN := Lib.hid (pr_none (l := s.data.toList) (by rw [HV2.out]; simp [chkP, g0]))
        rw [g0] at C2
        clear HV2 g0
        go_wp2_with fail
        refine C2.out.mono ?_
        rintro e w2 ⟨rfl, b2⟩
        have HB2 := Lib.hid (HS.out.keep b2).bel
        clear b2
        go_wp2
        go_ret2
        exact ⟨none, 0, by rw [HN.out.1, HN.out.2]; rfl, by rw [HN.out.1]; exact OwnR.nil _ _, HB2.out⟩
      have hgd := setB_good.1 g0
      have HWR := Lib.hid (WordsR.of (goodR_word hgd))
      have hl10 := hgd.2
      rw [g0] at C2
      have e3 := Lib.toList_data (str (setT L))
      rw [list_str] at e3
      by_cases ht : setT L = s.data.toList
      · have HN := Lib.hid (pr_some (l := s.data.toList) (rs := L) (by rw [HV2.out]; simp [chkP, g0, ht]))
        have hbe2 : (setT L == s.data.toList) = true := beq_iff_eq.2 ht
        clear HV2 g0 ht hgd
        go_wp2_with fail
        refine C2.out.mono ?_
        rintro e w2 ⟨rfl, b2⟩
        have HS2 := Lib.hid (HS.out.keep b2)
        clear b2 HS C2
        go_wp2_with fail
        refine (c_setText A1 c1 L w2 (HP.out.keep HS2.out.bel hB) (Nat.le_trans hB HS2.out.bel.size) HS2.out.out.rngs (Nat.le_refl _) (by omega) HWR.out).mono ?_
        rintro e w3 ⟨rfl, b3⟩
        have HS3 := Lib.hid (HS2.out.keep b3)
        clear b3 HS2
        go_wp2
        go_ret2
        exact ⟨A1, c1, by rw [HN.out.1, HN.out.2]; rfl, by rw [HN.out.1]; exact HS3.out.out, HS3.out.bel⟩
      · have HN := Lib.hid (pr_none (l := s.data.toList) (by rw [HV2.out]; simp [chkP, g0, ht]))
        have hbe2 : (setT L == s.data.toList) = false := beq_eq_false_iff_ne.2 ht
        clear HV2 g0 ht hgd
        go_wp2_with fail
        refine C2.out.mono ?_
        rintro e w2 ⟨rfl, b2⟩
        have HS2 := Lib.hid (HS.out.keep b2)
        clear b2 HS C2
        go_wp2_with fail
        refine (c_setText A1 c1 L w2 (HP.out.keep HS2.out.bel hB) (Nat.le_trans hB HS2.out.bel.size) HS2.out.out.rngs (Nat.le_refl _) (by omega) HWR.out).mono ?_
        rintro e w3 ⟨rfl, b3⟩
        have HS3 := Lib.hid (HS2.out.keep b3)
        clear b3 HS2
        go_wp2
        go_ret2
        exact ⟨none, 0, by rw [HN.out.1, HN.out.2]; rfl, by rw [HN.out.1]; exact OwnR.nil _ _, HS3.out.bel⟩
end Go.Proofs.YtlammcoiaeodfaaGreatDoor
