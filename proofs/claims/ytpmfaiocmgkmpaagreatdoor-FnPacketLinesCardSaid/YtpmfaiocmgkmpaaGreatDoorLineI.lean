/- The program's ParsePacketLine. -/
import Derived.Test.YtpmfaiocmgkmpaaGreatDoorLineLaw
import Derived.Test.YtpmfaiocmgkmpaaGreatDoorRes
namespace Go.Proofs.YtpmfaiocmgkmpaaGreatDoor
open Go.RowKit
open Go.Lib (itoa)
set_option linter.unusedVariables false
set_option maxRecDepth 100000

theorem ret_ix {a b : Int} (h : a = b) : Ending.returned (.int .i64 a) = .returned (.int .i64 b) := by rw [h]
theorem idxW_at {x : List UInt8} {j : Nat} (hj : j < 6) (h : ∀ m, m < j → x ≠ kwAt m) (e : x = kwAt j) : idxW x = (j : Int) := by
  subst e
  match j, hj with
  | 0, _ | 1, _ | 2, _ | 3, _ | 4, _ | 5, _ => decide
theorem idxW_not {x : List UInt8} (h : ∀ m, m < 6 → x ≠ kwAt m) : idxW x = -1 := by
  unfold idxW
  rw [if_neg (h 0 (by omega)), if_neg (h 1 (by omega)), if_neg (h 2 (by omega)), if_neg (h 3 (by omega)), if_neg (h 4 (by omega)), if_neg (h 5 (by omega))]
set_option maxHeartbeats 1000000 in
theorem c_indexKind {B : Nat} (x : List UInt8) (w : World) (hk : KindW w B) :
    Calls Tryz.prog 24 #[.slice (some ⟨0, 0, none⟩) 6 6, .string (str x)] w fun e w' => e = .returned (.int .i64 (idxW x)) ∧ w = w' := by
  have HK := Lib.hid hk
  have t1 := str_tl x
  clear hk
  go_enter Tryz.func24, Tryz.ntmps24
  go_wp2
  go_loopw [4, 5, 8] (fun s4 s5 i wr => ∃ j : Nat, j ≤ 6 ∧ i = .int .i64 j ∧ Hid (w = wr) ∧ Hid (∀ m : Nat, m < j → x ≠ kwAt m)) (fun _ _ i _ => 7 - (intOf i).toNat)
  case atStart => exact ⟨0, by omega, rfl, Lib.hid rfl, Lib.hid (fun m h => absurd h (by omega))⟩
  case round =>
    obtain ⟨j, hj, rfl, HW, HA⟩ := hrel
    by_cases hlt : j < 6
    · have hi : (j : Int) < 6 := by omega
      have hc := HK.out.1 j hlt
      rw [HW.out] at hc
      have hc1 : wr.cell? ((⟨0, 0, none⟩ : Addr).add j) = some (.string (str (kwAt j))) := by
        rw [add_lit]; simpa using hc
      have t2 := str_tl (kwAt j)
      by_cases hq : x = kwAt j
      · have HD := Lib.hid (idxW_at hlt HA.out hq)
        have hb : (x == kwAt j) = true := by rw [hq]; exact beq_self_eq_true _
        clear hq
        go_wp2
        go_ret
        exact ⟨ret_ix HD.out.symm, HW.out⟩
      · have HQ := Lib.hid hq
        have hb : (x == kwAt j) = false := beq_eq_false_iff_ne.2 hq
        clear hq
        go_wp2
        go_roundw
        case rel => exact ⟨j + 1, by omega, by go_num, HW, Lib.hid (fun m hm => by
          rcases Nat.lt_succ_iff_lt_or_eq.1 hm with h | rfl
          · exact HA.out m h
          · exact HQ.out)⟩
        case measure => simp [intOf]; omega
    · obtain rfl : j = 6 := by omega
      have HD := Lib.hid (idxW_not HA.out)
      go_wp2
      go_ret
      exact ⟨ret_ix HD.out.symm, HW.out⟩
set_option maxHeartbeats 1000000 in
theorem ppl_ints {B : Nat} {w1 : World} (hp : PowW w1 B) (hE : ErrW w1 B) (hB : B ≤ w1.heap.size) (x f g : List UInt8) (hx : x.length ≤ 10000000) (hf : f.length ≤ 10000000) (hg : g.length ≤ 10000000) (q : Nat) :
    Calls Tryz.prog 23 #[.slice (some ⟨w1.heap.size, 0, none⟩) 3 3] ((w1.drewN q).alloc (.cells #[.string (str x), .string (str f), .string (str g)] 9)) fun e w' => ∃ A' cap', e = .returned (.tuple #[.slice A' ((allO readI [x, f, g]).getD []).length cap', .bool (allO readI [x, f, g]).isSome]) ∧ OwnI w' (w1.heap.size + 1) A' cap' ((allO readI [x, f, g]).getD []) ∧ Below w1.heap.size w1 w' := by
  have b : Below w1.heap.size w1 ((w1.drewN q).alloc (.cells #[.string (str x), .string (str f), .string (str g)] 9)) := (below_dr (Below.refl _ _) q).alloc (Nat.le_refl _) _
  have hs : ((w1.drewN q).alloc (.cells #[.string (str x), .string (str f), .string (str g)] 9)).heap.size = w1.heap.size + 1 := by simp
  have C := c_parseInts (some ⟨w1.heap.size, 0, none⟩) 3 [x, f, g] ((w1.drewN q).alloc (.cells #[.string (str x), .string (str f), .string (str g)] 9)) (hp.keep b hB) (hE.keep b hB) (by rw [hs]; omega) (OwnS.lit (w1.drewN q) w1.heap.size [x, f, g] (Nat.le_refl _) (by simp)).strs (by rw [hs]; exact Nat.le_of_eq hs) (fun y hy => by
    simp at hy
    rcases hy with rfl | rfl | rfl
    · exact hx
    · exact hf
    · exact hg) (by simp)
  refine C.mono ?_
  rintro e w' ⟨A', c', he, o, b'⟩
  exact ⟨A', c', he, o.base (by rw [hs]; exact Nat.le_refl _), b.trans (b'.mono (by rw [hs]; omega))⟩
theorem cut_lenL (x : List UInt8) (b : UInt8) : (Lib.cut x [b]).1.length ≤ x.length ∧ (Lib.cut x [b]).2.1.length ≤ x.length := by
  rcases cut_cases b x with h | ⟨p, r, rfl, h⟩
  · rw [cut_miss h]
    simp
  · rw [cut_at r h]
    simp
    omega
theorem len3 {L : List Int} (h : L.length = 3) : ∃ a b c, L = [a, b, c] := by
  match L, h with
  | [a, b, c], _ => exact ⟨a, b, c, rfl⟩
set_option maxHeartbeats 16000000 in
theorem c_implParsePacketLine {B : Nat} (l : List UInt8) (w : World) (hk : KindW w B) (hp : PowW w B) (hE : ErrW w B) (hm : MaxW w B) (hB : B ≤ w.heap.size) (hl : l.length ≤ 10000000) :
    Calls Tryz.prog 7 #[.string (str l)] w fun e w' => e = .returned (.tuple #[.agg (plC l), .bool (plOk l)]) ∧ Below w.heap.size w w' := by
  have bb := Lib.hid ((Below.refl w.heap.size w).alloc (Nat.le_refl _) (.cells (pkC 0 0 0 0 []) 25))
  have KZ0 := Lib.hid (pkAt_new 0 0 0 0 [] w 25)
  have KF0 := Lib.hid (free_new w (pkC 0 0 0 0 []) 25)
  have HKI := Lib.hid hk
  have HPO := Lib.hid hp
  have HER := Lib.hid hE
  have HMX := Lib.hid hm
  have C0 := Lib.hid (c_split (str l) 32 (w.alloc (.cells (pkC 0 0 0 0 []) 25)) (hm.keep bb.out hB) (by rw [str_size]; omega))
  simp only [list_str] at C0
  clear hk hp hE hm
  unfold pkC at bb KZ0 KF0 C0
  go_enter Tryz.func7, Tryz.ntmps7
  go_wp2_with fail
  refine C0.out.mono ?_
  rintro e w1 ⟨A, cap, rfl, o1, b1⟩
  have HS := Lib.hid o1.strs
  have BW := Lib.hid (bb.out.trans (b1.mono bb.out.size))
  have KZ := Lib.hid (KZ0.out.keep b1)
  have KF := Lib.hid (show Free w.heap.size w1 from Free.keep (fun j => KF0.out j) (by simp) b1)
  clear o1 b1 bb KZ0 KF0 C0
  have CW := fun W => Lib.hid (c_within ((spl 32 l).length : Int) 4 5 W)
  have HEL := Lib.hid (spl_elem_le 32 l)
  have HCA : Hid (4 ≤ (spl 32 l).length ∧ (spl 32 l).length ≤ 5 → ∀ L, rdL l = some L → candI l = some (idxW (wP l 0), L.getD 0 0, L.getD 1 0, L.getD 2 0, fifth (spl 32 l))) := Lib.hid (fun h L e => by unfold candI; rw [if_pos h, e])
  have HCB : Hid (rdL l = none → candI l = none) := Lib.hid (fun e => by unfold candI; split <;> simp [e])
  have HW : Hid (∀ i, (spl 32 l).getD i [] = wP l i) := Lib.hid (fun i => rfl)
  have HF : Hid (fifth (spl 32 l) = if (spl 32 l).length = 5 then wP l 4 else []) := Lib.hid rfl
  have HRL : Hid (rdL l = allO readI [wP l 1, (Lib.cut (wP l 3) [45]).1, (Lib.cut (wP l 3) [45]).2.1]) := Lib.hid rfl
  have HWL : Hid (∀ i, i < (spl 32 l).length → (wP l i).length ≤ l.length) := Lib.hid (fun i hi => by
    refine spl_elem_le 32 l _ ?_
    unfold wP
    rw [List.getD_eq_getElem?_getD, List.getElem?_eq_getElem hi]
    exact List.getElem_mem _)
  by_cases hn : 4 ≤ (spl 32 l).length ∧ (spl 32 l).length ≤ 5
  rotate_left
  · have HN := Lib.hid (pl_none (l := l) (by unfold plOf candI; rw [if_neg hn]))
    have HR : Hid (inR ((spl 32 l).length : Int) 4 5 = false) := Lib.hid (inR_n (by omega))
    clear HCA HCB HW HF HRL HWL hn HEL
    generalize spl 32 l = ws at *
    go_wp2_with fail
    refine (CW _).out.mono ?_
    rw [HR.out]
    rintro e _ ⟨rfl, rfl⟩
    clear CW HR
    obtain ⟨_, z0, z1, z2, z3, z4⟩ := KZ.out
    have f0 := KF.out 0
    have f1 := KF.out 1
    have f2 := KF.out 2
    have f3 := KF.out 3
    have f4 := KF.out 4
    go_wp2_with fail
    have K9 : PkAt 0 0 0 0 [] w.heap.size (((((w1.setCell ⟨w.heap.size, 0, none⟩ (.int .i64 0)).setCell ⟨w.heap.size, 1, none⟩ (.int .i64 0)).setCell ⟨w.heap.size, 2, none⟩ (.int .i64 0)).setCell ⟨w.heap.size, 3, none⟩ (.int .i64 0)).setCell ⟨w.heap.size, 4, none⟩ (.string ⟨#[]⟩)) := KZ.out.set5 0 0 0 0 []
    have B9 : Below w.heap.size w (((((w1.setCell ⟨w.heap.size, 0, none⟩ (.int .i64 0)).setCell ⟨w.heap.size, 1, none⟩ (.int .i64 0)).setCell ⟨w.heap.size, 2, none⟩ (.int .i64 0)).setCell ⟨w.heap.size, 3, none⟩ (.int .i64 0)).setCell ⟨w.heap.size, 4, none⟩ (.string ⟨#[]⟩)) := set5 BW.out (Nat.le_refl _) _ _ _ _ _
    generalize (((((w1.setCell ⟨w.heap.size, 0, none⟩ (.int .i64 0)).setCell ⟨w.heap.size, 1, none⟩ (.int .i64 0)).setCell ⟨w.heap.size, 2, none⟩ (.int .i64 0)).setCell ⟨w.heap.size, 3, none⟩ (.int .i64 0)).setCell ⟨w.heap.size, 4, none⟩ (.string ⟨#[]⟩)) = w9 at K9 B9 ⊢
    refine bodyPost_ret (res_ippl (ok := false) rfl rfl K9) rfl ⟨?_, B9⟩
    rw [HN.out.1, HN.out.2]
    first | done | rfl
  obtain ⟨h4, h5⟩ := hn
  have HR : Hid (inR ((spl 32 l).length : Int) 4 5 = true) := Lib.hid (by
    unfold inR
    simp only [decide_eq_true_eq]
    omega)
  replace HCA := Lib.hid (HCA.out ⟨h4, h5⟩)
  have hw0 := HWL.out 0 (by omega)
  have hw1 := HWL.out 1 (by omega)
  have hw3 := HWL.out 3 (by omega)
  have HW4 : Hid ((spl 32 l).length = 5 → (wP l 4).length ≤ l.length) := Lib.hid (fun h => HWL.out 4 (by omega))
  obtain ⟨ad, rfl, hadb, c0⟩ := HS.out.at_ (k := 0) (by omega)
  obtain ⟨_, e1, _, c1⟩ := HS.out.at_ (k := 1) (by omega)
  cases e1
  obtain ⟨_, e1, _, c3⟩ := HS.out.at_ (k := 3) (by omega)
  cases e1
  have HC4 : Hid ((spl 32 l).length = 5 → w1.cell? ⟨ad.block, ad.off + 4, none⟩ = some (.string (str (wP l 4)))) := Lib.hid (fun h => by
    obtain ⟨_, e1, _, c4⟩ := HS.out.at_ (k := 4) (by omega)
    cases e1
    rw [HW.out] at c4
    simpa [Addr.add] using c4)
  rw [HW.out] at c0 c1 c3
  have c0' := c0
  rw [add_zero'] at c0'
  replace c1 : w1.cell? ⟨ad.block, ad.off + 1, none⟩ = some (.string (str (wP l 1))) := by simpa [Addr.add] using c1
  replace c3 : w1.cell? ⟨ad.block, ad.off + 3, none⟩ = some (.string (str (wP l 3))) := by simpa [Addr.add] using c3
  have CC := Lib.hid (c_cut (str (wP l 3)) 45 w1 (HMX.out.keep BW.out hB) (by rw [str_size]; omega))
  simp only [list_str] at CC
  have hcl := cut_lenL (wP l 3) 45
  generalize (Lib.cut (wP l 3) [45]).1 = f at *
  generalize (Lib.cut (wP l 3) [45]).2.1 = g at *
  generalize (Lib.cut (wP l 3) [45]).2.2 = ok3 at *
  have CPI := fun q => Lib.hid (ppl_ints (HPO.out.keep BW.out hB) (HER.out.keep BW.out hB) (Nat.le_trans hB BW.out.size) (wP l 1) f g (by omega) (by omega) (by omega) q)
  have HAL := Lib.hid (fun L => @allO_len _ _ readI [wP l 1, f, g] L)
  generalize wP l 1 = x1 at *
  generalize wP l 3 = x3 at *
  generalize wP l 4 = x4 at *
  clear HW HWL HEL HS
  have hq3 : (3 : Int) < ((spl 32 l).length : Int) := by omega
  have hq1 : (1 : Int) < ((spl 32 l).length : Int) := by omega
  have hq0 : (0 : Int) < ((spl 32 l).length : Int) := by omega
  have HD5 : Hid (fifth (spl 32 l) = if (spl 32 l).length = 5 then x4 else []) := HF
  generalize hfi : fifth (spl 32 l) = fi at *
  clear hfi HF
  generalize hnw : (spl 32 l).length = nw at *
  clear hnw
  go_wp2_with fail
  refine (CW _).out.mono ?_
  rw [HR.out]
  rintro e _ ⟨rfl, rfl⟩
  clear CW HR
  go_wp2_with fail
  refine CC.out.mono ?_
  rintro e _ ⟨rfl, q, rfl⟩
  clear CC
  go_wp2_with fail
  refine (CPI _).out.mono ?_
  rintro e w3 ⟨A3, c3', rfl, o3, b3⟩
  have BW3 := Lib.hid (BW.out.trans (b3.mono BW.out.size))
  have KZ3 := Lib.hid (KZ.out.keep b3)
  have KF3 := Lib.hid (show Free w.heap.size w3 from Free.keep KF.out KZ.out.1 b3)
  have HI3 := Lib.hid o3.ints
  have k0 := (b3.cell (p := ad.add 0) (by rw [block_of_add]; exact hadb)).trans c0
  have k0' := (b3.cell (p := ad) hadb).trans c0'
  have HC4b : Hid (nw = 5 → w3.cell? ⟨ad.block, ad.off + 4, none⟩ = some (.string (str x4))) := Lib.hid (fun h => (b3.cell (p := ⟨ad.block, ad.off + 4, none⟩) hadb).trans (HC4.out h))
  have had3 : ad.block < w3.heap.size := Nat.lt_of_lt_of_le hadb b3.size
  clear o3 b3 CPI c0 c0' c1 c3 HC4 BW KZ KF
  have BW := BW3
  have KZ := KZ3
  have KF := KF3
  clear BW3 KZ3 KF3
  cases hr : allO readI [x1, f, g] with
  | none =>
    rw [hr] at HI3 HRL
    have HN := Lib.hid (pl_none (l := l) (by unfold plOf; rw [HCB.out HRL.out]))
    clear HCA HCB HRL hr HAL
    obtain ⟨_, z0, z1, z2, z3, z4⟩ := KZ.out
    have f0 := KF.out 0
    have f1 := KF.out 1
    have f2 := KF.out 2
    have f3 := KF.out 3
    have f4 := KF.out 4
    go_wp2_with fail
    have K9 : PkAt 0 0 0 0 [] w.heap.size (((((w3.setCell ⟨w.heap.size, 0, none⟩ (.int .i64 0)).setCell ⟨w.heap.size, 1, none⟩ (.int .i64 0)).setCell ⟨w.heap.size, 2, none⟩ (.int .i64 0)).setCell ⟨w.heap.size, 3, none⟩ (.int .i64 0)).setCell ⟨w.heap.size, 4, none⟩ (.string ⟨#[]⟩)) := KZ.out.set5 0 0 0 0 []
    have B9 : Below w.heap.size w (((((w3.setCell ⟨w.heap.size, 0, none⟩ (.int .i64 0)).setCell ⟨w.heap.size, 1, none⟩ (.int .i64 0)).setCell ⟨w.heap.size, 2, none⟩ (.int .i64 0)).setCell ⟨w.heap.size, 3, none⟩ (.int .i64 0)).setCell ⟨w.heap.size, 4, none⟩ (.string ⟨#[]⟩)) := set5 BW.out (Nat.le_refl _) _ _ _ _ _
    generalize (((((w3.setCell ⟨w.heap.size, 0, none⟩ (.int .i64 0)).setCell ⟨w.heap.size, 1, none⟩ (.int .i64 0)).setCell ⟨w.heap.size, 2, none⟩ (.int .i64 0)).setCell ⟨w.heap.size, 3, none⟩ (.int .i64 0)).setCell ⟨w.heap.size, 4, none⟩ (.string ⟨#[]⟩)) = w9 at K9 B9 ⊢
    refine bodyPost_ret (res_ippl (ok := false) rfl rfl K9) rfl ⟨?_, B9⟩
    rw [HN.out.1, HN.out.2]
    first | done | rfl
  | some L =>
    have hL := HAL.out L hr
    obtain ⟨a, b, c, rfl⟩ := len3 hL
    rw [hr] at HI3 HRL
    have HC := Lib.hid (HCA.out _ HRL.out)
    have HI4 : Hid (Ints w3 w3.heap.size A3 [a, b, c]) := Lib.hid HI3.out
    clear HCA HCB HRL hr HAL hL HI3
    obtain ⟨ai, rfl, haib, i0⟩ := HI4.out.at_ (k := 0) (by simp)
    obtain ⟨_, e1, _, i1⟩ := HI4.out.at_ (k := 1) (by simp)
    cases e1
    obtain ⟨_, e1, _, i2⟩ := HI4.out.at_ (k := 2) (by simp)
    cases e1
    have i0' := i0
    rw [add_zero'] at i0'
    replace i0 : w3.cell? (ai.add 0) = some (.int .i64 a) := i0
    replace i0' : w3.cell? ai = some (.int .i64 a) := i0'
    replace i1 : w3.cell? ⟨ai.block, ai.off + 1, none⟩ = some (.int .i64 b) := by simpa [Addr.add] using i1
    replace i2 : w3.cell? ⟨ai.block, ai.off + 2, none⟩ = some (.int .i64 c) := by simpa [Addr.add] using i2
    have HA : Hid (∀ d, fi = d → plOf l = if lineR (idxW (wP l 0)) a b c d = l then some (idxW (wP l 0), a, b, c, d) else none) := Lib.hid (fun d hd => by
      unfold plOf
      rw [HC.out, hd]
      rfl)
    have HDL : Hid (fi.length ≤ 10000000) := Lib.hid (by
      rw [HD5.out]
      split
      · next h => have := HW4.out h; omega
      · simp)
    have HIX : Hid (∀ W, Below w.heap.size w W → Calls Tryz.prog 24 #[.slice (some ⟨0, 0, none⟩) 6 6, .string (str (wP l 0))] W fun e w' => e = .returned (.int .i64 (idxW (wP l 0))) ∧ W = w') := Lib.hid (fun W b => c_indexKind (wP l 0) W (HKI.out.keep b hB))
    generalize idxW (wP l 0) = x0 at *
    generalize wP l 0 = y0 at *
    clear HC HI4
    go_upto_region 8 with fail
    go_cut [10] from 41 to 55 (fun s10 wx => s10 = .pointer (some ⟨w3.heap.size, 0, none⟩) ∧ wx = (w3.alloc (.cells #[.int .i64 x0, .int .i64 a, .int .i64 b, .int .i64 c, .string ⟨#[]⟩] 25)).drew)
    case first => as_aux_lemma =>
      have n0 : 0 < nw := by omega
      go_region_held3 (fun W => W.cell? (ad.add 0) = some (.string (str y0)) ∧ W.cell? ad = some (.string (str y0)) ∧ W.cell? (ai.add 0) = some (.int .i64 a) ∧ W.cell? ai = some (.int .i64 a) ∧ W.cell? ⟨ai.block, ai.off + 1, none⟩ = some (.int .i64 b) ∧ W.cell? ⟨ai.block, ai.off + 2, none⟩ = some (.int .i64 c)) (refine ⟨?_, ?_, ?_, ?_, ?_, ?_⟩ <;> first | assumption | go_keep)
        (first
          | (go_at_call 24; refine (HIX.out _ (by first | exact BW.out.drew | exact BW.out.drew.alloc BW.out.drew.size _ | exact (BW.out.alloc BW.out.size _).drew)).mono ?_; rintro e _ ⟨rfl, rfl⟩))
      all_goals (go_wp2_with fail; go_meet; exact ⟨rfl, rfl⟩)
    case rest => as_aux_lemma =>
      obtain ⟨rfl, hw⟩ := hcut
      have KP0 := pkAt_new x0 a b c [] w3 25
      have hs1 : w3.heap.size < wc.heap.size := by rw [hw]; simp
      have KPX : Hid (PkAt x0 a b c [] w3.heap.size wc) := Lib.hid (by
        rw [hw]
        exact KP0.keep ((Below.refl _ _).drew))
      have BP : Hid (Below w3.heap.size w3 wc) := Lib.hid (by
        rw [hw]
        exact ((Below.refl w3.heap.size w3).alloc (Nat.le_refl _) _).drew)
      have FP : Hid (Free w3.heap.size wc) := Lib.hid (by
        rw [hw]
        intro j
        simp [go_sem])
      replace KF := Lib.hid (show Free w.heap.size wc from Free.keep KF.out KZ.out.1 BP.out)
      have hwz := KZ.out.1
      replace KZ := Lib.hid (KZ.out.keep BP.out)
      have hbw := BW.out.size
      replace BW := Lib.hid (BW.out.trans (BP.out.mono BW.out.size))
      clear hw KP0 k0 k0' i0 i0' i1 i2 HIX
      by_cases hn5 : nw = 5
      · have c4 := (BP.out.cell (p := ⟨ad.block, ad.off + 4, none⟩) had3).trans (HC4b.out hn5)
        have hdl : x4.length ≤ 1000000000 := by have := HW4.out hn5; omega
        have HD6 : Hid (fi = x4) := Lib.hid (by rw [HD5.out, if_pos hn5])
        subst hn5
        obtain ⟨pb, p0, p1, p2, p3, p4⟩ := KPX.out
        have g4 := FP.out 4
        clear HC4b HW4 HD5 HDL h4 h5 hq0 hq1 hq3
        go_upto_region 11 with fail
        have KP := Lib.hid (KPX.out.set4 x4)
        have o4 : ∀ j, (wc.setCell ⟨w3.heap.size, 4, none⟩ (.string (str x4))).cell? ⟨w.heap.size, j, none⟩ = wc.cell? ⟨w.heap.size, j, none⟩ := fun j => World.cell?_setCell_other wc ⟨w3.heap.size, 4, none⟩ ⟨w.heap.size, j, none⟩ _ (by intro e; simp only [Addr.mk.injEq] at e; omega)
        have KZ5 : Hid (PkAt 0 0 0 0 [] w.heap.size (wc.setCell ⟨w3.heap.size, 4, none⟩ (.string (str x4)))) := Lib.hid (by
          obtain ⟨y0, y1, y2, y3, y4, y5⟩ := KZ.out
          exact ⟨by rw [World.size_setCell]; exact y0, (o4 0).trans y1, (o4 1).trans y2, (o4 2).trans y3, (o4 3).trans y4, (o4 4).trans y5⟩)
        have KF5 := Lib.hid (KF.out.set ⟨w3.heap.size, 4, none⟩ (.string (str x4)))
        have BW5 := Lib.hid (BW.out.setCell (p := ⟨w3.heap.size, 4, none⟩) (by show w.heap.size ≤ w3.heap.size; omega) (.string (str x4)))
        clear o4 p0 p1 p2 p3 p4 pb g4 c4 KPX FP BP KZ KF BW
        generalize wc.setCell ⟨w3.heap.size, 4, none⟩ (.string (str x4)) = w5 at *
        have KZ := KZ5
        have KF := KF5
        have BW := BW5
        clear KZ5 KF5 BW5
        obtain ⟨pb, p0, p1, p2, p3, p4⟩ := KP.out
        have CX := Lib.hid (c_implPacketLine x0 a b c x4 w5 (HKI.out.keep BW.out hB) (HPO.out.keep BW.out hB) (Nat.le_trans hB BW.out.size) hdl)
        have HA2 : Hid (plOf l = if lineR x0 a b c x4 = l then some (x0, a, b, c, x4) else none) := Lib.hid (HA.out _ HD6.out)
        generalize lineR x0 a b c x4 = E at *
        unfold pkC at CX
        go_wp2_with fail
        refine CX.out.mono ?_
        rintro e w6 ⟨rfl, b6⟩
        replace KP := Lib.hid (KP.out.keep b6)
        replace KF := Lib.hid (show Free w.heap.size w6 from Free.keep KF.out KZ.out.1 b6)
        replace KZ := Lib.hid (KZ.out.keep b6)
        replace BW := Lib.hid (BW.out.trans (b6.mono BW.out.size))
        clear b6 CX p0 p1 p2 p3 p4 pb
        obtain ⟨pb, p0, p1, p2, p3, p4⟩ := KP.out
        have t1 := str_tl E
        have t2 := str_tl l
        by_cases he : E = l
        · have hb : (E == l) = true := by rw [he]; exact beq_self_eq_true _
          have HN := Lib.hid (pl_some (HA2.out.trans (if_pos he)))
          clear he
          obtain ⟨_, z0, z1, z2, z3, z4⟩ := KZ.out
          have f0 := KF.out 0
          have f1 := KF.out 1
          have f2 := KF.out 2
          have f3 := KF.out 3
          have f4 := KF.out 4
          go_wp2_with fail
          have K9 : PkAt x0 a b c x4 w.heap.size (((((w6.setCell ⟨w.heap.size, 0, none⟩ (.int .i64 x0)).setCell ⟨w.heap.size, 1, none⟩ (.int .i64 a)).setCell ⟨w.heap.size, 2, none⟩ (.int .i64 b)).setCell ⟨w.heap.size, 3, none⟩ (.int .i64 c)).setCell ⟨w.heap.size, 4, none⟩ (.string (str x4))) := KZ.out.set5 x0 a b c x4
          have B9 : Below w.heap.size w (((((w6.setCell ⟨w.heap.size, 0, none⟩ (.int .i64 x0)).setCell ⟨w.heap.size, 1, none⟩ (.int .i64 a)).setCell ⟨w.heap.size, 2, none⟩ (.int .i64 b)).setCell ⟨w.heap.size, 3, none⟩ (.int .i64 c)).setCell ⟨w.heap.size, 4, none⟩ (.string (str x4))) := set5 BW.out (Nat.le_refl _) _ _ _ _ _
          generalize (((((w6.setCell ⟨w.heap.size, 0, none⟩ (.int .i64 x0)).setCell ⟨w.heap.size, 1, none⟩ (.int .i64 a)).setCell ⟨w.heap.size, 2, none⟩ (.int .i64 b)).setCell ⟨w.heap.size, 3, none⟩ (.int .i64 c)).setCell ⟨w.heap.size, 4, none⟩ (.string (str x4))) = w9 at K9 B9 ⊢
          refine bodyPost_ret (res_ippl (ok := true) rfl rfl K9) rfl ⟨?_, B9⟩
          rw [HN.out.1, HN.out.2]
          first | done | rfl
        · have hb : (E == l) = false := beq_eq_false_iff_ne.2 he
          have HN := Lib.hid (pl_none (HA2.out.trans (if_neg he)))
          clear he
          obtain ⟨_, z0, z1, z2, z3, z4⟩ := KZ.out
          have f0 := KF.out 0
          have f1 := KF.out 1
          have f2 := KF.out 2
          have f3 := KF.out 3
          have f4 := KF.out 4
          go_wp2_with fail
          have K9 : PkAt 0 0 0 0 [] w.heap.size (((((w6.setCell ⟨w.heap.size, 0, none⟩ (.int .i64 0)).setCell ⟨w.heap.size, 1, none⟩ (.int .i64 0)).setCell ⟨w.heap.size, 2, none⟩ (.int .i64 0)).setCell ⟨w.heap.size, 3, none⟩ (.int .i64 0)).setCell ⟨w.heap.size, 4, none⟩ (.string ⟨#[]⟩)) := KZ.out.set5 0 0 0 0 []
          have B9 : Below w.heap.size w (((((w6.setCell ⟨w.heap.size, 0, none⟩ (.int .i64 0)).setCell ⟨w.heap.size, 1, none⟩ (.int .i64 0)).setCell ⟨w.heap.size, 2, none⟩ (.int .i64 0)).setCell ⟨w.heap.size, 3, none⟩ (.int .i64 0)).setCell ⟨w.heap.size, 4, none⟩ (.string ⟨#[]⟩)) := set5 BW.out (Nat.le_refl _) _ _ _ _ _
          generalize (((((w6.setCell ⟨w.heap.size, 0, none⟩ (.int .i64 0)).setCell ⟨w.heap.size, 1, none⟩ (.int .i64 0)).setCell ⟨w.heap.size, 2, none⟩ (.int .i64 0)).setCell ⟨w.heap.size, 3, none⟩ (.int .i64 0)).setCell ⟨w.heap.size, 4, none⟩ (.string ⟨#[]⟩)) = w9 at K9 B9 ⊢
          refine bodyPost_ret (res_ippl (ok := false) rfl rfl K9) rfl ⟨?_, B9⟩
          rw [HN.out.1, HN.out.2]
          first | done | rfl
      · have hdl : ([] : List UInt8).length ≤ 1000000000 := by simp
        have HD6 : Hid (fi = []) := Lib.hid (by rw [HD5.out, if_neg hn5])
        have h5i : ¬ (nw : Int) = 5 := by omega
        have h5b : ((nw : Int) == 5) = false := by rw [beq_eq_false_iff_ne]; exact h5i
        clear HC4b HW4 HD5 HDL h4 h5 hq0 hq1 hq3
        go_upto_region 11 with fail
        have KP := KPX
        clear KPX FP BP
        obtain ⟨pb, p0, p1, p2, p3, p4⟩ := KP.out
        have CX := Lib.hid (c_implPacketLine x0 a b c [] wc (HKI.out.keep BW.out hB) (HPO.out.keep BW.out hB) (Nat.le_trans hB BW.out.size) hdl)
        have HA2 : Hid (plOf l = if lineR x0 a b c [] = l then some (x0, a, b, c, []) else none) := Lib.hid (HA.out _ HD6.out)
        generalize lineR x0 a b c [] = E at *
        unfold pkC at CX
        go_wp2_with fail
        refine CX.out.mono ?_
        rintro e w6 ⟨rfl, b6⟩
        replace KP := Lib.hid (KP.out.keep b6)
        replace KF := Lib.hid (show Free w.heap.size w6 from Free.keep KF.out KZ.out.1 b6)
        replace KZ := Lib.hid (KZ.out.keep b6)
        replace BW := Lib.hid (BW.out.trans (b6.mono BW.out.size))
        clear b6 CX p0 p1 p2 p3 p4 pb
        obtain ⟨pb, p0, p1, p2, p3, p4⟩ := KP.out
        have t1 := str_tl E
        have t2 := str_tl l
        by_cases he : E = l
        · have hb : (E == l) = true := by rw [he]; exact beq_self_eq_true _
          have HN := Lib.hid (pl_some (HA2.out.trans (if_pos he)))
          clear he
          obtain ⟨_, z0, z1, z2, z3, z4⟩ := KZ.out
          have f0 := KF.out 0
          have f1 := KF.out 1
          have f2 := KF.out 2
          have f3 := KF.out 3
          have f4 := KF.out 4
          go_wp2_with fail
          have K9 : PkAt x0 a b c [] w.heap.size (((((w6.setCell ⟨w.heap.size, 0, none⟩ (.int .i64 x0)).setCell ⟨w.heap.size, 1, none⟩ (.int .i64 a)).setCell ⟨w.heap.size, 2, none⟩ (.int .i64 b)).setCell ⟨w.heap.size, 3, none⟩ (.int .i64 c)).setCell ⟨w.heap.size, 4, none⟩ (.string (str []))) := KZ.out.set5 x0 a b c []
          have B9 : Below w.heap.size w (((((w6.setCell ⟨w.heap.size, 0, none⟩ (.int .i64 x0)).setCell ⟨w.heap.size, 1, none⟩ (.int .i64 a)).setCell ⟨w.heap.size, 2, none⟩ (.int .i64 b)).setCell ⟨w.heap.size, 3, none⟩ (.int .i64 c)).setCell ⟨w.heap.size, 4, none⟩ (.string (str []))) := set5 BW.out (Nat.le_refl _) _ _ _ _ _
          generalize (((((w6.setCell ⟨w.heap.size, 0, none⟩ (.int .i64 x0)).setCell ⟨w.heap.size, 1, none⟩ (.int .i64 a)).setCell ⟨w.heap.size, 2, none⟩ (.int .i64 b)).setCell ⟨w.heap.size, 3, none⟩ (.int .i64 c)).setCell ⟨w.heap.size, 4, none⟩ (.string (str []))) = w9 at K9 B9 ⊢
          refine bodyPost_ret (res_ippl (ok := true) rfl rfl K9) rfl ⟨?_, B9⟩
          rw [HN.out.1, HN.out.2]
          first | done | rfl
        · have hb : (E == l) = false := beq_eq_false_iff_ne.2 he
          have HN := Lib.hid (pl_none (HA2.out.trans (if_neg he)))
          clear he
          obtain ⟨_, z0, z1, z2, z3, z4⟩ := KZ.out
          have f0 := KF.out 0
          have f1 := KF.out 1
          have f2 := KF.out 2
          have f3 := KF.out 3
          have f4 := KF.out 4
          go_wp2_with fail
          have K9 : PkAt 0 0 0 0 [] w.heap.size (((((w6.setCell ⟨w.heap.size, 0, none⟩ (.int .i64 0)).setCell ⟨w.heap.size, 1, none⟩ (.int .i64 0)).setCell ⟨w.heap.size, 2, none⟩ (.int .i64 0)).setCell ⟨w.heap.size, 3, none⟩ (.int .i64 0)).setCell ⟨w.heap.size, 4, none⟩ (.string ⟨#[]⟩)) := KZ.out.set5 0 0 0 0 []
          have B9 : Below w.heap.size w (((((w6.setCell ⟨w.heap.size, 0, none⟩ (.int .i64 0)).setCell ⟨w.heap.size, 1, none⟩ (.int .i64 0)).setCell ⟨w.heap.size, 2, none⟩ (.int .i64 0)).setCell ⟨w.heap.size, 3, none⟩ (.int .i64 0)).setCell ⟨w.heap.size, 4, none⟩ (.string ⟨#[]⟩)) := set5 BW.out (Nat.le_refl _) _ _ _ _ _
          generalize (((((w6.setCell ⟨w.heap.size, 0, none⟩ (.int .i64 0)).setCell ⟨w.heap.size, 1, none⟩ (.int .i64 0)).setCell ⟨w.heap.size, 2, none⟩ (.int .i64 0)).setCell ⟨w.heap.size, 3, none⟩ (.int .i64 0)).setCell ⟨w.heap.size, 4, none⟩ (.string ⟨#[]⟩)) = w9 at K9 B9 ⊢
          refine bodyPost_ret (res_ippl (ok := false) rfl rfl K9) rfl ⟨?_, B9⟩
          rw [HN.out.1, HN.out.2]
          first | done | rfl
end Go.Proofs.YtpmfaiocmgkmpaaGreatDoor
