/- A packet read from digits, by the program. -/
import Derived.Test.YtnabiehbecojlaaDoorDecP
import Derived.Test.YtnabiehbecojlaaDoorPkS
import Derived.Test.YtnabiehbecojlaaDoorRes
import Derived.Deep.RegionHeld3
namespace Go.Proofs.YtnabiehbecojlaaDoor
open Go.RowKit
set_option linter.unusedVariables false
set_option maxRecDepth 100000

theorem dec_bad {l : List UInt8} (h : ¬ (unOk l = true ∧ 10 ≤ (unz l).length ∧ (unz l).length ≤ 18)) : decOk l = false := by
  unfold decOk
  cases hu : unhex l with
  | none => rfl
  | some zs =>
    obtain ⟨e1, e2⟩ := un_good hu
    rw [e1, e2] at h
    rw [Bool.eq_false_iff]
    intro hd
    show False
    have hd : decZ zs = true := hd
    unfold decZ at hd
    simp only [Bool.and_eq_true, decide_eq_true_eq] at hd
    exact h ⟨rfl, hd.1.1.1, hd.1.1.2⟩
theorem dec_good {l : List UInt8} (h1 : unOk l = true) (h2 : 10 ≤ (unz l).length) (h3 : (unz l).length ≤ 18) :
    decOk l = decide (encR (pkK (unz l)) (pkN (unz l)) (pkT (unz l)) (pkL (unz l)) (pkD (unz l)) = l) := by
  cases hu : unhex l with
  | none => rw [(un_bad hu).2] at h1; cases h1
  | some zs =>
    obtain ⟨e1, e2⟩ := un_good hu
    rw [e1] at h2 h3 ⊢
    obtain ⟨i1, i2, i3⟩ := hexL_unhex l.length l zs (Nat.le_refl _) hu
    have : decOk l = decZ zs := by unfold decOk; rw [hu]
    rw [this]
    unfold decZ encR
    rw [decide_eq_true h2, decide_eq_true h3]
    cases hg : goodP (pkK zs) (pkN zs) (pkT zs) (pkL zs) (pkD zs)
    · simp only [Bool.and_true, Bool.and_false, Bool.false_and, Bool.false_eq_true, if_false]
      symm
      rw [decide_eq_false_iff_not]
      intro e
      rw [← e] at i3
      simp at i3
      omega
    · simp only [Bool.true_and, if_true]
      rw [Bool.eq_iff_iff, decide_eq_true_eq, decide_eq_true_eq]
      constructor
      · intro e; rw [e, i2]
      · intro e
        rw [← i2] at e
        exact hexL_inj (octL_isO hg) i1 e
def dC (l : List UInt8) : Array Value := if decOk l then pkC (pkK (unz l)) (pkN (unz l)) (pkT (unz l)) (pkL (unz l)) (pkD (unz l)) else pkC 0 0 0 0 []
def pkJ (zs : List Int) (j : Nat) : List UInt8 := ((zs.drop 8).take j).map fun z => UInt8.ofNat z.toNat
theorem pkJ_snoc (zs : List Int) (j : Nat) (h : 8 + j < zs.length) : pkJ zs (j + 1) = pkJ zs j ++ [UInt8.ofNat (zs.getD (8 + j) 0).toNat] := by
  unfold pkJ
  rw [List.take_succ_eq_append_getElem (by rw [List.length_drop]; omega), List.map_append]
  simp [h]
theorem pkJ_len (zs : List Int) (j : Nat) : (pkJ zs j).length ≤ j := by unfold pkJ; rw [List.length_map, List.length_take]; omega
theorem own_cap {w : World} {B : Nat} {e : TypeId} {size n c : Nat} {A : Option Addr} {xs : List Value} (h : w.ownsRow B e size (.slice A n c) n xs) (hn : 0 < n) : n ≤ c ∧ c ≤ maxLen := by
  rcases h.2 with ⟨_, hz⟩ | ⟨g, cap, cur, hv, hb, _, h1, h2, _⟩
  · omega
  · simp only [Value.slice.injEq] at hv
    obtain ⟨_, _, rfl⟩ := hv
    exact ⟨h1, h2⟩
theorem add_add8 (a : Addr) (j : Nat) : (a.add 8).add j = a.add (8 + j) := by
  unfold Addr.add
  split <;> split <;> simp_all <;> omega
set_option maxHeartbeats 8000000 in
theorem c_implDecodePacket (l : List UInt8) (w : World) (hl : l.length ≤ 10000000) :
    Calls Tryd.prog 13 #[.string (str l)] w fun e w' => e = .returned (.tuple #[.agg (dC l), .bool (decOk l)]) ∧ Below w.heap.size w w' := by
  have C0 := fun W => Lib.hid (c_decodeOctets l W hl)
  have bb := Lib.hid ((Below.refl w.heap.size w).alloc (Nat.le_refl _) (.cells (pkC 0 0 0 0 []) 27))
  have KZ := Lib.hid (pkAt_new 0 0 0 0 [] w 27)
  have KF := Lib.hid (free_new w (pkC 0 0 0 0 []) 27)
  unfold pkC at bb KZ KF
  go_enter Tryd.func13, Tryd.ntmps13
  go_wp2_with fail
  refine (C0 _).out.mono ?_
  rintro e w1 ⟨A, cap, rfl, o1, b1⟩
  have HI := Lib.hid o1.ints
  have HC : Hid (0 < (unz l).length → (unz l).length ≤ cap) := Lib.hid (fun h => (own_cap o1 h).1)
  have HB := Lib.hid (bb.out.trans (b1.mono bb.out.size))
  have KZ1 := Lib.hid (KZ.out.keep b1)
  have KF1 := Lib.hid (show Free w.heap.size w1 from Free.keep (fun j => KF.out j) (by simp) b1)
  have hz := KZ1.out.1
  clear o1 b1 bb KZ KF C0
  have HDB := Lib.hid (@dec_bad l)
  have HDG := Lib.hid (@dec_good l)
  have HU : Hid (dC l = if decOk l then pkC (pkK (unz l)) (pkN (unz l)) (pkT (unz l)) (pkL (unz l)) (pkD (unz l)) else pkC 0 0 0 0 []) := Lib.hid rfl
  have HO : Hid (unOk l = true → IsO (unz l) ∧ hexL (unz l) = l) := Lib.hid (fun h => by
    cases hu : unhex l with
    | none => rw [(un_bad hu).2] at h; cases h
    | some zs =>
      rw [(un_good hu).1]
      have := hexL_unhex l.length l zs (Nat.le_refl _) hu
      exact ⟨this.1, this.2.1⟩)
  have HL : Hid (∀ k n t l' d, (encR k n t l' d).length ≤ 100) := Lib.hid (fun k n t l' d => by
    unfold encR
    split
    · next h =>
      rw [hexL_length, octL_length]
      have := (goodP_t h).2.2.2.2.2
      omega
    · simp)
  generalize unz l = zs at *
  generalize unOk l = uk at *
  by_cases hgo : uk = true ∧ 10 ≤ zs.length ∧ zs.length ≤ 18
  rotate_left
  · have HD := Lib.hid (HDB.out hgo)
    have HU2 : Hid (dC l = pkC 0 0 0 0 []) := Lib.hid (by rw [HU.out, HD.out]; rfl)
    have C1 := fun W => Lib.hid (c_within zs.length 10 18 W)
    have HR : uk = true → Hid (inR zs.length 10 18 = false) := fun h => Lib.hid (by
      unfold inR
      rw [Bool.eq_false_iff]
      intro e
      simp only [decide_eq_true_eq] at e
      exact hgo ⟨h, by omega, by omega⟩)
    clear HDB HDG HU HO hgo HL
    obtain ⟨zb, z0, z1, z2, z3, z4⟩ := KZ1.out
    have f0 := KF1.out 0
    have f1 := KF1.out 1
    have f2 := KF1.out 2
    have f3 := KF1.out 3
    have f4 := KF1.out 4
    cases uk
    · clear HR C1
      go_wp2
      refine bodyPost_ret (res_idec (ok := false) rfl rfl (KZ1.out.set5 0 0 0 0 [])) rfl ⟨?_, set5 HB.out (Nat.le_refl _) _ _ _ _ _⟩
      rw [HD.out, HU2.out]
      first | done | rfl
    · have HRR := HR rfl
      clear HR
      go_wp2_with fail
      refine (C1 _).out.mono ?_
      rw [HRR.out]
      rintro e _ ⟨rfl, rfl⟩
      go_wp2
      refine bodyPost_ret (res_idec (ok := false) rfl rfl (KZ1.out.set5 0 0 0 0 [])) rfl ⟨?_, set5 HB.out (Nat.le_refl _) _ _ _ _ _⟩
      rw [HD.out, HU2.out]
      first | done | rfl
  obtain ⟨rfl, g10, g18⟩ := hgo
  have HD := Lib.hid (HDG.out rfl g10 g18)
  replace HC : Hid (zs.length ≤ cap) := Lib.hid (HC.out (by omega))
  have HX := Lib.hid (HO.out rfl)
  have HR : Hid (inR zs.length 10 18 = true) := Lib.hid (by
    unfold inR
    simp only [decide_eq_true_eq]
    omega)
  have C1 := fun W => Lib.hid (c_within zs.length 10 18 W)
  have hnn : ∀ k, k < zs.length → 0 ≤ zs.getD k 0 ∧ zs.getD k 0 ≤ 255 := fun k hk => HX.out.1 _ (by rw [List.getD_eq_getElem?_getD, List.getElem?_eq_getElem hk]; exact List.getElem_mem _)
  have HN := Lib.hid hnn
  clear HDB HDG HO hnn
  go_wp2_with fail
  refine (C1 _).out.mono ?_
  rw [HR.out]
  rintro e _ ⟨rfl, rfl⟩
  clear C1 HR
  obtain ⟨ad, rfl, hadb, c0⟩ := HI.out.at_ (k := 0) (by omega)
  obtain ⟨_, e1, _, c1⟩ := HI.out.at_ (k := 1) (by omega)
  cases e1
  obtain ⟨_, e1, _, c2⟩ := HI.out.at_ (k := 2) (by omega)
  cases e1
  obtain ⟨_, e1, _, c3⟩ := HI.out.at_ (k := 3) (by omega)
  cases e1
  obtain ⟨_, e1, _, c4⟩ := HI.out.at_ (k := 4) (by omega)
  cases e1
  obtain ⟨_, e1, _, c5⟩ := HI.out.at_ (k := 5) (by omega)
  cases e1
  obtain ⟨_, e1, _, c6⟩ := HI.out.at_ (k := 6) (by omega)
  cases e1
  obtain ⟨n10, n11⟩ := HN.out 1 (by omega)
  obtain ⟨n20, n21⟩ := HN.out 2 (by omega)
  obtain ⟨n30, n31⟩ := HN.out 3 (by omega)
  obtain ⟨n40, n41⟩ := HN.out 4 (by omega)
  obtain ⟨n50, n51⟩ := HN.out 5 (by omega)
  obtain ⟨n60, n61⟩ := HN.out 6 (by omega)
  have HK : Hid (pkK zs = zs.getD 0 0 ∧ pkN zs = zs.getD 1 0 * 256 + zs.getD 2 0 ∧ pkT zs = zs.getD 3 0 * 256 + zs.getD 4 0 ∧ pkL zs = zs.getD 5 0 * 256 + zs.getD 6 0 ∧ pkD zs = pkJ zs (zs.length - 10)) := Lib.hid ⟨rfl, by unfold pkN; omega, by unfold pkT; omega, by unfold pkL; omega, rfl⟩
  have HJ := Lib.hid (pkJ_snoc zs)
  have HJL := Lib.hid (pkJ_len zs)
  have HJ0 : Hid (pkJ zs 0 = []) := Lib.hid rfl
  generalize zs.getD 0 0 = y0 at *
  generalize zs.getD 1 0 = y1 at *
  generalize zs.getD 2 0 = y2 at *
  generalize zs.getD 3 0 = y3 at *
  generalize zs.getD 4 0 = y4 at *
  generalize zs.getD 5 0 = y5 at *
  generalize zs.getD 6 0 = y6 at *
  have c0' := c0
  rw [add_zero'] at c0'
  replace c1 : w1.cell? ⟨ad.block, ad.off + 1, none⟩ = some (.int .i64 y1) := by simpa [Addr.add] using c1
  replace c2 : w1.cell? ⟨ad.block, ad.off + 2, none⟩ = some (.int .i64 y2) := by simpa [Addr.add] using c2
  replace c3 : w1.cell? ⟨ad.block, ad.off + 3, none⟩ = some (.int .i64 y3) := by simpa [Addr.add] using c3
  replace c4 : w1.cell? ⟨ad.block, ad.off + 4, none⟩ = some (.int .i64 y4) := by simpa [Addr.add] using c4
  replace c5 : w1.cell? ⟨ad.block, ad.off + 5, none⟩ = some (.int .i64 y5) := by simpa [Addr.add] using c5
  replace c6 : w1.cell? ⟨ad.block, ad.off + 6, none⟩ = some (.int .i64 y6) := by simpa [Addr.add] using c6
  have or1 := or256 y1 y2 n10 (by omega) n20 (by omega)
  have or2 := or256 y3 y4 n30 (by omega) n40 (by omega)
  have or3 := or256 y5 y6 n50 (by omega) n60 (by omega)
  have wr1 := IntWalk.i64_in (y1 * 256) (by omega)
  have wr2 := IntWalk.i64_in (y3 * 256) (by omega)
  have wr3 := IntWalk.i64_in (y5 * 256) (by omega)
  have q0 : (0 : Int) < (zs.length : Int) := by omega
  have q1 : (1 : Int) < (zs.length : Int) := by omega
  have q2 : (2 : Int) < (zs.length : Int) := by omega
  have q3 : (3 : Int) < (zs.length : Int) := by omega
  have q4 : (4 : Int) < (zs.length : Int) := by omega
  have q5 : (5 : Int) < (zs.length : Int) := by omega
  have q6 : (6 : Int) < (zs.length : Int) := by omega
  go_upto_region 4 with fail
  go_cut [6] from 25 to 52 (fun s6 wx => s6 = .pointer (some ⟨w1.heap.size, 0, none⟩) ∧ wx = (w1.alloc (.cells #[.int .i64 y0, .int .i64 (y1 * 256 + y2), .int .i64 (y3 * 256 + y4), .int .i64 (y5 * 256 + y6), .string ⟨#[]⟩] 27)).drew)
  case first => as_aux_lemma =>
    have n0 : 0 < zs.length := by omega
    generalize zs.length = nz at *
    go_region_held3 (fun W => W.cell? (ad.add 0) = some (.int .i64 y0) ∧ W.cell? ad = some (.int .i64 y0) ∧ W.cell? ⟨ad.block, ad.off + 1, none⟩ = some (.int .i64 y1) ∧ W.cell? ⟨ad.block, ad.off + 2, none⟩ = some (.int .i64 y2) ∧ W.cell? ⟨ad.block, ad.off + 3, none⟩ = some (.int .i64 y3) ∧ W.cell? ⟨ad.block, ad.off + 4, none⟩ = some (.int .i64 y4) ∧ W.cell? ⟨ad.block, ad.off + 5, none⟩ = some (.int .i64 y5) ∧ W.cell? ⟨ad.block, ad.off + 6, none⟩ = some (.int .i64 y6)) (refine ⟨?_, ?_, ?_, ?_, ?_, ?_, ?_, ?_⟩ <;> first | assumption | go_keep)
      (first | fail)
    all_goals (go_wp2_with fail; go_meet; exact ⟨rfl, rfl⟩)
  case rest => as_aux_lemma =>
    obtain ⟨rfl, hw⟩ := hcut
    have KP0 := pkAt_new y0 (y1 * 256 + y2) (y3 * 256 + y4) (y5 * 256 + y6) [] w1 27
    have hsw : wc.heap.size = w1.heap.size + 1 := by rw [hw]; simp
    have KP : Hid (PkAt y0 (y1 * 256 + y2) (y3 * 256 + y4) (y5 * 256 + y6) [] w1.heap.size wc) := Lib.hid (by
      rw [hw]
      exact KP0.keep ((Below.refl _ _).drew))
    have BP : Hid (Below w1.heap.size w1 wc) := Lib.hid (by
      rw [hw]
      exact ((Below.refl w1.heap.size w1).alloc (Nat.le_refl _) _).drew)
    have FP : Hid (Free w1.heap.size wc) := Lib.hid (by
      rw [hw]
      intro j
      simp [go_sem])
    have hs1 : w1.heap.size < wc.heap.size := by omega
    clear hw KP0 hsw
    clear c0 c0' c1 c2 c3 c4 c5 c6 or1 or2 or3 wr1 wr2 wr3 q0 q1 q2 q3 q4 q5 q6
    have v1 : IntKind.i64.wrap ((zs.length : Int) - 2) = (zs.length : Int) - 2 := IntWalk.i64_in _ (by omega)
    have v2 : (8 : Int) ≤ (zs.length : Int) - 2 := by omega
    have v3 : (zs.length : Int) - 2 ≤ (cap : Int) := by have := HC.out; omega
    have v4 : (0 : Int) ≤ (zs.length : Int) - 2 := by omega
    have v5 : ¬ cap = 8 := by have := HC.out; omega
    go_wp2_with fail
    obtain ⟨m, hm⟩ : ∃ m : Nat, zs.length - 2 - 8 = m := ⟨_, rfl⟩
    rw [hm]
    replace HK : Hid (pkK zs = y0 ∧ pkN zs = y1 * 256 + y2 ∧ pkT zs = y3 * 256 + y4 ∧ pkL zs = y5 * 256 + y6 ∧ pkD zs = pkJ zs m) := Lib.hid (by
      rw [show m = zs.length - 10 by omega]
      exact HK.out)
    have hm8 : m ≤ 8 := by omega
    have hmz : 8 + m < zs.length := by omega
    generalize cap - 8 = cap8 at *
    clear hm v1 v2 v3 v4 v5 HC
    go_loopw [59] (fun i wr => ∃ j : Nat, j ≤ m ∧ i = .int .i64 j ∧ Hid (PkAt y0 (y1 * 256 + y2) (y3 * 256 + y4) (y5 * 256 + y6) (pkJ zs j) w1.heap.size wr ∧ Free w1.heap.size wr ∧ Below w1.heap.size w1 wr)) (fun i _ => m + 1 - (intOf i).toNat)
    case atStart => exact ⟨0, Nat.zero_le _, rfl, Lib.hid ⟨by rw [HJ0.out]; exact KP.out, FP.out, BP.out⟩⟩
    case round =>
      obtain ⟨j, hj, rfl, HR⟩ := hrel
      clear KP FP BP hs1
      by_cases hlt : j < m
      · have hi : (j : Int) < (m : Int) := by omega
        obtain ⟨_, e1, _, hc⟩ := (HI.out.keep HR.out.2.2).at_ (k := 8 + j) (by omega)
        cases e1
        obtain ⟨x0, x1⟩ := HN.out (8 + j) (by omega)
        have HS := Lib.hid (HJ.out j (by omega))
        have hlj := HJL.out j
        generalize zs.getD (8 + j) 0 = x at *
        have hx := u8_of x0 x1
        generalize UInt8.ofNat x.toNat = b at *
        subst hx
        have hc1 : wr.cell? ((⟨ad.block, ad.off + 8, none⟩ : Addr).add j) = some (.int .i64 (b.toNat : Int)) := by
          have : (⟨ad.block, ad.off + 8, none⟩ : Addr) = ad.add 8 := by simp [Addr.add]
          rw [this, add_add8]
          exact hc
        have hc2 : wr.cell? ⟨ad.block, ad.off + 8 + j, none⟩ = some (.int .i64 (b.toNat : Int)) := by
          by_cases h : j = 0
          · subst h; simpa [Addr.add] using hc1
          · simpa [Addr.add, h] using hc1
        obtain ⟨pb, _, _, _, _, p4⟩ := HR.out.1
        have f4 := HR.out.2.1 4
        have hu := u8_nat b
        have hcv := one_text b wr
        obtain ⟨d', hd'⟩ : ∃ d', pkJ zs (j + 1) = d' := ⟨_, rfl⟩
        rw [hd'] at HS
        have HD' := Lib.hid hd'
        clear hd'
        generalize pkJ zs j = d at *
        have hld : d'.length = d.length + 1 := by rw [HS.out]; simp
        have hadd := fun W => run_add_str d [b] d' HS.out.symm (by omega) W
        clear hc HS hld
        go_wp2
        go_roundw
        case rel => exact ⟨j + 1, by omega, by go_num, Lib.hid (by
          rw [HD'.out]
          have k := fun W : World => (Below.refl W.heap.size W).alloc (Nat.le_refl _) (.cells #[.int .u8 (b.toNat : Int)] 5)
          exact ⟨(HR.out.1.set4 d').keep (k _), Free.keep (HR.out.2.1.set _ _) (by rw [World.size_setCell]; exact pb) (k _), (HR.out.2.2.setCell (p := ⟨w1.heap.size, 4, none⟩) (Nat.le_refl _) _).alloc (by rw [World.size_setCell]; omega) _⟩)⟩
        case measure => simp [intOf]; omega
      · obtain rfl : j = m := by omega
        obtain ⟨pb, p0, p1, p2, p3, p4⟩ := HR.out.1
        have C4 := fun W => Lib.hid (c_implEncodePacket y0 (y1 * 256 + y2) (y3 * 256 + y4) (y5 * 256 + y6) (pkJ zs j) W (by have := HJL.out j; omega))
        have HE2 := HL.out y0 (y1 * 256 + y2) (y3 * 256 + y4) (y5 * 256 + y6) (pkJ zs j)
        have HD2 := Lib.hid HD.out
        rw [HK.out.1, HK.out.2.1, HK.out.2.2.1, HK.out.2.2.2.1, HK.out.2.2.2.2] at HD2
        have HU2 := Lib.hid HU.out
        rw [HK.out.1, HK.out.2.1, HK.out.2.2.1, HK.out.2.2.2.1, HK.out.2.2.2.2] at HU2
        clear HU HD HK HL HN HI HX HJ HJ0 HJL
        generalize pkJ zs j = d at *
        go_wp2_with fail
        unfold pkC at C4
        refine (C4 _).out.mono ?_
        rintro e w3 ⟨rfl, b3⟩
        have B3 := Lib.hid (HR.out.2.2.trans (b3.mono HR.out.2.2.size))
        have KP3 := Lib.hid (HR.out.1.keep b3)
        have FP3 := Lib.hid (Free.keep HR.out.2.1 pb b3)
        have KZ3 := Lib.hid (KZ1.out.keep (B3.out))
        have KF3 := Lib.hid (Free.keep KF1.out hz B3.out)
        have HB3 := Lib.hid (HB.out.trans (B3.out.mono HB.out.size))
        clear b3 B3 HR p0 p1 p2 p3 p4 pb C4
        obtain ⟨pb, p0, p1, p2, p3, p4⟩ := KP3.out
        obtain ⟨zb, z0, z1, z2, z3, z4⟩ := KZ3.out
        have f0 := KF3.out 0
        have f1 := KF3.out 1
        have f2 := KF3.out 2
        have f3 := KF3.out 3
        have f4 := KF3.out 4
        generalize encR y0 (y1 * 256 + y2) (y3 * 256 + y4) (y5 * 256 + y6) d = E at *
        have t1 := str_tl E
        have t2 := str_tl l
        by_cases he : E = l
        · have hb : (E == l) = true := by rw [he]; exact beq_self_eq_true _
          have HD3 : Hid (decOk l = true) := Lib.hid (by rw [HD2.out]; exact decide_eq_true he)
          clear he
          go_wp2_with fail
          refine bodyPost_ret (res_idec (ok := true) rfl rfl (KZ3.out.set5 y0 (y1 * 256 + y2) (y3 * 256 + y4) (y5 * 256 + y6) d)) rfl ⟨?_, set5 HB3.out (Nat.le_refl _) _ _ _ _ _⟩
          rw [HD3.out, HU2.out, HD3.out]
          first | done | rfl
        · have hb : (E == l) = false := beq_eq_false_iff_ne.2 he
          have HD3 : Hid (decOk l = false) := Lib.hid (by rw [HD2.out]; exact decide_eq_false he)
          clear he
          go_wp2_with fail
          refine bodyPost_ret (res_idec (ok := false) rfl rfl (KZ3.out.set5 0 0 0 0 [])) rfl ⟨?_, set5 HB3.out (Nat.le_refl _) _ _ _ _ _⟩
          rw [HD3.out, HU2.out, HD3.out]
          first | done | rfl
end Go.Proofs.YtnabiehbecojlaaDoor
