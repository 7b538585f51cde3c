/- The reference's ParsePacketLine. -/
import Derived.Test.YtpmfaiocmgkmpaaGreatDoorLineLaw
import Derived.Test.YtpmfaiocmgkmpaaGreatDoorRes
namespace Go.Proofs.YtpmfaiocmgkmpaaGreatDoor
open Go.RowKit
open Go.Lib (itoa)
set_option linter.unusedVariables false
set_option maxRecDepth 100000

/-- The two boxes that stand ready. -/
def Two1 (w W : World) : Prop := Below w.heap.size w W ∧ PkAt 0 0 0 0 [] w.heap.size W ∧ Free w.heap.size W ∧ PkAt 0 0 0 0 [] (w.heap.size + 1) W ∧ w.heap.size + 2 ≤ W.heap.size
theorem Two1.keep {w W W' : World} (h : Two1 w W) (b : Below W.heap.size W W') : Two1 w W' :=
  ⟨h.1.trans (b.mono h.1.size), h.2.1.keep b, h.2.2.1.keep h.2.1.1 b, h.2.2.2.1.keep b, Nat.le_trans h.2.2.2.2 b.size⟩
theorem Two1.set4 {w W : World} (h : Two1 w W) {b : Nat} (hb : w.heap.size + 2 ≤ b) (v : Value) : Two1 w (W.setCell ⟨b, 4, none⟩ v) := by
  have o : ∀ c k, c < b → (W.setCell ⟨b, 4, none⟩ v).cell? ⟨c, k, none⟩ = W.cell? ⟨c, k, none⟩ := fun c k hc => World.cell?_setCell_other W ⟨b, 4, none⟩ ⟨c, k, none⟩ _ (by intro e; simp only [Addr.mk.injEq] at e; omega)
  obtain ⟨h1, ⟨a, a0, a1, a2, a3, a4⟩, h3, ⟨c, c0, c1, c2, c3, c4⟩, h5⟩ := h
  refine ⟨h1.setCell (p := ⟨b, 4, none⟩) (by show w.heap.size ≤ b; omega) v, ⟨by rw [World.size_setCell]; exact a, ?_, ?_, ?_, ?_, ?_⟩, h3.set _ _, ⟨by rw [World.size_setCell]; exact c, ?_, ?_, ?_, ?_, ?_⟩, by rw [World.size_setCell]; exact h5⟩
  all_goals (rw [o _ _ (by omega)]; assumption)
theorem two1_new (w : World) (T : TypeId) : Two1 w ((w.alloc (.cells #[.int .i64 0, .int .i64 0, .int .i64 0, .int .i64 0, .string ⟨#[]⟩] T)).alloc (.cells #[.int .i64 0, .int .i64 0, .int .i64 0, .int .i64 0, .string ⟨#[]⟩] T)) := by
  have k := fun W : World => (Below.refl W.heap.size W).alloc (Nat.le_refl _) (.cells #[.int .i64 0, .int .i64 0, .int .i64 0, .int .i64 0, .string ⟨#[]⟩] T)
  have s1 : (w.alloc (.cells #[.int .i64 0, .int .i64 0, .int .i64 0, .int .i64 0, .string ⟨#[]⟩] T)).heap.size = w.heap.size + 1 := by simp
  have p := pkAt_new 0 0 0 0 [] w T
  have q := pkAt_new 0 0 0 0 [] (w.alloc (.cells #[.int .i64 0, .int .i64 0, .int .i64 0, .int .i64 0, .string ⟨#[]⟩] T)) T
  rw [s1] at q
  exact ⟨(k w).trans ((k _).mono (k w).size), p.keep (k _), Free.keep (fun j => free_new w _ T j) p.1 (k _), q, by simp⟩
theorem idxS_at {x : List UInt8} {j : Nat} (h1 : 1 ≤ j) (hj : j < 6) (h : ∀ m, 1 ≤ m → m < j → x ≠ kwAt m) (e : x = kwAt j) : idxS x = (j : Int) := by
  subst e
  exact (idx_kw h1 hj).2
theorem idxS_not {x : List UInt8} (h : ∀ m, 1 ≤ m → m < 6 → x ≠ kwAt m) : idxS x = 0 := by
  unfold idxS
  rw [if_neg (h 1 (by omega) (by omega)), if_neg (h 2 (by omega) (by omega)), if_neg (h 3 (by omega) (by omega)), if_neg (h 4 (by omega) (by omega)), if_neg (h 5 (by omega) (by omega))]
theorem box_a (x a b c : Int) (w : World) (T T2 : TypeId) (cs : Array Value) : PkAt x a b c [] (w.heap.size + 1) (((w.alloc (.cells cs T2)).alloc (.cells #[.int .i64 x, .int .i64 a, .int .i64 b, .int .i64 c, .string ⟨#[]⟩] T)).drew) ∧ Free (w.heap.size + 1) (((w.alloc (.cells cs T2)).alloc (.cells #[.int .i64 x, .int .i64 a, .int .i64 b, .int .i64 c, .string ⟨#[]⟩] T)).drew) ∧ Below w.heap.size w (((w.alloc (.cells cs T2)).alloc (.cells #[.int .i64 x, .int .i64 a, .int .i64 b, .int .i64 c, .string ⟨#[]⟩] T)).drew) ∧ w.heap.size ≤ w.heap.size + 1 := by
  have s1 : (w.alloc (.cells cs T2)).heap.size = w.heap.size + 1 := by simp
  have p := pkAt_new x a b c [] (w.alloc (.cells cs T2)) T
  rw [s1] at p
  refine ⟨p.keep ((Below.refl _ _).drew), fun j => ?_, (((Below.refl w.heap.size w).alloc (Nat.le_refl _) _).alloc (by rw [s1]; omega) _).drew, by omega⟩
  have := free_new (w.alloc (.cells cs T2)) #[.int .i64 x, .int .i64 a, .int .i64 b, .int .i64 c, .string ⟨#[]⟩] T j
  rw [s1] at this
  exact this
theorem box_b (x a b c : Int) (w : World) (T T2 : TypeId) (cs : Array Value) : PkAt x a b c [] w.heap.size (((w.alloc (.cells #[.int .i64 x, .int .i64 a, .int .i64 b, .int .i64 c, .string ⟨#[]⟩] T)).alloc (.cells cs T2)).drew) ∧ Free w.heap.size (((w.alloc (.cells #[.int .i64 x, .int .i64 a, .int .i64 b, .int .i64 c, .string ⟨#[]⟩] T)).alloc (.cells cs T2)).drew) ∧ Below w.heap.size w (((w.alloc (.cells #[.int .i64 x, .int .i64 a, .int .i64 b, .int .i64 c, .string ⟨#[]⟩] T)).alloc (.cells cs T2)).drew) ∧ w.heap.size ≤ w.heap.size := by
  have p := pkAt_new x a b c [] w T
  have s1 : (w.alloc (.cells #[.int .i64 x, .int .i64 a, .int .i64 b, .int .i64 c, .string ⟨#[]⟩] T)).heap.size = w.heap.size + 1 := by simp
  have k : Below (w.alloc (.cells #[.int .i64 x, .int .i64 a, .int .i64 b, .int .i64 c, .string ⟨#[]⟩] T)).heap.size (w.alloc (.cells #[.int .i64 x, .int .i64 a, .int .i64 b, .int .i64 c, .string ⟨#[]⟩] T)) (((w.alloc (.cells #[.int .i64 x, .int .i64 a, .int .i64 b, .int .i64 c, .string ⟨#[]⟩] T)).alloc (.cells cs T2)).drew) := ((Below.refl _ _).alloc (Nat.le_refl _) _).drew
  refine ⟨p.keep k, Free.keep (fun j => free_new w _ T j) p.1 k, (((Below.refl w.heap.size w).alloc (Nat.le_refl _) _).alloc (by rw [s1]; omega) _).drew, Nat.le_refl _⟩
theorem ret_iy {a b : Int} (h : a = b) : Ending.returned (.int .i64 a) = .returned (.int .i64 b) := by rw [h]
set_option maxHeartbeats 1000000 in
theorem c_l4Index (g : Nat) (x : List UInt8) (w : World) (hc : ∀ m, m < 6 → w.cell? ⟨g, m, none⟩ = some (.string (str (kwAt m)))) :
    Calls Tryz.prog 57 #[.slice (some ⟨g, 0, none⟩) 6 6, .string (str x)] w fun e w' => e = .returned (.int .i64 (idxS x)) ∧ w = w' := by
  have HC := Lib.hid hc
  have t1 := str_tl x
  clear hc
  go_enter Tryz.func57, Tryz.ntmps57
  go_wp2
  go_loopw [4, 5] (fun s4 i wr => ∃ j : Nat, 1 ≤ j ∧ j ≤ 6 ∧ i = .int .i64 j ∧ Hid (w = wr) ∧ Hid (∀ m : Nat, 1 ≤ m → m < j → x ≠ kwAt m)) (fun _ i _ => 7 - (intOf i).toNat)
  case atStart => exact ⟨1, by omega, by omega, rfl, Lib.hid rfl, Lib.hid (fun m h k => absurd h (by omega))⟩
  case round =>
    obtain ⟨j, hj1, hj, rfl, HW, HA⟩ := hrel
    by_cases hlt : j < 6
    · have hi : (j : Int) < 6 := by omega
      have hc := HC.out j hlt
      rw [HW.out] at hc
      have hc1 : wr.cell? ((⟨g, 0, none⟩ : Addr).add j) = some (.string (str (kwAt j))) := by
        rw [add_lit]; simpa using hc
      have t2 := str_tl (kwAt j)
      by_cases hq : x = kwAt j
      · have HD := Lib.hid (idxS_at hj1 hlt HA.out hq)
        have hb : (kwAt j == x) = true := by rw [hq]; exact beq_self_eq_true _
        clear hq
        go_wp2
        go_ret
        exact ⟨ret_iy HD.out.symm, HW.out⟩
      · have HQ := Lib.hid hq
        have hb : (kwAt j == x) = false := beq_eq_false_iff_ne.2 (fun e => hq e.symm)
        clear hq
        go_wp2
        go_roundw
        case rel => exact ⟨j + 1, by omega, by omega, by go_num, HW, Lib.hid (fun m h1 hm => by
          rcases Nat.lt_succ_iff_lt_or_eq.1 hm with h | rfl
          · exact HA.out m h1 h
          · exact HQ.out)⟩
        case measure => simp [intOf]; omega
    · obtain rfl : j = 6 := by omega
      have HD := Lib.hid (idxS_not HA.out)
      go_wp2
      go_ret
      exact ⟨ret_iy HD.out.symm, HW.out⟩
set_option maxHeartbeats 16000000 in
theorem c_l4Parse (l : List UInt8) (w : World) (hl : l.length ≤ 10000000) :
    Calls Tryz.prog 30 #[.string (str l)] w fun e w' => e = .returned (.tuple #[.agg (plC l), .bool (plOk l)]) ∧ Below w.heap.size w w' := by
  have T0 := Lib.hid (two1_new w 25)
  have C0 := Lib.hid (c_l1Split (str l) 32 ((w.alloc (.cells #[.int .i64 0, .int .i64 0, .int .i64 0, .int .i64 0, .string ⟨#[]⟩] 25)).alloc (.cells #[.int .i64 0, .int .i64 0, .int .i64 0, .int .i64 0, .string ⟨#[]⟩] 25)) (by rw [str_size]; omega))
  simp only [list_str] at C0
  have hsz := str_size l
  have HNOT := Lib.hid (@pl_not l)
  have HW : Hid (∀ i, (spl 32 l).getD i [] = wP l i) := Lib.hid (fun i => rfl)
  have HE : Hid (∀ i, (spl 45 (wP l 3)).getD i [] = eP l i) := Lib.hid (fun i => rfl)
  have HF : Hid (fifth (spl 32 l) = if (spl 32 l).length = 5 then wP l 4 else []) := Lib.hid rfl
  have HWL : Hid (∀ i, i < (spl 32 l).length → (wP l i).length ≤ l.length) := Lib.hid (fun i hi => by
    refine spl_elem_le 32 l _ ?_
    unfold wP
    rw [List.getD_eq_getElem?_getD, List.getElem?_eq_getElem hi]
    exact List.getElem_mem _)
  have HEL : Hid (∀ i, i < (spl 45 (wP l 3)).length → (eP l i).length ≤ (wP l 3).length) := Lib.hid (fun i hi => by
    refine spl_elem_le 45 (wP l 3) _ ?_
    unfold eP
    rw [List.getD_eq_getElem?_getD, List.getElem?_eq_getElem hi]
    exact List.getElem_mem _)
  go_enter Tryz.func30, Tryz.ntmps30
  go_wp2_with fail
  generalize (w.alloc (.cells #[.int .i64 0, .int .i64 0, .int .i64 0, .int .i64 0, .string ⟨#[]⟩] 25)).alloc (.cells #[.int .i64 0, .int .i64 0, .int .i64 0, .int .i64 0, .string ⟨#[]⟩] 25) = W2 at *
  refine C0.out.mono ?_
  rintro e w3 ⟨A, cap, rfl, o3, b3⟩
  have T := Lib.hid (T0.out.keep b3)
  have HS := Lib.hid o3.strs
  clear o3 b3 C0 T0
  by_cases h60 : l.length ≤ 60
  rotate_left
  · have HNN := Lib.hid (HNOT.out (fun h => h60 h.1))
    have hgt : (60 : Int) < (l.length : Int) := by omega
    clear HNOT HW HE HF HWL HEL
    generalize (spl 32 l).length = nw at *
    have HN := Lib.hid (pl_none HNN.out)
    obtain ⟨BW, ⟨zb, y0, y1, y2, y3, y4⟩, fz, ⟨_, z0, z1, z2, z3, z4⟩, _⟩ := T.out
    have f0 := fz 0
    have f1 := fz 1
    have f2 := fz 2
    have f3 := fz 3
    have f4 := fz 4
    replace BW := Lib.hid BW
    have KZ := Lib.hid T.out.2.1
    clear fz
    go_wp2_with fail
    have K9 : PkAt 0 0 0 0 [] w.heap.size (((((w3.setCell ⟨w.heap.size, 0, none⟩ (.int .i64 0)).setCell ⟨w.heap.size, 1, none⟩ (.int .i64 0)).setCell ⟨w.heap.size, 2, none⟩ (.int .i64 0)).setCell ⟨w.heap.size, 3, none⟩ (.int .i64 0)).setCell ⟨w.heap.size, 4, none⟩ (.string (str []))) := KZ.out.set5 0 0 0 0 []
    have B9 : Below w.heap.size w (((((w3.setCell ⟨w.heap.size, 0, none⟩ (.int .i64 0)).setCell ⟨w.heap.size, 1, none⟩ (.int .i64 0)).setCell ⟨w.heap.size, 2, none⟩ (.int .i64 0)).setCell ⟨w.heap.size, 3, none⟩ (.int .i64 0)).setCell ⟨w.heap.size, 4, none⟩ (.string (str []))) := set5 BW.out (Nat.le_refl _) _ _ _ _ _
    generalize (((((w3.setCell ⟨w.heap.size, 0, none⟩ (.int .i64 0)).setCell ⟨w.heap.size, 1, none⟩ (.int .i64 0)).setCell ⟨w.heap.size, 2, none⟩ (.int .i64 0)).setCell ⟨w.heap.size, 3, none⟩ (.int .i64 0)).setCell ⟨w.heap.size, 4, none⟩ (.string (str []))) = w9 at K9 B9 ⊢
    refine bodyPost_ret (res_pars (ok := false) rfl rfl K9) rfl ⟨?_, B9⟩
    rw [HN.out.1, HN.out.2]
    first | done | rfl
  have hgt : ¬ (60 : Int) < (l.length : Int) := by omega
  by_cases hn : (spl 32 l).length = 4 ∨ (spl 32 l).length = 5
  rotate_left
  · have HNN := Lib.hid (HNOT.out (fun h => hn h.2.1))
    have hn4 : ¬ ((spl 32 l).length : Int) = 4 := by omega
    have hn5 : ¬ ((spl 32 l).length : Int) = 5 := by omega
    have hb4 : (((spl 32 l).length : Int) == 4) = false := beq_eq_false_iff_ne.2 hn4
    have hb5 : (((spl 32 l).length : Int) == 5) = false := beq_eq_false_iff_ne.2 hn5
    have hc4 : (((spl 32 l).length : Int) != 4) = true := by rw [bne, hb4]; rfl
    have hc5 : (((spl 32 l).length : Int) != 5) = true := by rw [bne, hb5]; rfl
    clear HNOT HW HE HF HWL HEL hn
    generalize (spl 32 l).length = nw at *
    have HN := Lib.hid (pl_none HNN.out)
    obtain ⟨BW, ⟨zb, y0, y1, y2, y3, y4⟩, fz, ⟨_, z0, z1, z2, z3, z4⟩, _⟩ := T.out
    have f0 := fz 0
    have f1 := fz 1
    have f2 := fz 2
    have f3 := fz 3
    have f4 := fz 4
    replace BW := Lib.hid BW
    have KZ := Lib.hid T.out.2.1
    clear fz
    go_wp2_with fail
    have K9 : PkAt 0 0 0 0 [] w.heap.size (((((w3.setCell ⟨w.heap.size, 0, none⟩ (.int .i64 0)).setCell ⟨w.heap.size, 1, none⟩ (.int .i64 0)).setCell ⟨w.heap.size, 2, none⟩ (.int .i64 0)).setCell ⟨w.heap.size, 3, none⟩ (.int .i64 0)).setCell ⟨w.heap.size, 4, none⟩ (.string (str []))) := KZ.out.set5 0 0 0 0 []
    have B9 : Below w.heap.size w (((((w3.setCell ⟨w.heap.size, 0, none⟩ (.int .i64 0)).setCell ⟨w.heap.size, 1, none⟩ (.int .i64 0)).setCell ⟨w.heap.size, 2, none⟩ (.int .i64 0)).setCell ⟨w.heap.size, 3, none⟩ (.int .i64 0)).setCell ⟨w.heap.size, 4, none⟩ (.string (str []))) := set5 BW.out (Nat.le_refl _) _ _ _ _ _
    generalize (((((w3.setCell ⟨w.heap.size, 0, none⟩ (.int .i64 0)).setCell ⟨w.heap.size, 1, none⟩ (.int .i64 0)).setCell ⟨w.heap.size, 2, none⟩ (.int .i64 0)).setCell ⟨w.heap.size, 3, none⟩ (.int .i64 0)).setCell ⟨w.heap.size, 4, none⟩ (.string (str []))) = w9 at K9 B9 ⊢
    refine bodyPost_ret (res_pars (ok := false) rfl rfl K9) rfl ⟨?_, B9⟩
    rw [HN.out.1, HN.out.2]
    first | done | rfl
  have hw0 := HWL.out 0 (by omega)
  have hw1 := HWL.out 1 (by omega)
  have hw3 := HWL.out 3 (by omega)
  have HW4 : Hid ((spl 32 l).length = 5 → (wP l 4).length ≤ l.length) := Lib.hid (fun h => HWL.out 4 (by omega))
  obtain ⟨ad, rfl, hadb, c0⟩ := HS.out.at_ (k := 0) (by omega)
  obtain ⟨_, e1, _, c1⟩ := HS.out.at_ (k := 1) (by omega)
  cases e1
  obtain ⟨_, e1, _, c3⟩ := HS.out.at_ (k := 3) (by omega)
  cases e1
  have HC4 : Hid ((spl 32 l).length = 5 → w3.cell? ⟨ad.block, ad.off + 4, none⟩ = some (.string (str (wP l 4)))) := Lib.hid (fun h => by
    obtain ⟨_, e1, _, c4⟩ := HS.out.at_ (k := 4) (by omega)
    cases e1
    rw [HW.out] at c4
    simpa [Addr.add] using c4)
  rw [HW.out] at c0 c1 c3
  have c0' := c0
  rw [add_zero'] at c0'
  replace c1 : w3.cell? ⟨ad.block, ad.off + 1, none⟩ = some (.string (str (wP l 1))) := by simpa [Addr.add] using c1
  replace c3 : w3.cell? ⟨ad.block, ad.off + 3, none⟩ = some (.string (str (wP l 3))) := by simpa [Addr.add] using c3
  have hq3 : (3 : Int) < ((spl 32 l).length : Int) := by omega
  have hq1 : (1 : Int) < ((spl 32 l).length : Int) := by omega
  have hq0 : (0 : Int) < ((spl 32 l).length : Int) := by omega
  have n0 : 0 < (spl 32 l).length := by omega
  have CE := Lib.hid (c_l1Split (str (wP l 3)) 45 w3 (by rw [str_size]; omega))
  simp only [list_str] at CE
  clear HWL HS HW
  have HD5 := HF
  generalize fifth (spl 32 l) = fi at *
  clear HF
  have CR1 := fun W => Lib.hid (c_l1Read (str (wP l 1)) W (by rw [str_size]; omega))
  simp only [list_str] at CR1
  generalize rdV (wP l 1) = v1 at *
  generalize rdOk (wP l 1) = o1 at *
  generalize wP l 1 = x1 at *
  generalize wP l 4 = x4 at *
  generalize hnw : (spl 32 l).length = nw at *
  clear hnw
  clear hq3 hq1 hq0 n0
  rcases hn with rfl | rfl
  · have HD6 : Hid (fi = []) := Lib.hid (by rw [HD5.out]; rfl)
    have hdl : ([] : List UInt8).length ≤ 1000000000 := by simp
    clear HC4 HW4 HD5
    go_upto_region 6 with fail
    go_wp2_with fail
    refine CE.out.mono ?_
    rintro e w4 ⟨A4, cap4, rfl, o4, b4⟩
    have HS4 := Lib.hid o4.strs
    replace T := Lib.hid (T.out.keep b4)
    have k0 := c0
    have k0' := c0'
    have k1 := c1
    replace k0 := (b4.cell (p := ad.add 0) (by rw [block_of_add]; exact hadb)).trans k0
    replace k0' := (b4.cell (p := ad) hadb).trans k0'
    replace k1 := (b4.cell (p := ⟨ad.block, ad.off + 1, none⟩) hadb).trans k1
    replace hadb := Nat.lt_of_lt_of_le hadb b4.size
    clear o4 b4 CE c0 c0' c1 c3
    by_cases h2 : (spl 45 (wP l 3)).length = 2
    rotate_left
    · have HNN := Lib.hid (HNOT.out (fun h => h2 h.2.2.1))
      have h2i : ¬ ((spl 45 (wP l 3)).length : Int) = 2 := by omega
      have h2b : (((spl 45 (wP l 3)).length : Int) == 2) = false := beq_eq_false_iff_ne.2 h2i
      have h2c : (((spl 45 (wP l 3)).length : Int) != 2) = true := by rw [bne, h2b]; rfl
      clear HNOT HE HEL h2
      generalize (spl 45 (wP l 3)).length = ne at *
      have HN := Lib.hid (pl_none HNN.out)
      obtain ⟨BW, ⟨zb, y0, y1, y2, y3, y4⟩, fz, ⟨_, z0, z1, z2, z3, z4⟩, _⟩ := T.out
      have f0 := fz 0
      have f1 := fz 1
      have f2 := fz 2
      have f3 := fz 3
      have f4 := fz 4
      replace BW := Lib.hid BW
      have KZ := Lib.hid T.out.2.1
      clear fz
      go_wp2_with fail
      have K9 : PkAt 0 0 0 0 [] w.heap.size (((((w4.setCell ⟨w.heap.size, 0, none⟩ (.int .i64 0)).setCell ⟨w.heap.size, 1, none⟩ (.int .i64 0)).setCell ⟨w.heap.size, 2, none⟩ (.int .i64 0)).setCell ⟨w.heap.size, 3, none⟩ (.int .i64 0)).setCell ⟨w.heap.size, 4, none⟩ (.string (str []))) := KZ.out.set5 0 0 0 0 []
      have B9 : Below w.heap.size w (((((w4.setCell ⟨w.heap.size, 0, none⟩ (.int .i64 0)).setCell ⟨w.heap.size, 1, none⟩ (.int .i64 0)).setCell ⟨w.heap.size, 2, none⟩ (.int .i64 0)).setCell ⟨w.heap.size, 3, none⟩ (.int .i64 0)).setCell ⟨w.heap.size, 4, none⟩ (.string (str []))) := set5 BW.out (Nat.le_refl _) _ _ _ _ _
      generalize (((((w4.setCell ⟨w.heap.size, 0, none⟩ (.int .i64 0)).setCell ⟨w.heap.size, 1, none⟩ (.int .i64 0)).setCell ⟨w.heap.size, 2, none⟩ (.int .i64 0)).setCell ⟨w.heap.size, 3, none⟩ (.int .i64 0)).setCell ⟨w.heap.size, 4, none⟩ (.string (str []))) = w9 at K9 B9 ⊢
      refine bodyPost_ret (res_pars (ok := false) rfl rfl K9) rfl ⟨?_, B9⟩
      rw [HN.out.1, HN.out.2]
      first | done | rfl
    have he0 := HEL.out 0 (by omega)
    have he1 := HEL.out 1 (by omega)
    obtain ⟨ae, rfl, haeb, i0⟩ := HS4.out.at_ (k := 0) (by omega)
    obtain ⟨_, e1, _, i1⟩ := HS4.out.at_ (k := 1) (by omega)
    cases e1
    rw [HE.out] at i0 i1
    have i0' := i0
    rw [add_zero'] at i0'
    replace i1 : w4.cell? ⟨ae.block, ae.off + 1, none⟩ = some (.string (str (eP l 1))) := by simpa [Addr.add] using i1
    have CR2 := fun W => Lib.hid (c_l1Read (str (eP l 0)) W (by rw [str_size]; omega))
    simp only [list_str] at CR2
    have CR3 := fun W => Lib.hid (c_l1Read (str (eP l 1)) W (by rw [str_size]; omega))
    simp only [list_str] at CR3
    clear HEL HE HS4
    generalize rdV (eP l 0) = v2 at *
    generalize rdOk (eP l 0) = o2 at *
    generalize rdV (eP l 1) = v3 at *
    generalize rdOk (eP l 1) = o3 at *
    generalize eP l 0 = y0 at *
    generalize eP l 1 = y1 at *
    generalize hne : (spl 45 (wP l 3)).length = ne at *
    clear hne
    subst h2
    have HIX : Hid (∀ (g : Nat) (W : World), (∀ m, m < 6 → W.cell? ⟨g, m, none⟩ = some (.string (str (kwAt m)))) → Calls Tryz.prog 57 #[.slice (some ⟨g, 0, none⟩) 6 6, .string (str (wP l 0))] W fun e w' => e = .returned (.int .i64 (idxS (wP l 0))) ∧ W = w') := Lib.hid (fun g W h => c_l4Index g (wP l 0) W h)
    generalize idxS (wP l 0) = x0 at *
    generalize wP l 0 = xw at *
    go_wp2_with fail
    refine (CR1 _).out.mono ?_
    rintro e w5 ⟨rfl, q, hq⟩
    have bq : Below w4.heap.size w4 w5 := by rw [hq]; exact below_dr (Below.refl _ _) q
    replace k0 := (bq.cell (p := ad.add 0) (by rw [block_of_add]; exact hadb)).trans k0
    replace k0' := (bq.cell (p := ad) hadb).trans k0'
    replace k1 := (bq.cell (p := ⟨ad.block, ad.off + 1, none⟩) hadb).trans k1
    replace i0 := (bq.cell (p := ae.add 0) (by rw [block_of_add]; exact haeb)).trans i0
    replace i0' := (bq.cell (p := ae) haeb).trans i0'
    replace i1 := (bq.cell (p := ⟨ae.block, ae.off + 1, none⟩) haeb).trans i1
    replace T := Lib.hid (T.out.keep bq)
    replace hadb := Nat.lt_of_lt_of_le hadb bq.size
    replace haeb := Nat.lt_of_lt_of_le haeb bq.size
    clear bq hq CR1
    go_wp2_with fail
    refine (CR2 _).out.mono ?_
    rintro e w6 ⟨rfl, q, hq⟩
    have bq : Below w5.heap.size w5 w6 := by rw [hq]; exact below_dr (Below.refl _ _) q
    replace k0 := (bq.cell (p := ad.add 0) (by rw [block_of_add]; exact hadb)).trans k0
    replace k0' := (bq.cell (p := ad) hadb).trans k0'
    replace k1 := (bq.cell (p := ⟨ad.block, ad.off + 1, none⟩) hadb).trans k1
    replace i0 := (bq.cell (p := ae.add 0) (by rw [block_of_add]; exact haeb)).trans i0
    replace i0' := (bq.cell (p := ae) haeb).trans i0'
    replace i1 := (bq.cell (p := ⟨ae.block, ae.off + 1, none⟩) haeb).trans i1
    replace T := Lib.hid (T.out.keep bq)
    replace hadb := Nat.lt_of_lt_of_le hadb bq.size
    replace haeb := Nat.lt_of_lt_of_le haeb bq.size
    clear bq hq CR2
    go_wp2_with fail
    refine (CR3 _).out.mono ?_
    rintro e w7 ⟨rfl, q, hq⟩
    have bq : Below w6.heap.size w6 w7 := by rw [hq]; exact below_dr (Below.refl _ _) q
    replace k0 := (bq.cell (p := ad.add 0) (by rw [block_of_add]; exact hadb)).trans k0
    replace k0' := (bq.cell (p := ad) hadb).trans k0'
    replace k1 := (bq.cell (p := ⟨ad.block, ad.off + 1, none⟩) hadb).trans k1
    replace i0 := (bq.cell (p := ae.add 0) (by rw [block_of_add]; exact haeb)).trans i0
    replace i0' := (bq.cell (p := ae) haeb).trans i0'
    replace i1 := (bq.cell (p := ⟨ae.block, ae.off + 1, none⟩) haeb).trans i1
    replace T := Lib.hid (T.out.keep bq)
    replace hadb := Nat.lt_of_lt_of_le hadb bq.size
    replace haeb := Nat.lt_of_lt_of_le haeb bq.size
    clear bq hq CR3
    go_upto_region 12 with fail
    go_cut [14] from 61 to 69 (fun sx wx => ∃ g, sx = .pointer (some ⟨g, 0, none⟩) ∧ Hid (PkAt x0 v1 v2 v3 [] g wx ∧ Free g wx ∧ Below w7.heap.size w7 wx ∧ w7.heap.size ≤ g))
    case first => as_aux_lemma =>
      have hwc := wcells_at
      go_region_held3 (fun W => W.cell? (ad.add 0) = some (.string (str xw)) ∧ W.cell? ad = some (.string (str xw))) (refine ⟨?_, ?_⟩ <;> first | assumption | go_keep)
        (first
          | (go_at_call 50; refine (c_l4Words _).mono ?_; rintro e _ ⟨rfl, rfl⟩)
          | (go_at_call 57; refine (HIX.out _ _ (fun m hm => by have := hwc m hm; simp [go_sem, this])).mono ?_; rintro e _ ⟨rfl, rfl⟩))
      all_goals (go_wp2_with fail; go_meet; first | exact ⟨_, rfl, Lib.hid (box_a _ _ _ _ _ _ _ _)⟩ | exact ⟨_, rfl, Lib.hid (box_b _ _ _ _ _ _ _ _)⟩)
    case rest => as_aux_lemma =>
      obtain ⟨g, rfl, HX⟩ := hcut
      have HG := Lib.hid (Nat.le_trans T.out.2.2.2.2 HX.out.2.2.2)
      have KPX := Lib.hid HX.out.1
      have FP := Lib.hid HX.out.2.1
      replace T := Lib.hid (T.out.keep HX.out.2.2.1)
      clear HX k0 k0' k1 i0 i0' i1 HIX haeb he0 he1
      go_upto_region 15 with fail
      have KP := KPX
      clear KPX FP
      obtain ⟨pb, p0, p1, p2, p3, p4⟩ := KP.out
      cases o1
      · have HNN := Lib.hid (HNOT.out (by simp))
        have HN := Lib.hid (pl_none HNN.out)
        obtain ⟨BW, ⟨zb, y0, y1, y2, y3, y4⟩, fz, ⟨_, z0, z1, z2, z3, z4⟩, _⟩ := T.out
        have f0 := fz 0
        have f1 := fz 1
        have f2 := fz 2
        have f3 := fz 3
        have f4 := fz 4
        replace BW := Lib.hid BW
        have KZ := Lib.hid T.out.2.1
        clear fz
        go_wp2_with fail
        have K9 : PkAt 0 0 0 0 [] w.heap.size (((((wc.setCell ⟨w.heap.size, 0, none⟩ (.int .i64 0)).setCell ⟨w.heap.size, 1, none⟩ (.int .i64 0)).setCell ⟨w.heap.size, 2, none⟩ (.int .i64 0)).setCell ⟨w.heap.size, 3, none⟩ (.int .i64 0)).setCell ⟨w.heap.size, 4, none⟩ (.string (str []))) := KZ.out.set5 0 0 0 0 []
        have B9 : Below w.heap.size w (((((wc.setCell ⟨w.heap.size, 0, none⟩ (.int .i64 0)).setCell ⟨w.heap.size, 1, none⟩ (.int .i64 0)).setCell ⟨w.heap.size, 2, none⟩ (.int .i64 0)).setCell ⟨w.heap.size, 3, none⟩ (.int .i64 0)).setCell ⟨w.heap.size, 4, none⟩ (.string (str []))) := set5 BW.out (Nat.le_refl _) _ _ _ _ _
        generalize (((((wc.setCell ⟨w.heap.size, 0, none⟩ (.int .i64 0)).setCell ⟨w.heap.size, 1, none⟩ (.int .i64 0)).setCell ⟨w.heap.size, 2, none⟩ (.int .i64 0)).setCell ⟨w.heap.size, 3, none⟩ (.int .i64 0)).setCell ⟨w.heap.size, 4, none⟩ (.string (str []))) = w9 at K9 B9 ⊢
        refine bodyPost_ret (res_pars (ok := false) rfl rfl K9) rfl ⟨?_, B9⟩
        rw [HN.out.1, HN.out.2]
        first | done | rfl
      cases o2
      · have HNN := Lib.hid (HNOT.out (by simp))
        have HN := Lib.hid (pl_none HNN.out)
        obtain ⟨BW, ⟨zb, y0, y1, y2, y3, y4⟩, fz, ⟨_, z0, z1, z2, z3, z4⟩, _⟩ := T.out
        have f0 := fz 0
        have f1 := fz 1
        have f2 := fz 2
        have f3 := fz 3
        have f4 := fz 4
        replace BW := Lib.hid BW
        have KZ := Lib.hid T.out.2.1
        clear fz
        go_wp2_with fail
        have K9 : PkAt 0 0 0 0 [] w.heap.size (((((wc.setCell ⟨w.heap.size, 0, none⟩ (.int .i64 0)).setCell ⟨w.heap.size, 1, none⟩ (.int .i64 0)).setCell ⟨w.heap.size, 2, none⟩ (.int .i64 0)).setCell ⟨w.heap.size, 3, none⟩ (.int .i64 0)).setCell ⟨w.heap.size, 4, none⟩ (.string (str []))) := KZ.out.set5 0 0 0 0 []
        have B9 : Below w.heap.size w (((((wc.setCell ⟨w.heap.size, 0, none⟩ (.int .i64 0)).setCell ⟨w.heap.size, 1, none⟩ (.int .i64 0)).setCell ⟨w.heap.size, 2, none⟩ (.int .i64 0)).setCell ⟨w.heap.size, 3, none⟩ (.int .i64 0)).setCell ⟨w.heap.size, 4, none⟩ (.string (str []))) := set5 BW.out (Nat.le_refl _) _ _ _ _ _
        generalize (((((wc.setCell ⟨w.heap.size, 0, none⟩ (.int .i64 0)).setCell ⟨w.heap.size, 1, none⟩ (.int .i64 0)).setCell ⟨w.heap.size, 2, none⟩ (.int .i64 0)).setCell ⟨w.heap.size, 3, none⟩ (.int .i64 0)).setCell ⟨w.heap.size, 4, none⟩ (.string (str []))) = w9 at K9 B9 ⊢
        refine bodyPost_ret (res_pars (ok := false) rfl rfl K9) rfl ⟨?_, B9⟩
        rw [HN.out.1, HN.out.2]
        first | done | rfl
      cases o3
      · have HNN := Lib.hid (HNOT.out (by simp))
        have HN := Lib.hid (pl_none HNN.out)
        obtain ⟨BW, ⟨zb, y0, y1, y2, y3, y4⟩, fz, ⟨_, z0, z1, z2, z3, z4⟩, _⟩ := T.out
        have f0 := fz 0
        have f1 := fz 1
        have f2 := fz 2
        have f3 := fz 3
        have f4 := fz 4
        replace BW := Lib.hid BW
        have KZ := Lib.hid T.out.2.1
        clear fz
        go_wp2_with fail
        have K9 : PkAt 0 0 0 0 [] w.heap.size (((((wc.setCell ⟨w.heap.size, 0, none⟩ (.int .i64 0)).setCell ⟨w.heap.size, 1, none⟩ (.int .i64 0)).setCell ⟨w.heap.size, 2, none⟩ (.int .i64 0)).setCell ⟨w.heap.size, 3, none⟩ (.int .i64 0)).setCell ⟨w.heap.size, 4, none⟩ (.string (str []))) := KZ.out.set5 0 0 0 0 []
        have B9 : Below w.heap.size w (((((wc.setCell ⟨w.heap.size, 0, none⟩ (.int .i64 0)).setCell ⟨w.heap.size, 1, none⟩ (.int .i64 0)).setCell ⟨w.heap.size, 2, none⟩ (.int .i64 0)).setCell ⟨w.heap.size, 3, none⟩ (.int .i64 0)).setCell ⟨w.heap.size, 4, none⟩ (.string (str []))) := set5 BW.out (Nat.le_refl _) _ _ _ _ _
        generalize (((((wc.setCell ⟨w.heap.size, 0, none⟩ (.int .i64 0)).setCell ⟨w.heap.size, 1, none⟩ (.int .i64 0)).setCell ⟨w.heap.size, 2, none⟩ (.int .i64 0)).setCell ⟨w.heap.size, 3, none⟩ (.int .i64 0)).setCell ⟨w.heap.size, 4, none⟩ (.string (str []))) = w9 at K9 B9 ⊢
        refine bodyPost_ret (res_pars (ok := false) rfl rfl K9) rfl ⟨?_, B9⟩
        rw [HN.out.1, HN.out.2]
        first | done | rfl
      have C4 := fun W => Lib.hid (c_l4Good x0 v1 v2 v3 [] W hdl)
      have HNOT2 : Hid (¬ (goodP x0 v1 v2 v3 [] = true ∧ lineR x0 v1 v2 v3 [] = l) → plOf l = none) := Lib.hid (fun h => HNOT.out (fun ⟨_, _, _, _, _, _, a, b⟩ => h (by rw [HD6.out] at a b; exact ⟨a, b⟩)))
      unfold pkC at C4
      cases hg : goodP x0 v1 v2 v3 []
      · have HNN := Lib.hid (HNOT2.out (fun h => by rw [hg] at h; cases h.1))
        rw [hg] at C4
        clear hg HNOT HNOT2
        go_wp2_with fail
        refine (C4 _).out.mono ?_
        rintro e w6 ⟨rfl, b6⟩
        replace T := Lib.hid (T.out.keep b6)
        clear b6 C4 p0 p1 p2 p3 p4 KP
        have HN := Lib.hid (pl_none HNN.out)
        obtain ⟨BW, ⟨zb, y0, y1, y2, y3, y4⟩, fz, ⟨_, z0, z1, z2, z3, z4⟩, _⟩ := T.out
        have f0 := fz 0
        have f1 := fz 1
        have f2 := fz 2
        have f3 := fz 3
        have f4 := fz 4
        replace BW := Lib.hid BW
        have KZ := Lib.hid T.out.2.1
        clear fz
        go_wp2_with fail
        have K9 : PkAt 0 0 0 0 [] w.heap.size (((((w6.setCell ⟨w.heap.size, 0, none⟩ (.int .i64 0)).setCell ⟨w.heap.size, 1, none⟩ (.int .i64 0)).setCell ⟨w.heap.size, 2, none⟩ (.int .i64 0)).setCell ⟨w.heap.size, 3, none⟩ (.int .i64 0)).setCell ⟨w.heap.size, 4, none⟩ (.string (str []))) := KZ.out.set5 0 0 0 0 []
        have B9 : Below w.heap.size w (((((w6.setCell ⟨w.heap.size, 0, none⟩ (.int .i64 0)).setCell ⟨w.heap.size, 1, none⟩ (.int .i64 0)).setCell ⟨w.heap.size, 2, none⟩ (.int .i64 0)).setCell ⟨w.heap.size, 3, none⟩ (.int .i64 0)).setCell ⟨w.heap.size, 4, none⟩ (.string (str []))) := set5 BW.out (Nat.le_refl _) _ _ _ _ _
        generalize (((((w6.setCell ⟨w.heap.size, 0, none⟩ (.int .i64 0)).setCell ⟨w.heap.size, 1, none⟩ (.int .i64 0)).setCell ⟨w.heap.size, 2, none⟩ (.int .i64 0)).setCell ⟨w.heap.size, 3, none⟩ (.int .i64 0)).setCell ⟨w.heap.size, 4, none⟩ (.string (str []))) = w9 at K9 B9 ⊢
        refine bodyPost_ret (res_pars (ok := false) rfl rfl K9) rfl ⟨?_, B9⟩
        rw [HN.out.1, HN.out.2]
        first | done | rfl
      obtain ⟨⟨m, rfl, hm0, hm6⟩, rn, rt, rl, rd⟩ := good_rng hg
      have hlr := lineR_good hg
      have HYES : Hid (lineR (m : Int) v1 v2 v3 [] = l → plOf l = some ((m : Int), v1, v2, v3, [])) := Lib.hid (fun h => plOf_line hg h)
      have HNO : Hid (lineR (m : Int) v1 v2 v3 [] ≠ l → plOf l = none) := Lib.hid (fun h => HNOT2.out (fun k => h k.2))
      rw [hlr] at HYES HNO
      rw [hg] at C4
      have C5 := fun W => Lib.hid (c_l4Line m v1 v2 v3 [] W hm6 rn rt rl (by omega))
      clear hg HNOT HNOT2 hlr rn rt rl rd
      generalize lineL m v1 v2 v3 [] = E at *
      unfold pkC at C5
      go_wp2_with fail
      refine (C4 _).out.mono ?_
      rintro e w6 ⟨rfl, b6⟩
      replace T := Lib.hid (T.out.keep b6)
      replace KP := Lib.hid (KP.out.keep b6)
      clear b6 C4 p0 p1 p2 p3 p4 pb
      obtain ⟨pb, p0, p1, p2, p3, p4⟩ := KP.out
      go_wp2_with fail
      refine (C5 _).out.mono ?_
      rintro e w7 ⟨rfl, b6⟩
      replace T := Lib.hid (T.out.keep b6)
      replace KP := Lib.hid (KP.out.keep b6)
      clear b6 C5 p0 p1 p2 p3 p4 pb
      obtain ⟨pb, p0, p1, p2, p3, p4⟩ := KP.out
      have t1 := str_tl E
      have t2 := str_tl l
      by_cases he : E = l
      · have hb : (E == l) = true := by rw [he]; exact beq_self_eq_true _
        have HS := Lib.hid (HYES.out he)
        clear he
        have HN := Lib.hid (pl_some HS.out)
        obtain ⟨BW, ⟨zb, y0, y1, y2, y3, y4⟩, fz, ⟨_, z0, z1, z2, z3, z4⟩, _⟩ := T.out
        have f0 := fz 0
        have f1 := fz 1
        have f2 := fz 2
        have f3 := fz 3
        have f4 := fz 4
        replace BW := Lib.hid BW
        have KZ := Lib.hid T.out.2.1
        clear fz
        go_wp2_with fail
        have K9 : PkAt (m : Int) v1 v2 v3 [] w.heap.size (((((w7.setCell ⟨w.heap.size, 0, none⟩ (.int .i64 (m : Int))).setCell ⟨w.heap.size, 1, none⟩ (.int .i64 v1)).setCell ⟨w.heap.size, 2, none⟩ (.int .i64 v2)).setCell ⟨w.heap.size, 3, none⟩ (.int .i64 v3)).setCell ⟨w.heap.size, 4, none⟩ (.string (str []))) := KZ.out.set5 (m : Int) v1 v2 v3 []
        have B9 : Below w.heap.size w (((((w7.setCell ⟨w.heap.size, 0, none⟩ (.int .i64 (m : Int))).setCell ⟨w.heap.size, 1, none⟩ (.int .i64 v1)).setCell ⟨w.heap.size, 2, none⟩ (.int .i64 v2)).setCell ⟨w.heap.size, 3, none⟩ (.int .i64 v3)).setCell ⟨w.heap.size, 4, none⟩ (.string (str []))) := set5 BW.out (Nat.le_refl _) _ _ _ _ _
        generalize (((((w7.setCell ⟨w.heap.size, 0, none⟩ (.int .i64 (m : Int))).setCell ⟨w.heap.size, 1, none⟩ (.int .i64 v1)).setCell ⟨w.heap.size, 2, none⟩ (.int .i64 v2)).setCell ⟨w.heap.size, 3, none⟩ (.int .i64 v3)).setCell ⟨w.heap.size, 4, none⟩ (.string (str []))) = w9 at K9 B9 ⊢
        refine bodyPost_ret (res_pars (ok := true) rfl rfl K9) rfl ⟨?_, B9⟩
        rw [HN.out.1, HN.out.2]
        first | done | rfl
      · have hb : (E == l) = false := beq_eq_false_iff_ne.2 he
        have HNN := Lib.hid (HNO.out he)
        clear he
        have HN := Lib.hid (pl_none HNN.out)
        obtain ⟨BW, ⟨zb, y0, y1, y2, y3, y4⟩, fz, ⟨_, z0, z1, z2, z3, z4⟩, _⟩ := T.out
        have f0 := fz 0
        have f1 := fz 1
        have f2 := fz 2
        have f3 := fz 3
        have f4 := fz 4
        replace BW := Lib.hid BW
        have KZ := Lib.hid T.out.2.1
        clear fz
        go_wp2_with fail
        have K9 : PkAt 0 0 0 0 [] w.heap.size (((((w7.setCell ⟨w.heap.size, 0, none⟩ (.int .i64 0)).setCell ⟨w.heap.size, 1, none⟩ (.int .i64 0)).setCell ⟨w.heap.size, 2, none⟩ (.int .i64 0)).setCell ⟨w.heap.size, 3, none⟩ (.int .i64 0)).setCell ⟨w.heap.size, 4, none⟩ (.string (str []))) := KZ.out.set5 0 0 0 0 []
        have B9 : Below w.heap.size w (((((w7.setCell ⟨w.heap.size, 0, none⟩ (.int .i64 0)).setCell ⟨w.heap.size, 1, none⟩ (.int .i64 0)).setCell ⟨w.heap.size, 2, none⟩ (.int .i64 0)).setCell ⟨w.heap.size, 3, none⟩ (.int .i64 0)).setCell ⟨w.heap.size, 4, none⟩ (.string (str []))) := set5 BW.out (Nat.le_refl _) _ _ _ _ _
        generalize (((((w7.setCell ⟨w.heap.size, 0, none⟩ (.int .i64 0)).setCell ⟨w.heap.size, 1, none⟩ (.int .i64 0)).setCell ⟨w.heap.size, 2, none⟩ (.int .i64 0)).setCell ⟨w.heap.size, 3, none⟩ (.int .i64 0)).setCell ⟨w.heap.size, 4, none⟩ (.string (str []))) = w9 at K9 B9 ⊢
        refine bodyPost_ret (res_pars (ok := false) rfl rfl K9) rfl ⟨?_, B9⟩
        rw [HN.out.1, HN.out.2]
        first | done | rfl
  · have HD6 : Hid (fi = x4) := Lib.hid (by rw [HD5.out]; rfl)
    have c4 := HC4.out rfl
    have hdl : x4.length ≤ 1000000000 := by have := HW4.out rfl; omega
    clear HC4 HW4 HD5
    go_upto_region 6 with fail
    go_wp2_with fail
    refine CE.out.mono ?_
    rintro e w4 ⟨A4, cap4, rfl, o4, b4⟩
    have HS4 := Lib.hid o4.strs
    replace T := Lib.hid (T.out.keep b4)
    have k0 := c0
    have k0' := c0'
    have k1 := c1
    replace k0 := (b4.cell (p := ad.add 0) (by rw [block_of_add]; exact hadb)).trans k0
    replace k0' := (b4.cell (p := ad) hadb).trans k0'
    replace k1 := (b4.cell (p := ⟨ad.block, ad.off + 1, none⟩) hadb).trans k1
    replace c4 := (b4.cell (p := ⟨ad.block, ad.off + 4, none⟩) hadb).trans c4
    replace hadb := Nat.lt_of_lt_of_le hadb b4.size
    clear o4 b4 CE c0 c0' c1 c3
    by_cases h2 : (spl 45 (wP l 3)).length = 2
    rotate_left
    · have HNN := Lib.hid (HNOT.out (fun h => h2 h.2.2.1))
      have h2i : ¬ ((spl 45 (wP l 3)).length : Int) = 2 := by omega
      have h2b : (((spl 45 (wP l 3)).length : Int) == 2) = false := beq_eq_false_iff_ne.2 h2i
      have h2c : (((spl 45 (wP l 3)).length : Int) != 2) = true := by rw [bne, h2b]; rfl
      clear HNOT HE HEL h2
      generalize (spl 45 (wP l 3)).length = ne at *
      have HN := Lib.hid (pl_none HNN.out)
      obtain ⟨BW, ⟨zb, y0, y1, y2, y3, y4⟩, fz, ⟨_, z0, z1, z2, z3, z4⟩, _⟩ := T.out
      have f0 := fz 0
      have f1 := fz 1
      have f2 := fz 2
      have f3 := fz 3
      have f4 := fz 4
      replace BW := Lib.hid BW
      have KZ := Lib.hid T.out.2.1
      clear fz
      go_wp2_with fail
      have K9 : PkAt 0 0 0 0 [] w.heap.size (((((w4.setCell ⟨w.heap.size, 0, none⟩ (.int .i64 0)).setCell ⟨w.heap.size, 1, none⟩ (.int .i64 0)).setCell ⟨w.heap.size, 2, none⟩ (.int .i64 0)).setCell ⟨w.heap.size, 3, none⟩ (.int .i64 0)).setCell ⟨w.heap.size, 4, none⟩ (.string (str []))) := KZ.out.set5 0 0 0 0 []
      have B9 : Below w.heap.size w (((((w4.setCell ⟨w.heap.size, 0, none⟩ (.int .i64 0)).setCell ⟨w.heap.size, 1, none⟩ (.int .i64 0)).setCell ⟨w.heap.size, 2, none⟩ (.int .i64 0)).setCell ⟨w.heap.size, 3, none⟩ (.int .i64 0)).setCell ⟨w.heap.size, 4, none⟩ (.string (str []))) := set5 BW.out (Nat.le_refl _) _ _ _ _ _
      generalize (((((w4.setCell ⟨w.heap.size, 0, none⟩ (.int .i64 0)).setCell ⟨w.heap.size, 1, none⟩ (.int .i64 0)).setCell ⟨w.heap.size, 2, none⟩ (.int .i64 0)).setCell ⟨w.heap.size, 3, none⟩ (.int .i64 0)).setCell ⟨w.heap.size, 4, none⟩ (.string (str []))) = w9 at K9 B9 ⊢
      refine bodyPost_ret (res_pars (ok := false) rfl rfl K9) rfl ⟨?_, B9⟩
      rw [HN.out.1, HN.out.2]
      first | done | rfl
    have he0 := HEL.out 0 (by omega)
    have he1 := HEL.out 1 (by omega)
    obtain ⟨ae, rfl, haeb, i0⟩ := HS4.out.at_ (k := 0) (by omega)
    obtain ⟨_, e1, _, i1⟩ := HS4.out.at_ (k := 1) (by omega)
    cases e1
    rw [HE.out] at i0 i1
    have i0' := i0
    rw [add_zero'] at i0'
    replace i1 : w4.cell? ⟨ae.block, ae.off + 1, none⟩ = some (.string (str (eP l 1))) := by simpa [Addr.add] using i1
    have CR2 := fun W => Lib.hid (c_l1Read (str (eP l 0)) W (by rw [str_size]; omega))
    simp only [list_str] at CR2
    have CR3 := fun W => Lib.hid (c_l1Read (str (eP l 1)) W (by rw [str_size]; omega))
    simp only [list_str] at CR3
    clear HEL HE HS4
    generalize rdV (eP l 0) = v2 at *
    generalize rdOk (eP l 0) = o2 at *
    generalize rdV (eP l 1) = v3 at *
    generalize rdOk (eP l 1) = o3 at *
    generalize eP l 0 = y0 at *
    generalize eP l 1 = y1 at *
    generalize hne : (spl 45 (wP l 3)).length = ne at *
    clear hne
    subst h2
    have HIX : Hid (∀ (g : Nat) (W : World), (∀ m, m < 6 → W.cell? ⟨g, m, none⟩ = some (.string (str (kwAt m)))) → Calls Tryz.prog 57 #[.slice (some ⟨g, 0, none⟩) 6 6, .string (str (wP l 0))] W fun e w' => e = .returned (.int .i64 (idxS (wP l 0))) ∧ W = w') := Lib.hid (fun g W h => c_l4Index g (wP l 0) W h)
    generalize idxS (wP l 0) = x0 at *
    generalize wP l 0 = xw at *
    go_wp2_with fail
    refine (CR1 _).out.mono ?_
    rintro e w5 ⟨rfl, q, hq⟩
    have bq : Below w4.heap.size w4 w5 := by rw [hq]; exact below_dr (Below.refl _ _) q
    replace k0 := (bq.cell (p := ad.add 0) (by rw [block_of_add]; exact hadb)).trans k0
    replace k0' := (bq.cell (p := ad) hadb).trans k0'
    replace k1 := (bq.cell (p := ⟨ad.block, ad.off + 1, none⟩) hadb).trans k1
    replace c4 := (bq.cell (p := ⟨ad.block, ad.off + 4, none⟩) hadb).trans c4
    replace i0 := (bq.cell (p := ae.add 0) (by rw [block_of_add]; exact haeb)).trans i0
    replace i0' := (bq.cell (p := ae) haeb).trans i0'
    replace i1 := (bq.cell (p := ⟨ae.block, ae.off + 1, none⟩) haeb).trans i1
    replace T := Lib.hid (T.out.keep bq)
    replace hadb := Nat.lt_of_lt_of_le hadb bq.size
    replace haeb := Nat.lt_of_lt_of_le haeb bq.size
    clear bq hq CR1
    go_wp2_with fail
    refine (CR2 _).out.mono ?_
    rintro e w6 ⟨rfl, q, hq⟩
    have bq : Below w5.heap.size w5 w6 := by rw [hq]; exact below_dr (Below.refl _ _) q
    replace k0 := (bq.cell (p := ad.add 0) (by rw [block_of_add]; exact hadb)).trans k0
    replace k0' := (bq.cell (p := ad) hadb).trans k0'
    replace k1 := (bq.cell (p := ⟨ad.block, ad.off + 1, none⟩) hadb).trans k1
    replace c4 := (bq.cell (p := ⟨ad.block, ad.off + 4, none⟩) hadb).trans c4
    replace i0 := (bq.cell (p := ae.add 0) (by rw [block_of_add]; exact haeb)).trans i0
    replace i0' := (bq.cell (p := ae) haeb).trans i0'
    replace i1 := (bq.cell (p := ⟨ae.block, ae.off + 1, none⟩) haeb).trans i1
    replace T := Lib.hid (T.out.keep bq)
    replace hadb := Nat.lt_of_lt_of_le hadb bq.size
    replace haeb := Nat.lt_of_lt_of_le haeb bq.size
    clear bq hq CR2
    go_wp2_with fail
    refine (CR3 _).out.mono ?_
    rintro e w7 ⟨rfl, q, hq⟩
    have bq : Below w6.heap.size w6 w7 := by rw [hq]; exact below_dr (Below.refl _ _) q
    replace k0 := (bq.cell (p := ad.add 0) (by rw [block_of_add]; exact hadb)).trans k0
    replace k0' := (bq.cell (p := ad) hadb).trans k0'
    replace k1 := (bq.cell (p := ⟨ad.block, ad.off + 1, none⟩) hadb).trans k1
    replace c4 := (bq.cell (p := ⟨ad.block, ad.off + 4, none⟩) hadb).trans c4
    replace i0 := (bq.cell (p := ae.add 0) (by rw [block_of_add]; exact haeb)).trans i0
    replace i0' := (bq.cell (p := ae) haeb).trans i0'
    replace i1 := (bq.cell (p := ⟨ae.block, ae.off + 1, none⟩) haeb).trans i1
    replace T := Lib.hid (T.out.keep bq)
    replace hadb := Nat.lt_of_lt_of_le hadb bq.size
    replace haeb := Nat.lt_of_lt_of_le haeb bq.size
    clear bq hq CR3
    go_upto_region 12 with fail
    go_cut [14] from 61 to 69 (fun sx wx => ∃ g, sx = .pointer (some ⟨g, 0, none⟩) ∧ Hid (PkAt x0 v1 v2 v3 [] g wx ∧ Free g wx ∧ Below w7.heap.size w7 wx ∧ w7.heap.size ≤ g))
    case first => as_aux_lemma =>
      have hwc := wcells_at
      go_region_held3 (fun W => W.cell? (ad.add 0) = some (.string (str xw)) ∧ W.cell? ad = some (.string (str xw))) (refine ⟨?_, ?_⟩ <;> first | assumption | go_keep)
        (first
          | (go_at_call 50; refine (c_l4Words _).mono ?_; rintro e _ ⟨rfl, rfl⟩)
          | (go_at_call 57; refine (HIX.out _ _ (fun m hm => by have := hwc m hm; simp [go_sem, this])).mono ?_; rintro e _ ⟨rfl, rfl⟩))
      all_goals (go_wp2_with fail; go_meet; first | exact ⟨_, rfl, Lib.hid (box_a _ _ _ _ _ _ _ _)⟩ | exact ⟨_, rfl, Lib.hid (box_b _ _ _ _ _ _ _ _)⟩)
    case rest => as_aux_lemma =>
      obtain ⟨g, rfl, HX⟩ := hcut
      have HG := Lib.hid (Nat.le_trans T.out.2.2.2.2 HX.out.2.2.2)
      have KPX := Lib.hid HX.out.1
      have FP := Lib.hid HX.out.2.1
      replace T := Lib.hid (T.out.keep HX.out.2.2.1)
      have c4' := (HX.out.2.2.1.cell (p := ⟨ad.block, ad.off + 4, none⟩) hadb).trans c4
      clear HX k0 k0' k1 i0 i0' i1 HIX haeb he0 he1 c4
      obtain ⟨pb, p0, p1, p2, p3, p4⟩ := KPX.out
      have g4 := FP.out 4
      go_upto_region 15 with fail
      have T5 := Lib.hid (show Two1 w (wc.setCell ⟨g, 4, none⟩ (.string (str x4))) from T.out.set4 HG.out _)
      have KP := Lib.hid (KPX.out.set4 x4)
      clear T FP KPX g4 c4' p0 p1 p2 p3 p4 pb
      generalize wc.setCell ⟨g, 4, none⟩ (.string (str x4)) = w5 at *
      have T := T5
      clear T5
      obtain ⟨pb, p0, p1, p2, p3, p4⟩ := KP.out
      cases o1
      · have HNN := Lib.hid (HNOT.out (by simp))
        have HN := Lib.hid (pl_none HNN.out)
        obtain ⟨BW, ⟨zb, y0, y1, y2, y3, y4⟩, fz, ⟨_, z0, z1, z2, z3, z4⟩, _⟩ := T.out
        have f0 := fz 0
        have f1 := fz 1
        have f2 := fz 2
        have f3 := fz 3
        have f4 := fz 4
        replace BW := Lib.hid BW
        have KZ := Lib.hid T.out.2.1
        clear fz
        go_wp2_with fail
        have K9 : PkAt 0 0 0 0 [] w.heap.size (((((w5.setCell ⟨w.heap.size, 0, none⟩ (.int .i64 0)).setCell ⟨w.heap.size, 1, none⟩ (.int .i64 0)).setCell ⟨w.heap.size, 2, none⟩ (.int .i64 0)).setCell ⟨w.heap.size, 3, none⟩ (.int .i64 0)).setCell ⟨w.heap.size, 4, none⟩ (.string (str []))) := KZ.out.set5 0 0 0 0 []
        have B9 : Below w.heap.size w (((((w5.setCell ⟨w.heap.size, 0, none⟩ (.int .i64 0)).setCell ⟨w.heap.size, 1, none⟩ (.int .i64 0)).setCell ⟨w.heap.size, 2, none⟩ (.int .i64 0)).setCell ⟨w.heap.size, 3, none⟩ (.int .i64 0)).setCell ⟨w.heap.size, 4, none⟩ (.string (str []))) := set5 BW.out (Nat.le_refl _) _ _ _ _ _
        generalize (((((w5.setCell ⟨w.heap.size, 0, none⟩ (.int .i64 0)).setCell ⟨w.heap.size, 1, none⟩ (.int .i64 0)).setCell ⟨w.heap.size, 2, none⟩ (.int .i64 0)).setCell ⟨w.heap.size, 3, none⟩ (.int .i64 0)).setCell ⟨w.heap.size, 4, none⟩ (.string (str []))) = w9 at K9 B9 ⊢
        refine bodyPost_ret (res_pars (ok := false) rfl rfl K9) rfl ⟨?_, B9⟩
        rw [HN.out.1, HN.out.2]
        first | done | rfl
      cases o2
      · have HNN := Lib.hid (HNOT.out (by simp))
        have HN := Lib.hid (pl_none HNN.out)
        obtain ⟨BW, ⟨zb, y0, y1, y2, y3, y4⟩, fz, ⟨_, z0, z1, z2, z3, z4⟩, _⟩ := T.out
        have f0 := fz 0
        have f1 := fz 1
        have f2 := fz 2
        have f3 := fz 3
        have f4 := fz 4
        replace BW := Lib.hid BW
        have KZ := Lib.hid T.out.2.1
        clear fz
        go_wp2_with fail
        have K9 : PkAt 0 0 0 0 [] w.heap.size (((((w5.setCell ⟨w.heap.size, 0, none⟩ (.int .i64 0)).setCell ⟨w.heap.size, 1, none⟩ (.int .i64 0)).setCell ⟨w.heap.size, 2, none⟩ (.int .i64 0)).setCell ⟨w.heap.size, 3, none⟩ (.int .i64 0)).setCell ⟨w.heap.size, 4, none⟩ (.string (str []))) := KZ.out.set5 0 0 0 0 []
        have B9 : Below w.heap.size w (((((w5.setCell ⟨w.heap.size, 0, none⟩ (.int .i64 0)).setCell ⟨w.heap.size, 1, none⟩ (.int .i64 0)).setCell ⟨w.heap.size, 2, none⟩ (.int .i64 0)).setCell ⟨w.heap.size, 3, none⟩ (.int .i64 0)).setCell ⟨w.heap.size, 4, none⟩ (.string (str []))) := set5 BW.out (Nat.le_refl _) _ _ _ _ _
        generalize (((((w5.setCell ⟨w.heap.size, 0, none⟩ (.int .i64 0)).setCell ⟨w.heap.size, 1, none⟩ (.int .i64 0)).setCell ⟨w.heap.size, 2, none⟩ (.int .i64 0)).setCell ⟨w.heap.size, 3, none⟩ (.int .i64 0)).setCell ⟨w.heap.size, 4, none⟩ (.string (str []))) = w9 at K9 B9 ⊢
        refine bodyPost_ret (res_pars (ok := false) rfl rfl K9) rfl ⟨?_, B9⟩
        rw [HN.out.1, HN.out.2]
        first | done | rfl
      cases o3
      · have HNN := Lib.hid (HNOT.out (by simp))
        have HN := Lib.hid (pl_none HNN.out)
        obtain ⟨BW, ⟨zb, y0, y1, y2, y3, y4⟩, fz, ⟨_, z0, z1, z2, z3, z4⟩, _⟩ := T.out
        have f0 := fz 0
        have f1 := fz 1
        have f2 := fz 2
        have f3 := fz 3
        have f4 := fz 4
        replace BW := Lib.hid BW
        have KZ := Lib.hid T.out.2.1
        clear fz
        go_wp2_with fail
        have K9 : PkAt 0 0 0 0 [] w.heap.size (((((w5.setCell ⟨w.heap.size, 0, none⟩ (.int .i64 0)).setCell ⟨w.heap.size, 1, none⟩ (.int .i64 0)).setCell ⟨w.heap.size, 2, none⟩ (.int .i64 0)).setCell ⟨w.heap.size, 3, none⟩ (.int .i64 0)).setCell ⟨w.heap.size, 4, none⟩ (.string (str []))) := KZ.out.set5 0 0 0 0 []
        have B9 : Below w.heap.size w (((((w5.setCell ⟨w.heap.size, 0, none⟩ (.int .i64 0)).setCell ⟨w.heap.size, 1, none⟩ (.int .i64 0)).setCell ⟨w.heap.size, 2, none⟩ (.int .i64 0)).setCell ⟨w.heap.size, 3, none⟩ (.int .i64 0)).setCell ⟨w.heap.size, 4, none⟩ (.string (str []))) := set5 BW.out (Nat.le_refl _) _ _ _ _ _
        generalize (((((w5.setCell ⟨w.heap.size, 0, none⟩ (.int .i64 0)).setCell ⟨w.heap.size, 1, none⟩ (.int .i64 0)).setCell ⟨w.heap.size, 2, none⟩ (.int .i64 0)).setCell ⟨w.heap.size, 3, none⟩ (.int .i64 0)).setCell ⟨w.heap.size, 4, none⟩ (.string (str []))) = w9 at K9 B9 ⊢
        refine bodyPost_ret (res_pars (ok := false) rfl rfl K9) rfl ⟨?_, B9⟩
        rw [HN.out.1, HN.out.2]
        first | done | rfl
      have C4 := fun W => Lib.hid (c_l4Good x0 v1 v2 v3 x4 W hdl)
      have HNOT2 : Hid (¬ (goodP x0 v1 v2 v3 x4 = true ∧ lineR x0 v1 v2 v3 x4 = l) → plOf l = none) := Lib.hid (fun h => HNOT.out (fun ⟨_, _, _, _, _, _, a, b⟩ => h (by rw [HD6.out] at a b; exact ⟨a, b⟩)))
      unfold pkC at C4
      cases hg : goodP x0 v1 v2 v3 x4
      · have HNN := Lib.hid (HNOT2.out (fun h => by rw [hg] at h; cases h.1))
        rw [hg] at C4
        clear hg HNOT HNOT2
        go_wp2_with fail
        refine (C4 _).out.mono ?_
        rintro e w6 ⟨rfl, b6⟩
        replace T := Lib.hid (T.out.keep b6)
        clear b6 C4 p0 p1 p2 p3 p4 KP
        have HN := Lib.hid (pl_none HNN.out)
        obtain ⟨BW, ⟨zb, y0, y1, y2, y3, y4⟩, fz, ⟨_, z0, z1, z2, z3, z4⟩, _⟩ := T.out
        have f0 := fz 0
        have f1 := fz 1
        have f2 := fz 2
        have f3 := fz 3
        have f4 := fz 4
        replace BW := Lib.hid BW
        have KZ := Lib.hid T.out.2.1
        clear fz
        go_wp2_with fail
        have K9 : PkAt 0 0 0 0 [] w.heap.size (((((w6.setCell ⟨w.heap.size, 0, none⟩ (.int .i64 0)).setCell ⟨w.heap.size, 1, none⟩ (.int .i64 0)).setCell ⟨w.heap.size, 2, none⟩ (.int .i64 0)).setCell ⟨w.heap.size, 3, none⟩ (.int .i64 0)).setCell ⟨w.heap.size, 4, none⟩ (.string (str []))) := KZ.out.set5 0 0 0 0 []
        have B9 : Below w.heap.size w (((((w6.setCell ⟨w.heap.size, 0, none⟩ (.int .i64 0)).setCell ⟨w.heap.size, 1, none⟩ (.int .i64 0)).setCell ⟨w.heap.size, 2, none⟩ (.int .i64 0)).setCell ⟨w.heap.size, 3, none⟩ (.int .i64 0)).setCell ⟨w.heap.size, 4, none⟩ (.string (str []))) := set5 BW.out (Nat.le_refl _) _ _ _ _ _
        generalize (((((w6.setCell ⟨w.heap.size, 0, none⟩ (.int .i64 0)).setCell ⟨w.heap.size, 1, none⟩ (.int .i64 0)).setCell ⟨w.heap.size, 2, none⟩ (.int .i64 0)).setCell ⟨w.heap.size, 3, none⟩ (.int .i64 0)).setCell ⟨w.heap.size, 4, none⟩ (.string (str []))) = w9 at K9 B9 ⊢
        refine bodyPost_ret (res_pars (ok := false) rfl rfl K9) rfl ⟨?_, B9⟩
        rw [HN.out.1, HN.out.2]
        first | done | rfl
      obtain ⟨⟨m, rfl, hm0, hm6⟩, rn, rt, rl, rd⟩ := good_rng hg
      have hlr := lineR_good hg
      have HYES : Hid (lineR (m : Int) v1 v2 v3 x4 = l → plOf l = some ((m : Int), v1, v2, v3, x4)) := Lib.hid (fun h => plOf_line hg h)
      have HNO : Hid (lineR (m : Int) v1 v2 v3 x4 ≠ l → plOf l = none) := Lib.hid (fun h => HNOT2.out (fun k => h k.2))
      rw [hlr] at HYES HNO
      rw [hg] at C4
      have C5 := fun W => Lib.hid (c_l4Line m v1 v2 v3 x4 W hm6 rn rt rl (by omega))
      clear hg HNOT HNOT2 hlr rn rt rl rd
      generalize lineL m v1 v2 v3 x4 = E at *
      unfold pkC at C5
      go_wp2_with fail
      refine (C4 _).out.mono ?_
      rintro e w6 ⟨rfl, b6⟩
      replace T := Lib.hid (T.out.keep b6)
      replace KP := Lib.hid (KP.out.keep b6)
      clear b6 C4 p0 p1 p2 p3 p4 pb
      obtain ⟨pb, p0, p1, p2, p3, p4⟩ := KP.out
      go_wp2_with fail
      refine (C5 _).out.mono ?_
      rintro e w7 ⟨rfl, b6⟩
      replace T := Lib.hid (T.out.keep b6)
      replace KP := Lib.hid (KP.out.keep b6)
      clear b6 C5 p0 p1 p2 p3 p4 pb
      obtain ⟨pb, p0, p1, p2, p3, p4⟩ := KP.out
      have t1 := str_tl E
      have t2 := str_tl l
      by_cases he : E = l
      · have hb : (E == l) = true := by rw [he]; exact beq_self_eq_true _
        have HS := Lib.hid (HYES.out he)
        clear he
        have HN := Lib.hid (pl_some HS.out)
        obtain ⟨BW, ⟨zb, y0, y1, y2, y3, y4⟩, fz, ⟨_, z0, z1, z2, z3, z4⟩, _⟩ := T.out
        have f0 := fz 0
        have f1 := fz 1
        have f2 := fz 2
        have f3 := fz 3
        have f4 := fz 4
        replace BW := Lib.hid BW
        have KZ := Lib.hid T.out.2.1
        clear fz
        go_wp2_with fail
        have K9 : PkAt (m : Int) v1 v2 v3 x4 w.heap.size (((((w7.setCell ⟨w.heap.size, 0, none⟩ (.int .i64 (m : Int))).setCell ⟨w.heap.size, 1, none⟩ (.int .i64 v1)).setCell ⟨w.heap.size, 2, none⟩ (.int .i64 v2)).setCell ⟨w.heap.size, 3, none⟩ (.int .i64 v3)).setCell ⟨w.heap.size, 4, none⟩ (.string (str x4))) := KZ.out.set5 (m : Int) v1 v2 v3 x4
        have B9 : Below w.heap.size w (((((w7.setCell ⟨w.heap.size, 0, none⟩ (.int .i64 (m : Int))).setCell ⟨w.heap.size, 1, none⟩ (.int .i64 v1)).setCell ⟨w.heap.size, 2, none⟩ (.int .i64 v2)).setCell ⟨w.heap.size, 3, none⟩ (.int .i64 v3)).setCell ⟨w.heap.size, 4, none⟩ (.string (str x4))) := set5 BW.out (Nat.le_refl _) _ _ _ _ _
        generalize (((((w7.setCell ⟨w.heap.size, 0, none⟩ (.int .i64 (m : Int))).setCell ⟨w.heap.size, 1, none⟩ (.int .i64 v1)).setCell ⟨w.heap.size, 2, none⟩ (.int .i64 v2)).setCell ⟨w.heap.size, 3, none⟩ (.int .i64 v3)).setCell ⟨w.heap.size, 4, none⟩ (.string (str x4))) = w9 at K9 B9 ⊢
        refine bodyPost_ret (res_pars (ok := true) rfl rfl K9) rfl ⟨?_, B9⟩
        rw [HN.out.1, HN.out.2]
        first | done | rfl
      · have hb : (E == l) = false := beq_eq_false_iff_ne.2 he
        have HNN := Lib.hid (HNO.out he)
        clear he
        have HN := Lib.hid (pl_none HNN.out)
        obtain ⟨BW, ⟨zb, y0, y1, y2, y3, y4⟩, fz, ⟨_, z0, z1, z2, z3, z4⟩, _⟩ := T.out
        have f0 := fz 0
        have f1 := fz 1
        have f2 := fz 2
        have f3 := fz 3
        have f4 := fz 4
        replace BW := Lib.hid BW
        have KZ := Lib.hid T.out.2.1
        clear fz
        go_wp2_with fail
        have K9 : PkAt 0 0 0 0 [] w.heap.size (((((w7.setCell ⟨w.heap.size, 0, none⟩ (.int .i64 0)).setCell ⟨w.heap.size, 1, none⟩ (.int .i64 0)).setCell ⟨w.heap.size, 2, none⟩ (.int .i64 0)).setCell ⟨w.heap.size, 3, none⟩ (.int .i64 0)).setCell ⟨w.heap.size, 4, none⟩ (.string (str []))) := KZ.out.set5 0 0 0 0 []
        have B9 : Below w.heap.size w (((((w7.setCell ⟨w.heap.size, 0, none⟩ (.int .i64 0)).setCell ⟨w.heap.size, 1, none⟩ (.int .i64 0)).setCell ⟨w.heap.size, 2, none⟩ (.int .i64 0)).setCell ⟨w.heap.size, 3, none⟩ (.int .i64 0)).setCell ⟨w.heap.size, 4, none⟩ (.string (str []))) := set5 BW.out (Nat.le_refl _) _ _ _ _ _
        generalize (((((w7.setCell ⟨w.heap.size, 0, none⟩ (.int .i64 0)).setCell ⟨w.heap.size, 1, none⟩ (.int .i64 0)).setCell ⟨w.heap.size, 2, none⟩ (.int .i64 0)).setCell ⟨w.heap.size, 3, none⟩ (.int .i64 0)).setCell ⟨w.heap.size, 4, none⟩ (.string (str []))) = w9 at K9 B9 ⊢
        refine bodyPost_ret (res_pars (ok := false) rfl rfl K9) rfl ⟨?_, B9⟩
        rw [HN.out.1, HN.out.2]
        first | done | rfl
end Go.Proofs.YtpmfaiocmgkmpaaGreatDoor
