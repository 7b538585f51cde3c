/- The reference's draws of sets of ranges, and of numbers near them. -/
import Derived.Test.YtlammcoiaeodfaaGreatDoorDrawW
import Derived.Test.YtlammcoiaeodfaaGreatDoorUni
namespace Go.Proofs.YtlammcoiaeodfaaGreatDoor
open Go.RowKit
set_option linter.unusedVariables false
set_option maxRecDepth 100000

theorem OwnR.cur {w w' : World} {B b cap : Nat} {A : Option Addr} {rs : List (Int × Int)} (h : OwnR w B A cap rs) (hg : w.grownBy w' (some b)) (hb : b < B) : OwnR w' B A cap rs :=
  h.far hg (T := b + 1) (fun k hk => by cases hk; exact Nat.lt_succ_self _) hb
theorem Rb.cur {w w' : World} {c b : Nat} {x y : Int} (h : Rb w c x y) (hg : w.grownBy w' (some b)) (hne : b ≠ c) : Rb w' c x y := by
  have e : w'.heap[c]? = w.heap[c]? := hg.block c h.inside (fun e => hne (by injection e with e; exact e.symm))
  exact ⟨Nat.lt_of_lt_of_le h.inside hg.size, (World.frozen?_of_block (a := ⟨c, 0, none⟩) e).trans h.free0, (World.frozen?_of_block (a := ⟨c, 1, none⟩) e).trans h.free1, (World.cell?_of_block (a := ⟨c, 0, none⟩) e).trans h.c0, (World.cell?_of_block (a := ⟨c, 1, none⟩) e).trans h.c1⟩
theorem ints_lit_at (w : World) (zs : List Int) (n : Nat) (hn : w.heap.size = n) : Ints (w.alloc (.cells (zs.map (Value.int .i64)).toArray 3)) (n + 1) (some ⟨n, 0, none⟩) zs := by
  subst hn
  exact ints_lit w zs
/-- Near the words. -/
def rgE (q : Int × Int) : Prop := (-1 ≤ q.1 ∧ q.1 ≤ 65536) ∧ (-1 ≤ q.2 ∧ q.2 ≤ 65536)
def rgL (q : Int × Int) : Prop := (0 ≤ q.1 ∧ q.1 ≤ 65535) ∧ (0 ≤ q.2 ∧ q.2 ≤ 65535)
theorem rgL_E {q : Int × Int} (h : rgL q) : rgE q := by unfold rgL at h; unfold rgE; omega
theorem Rb.set0 {w : World} {b : Nat} {x y : Int} (h : Rb w b x y) (x' : Int) : Rb (w.setCell ⟨b, 0, none⟩ (.int .i64 x')) b x' y :=
  ⟨by rw [World.size_setCell]; exact h.inside, by rw [World.frozen?_setCell]; exact h.free0, by rw [World.frozen?_setCell]; exact h.free1, World.cell?_setCell_same w ⟨b, 0, none⟩ _ h.c0, (World.cell?_setCell_other w ⟨b, 0, none⟩ ⟨b, 1, none⟩ _ (by simp)).trans h.c1⟩
theorem Rb.set1 {w : World} {b : Nat} {x y : Int} (h : Rb w b x y) (y' : Int) : Rb (w.setCell ⟨b, 1, none⟩ (.int .i64 y')) b x y' :=
  ⟨by rw [World.size_setCell]; exact h.inside, by rw [World.frozen?_setCell]; exact h.free0, by rw [World.frozen?_setCell]; exact h.free1, (World.cell?_setCell_other w ⟨b, 1, none⟩ ⟨b, 0, none⟩ _ (by simp)).trans h.c0, World.cell?_setCell_same w ⟨b, 1, none⟩ _ h.c1⟩
theorem OwnR.other {w : World} {B g cap : Nat} {rs : List (Int × Int)} (h : OwnR w B (some ⟨g, 0, none⟩) cap rs) (a : Addr) (hne : g ≠ a.block) (u : Value) : OwnR (w.setCell a u) B (some ⟨g, 0, none⟩) cap rs := by
  refine World.ownsRow.kept (row := some a.block) h ⟨rfl, rfl, rfl, by simp [World.setCell], fun k _ hk => Below.heap_setCell _ _ _ k (fun e => hk (by rw [e]))⟩ (.inr ?_)
  intro e
  injection e with e
  exact hne e
theorem memR_snoc {P : Int × Int → Prop} {rs : List (Int × Int)} {r : Int × Int} (h : ∀ x ∈ rs, P x) (hz : P r) : ∀ x ∈ rs ++ [r], P x := fun x hx => by
  rcases List.mem_append.1 hx with h1 | h1
  · exact h x h1
  · simp at h1
    subst h1
    exact hz
/-- A list of ranges that is drawn. -/
def DrawsR (b N len : Nat) (w : World) (e : Ending) (w' : World) : Prop :=
  ∃ (A : Option Addr) (cap : Nat) (rs : List (Int × Int)), e = .returned (.slice A rs.length cap) ∧ rs.length ≤ len ∧ (∀ q ∈ rs, rgE q) ∧ Cur w' b N ∧ OwnR w' w.heap.size A cap rs ∧ w.grownBy w' (some b)
theorem drop_cells (rs : List (Int × Int)) (k : Nat) : (rcells (rs.drop k)).drop 2 = rcells (rs.drop (k + 1)) := by
  cases h : rs.drop k with
  | nil =>
    have : rs.drop (k + 1) = [] := by rw [← List.drop_drop, h]; rfl
    rw [this]
    rfl
  | cons a t =>
    have : rs.drop (k + 1) = t := by rw [← List.drop_drop, h]; rfl
    rw [this]
    rfl
/-- A range put at a place. -/
theorem OwnR.put {w : World} {B g cap : Nat} {rs : List (Int × Int)} (h : OwnR w B (some ⟨g, 0, none⟩) cap rs) {k : Nat} (hk : k < rs.length) (x y : Int) :
    OwnR ((w.setCell ⟨g, k * 2, none⟩ (.int .i64 x)).setCell ⟨g, k * 2 + 1, none⟩ (.int .i64 y)) B (some ⟨g, 0, none⟩) cap (rs.take k ++ [(x, y)] ++ rs.drop (k + 1)) := by
  have h0 : w.ownsRow B 47 2 (.slice (some ⟨g, 0, none⟩) rs.length cap) rs.length (rcells (rs.take k) ++ rcells (rs.drop k)) := by
    rw [← rcells_append, List.take_append_drop]
    exact h
  have htl : (rs.take k).length = k := by simp; omega
  have h1 := own_rset h0 (by omega) x y
  rw [htl, drop_cells, ← rcells_append] at h1
  unfold OwnR
  have e : (rs.take k ++ [(x, y)] ++ rs.drop (k + 1)).length = rs.length := by simp; omega
  rw [e]
  exact h1
theorem put_mem {P : Int × Int → Prop} {rs : List (Int × Int)} {k : Nat} {r : Int × Int} (h : ∀ q ∈ rs, P q) (hr : P r) : ∀ q ∈ rs.take k ++ [r] ++ rs.drop (k + 1), P q := fun q hq => by
  rcases List.mem_append.1 hq with hq | hq
  · rcases List.mem_append.1 hq with hq | hq
    · exact h q (List.mem_of_mem_take hq)
    · simp at hq
      subst hq
      exact hr
  · exact h q (List.mem_of_mem_drop hq)
set_option maxHeartbeats 8000000 in
theorem c_rangeSet (b N : Nat) (w : World) (h : Cur w b N) (hN : N ≤ 700000) :
    Calls Tryz.prog 21 #[.pointer (some ⟨b, 0, none⟩)] w (DrawsR b (N + 200) 30 w) := by
  have HIN := Lib.hid h.inside
  have H := Lib.hid ((h.push (.cells #[] 47)))
  have HE := Lib.hid (OwnR.empty w w.heap.size (Nat.le_refl _))
  have HG := Lib.hid (grown_alloc w (.cells #[] 47) (some b))
  clear h
  go_enter Tryz.func21, Tryz.ntmps21
  go_wp2_with fail
  refine (c_among b N (w.heap.size + 1 + 1) (fun x => 0 ≤ x ∧ x ≤ 65480) _ _ [0, 0, 5, 65480] _ (H.out.push _) (by omega) (ints_lit_at (w.alloc (.cells #[] 47)) _ (w.heap.size + 1) (by simp)) (by simp) (ne_new (by have := HIN.out; omega)) (by decide) (by decide) (by decide)).mono ?_
  rintro e w0 ⟨at0, rfl, ⟨hx0, hx1⟩, k0, g0⟩
  have H0 := Lib.hid k0
  have G0 := Lib.hid (grown_trans (grown_trans HG.out (grown_alloc _ _ _)) g0)
  have O0 := Lib.hid ((HE.out.push _).cur g0 HIN.out)
  clear k0 g0 HE HG H
  go_wp2_with fail
  refine (c_pick b _ 7 _ H0.out (by omega) (by omega) (by omega)).mono ?_
  rintro e w1 ⟨y, rfl, ⟨hy0, hy1⟩, k1, g1⟩
  obtain ⟨n0, rfl⟩ : ∃ n : Nat, y = (n : Int) := ⟨y.toNat, by omega⟩
  have hn0 : n0 ≤ 6 := by omega
  have H1 := Lib.hid k1
  have G1 := Lib.hid (grown_trans G0.out g1)
  have O1 := Lib.hid (O0.out.cur g1 HIN.out)
  clear k1 g1 hy0 hy1 O0 G0 H0
  go_wp2
  go_loopw [3, 4, 5] (fun v at_ i wr => ∃ (k M : Nat) (A : Option Addr) (cap : Nat) (rs : List (Int × Int)) (x : Int), k ≤ 6 ∧ i = .int .i64 k ∧ v = .slice A rs.length cap ∧ at_ = .int .i64 x ∧ 0 ≤ x ∧ x ≤ 65540 ∧ rs.length + k ≤ 6 ∧ Hid (∀ q ∈ rs, rgL q) ∧ M + 4 * k ≤ N + 40 ∧ Hid (Cur wr b M) ∧ Hid (OwnR wr w.heap.size A cap rs) ∧ Hid (w.grownBy wr (some b))) (fun _ _ i _ => (intOf i).toNat)
  case atStart => exact ⟨n0, N + 4, _, _, [], at0, hn0, rfl, rfl, rfl, by omega, by omega, by simpa using hn0, Lib.hid (by simp), by omega, H1, O1, G1⟩
  case round =>
    clear H1 G1 O1 hx0 hx1 hn0
    obtain ⟨k, M, A, cap, rs, x, hk, rfl, rfl, rfl, hx0, hx1, hlen, HP, hM, HC, HO, HGR⟩ := hrel
    have S1 := Lib.hid (show w.heap.size ≤ wr.heap.size from HGR.out.size)
    by_cases hk0 : 0 < k ∧ x < 65535
    · obtain ⟨hk1, hxl⟩ := hk0
      go_wp2_with fail
      refine (c_among b M (wr.heap.size + 1) (fun z => 0 ≤ z ∧ z ≤ 9) _ _ [0, 0, 1, 3, 9] _ (HC.out.push _) (by omega) (ints_lit wr _) (by simp) (ne_new HC.out.inside) (by decide) (by decide) (by decide)).mono ?_
      rintro e w2 ⟨d, rfl, ⟨hd0, hd1⟩, k2, g2⟩
      have H2 := Lib.hid k2
      have G2 := Lib.hid (grown_trans (grown_trans HGR.out (grown_alloc _ _ _)) g2)
      have O2 := Lib.hid ((HO.out.push _).cur g2 HIN.out)
      clear k2 g2 HC HO HGR S1
      go_wp2_with fail
      refine (c_l1LeastR _ _ _).mono ?_
      rintro e _ ⟨rfl, rfl⟩
      obtain ⟨t, ht⟩ : ∃ t, min (x + d) 65535 = t := ⟨_, rfl⟩
      have ht0 : x ≤ t := by omega
      have ht1 : t ≤ 65535 := by omega
      rw [ht]
      clear ht hd0 hd1
      have HZ := Lib.hid (show rgL (x, t) from ⟨⟨by show 0 ≤ x; omega, by show x ≤ 65535; omega⟩, ⟨by show 0 ≤ t; omega, by show t ≤ 65535; omega⟩⟩)
      have S2 := Lib.hid (show w.heap.size ≤ w2.heap.size from G2.out.size)
      go_wp2_with (at_builtin; refine wpList_appR _ rfl _ _ rfl w.heap.size A cap rs rfl (O2.out.push _) (x, t) _ rfl (two_cells_at _ _ _ _ _ (by simp)).1 (two_cells_at _ _ _ _ _ (by simp)).2 (by omega) (by have := S2.out; simp; omega) ?_; intro A3 c3 w3 o3 b3)
      have O3 := Lib.hid o3
      have G3 := Lib.hid (grown_then (grown_trans G2.out (grown_alloc _ _ _)) b3 (Nat.le_refl _))
      have H3 := Lib.hid ((H2.out.push (.cells #[.int .i64 x, .int .i64 t] 47)).keep b3 HIN.out)
      have HP3 := Lib.hid (memR_snoc HP.out HZ.out)
      clear o3 b3 H2 G2 O2 HP HZ S2
      go_wp2_with fail
      refine (c_pick b _ 4 _ H3.out (by omega) (by omega) (by omega)).mono ?_
      rintro e w4 ⟨y, rfl, ⟨hy0, hy1⟩, k4, g4⟩
      have H4 := Lib.hid k4
      have G4 := Lib.hid (grown_trans G3.out g4)
      have O4 := Lib.hid (O3.out.cur g4 HIN.out)
      have hy3 : y ≤ 3 := by omega
      clear k4 g4 H3 G3 O3 hy1
      go_wp2
      go_roundw
      case rel => exact ⟨k - 1, _, A3, c3, rs ++ [(x, t)], t + 2 + y, by omega, by go_num, by simp, rfl, by omega, by omega, by simp; omega, HP3, by omega, H4, O4, G4⟩
      case measure => simp [intOf]; omega
    · have hk2 : k = 0 ∨ 65535 ≤ x := by omega
      by_cases hk3 : k = 0
      · obtain rfl : k = 0 := hk3
        clear hk2
        by_cases hl0 : rs.length = 0
        · have q0 : ((rs.length : Int) == 0) = true := beq_iff_eq.2 (by omega)
          have hl6 : rs.length ≤ 30 := by omega
          clear hl0
          go_wp2
          go_ret
          exact ⟨A, cap, rs, rfl, hl6, fun q hq => rgL_E (HP.out q hq), HC.out.more (by omega), HO.out, HGR.out⟩
        have q0 : ((rs.length : Int) == 0) = false := beq_eq_false_iff_ne.2 (by omega)
        go_wp2_with fail
        refine (c_pick b M _ _ HC.out (by omega) (by omega) (by omega)).mono ?_
        rintro e w2 ⟨y, rfl, ⟨hy0, hy1⟩, k2, g2⟩
        obtain ⟨kx, rfl⟩ : ∃ i : Nat, y = (i : Int) := ⟨y.toNat, by omega⟩
        have hkx : kx < rs.length := by omega
        have H2 := Lib.hid k2
        have G2 := Lib.hid (grown_trans HGR.out g2)
        have O2 := Lib.hid (HO.out.cur g2 HIN.out)
        clear k2 g2 HC HO HGR hy0 hy1
        obtain ⟨g, rfl, hg⟩ := own_head O2.out (by omega)
        have hi : (kx : Int) < (rs.length : Int) := by omega
        have c0 := (World.ownsRow.cellAt O2.out (kx * 2) (by omega)).trans (rcells_get rs kx hkx).1
        have c1 := (World.ownsRow.cellAt O2.out (kx * 2 + 1) (by omega)).trans (rcells_get rs kx hkx).2
        have hge : rgL (rs.getD kx (0, 0)) := HP.out _ (by rw [show rs.getD kx (0, 0) = rs[kx] from by simp [hkx]]; exact List.getElem_mem _)
        have HPE : Hid (∀ q ∈ rs, rgE q) := Lib.hid (fun q hq => rgL_E (HP.out q hq))
        generalize rs.getD kx (0, 0) = ee at *
        obtain ⟨ex, ey⟩ := ee
        obtain ⟨⟨x0, x1⟩, ⟨y0, y1⟩⟩ : (0 ≤ ex ∧ ex ≤ 65535) ∧ (0 ≤ ey ∧ ey ≤ 65535) := hge
        have hb2 : b < w2.heap.size := H2.out.inside
        have hw2 : w.heap.size ≤ w2.heap.size := G2.out.size
        have hgl : g < w2.heap.size := (World.ownsRow.lt O2.out g rfl).2
        clear HP q0
        go_wp2_with fail
        refine (c_pick b _ 40 _ (H2.out.push _) (by omega) (by omega) (by omega)).mono ?_
        rintro e w3 ⟨z, rfl, ⟨hz0, hz1⟩, k3, g3⟩
        have R3 := Lib.hid ((Rb.new ex ey w2 47).cur g3 (by omega))
        have H3 := Lib.hid k3
        have G3 := Lib.hid (grown_trans (grown_trans G2.out (grown_alloc _ _ _)) g3)
        have O3 := Lib.hid ((O2.out.push _).cur g3 HIN.out)
        clear k3 g3 H2 G2 O2 c0 c1
        have S3 := Lib.hid (show w.heap.size ≤ w3.heap.size from G3.out.size)
        by_cases zz0 : z = 0
        · subst zz0
          have r2 := IntWalk.i64_in (ey + 1) (by omega)
          obtain ⟨j0, j1, j2, j3, j4⟩ := R3.out
          go_wp2_with fail
          refine (c_among b _ (w3.heap.size + 1) (fun u => -1 ≤ u ∧ u ≤ 65536) _ _ [-1, ey + 1, 0] _ (H3.out.push _) (by omega) (ints_lit w3 _) (by simp) (ne_new H3.out.inside) (by simp) (by simp) (fun u hu => by simp at hu; omega)).mono ?_
          rintro e w4 ⟨fv, rfl, ⟨hf0, hf1⟩, k4, g4⟩
          obtain ⟨i0, i1, i2, i3, i4⟩ := (R3.out.push (.cells #[.int .i64 (-1), .int .i64 (ey + 1), .int .i64 0] 3)).cur g4 (by omega)
          have O4 := Lib.hid ((O3.out.push (.cells #[.int .i64 (-1), .int .i64 (ey + 1), .int .i64 0] 3)).cur g4 HIN.out)
          have CZ := Lib.hid (k4.keep ((Below.refl w2.heap.size w4).setCell (p := ⟨w2.heap.size, 0, none⟩) (Nat.le_refl _) (.int .i64 fv)) hb2)
          have GZ := Lib.hid (grown_then (grown_trans (grown_trans G3.out (grown_alloc _ _ _)) g4) ((Below.refl w2.heap.size w4).setCell (p := ⟨w2.heap.size, 0, none⟩) (Nat.le_refl _) (.int .i64 fv)) hw2)
          have OZ := Lib.hid (O4.out.other ⟨w2.heap.size, 0, none⟩ (show g ≠ w2.heap.size by omega) (.int .i64 fv))
          have FZ := Lib.hid (show rgE (fv, ey) from ⟨⟨hf0, hf1⟩, ⟨by show -1 ≤ ey; omega, by show ey ≤ 65536; omega⟩⟩)
          clear k4 g4 H3 G3 O3 R3 j3 j4 S3 r2
          have f0 := World.ownsRow.frozenAt O4.out (kx * 2)
          have f1 := World.ownsRow.frozenAt O4.out (kx * 2 + 1)
          obtain ⟨⟨v0, hv0⟩, ⟨v1, hv1⟩⟩ := own_rcell O4.out kx hkx
          have hne1 : w2.heap.size ≠ g := by omega
          have hne2 : g ≠ w2.heap.size := by omega
          have OP := Lib.hid (OZ.out.put hkx fv ey)
          have GP := Lib.hid (grown_then GZ.out (((Below.refl w.heap.size (w4.setCell ⟨w2.heap.size, 0, none⟩ (.int .i64 fv))).setCell (p := ⟨g, kx * 2, none⟩) hg (.int .i64 fv)).setCell (p := ⟨g, kx * 2 + 1, none⟩) hg (.int .i64 ey)) (Nat.le_refl _))
          have CP := Lib.hid (CZ.out.keep (((Below.refl w.heap.size (w4.setCell ⟨w2.heap.size, 0, none⟩ (.int .i64 fv))).setCell (p := ⟨g, kx * 2, none⟩) hg (.int .i64 fv)).setCell (p := ⟨g, kx * 2 + 1, none⟩) hg (.int .i64 ey)) HIN.out)
          have HPP := Lib.hid (put_mem (P := rgE) (rs := rs) (k := kx) (r := (fv, ey)) HPE.out FZ.out)
          have HLP := Lib.hid (show (rs.take kx ++ [(fv, ey)] ++ rs.drop (kx + 1)).length = rs.length by simp; omega)
          clear OZ GZ CZ FZ HPE O4
          go_wp2
          go_ret
          exact ⟨_, cap, _, by rw [HLP.out]; rfl, by rw [HLP.out]; omega, HPP.out, CP.out.more (by omega), OP.out, GP.out⟩
        have b0 : (z == 0) = false := beq_eq_false_iff_ne.2 zz0
        by_cases zz1 : z = 1
        · subst zz1
          have r2 := IntWalk.i64_in (ey + 1) (by omega)
          obtain ⟨j0, j1, j2, j3, j4⟩ := R3.out
          go_wp2_with fail
          refine (c_among b _ (w3.heap.size + 1) (fun u => -1 ≤ u ∧ u ≤ 65536) _ _ [65535, 65536, ey + 1] _ (H3.out.push _) (by omega) (ints_lit w3 _) (by simp) (ne_new H3.out.inside) (by simp) (by simp) (fun u hu => by simp at hu; omega)).mono ?_
          rintro e w4 ⟨fv, rfl, ⟨hf0, hf1⟩, k4, g4⟩
          obtain ⟨i0, i1, i2, i3, i4⟩ := (R3.out.push (.cells #[.int .i64 65535, .int .i64 65536, .int .i64 (ey + 1)] 3)).cur g4 (by omega)
          have O4 := Lib.hid ((O3.out.push (.cells #[.int .i64 65535, .int .i64 65536, .int .i64 (ey + 1)] 3)).cur g4 HIN.out)
          have CZ := Lib.hid (k4.keep ((Below.refl w2.heap.size w4).setCell (p := ⟨w2.heap.size, 1, none⟩) (Nat.le_refl _) (.int .i64 fv)) hb2)
          have GZ := Lib.hid (grown_then (grown_trans (grown_trans G3.out (grown_alloc _ _ _)) g4) ((Below.refl w2.heap.size w4).setCell (p := ⟨w2.heap.size, 1, none⟩) (Nat.le_refl _) (.int .i64 fv)) hw2)
          have OZ := Lib.hid (O4.out.other ⟨w2.heap.size, 1, none⟩ (show g ≠ w2.heap.size by omega) (.int .i64 fv))
          have FZ := Lib.hid (show rgE (ex, fv) from ⟨⟨by show -1 ≤ ex; omega, by show ex ≤ 65536; omega⟩, ⟨hf0, hf1⟩⟩)
          clear k4 g4 H3 G3 O3 R3 j3 j4 S3 r2
          have f0 := World.ownsRow.frozenAt O4.out (kx * 2)
          have f1 := World.ownsRow.frozenAt O4.out (kx * 2 + 1)
          obtain ⟨⟨v0, hv0⟩, ⟨v1, hv1⟩⟩ := own_rcell O4.out kx hkx
          have hne1 : w2.heap.size ≠ g := by omega
          have hne2 : g ≠ w2.heap.size := by omega
          have OP := Lib.hid (OZ.out.put hkx ex fv)
          have GP := Lib.hid (grown_then GZ.out (((Below.refl w.heap.size (w4.setCell ⟨w2.heap.size, 1, none⟩ (.int .i64 fv))).setCell (p := ⟨g, kx * 2, none⟩) hg (.int .i64 ex)).setCell (p := ⟨g, kx * 2 + 1, none⟩) hg (.int .i64 fv)) (Nat.le_refl _))
          have CP := Lib.hid (CZ.out.keep (((Below.refl w.heap.size (w4.setCell ⟨w2.heap.size, 1, none⟩ (.int .i64 fv))).setCell (p := ⟨g, kx * 2, none⟩) hg (.int .i64 ex)).setCell (p := ⟨g, kx * 2 + 1, none⟩) hg (.int .i64 fv)) HIN.out)
          have HPP := Lib.hid (put_mem (P := rgE) (rs := rs) (k := kx) (r := (ex, fv)) HPE.out FZ.out)
          have HLP := Lib.hid (show (rs.take kx ++ [(ex, fv)] ++ rs.drop (kx + 1)).length = rs.length by simp; omega)
          clear OZ GZ CZ FZ HPE O4
          go_wp2
          go_ret
          exact ⟨_, cap, _, by rw [HLP.out]; rfl, by rw [HLP.out]; omega, HPP.out, CP.out.more (by omega), OP.out, GP.out⟩
        have b1 : (z == 1) = false := beq_eq_false_iff_ne.2 zz1
        by_cases zz2 : z = 2
        · subst zz2
          have OE := Lib.hid (OwnR.empty w3 w.heap.size S3.out)
          have CE := Lib.hid (H3.out.push (.cells #[] 47))
          have GE := Lib.hid (grown_trans G3.out (grown_alloc w3 (.cells #[] 47) (some b)))
          clear b0 b1 zz0 zz1 H3 G3 O3 R3 S3 HPE
          go_wp2
          go_loopw [3, 9] (fun v i wr => ∃ (j M' : Nat) (A : Option Addr) (cap : Nat) (qs : List (Int × Int)), j ≤ 12 ∧ i = .int .i64 j ∧ v = .slice A qs.length cap ∧ qs.length ≤ j ∧ Hid (∀ q ∈ qs, rgE q) ∧ M' ≤ N + 90 + 2 * j ∧ Hid (Cur wr b M') ∧ Hid (OwnR wr w.heap.size A cap qs) ∧ Hid (w.grownBy wr (some b))) (fun _ i _ => 12 - (intOf i).toNat)
          case atStart => exact ⟨0, _, _, 0, [], by omega, rfl, rfl, by simp, Lib.hid (by simp), by omega, CE, OE, GE⟩
          case round =>
            clear CE OE GE
            obtain ⟨j, M', A, cap, qs, hj, rfl, rfl, hlen, HP, hM', HC, HO, HGR⟩ := hrel
            go_wp2_with fail
            refine (c_pick b M' 2 _ HC.out (by omega) (by omega) (by omega)).mono ?_
            rintro e w5 ⟨y, rfl, ⟨hy0, hy1⟩, k5, g5⟩
            have H5 := Lib.hid k5
            have G5 := Lib.hid (grown_trans HGR.out g5)
            have O5 := Lib.hid (HO.out.cur g5 HIN.out)
            have S5 := Lib.hid (show w.heap.size ≤ w5.heap.size from G5.out.size)
            have hy2 : y < 2 := by omega
            clear k5 g5 HC HO HGR hy1
            by_cases hlt : (j : Int) < 10 + y
            · have hj11 : j < 12 := by omega
              have HZ := Lib.hid (show rgE (10 * (j : Int), 10 * (j : Int) + 3) from ⟨⟨by show -1 ≤ 10 * (j : Int); omega, by show 10 * (j : Int) ≤ 65536; omega⟩, ⟨by show -1 ≤ 10 * (j : Int) + 3; omega, by show 10 * (j : Int) + 3 ≤ 65536; omega⟩⟩)
              go_wp2_with (at_builtin; refine wpList_appR _ rfl _ _ rfl w.heap.size A cap qs rfl (O5.out.push _) (10 * (j : Int), 10 * (j : Int) + 3) _ rfl (two_cells_at _ _ _ _ _ (by simp)).1 (two_cells_at _ _ _ _ _ (by simp)).2 (by omega) (by have := S5.out; simp; omega) ?_; intro A6 c6 w6 o6 b6)
              have O6 := Lib.hid o6
              have G6 := Lib.hid (grown_then (grown_trans G5.out (grown_alloc _ _ _)) b6 (Nat.le_refl _))
              have H6 := Lib.hid ((H5.out.push (.cells #[.int .i64 (10 * (j : Int)), .int .i64 (10 * (j : Int) + 3)] 47)).keep b6 HIN.out)
              have HP6 := Lib.hid (memR_snoc HP.out HZ.out)
              clear o6 b6 H5 G5 O5 HP HZ S5
              go_wp2
              go_roundw
              case rel => exact ⟨j + 1, M' + 2, A6, c6, qs ++ [(10 * (j : Int), 10 * (j : Int) + 3)], by omega, by go_num, by simp, by simp; omega, HP6, by omega, H6, O6, G6⟩
              case measure => simp [intOf]; omega
            · go_wp2
              go_ret
              exact ⟨A, cap, qs, rfl, by omega, HP.out, H5.out.more (by omega), O5.out, G5.out⟩
        have b2 : (z == 2) = false := beq_eq_false_iff_ne.2 zz2
        have O4 := O3
        have OZ := O3
        have CZ := H3
        have GZ := G3
        obtain ⟨i0, i1, i2, i3, i4⟩ := R3.out
        have FZ := Lib.hid (show rgE (ex, ey) from rgL_E ⟨⟨x0, x1⟩, ⟨y0, y1⟩⟩)
        clear O3 H3 G3 R3
        have f0 := World.ownsRow.frozenAt O4.out (kx * 2)
        have f1 := World.ownsRow.frozenAt O4.out (kx * 2 + 1)
        obtain ⟨⟨v0, hv0⟩, ⟨v1, hv1⟩⟩ := own_rcell O4.out kx hkx
        have hne1 : w2.heap.size ≠ g := by omega
        have hne2 : g ≠ w2.heap.size := by omega
        have OP := Lib.hid (OZ.out.put hkx ex ey)
        have GP := Lib.hid (grown_then GZ.out (((Below.refl w.heap.size w3).setCell (p := ⟨g, kx * 2, none⟩) hg (.int .i64 ex)).setCell (p := ⟨g, kx * 2 + 1, none⟩) hg (.int .i64 ey)) (Nat.le_refl _))
        have CP := Lib.hid (CZ.out.keep (((Below.refl w.heap.size w3).setCell (p := ⟨g, kx * 2, none⟩) hg (.int .i64 ex)).setCell (p := ⟨g, kx * 2 + 1, none⟩) hg (.int .i64 ey)) HIN.out)
        have HPP := Lib.hid (put_mem (P := rgE) (rs := rs) (k := kx) (r := (ex, ey)) HPE.out FZ.out)
        have HLP := Lib.hid (show (rs.take kx ++ [(ex, ey)] ++ rs.drop (kx + 1)).length = rs.length by simp; omega)
        clear OZ GZ CZ FZ HPE O4
        go_wp2
        go_ret
        exact ⟨_, cap, _, by rw [HLP.out]; rfl, by rw [HLP.out]; omega, HPP.out, CP.out.more (by omega), OP.out, GP.out⟩
      have hk4 : 0 < k := by omega
      have hx2 : ¬ x < 65535 := by omega
      clear hk3 hk2
      by_cases hl0 : rs.length = 0
      · have q0 : ((rs.length : Int) == 0) = true := beq_iff_eq.2 (by omega)
        have hl6 : rs.length ≤ 30 := by omega
        clear hl0
        go_wp2
        go_ret
        exact ⟨A, cap, rs, rfl, hl6, fun q hq => rgL_E (HP.out q hq), HC.out.more (by omega), HO.out, HGR.out⟩
      have q0 : ((rs.length : Int) == 0) = false := beq_eq_false_iff_ne.2 (by omega)
      go_wp2_with fail
      refine (c_pick b M _ _ HC.out (by omega) (by omega) (by omega)).mono ?_
      rintro e w2 ⟨y, rfl, ⟨hy0, hy1⟩, k2, g2⟩
      obtain ⟨kx, rfl⟩ : ∃ i : Nat, y = (i : Int) := ⟨y.toNat, by omega⟩
      have hkx : kx < rs.length := by omega
      have H2 := Lib.hid k2
      have G2 := Lib.hid (grown_trans HGR.out g2)
      have O2 := Lib.hid (HO.out.cur g2 HIN.out)
      clear k2 g2 HC HO HGR hy0 hy1
      obtain ⟨g, rfl, hg⟩ := own_head O2.out (by omega)
      have hi : (kx : Int) < (rs.length : Int) := by omega
      have c0 := (World.ownsRow.cellAt O2.out (kx * 2) (by omega)).trans (rcells_get rs kx hkx).1
      have c1 := (World.ownsRow.cellAt O2.out (kx * 2 + 1) (by omega)).trans (rcells_get rs kx hkx).2
      have hge : rgL (rs.getD kx (0, 0)) := HP.out _ (by rw [show rs.getD kx (0, 0) = rs[kx] from by simp [hkx]]; exact List.getElem_mem _)
      have HPE : Hid (∀ q ∈ rs, rgE q) := Lib.hid (fun q hq => rgL_E (HP.out q hq))
      generalize rs.getD kx (0, 0) = ee at *
      obtain ⟨ex, ey⟩ := ee
      obtain ⟨⟨x0, x1⟩, ⟨y0, y1⟩⟩ : (0 ≤ ex ∧ ex ≤ 65535) ∧ (0 ≤ ey ∧ ey ≤ 65535) := hge
      have hb2 : b < w2.heap.size := H2.out.inside
      have hw2 : w.heap.size ≤ w2.heap.size := G2.out.size
      have hgl : g < w2.heap.size := (World.ownsRow.lt O2.out g rfl).2
      clear HP q0
      go_wp2_with fail
      refine (c_pick b _ 40 _ (H2.out.push _) (by omega) (by omega) (by omega)).mono ?_
      rintro e w3 ⟨z, rfl, ⟨hz0, hz1⟩, k3, g3⟩
      have R3 := Lib.hid ((Rb.new ex ey w2 47).cur g3 (by omega))
      have H3 := Lib.hid k3
      have G3 := Lib.hid (grown_trans (grown_trans G2.out (grown_alloc _ _ _)) g3)
      have O3 := Lib.hid ((O2.out.push _).cur g3 HIN.out)
      clear k3 g3 H2 G2 O2 c0 c1
      have S3 := Lib.hid (show w.heap.size ≤ w3.heap.size from G3.out.size)
      by_cases zz0 : z = 0
      · subst zz0
        have r2 := IntWalk.i64_in (ey + 1) (by omega)
        obtain ⟨j0, j1, j2, j3, j4⟩ := R3.out
        go_wp2_with fail
        refine (c_among b _ (w3.heap.size + 1) (fun u => -1 ≤ u ∧ u ≤ 65536) _ _ [-1, ey + 1, 0] _ (H3.out.push _) (by omega) (ints_lit w3 _) (by simp) (ne_new H3.out.inside) (by simp) (by simp) (fun u hu => by simp at hu; omega)).mono ?_
        rintro e w4 ⟨fv, rfl, ⟨hf0, hf1⟩, k4, g4⟩
        obtain ⟨i0, i1, i2, i3, i4⟩ := (R3.out.push (.cells #[.int .i64 (-1), .int .i64 (ey + 1), .int .i64 0] 3)).cur g4 (by omega)
        have O4 := Lib.hid ((O3.out.push (.cells #[.int .i64 (-1), .int .i64 (ey + 1), .int .i64 0] 3)).cur g4 HIN.out)
        have CZ := Lib.hid (k4.keep ((Below.refl w2.heap.size w4).setCell (p := ⟨w2.heap.size, 0, none⟩) (Nat.le_refl _) (.int .i64 fv)) hb2)
        have GZ := Lib.hid (grown_then (grown_trans (grown_trans G3.out (grown_alloc _ _ _)) g4) ((Below.refl w2.heap.size w4).setCell (p := ⟨w2.heap.size, 0, none⟩) (Nat.le_refl _) (.int .i64 fv)) hw2)
        have OZ := Lib.hid (O4.out.other ⟨w2.heap.size, 0, none⟩ (show g ≠ w2.heap.size by omega) (.int .i64 fv))
        have FZ := Lib.hid (show rgE (fv, ey) from ⟨⟨hf0, hf1⟩, ⟨by show -1 ≤ ey; omega, by show ey ≤ 65536; omega⟩⟩)
        clear k4 g4 H3 G3 O3 R3 j3 j4 S3 r2
        have f0 := World.ownsRow.frozenAt O4.out (kx * 2)
        have f1 := World.ownsRow.frozenAt O4.out (kx * 2 + 1)
        obtain ⟨⟨v0, hv0⟩, ⟨v1, hv1⟩⟩ := own_rcell O4.out kx hkx
        have hne1 : w2.heap.size ≠ g := by omega
        have hne2 : g ≠ w2.heap.size := by omega
        have OP := Lib.hid (OZ.out.put hkx fv ey)
        have GP := Lib.hid (grown_then GZ.out (((Below.refl w.heap.size (w4.setCell ⟨w2.heap.size, 0, none⟩ (.int .i64 fv))).setCell (p := ⟨g, kx * 2, none⟩) hg (.int .i64 fv)).setCell (p := ⟨g, kx * 2 + 1, none⟩) hg (.int .i64 ey)) (Nat.le_refl _))
        have CP := Lib.hid (CZ.out.keep (((Below.refl w.heap.size (w4.setCell ⟨w2.heap.size, 0, none⟩ (.int .i64 fv))).setCell (p := ⟨g, kx * 2, none⟩) hg (.int .i64 fv)).setCell (p := ⟨g, kx * 2 + 1, none⟩) hg (.int .i64 ey)) HIN.out)
        have HPP := Lib.hid (put_mem (P := rgE) (rs := rs) (k := kx) (r := (fv, ey)) HPE.out FZ.out)
        have HLP := Lib.hid (show (rs.take kx ++ [(fv, ey)] ++ rs.drop (kx + 1)).length = rs.length by simp; omega)
        clear OZ GZ CZ FZ HPE O4
        go_wp2
        go_ret
        exact ⟨_, cap, _, by rw [HLP.out]; rfl, by rw [HLP.out]; omega, HPP.out, CP.out.more (by omega), OP.out, GP.out⟩
      have b0 : (z == 0) = false := beq_eq_false_iff_ne.2 zz0
      by_cases zz1 : z = 1
      · subst zz1
        have r2 := IntWalk.i64_in (ey + 1) (by omega)
        obtain ⟨j0, j1, j2, j3, j4⟩ := R3.out
        go_wp2_with fail
        refine (c_among b _ (w3.heap.size + 1) (fun u => -1 ≤ u ∧ u ≤ 65536) _ _ [65535, 65536, ey + 1] _ (H3.out.push _) (by omega) (ints_lit w3 _) (by simp) (ne_new H3.out.inside) (by simp) (by simp) (fun u hu => by simp at hu; omega)).mono ?_
        rintro e w4 ⟨fv, rfl, ⟨hf0, hf1⟩, k4, g4⟩
        obtain ⟨i0, i1, i2, i3, i4⟩ := (R3.out.push (.cells #[.int .i64 65535, .int .i64 65536, .int .i64 (ey + 1)] 3)).cur g4 (by omega)
        have O4 := Lib.hid ((O3.out.push (.cells #[.int .i64 65535, .int .i64 65536, .int .i64 (ey + 1)] 3)).cur g4 HIN.out)
        have CZ := Lib.hid (k4.keep ((Below.refl w2.heap.size w4).setCell (p := ⟨w2.heap.size, 1, none⟩) (Nat.le_refl _) (.int .i64 fv)) hb2)
        have GZ := Lib.hid (grown_then (grown_trans (grown_trans G3.out (grown_alloc _ _ _)) g4) ((Below.refl w2.heap.size w4).setCell (p := ⟨w2.heap.size, 1, none⟩) (Nat.le_refl _) (.int .i64 fv)) hw2)
        have OZ := Lib.hid (O4.out.other ⟨w2.heap.size, 1, none⟩ (show g ≠ w2.heap.size by omega) (.int .i64 fv))
        have FZ := Lib.hid (show rgE (ex, fv) from ⟨⟨by show -1 ≤ ex; omega, by show ex ≤ 65536; omega⟩, ⟨hf0, hf1⟩⟩)
        clear k4 g4 H3 G3 O3 R3 j3 j4 S3 r2
        have f0 := World.ownsRow.frozenAt O4.out (kx * 2)
        have f1 := World.ownsRow.frozenAt O4.out (kx * 2 + 1)
        obtain ⟨⟨v0, hv0⟩, ⟨v1, hv1⟩⟩ := own_rcell O4.out kx hkx
        have hne1 : w2.heap.size ≠ g := by omega
        have hne2 : g ≠ w2.heap.size := by omega
        have OP := Lib.hid (OZ.out.put hkx ex fv)
        have GP := Lib.hid (grown_then GZ.out (((Below.refl w.heap.size (w4.setCell ⟨w2.heap.size, 1, none⟩ (.int .i64 fv))).setCell (p := ⟨g, kx * 2, none⟩) hg (.int .i64 ex)).setCell (p := ⟨g, kx * 2 + 1, none⟩) hg (.int .i64 fv)) (Nat.le_refl _))
        have CP := Lib.hid (CZ.out.keep (((Below.refl w.heap.size (w4.setCell ⟨w2.heap.size, 1, none⟩ (.int .i64 fv))).setCell (p := ⟨g, kx * 2, none⟩) hg (.int .i64 ex)).setCell (p := ⟨g, kx * 2 + 1, none⟩) hg (.int .i64 fv)) HIN.out)
        have HPP := Lib.hid (put_mem (P := rgE) (rs := rs) (k := kx) (r := (ex, fv)) HPE.out FZ.out)
        have HLP := Lib.hid (show (rs.take kx ++ [(ex, fv)] ++ rs.drop (kx + 1)).length = rs.length by simp; omega)
        clear OZ GZ CZ FZ HPE O4
        go_wp2
        go_ret
        exact ⟨_, cap, _, by rw [HLP.out]; rfl, by rw [HLP.out]; omega, HPP.out, CP.out.more (by omega), OP.out, GP.out⟩
      have b1 : (z == 1) = false := beq_eq_false_iff_ne.2 zz1
      by_cases zz2 : z = 2
      · subst zz2
        have OE := Lib.hid (OwnR.empty w3 w.heap.size S3.out)
        have CE := Lib.hid (H3.out.push (.cells #[] 47))
        have GE := Lib.hid (grown_trans G3.out (grown_alloc w3 (.cells #[] 47) (some b)))
        clear b0 b1 zz0 zz1 H3 G3 O3 R3 S3 HPE
        go_wp2
        go_loopw [3, 9] (fun v i wr => ∃ (j M' : Nat) (A : Option Addr) (cap : Nat) (qs : List (Int × Int)), j ≤ 12 ∧ i = .int .i64 j ∧ v = .slice A qs.length cap ∧ qs.length ≤ j ∧ Hid (∀ q ∈ qs, rgE q) ∧ M' ≤ N + 90 + 2 * j ∧ Hid (Cur wr b M') ∧ Hid (OwnR wr w.heap.size A cap qs) ∧ Hid (w.grownBy wr (some b))) (fun _ i _ => 12 - (intOf i).toNat)
        case atStart => exact ⟨0, _, _, 0, [], by omega, rfl, rfl, by simp, Lib.hid (by simp), by omega, CE, OE, GE⟩
        case round =>
          clear CE OE GE
          obtain ⟨j, M', A, cap, qs, hj, rfl, rfl, hlen, HP, hM', HC, HO, HGR⟩ := hrel
          go_wp2_with fail
          refine (c_pick b M' 2 _ HC.out (by omega) (by omega) (by omega)).mono ?_
          rintro e w5 ⟨y, rfl, ⟨hy0, hy1⟩, k5, g5⟩
          have H5 := Lib.hid k5
          have G5 := Lib.hid (grown_trans HGR.out g5)
          have O5 := Lib.hid (HO.out.cur g5 HIN.out)
          have S5 := Lib.hid (show w.heap.size ≤ w5.heap.size from G5.out.size)
          have hy2 : y < 2 := by omega
          clear k5 g5 HC HO HGR hy1
          by_cases hlt : (j : Int) < 10 + y
          · have hj11 : j < 12 := by omega
            have HZ := Lib.hid (show rgE (10 * (j : Int), 10 * (j : Int) + 3) from ⟨⟨by show -1 ≤ 10 * (j : Int); omega, by show 10 * (j : Int) ≤ 65536; omega⟩, ⟨by show -1 ≤ 10 * (j : Int) + 3; omega, by show 10 * (j : Int) + 3 ≤ 65536; omega⟩⟩)
            go_wp2_with (at_builtin; refine wpList_appR _ rfl _ _ rfl w.heap.size A cap qs rfl (O5.out.push _) (10 * (j : Int), 10 * (j : Int) + 3) _ rfl (two_cells_at _ _ _ _ _ (by simp)).1 (two_cells_at _ _ _ _ _ (by simp)).2 (by omega) (by have := S5.out; simp; omega) ?_; intro A6 c6 w6 o6 b6)
            have O6 := Lib.hid o6
            have G6 := Lib.hid (grown_then (grown_trans G5.out (grown_alloc _ _ _)) b6 (Nat.le_refl _))
            have H6 := Lib.hid ((H5.out.push (.cells #[.int .i64 (10 * (j : Int)), .int .i64 (10 * (j : Int) + 3)] 47)).keep b6 HIN.out)
            have HP6 := Lib.hid (memR_snoc HP.out HZ.out)
            clear o6 b6 H5 G5 O5 HP HZ S5
            go_wp2
            go_roundw
            case rel => exact ⟨j + 1, M' + 2, A6, c6, qs ++ [(10 * (j : Int), 10 * (j : Int) + 3)], by omega, by go_num, by simp, by simp; omega, HP6, by omega, H6, O6, G6⟩
            case measure => simp [intOf]; omega
          · go_wp2
            go_ret
            exact ⟨A, cap, qs, rfl, by omega, HP.out, H5.out.more (by omega), O5.out, G5.out⟩
      have b2 : (z == 2) = false := beq_eq_false_iff_ne.2 zz2
      have O4 := O3
      have OZ := O3
      have CZ := H3
      have GZ := G3
      obtain ⟨i0, i1, i2, i3, i4⟩ := R3.out
      have FZ := Lib.hid (show rgE (ex, ey) from rgL_E ⟨⟨x0, x1⟩, ⟨y0, y1⟩⟩)
      clear O3 H3 G3 R3
      have f0 := World.ownsRow.frozenAt O4.out (kx * 2)
      have f1 := World.ownsRow.frozenAt O4.out (kx * 2 + 1)
      obtain ⟨⟨v0, hv0⟩, ⟨v1, hv1⟩⟩ := own_rcell O4.out kx hkx
      have hne1 : w2.heap.size ≠ g := by omega
      have hne2 : g ≠ w2.heap.size := by omega
      have OP := Lib.hid (OZ.out.put hkx ex ey)
      have GP := Lib.hid (grown_then GZ.out (((Below.refl w.heap.size w3).setCell (p := ⟨g, kx * 2, none⟩) hg (.int .i64 ex)).setCell (p := ⟨g, kx * 2 + 1, none⟩) hg (.int .i64 ey)) (Nat.le_refl _))
      have CP := Lib.hid (CZ.out.keep (((Below.refl w.heap.size w3).setCell (p := ⟨g, kx * 2, none⟩) hg (.int .i64 ex)).setCell (p := ⟨g, kx * 2 + 1, none⟩) hg (.int .i64 ey)) HIN.out)
      have HPP := Lib.hid (put_mem (P := rgE) (rs := rs) (k := kx) (r := (ex, ey)) HPE.out FZ.out)
      have HLP := Lib.hid (show (rs.take kx ++ [(ex, ey)] ++ rs.drop (kx + 1)).length = rs.length by simp; omega)
      clear OZ GZ CZ FZ HPE O4
      go_wp2
      go_ret
      exact ⟨_, cap, _, by rw [HLP.out]; rfl, by rw [HLP.out]; omega, HPP.out, CP.out.more (by omega), OP.out, GP.out⟩
end Go.Proofs.YtlammcoiaeodfaaGreatDoor
