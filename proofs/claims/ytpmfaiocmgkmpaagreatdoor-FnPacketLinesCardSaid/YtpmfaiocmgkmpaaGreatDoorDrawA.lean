/- A packet drawn that may be invalid. -/
import Derived.Test.YtpmfaiocmgkmpaaGreatDoorDrawK
namespace Go.Proofs.YtpmfaiocmgkmpaaGreatDoor
open Go.RowKit
set_option linter.unusedVariables false
set_option maxRecDepth 100000

theorem res_apk {ts : Array Value} {b : Nat} {w : World} {k n t l : Int} {d : List UInt8} (h2 : ts[2]? = some (.pointer (some ⟨b, 0, none⟩))) (K : PkAt k n t l d b w) :
    (results Tryz.f31 ts).run Tryz.prog w = .ok (.agg (pkC k n t l d)) w := by
  obtain ⟨_, c0, c1, c2, c3, c4⟩ := K
  simp [results, Tryz.results31, go_sem, h2, c0, c1, c2, c3, c4]
  rfl
set_option maxHeartbeats 8000000 in
theorem c_anyPacket (b N : Nat) (w : World) (h : Cur w b N) (hN : N ≤ 700000) :
    Calls Tryz.prog 31 #[.pointer (some ⟨b, 0, none⟩)] w (DrawsP b (N + 60) (fun _ _ _ _ d => d.length ≤ 20) w) := by
  have H0 := Lib.hid (h.push (.cells #[.int .i64 0, .int .i64 0, .int .i64 0, .int .i64 0, .string ⟨#[]⟩] 25))
  have hbz : b < w.heap.size := h.inside
  have G0 := Lib.hid (grown_alloc w (.cells #[.int .i64 0, .int .i64 0, .int .i64 0, .int .i64 0, .string ⟨#[]⟩] 25) (some b))
  have KZ0 : Hid (PkAt 0 0 0 0 [] w.heap.size (w.alloc (.cells #[.int .i64 0, .int .i64 0, .int .i64 0, .int .i64 0, .string ⟨#[]⟩] 25))) := Lib.hid (pkAt_new 0 0 0 0 [] w 25)
  have KF0 := Lib.hid (show Free w.heap.size (w.alloc (.cells #[.int .i64 0, .int .i64 0, .int .i64 0, .int .i64 0, .string ⟨#[]⟩] 25)) from fun j => free_new w #[.int .i64 0, .int .i64 0, .int .i64 0, .int .i64 0, .string ⟨#[]⟩] 25 j)
  clear h
  go_enter Tryz.func31, Tryz.ntmps31
  go_wp2_with fail
  generalize w.alloc (.cells #[.int .i64 0, .int .i64 0, .int .i64 0, .int .i64 0, .string ⟨#[]⟩] 25) = w0 at *
  refine (c_packet b N _ H0.out (by omega)).mono ?_
  rintro e w1 ⟨k, n, t, l, d, rfl, hg, k1, g1⟩
  obtain ⟨_, _, ht, _, _, hd8⟩ := goodP_t hg
  obtain ⟨ht0, ht1⟩ := ht
  have hb1 : b < w1.heap.size := k1.inside
  have bA := (Below.refl w1.heap.size w1).alloc (Nat.le_refl _) (.cells #[.int .i64 k, .int .i64 n, .int .i64 t, .int .i64 l, .string (str d)] 25)
  have H1 := Lib.hid (k1.keep bA hb1)
  have G1 := Lib.hid (grown_trans (grown_trans G0.out g1) (grown_below bA))
  have KZ1' := KZ0.out.grown g1 (by omega)
  have hs1 : w.heap.size < w1.heap.size := KZ1'.1
  have KZ1 := Lib.hid (KZ1'.keep bA)
  have KF1 := Lib.hid (Free.keep (Free.grown KF0.out KZ0.out.1 g1 (by omega)) hs1 bA)
  have KP1 := Lib.hid (pkAt_new k n t l d w1 25)
  have PF1 : Hid (Free w1.heap.size (w1.alloc (.cells #[.int .i64 k, .int .i64 n, .int .i64 t, .int .i64 l, .string (str d)] 25))) := Lib.hid (fun j => free_new w1 #[.int .i64 k, .int .i64 n, .int .i64 t, .int .i64 l, .string (str d)] 25 j)
  clear k1 g1 H0 G0 KZ0 KF0 KZ1' bA hg
  unfold pkC
  go_upto_region 2 with fail
  generalize w1.alloc (.cells #[.int .i64 k, .int .i64 n, .int .i64 t, .int .i64 l, .string (str d)] 25) = v1 at *
  go_wp2_with fail
  refine (c_pick b _ 24 _ H1.out (by omega) (by omega) (by omega)).mono ?_
  rintro e v2 ⟨x, rfl, ⟨hx0, hx1⟩, k2, g2⟩
  have HX := Lib.hid k2
  have KP := Lib.hid (KP1.out.grown g2 (by omega))
  have PF := Lib.hid (Free.grown PF1.out KP1.out.1 g2 (by omega))
  have KZX := Lib.hid (KZ1.out.grown g2 (by omega))
  have KFX := Lib.hid (Free.grown KF1.out KZ1.out.1 g2 (by omega))
  have GX := Lib.hid (grown_trans G1.out g2)
  clear k2 g2 H1 G1 KZ1 KF1 KP1 PF1 hx0 hx1
  by_cases h0 : x = 0
  · subst h0
    go_wp2_with fail
    refine (c_among b _ (v2.heap.size + 1) (fun x => -100000 ≤ x ∧ x ≤ 100000) _ _ [0, 6, 5] _ (HX.out.push _) (by omega) (ints_lit v2 _) (by simp) (ne_new HX.out.inside) (by decide) (by decide) (by decide)).mono ?_
    rintro e v3 ⟨y, rfl, ⟨hy0, hy1⟩, k3, g3⟩
    have H3 := Lib.hid k3
    have g4 := grown_trans (grown_alloc v2 _ (some b)) g3
    have KP3 := Lib.hid (KP.out.grown g4 (by omega))
    have PF3 := Lib.hid (Free.grown PF.out KP.out.1 g4 (by omega))
    have KZ3 := Lib.hid (KZX.out.grown g4 (by omega))
    have KF3 := Lib.hid (Free.grown KFX.out KZX.out.1 g4 (by omega))
    have G3 := Lib.hid (grown_trans GX.out g4)
    clear KP PF KZX KFX GX HX
    clear k3 g3 g4
    obtain ⟨pb, p0, p1, p2, p3, p4⟩ := KP3.out
    have pf := PF3.out 0
    go_upto_region 11 with fail
    have o4 : ∀ j, (v3.setCell ⟨w1.heap.size, 0, none⟩ (.int .i64 y)).cell? ⟨w.heap.size, j, none⟩ = v3.cell? ⟨w.heap.size, j, none⟩ := fun j => World.cell?_setCell_other v3 ⟨w1.heap.size, 0, none⟩ ⟨w.heap.size, j, none⟩ _ (by intro e; simp only [Addr.mk.injEq] at e; omega)
    have KZX : Hid (PkAt 0 0 0 0 [] w.heap.size (v3.setCell ⟨w1.heap.size, 0, none⟩ (.int .i64 y))) := Lib.hid (by
      obtain ⟨y0, y1, y2, y3, y4, y5⟩ := KZ3.out
      exact ⟨by rw [World.size_setCell]; exact y0, (o4 0).trans y1, (o4 1).trans y2, (o4 2).trans y3, (o4 3).trans y4, (o4 4).trans y5⟩)
    have KFX := Lib.hid (KF3.out.set ⟨w1.heap.size, 0, none⟩ (.int .i64 y))
    have KP := Lib.hid (KP3.out.set0 y)
    have GX := Lib.hid (grown_new G3.out (show w.heap.size ≤ w1.heap.size by omega) 0 (.int .i64 y))
    have HX := Lib.hid (H3.out.keep ((Below.refl w1.heap.size v3).setCell (p := ⟨w1.heap.size, 0, none⟩) (Nat.le_refl _) (.int .i64 y)) hb1)
    clear o4 p0 p1 p2 p3 p4 pb pf KP3 PF3 KZ3 KF3 G3 H3
    generalize (v3.setCell ⟨w1.heap.size, 0, none⟩ (.int .i64 y)) = w7 at *
    obtain ⟨_, z0, z1, z2, z3, z4⟩ := KZX.out
    obtain ⟨pb, p0, p1, p2, p3, p4⟩ := KP.out
    have f0 := KFX.out 0
    have f1 := KFX.out 1
    have f2 := KFX.out 2
    have f3 := KFX.out 3
    have f4 := KFX.out 4
    go_wp2_with fail
    have K9 : PkAt y n t l d w.heap.size (((((w7.setCell ⟨w.heap.size, 0, none⟩ (.int .i64 y)).setCell ⟨w.heap.size, 1, none⟩ (.int .i64 n)).setCell ⟨w.heap.size, 2, none⟩ (.int .i64 t)).setCell ⟨w.heap.size, 3, none⟩ (.int .i64 l)).setCell ⟨w.heap.size, 4, none⟩ (.string (str d))) := KZX.out.set5 y n t l d
    have G9 : w.grownBy (((((w7.setCell ⟨w.heap.size, 0, none⟩ (.int .i64 y)).setCell ⟨w.heap.size, 1, none⟩ (.int .i64 n)).setCell ⟨w.heap.size, 2, none⟩ (.int .i64 t)).setCell ⟨w.heap.size, 3, none⟩ (.int .i64 l)).setCell ⟨w.heap.size, 4, none⟩ (.string (str d))) (some b) := grown_new (grown_new (grown_new (grown_new (grown_new GX.out (Nat.le_refl _) _ _) (Nat.le_refl _) _ _) (Nat.le_refl _) _ _) (Nat.le_refl _) _ _) (Nat.le_refl _) _ _
    have C9 : Cur (((((w7.setCell ⟨w.heap.size, 0, none⟩ (.int .i64 y)).setCell ⟨w.heap.size, 1, none⟩ (.int .i64 n)).setCell ⟨w.heap.size, 2, none⟩ (.int .i64 t)).setCell ⟨w.heap.size, 3, none⟩ (.int .i64 l)).setCell ⟨w.heap.size, 4, none⟩ (.string (str d))) b (N + 60) := (cur_new5 HX.out hbz _ _ _ _ _).more (by omega)
    generalize (((((w7.setCell ⟨w.heap.size, 0, none⟩ (.int .i64 y)).setCell ⟨w.heap.size, 1, none⟩ (.int .i64 n)).setCell ⟨w.heap.size, 2, none⟩ (.int .i64 t)).setCell ⟨w.heap.size, 3, none⟩ (.int .i64 l)).setCell ⟨w.heap.size, 4, none⟩ (.string (str d))) = w9 at K9 G9 C9 ⊢
    exact bodyPost_ret (res_apk rfl K9) rfl ⟨_, _, _, _, _, rfl, by show d.length ≤ 20; omega, C9, G9⟩
  have b0 : (x == 0) = false := beq_eq_false_iff_ne.2 h0
  by_cases h1 : x = 1
  · subst h1
    go_wp2_with fail
    refine (c_among b _ (v2.heap.size + 1) (fun x => -100000 ≤ x ∧ x ≤ 100000) _ _ [-1, 65536, 65535] _ (HX.out.push _) (by omega) (ints_lit v2 _) (by simp) (ne_new HX.out.inside) (by decide) (by decide) (by decide)).mono ?_
    rintro e v3 ⟨y, rfl, ⟨hy0, hy1⟩, k3, g3⟩
    have H3 := Lib.hid k3
    have g4 := grown_trans (grown_alloc v2 _ (some b)) g3
    have KP3 := Lib.hid (KP.out.grown g4 (by omega))
    have PF3 := Lib.hid (Free.grown PF.out KP.out.1 g4 (by omega))
    have KZ3 := Lib.hid (KZX.out.grown g4 (by omega))
    have KF3 := Lib.hid (Free.grown KFX.out KZX.out.1 g4 (by omega))
    have G3 := Lib.hid (grown_trans GX.out g4)
    clear KP PF KZX KFX GX HX
    clear k3 g3 g4
    obtain ⟨pb, p0, p1, p2, p3, p4⟩ := KP3.out
    have pf := PF3.out 1
    go_upto_region 11 with fail
    have o4 : ∀ j, (v3.setCell ⟨w1.heap.size, 1, none⟩ (.int .i64 y)).cell? ⟨w.heap.size, j, none⟩ = v3.cell? ⟨w.heap.size, j, none⟩ := fun j => World.cell?_setCell_other v3 ⟨w1.heap.size, 1, none⟩ ⟨w.heap.size, j, none⟩ _ (by intro e; simp only [Addr.mk.injEq] at e; omega)
    have KZX : Hid (PkAt 0 0 0 0 [] w.heap.size (v3.setCell ⟨w1.heap.size, 1, none⟩ (.int .i64 y))) := Lib.hid (by
      obtain ⟨y0, y1, y2, y3, y4, y5⟩ := KZ3.out
      exact ⟨by rw [World.size_setCell]; exact y0, (o4 0).trans y1, (o4 1).trans y2, (o4 2).trans y3, (o4 3).trans y4, (o4 4).trans y5⟩)
    have KFX := Lib.hid (KF3.out.set ⟨w1.heap.size, 1, none⟩ (.int .i64 y))
    have KP := Lib.hid (KP3.out.set1 y)
    have GX := Lib.hid (grown_new G3.out (show w.heap.size ≤ w1.heap.size by omega) 1 (.int .i64 y))
    have HX := Lib.hid (H3.out.keep ((Below.refl w1.heap.size v3).setCell (p := ⟨w1.heap.size, 1, none⟩) (Nat.le_refl _) (.int .i64 y)) hb1)
    clear o4 p0 p1 p2 p3 p4 pb pf KP3 PF3 KZ3 KF3 G3 H3
    generalize (v3.setCell ⟨w1.heap.size, 1, none⟩ (.int .i64 y)) = w7 at *
    obtain ⟨_, z0, z1, z2, z3, z4⟩ := KZX.out
    obtain ⟨pb, p0, p1, p2, p3, p4⟩ := KP.out
    have f0 := KFX.out 0
    have f1 := KFX.out 1
    have f2 := KFX.out 2
    have f3 := KFX.out 3
    have f4 := KFX.out 4
    go_wp2_with fail
    have K9 : PkAt k y t l d w.heap.size (((((w7.setCell ⟨w.heap.size, 0, none⟩ (.int .i64 k)).setCell ⟨w.heap.size, 1, none⟩ (.int .i64 y)).setCell ⟨w.heap.size, 2, none⟩ (.int .i64 t)).setCell ⟨w.heap.size, 3, none⟩ (.int .i64 l)).setCell ⟨w.heap.size, 4, none⟩ (.string (str d))) := KZX.out.set5 k y t l d
    have G9 : w.grownBy (((((w7.setCell ⟨w.heap.size, 0, none⟩ (.int .i64 k)).setCell ⟨w.heap.size, 1, none⟩ (.int .i64 y)).setCell ⟨w.heap.size, 2, none⟩ (.int .i64 t)).setCell ⟨w.heap.size, 3, none⟩ (.int .i64 l)).setCell ⟨w.heap.size, 4, none⟩ (.string (str d))) (some b) := grown_new (grown_new (grown_new (grown_new (grown_new GX.out (Nat.le_refl _) _ _) (Nat.le_refl _) _ _) (Nat.le_refl _) _ _) (Nat.le_refl _) _ _) (Nat.le_refl _) _ _
    have C9 : Cur (((((w7.setCell ⟨w.heap.size, 0, none⟩ (.int .i64 k)).setCell ⟨w.heap.size, 1, none⟩ (.int .i64 y)).setCell ⟨w.heap.size, 2, none⟩ (.int .i64 t)).setCell ⟨w.heap.size, 3, none⟩ (.int .i64 l)).setCell ⟨w.heap.size, 4, none⟩ (.string (str d))) b (N + 60) := (cur_new5 HX.out hbz _ _ _ _ _).more (by omega)
    generalize (((((w7.setCell ⟨w.heap.size, 0, none⟩ (.int .i64 k)).setCell ⟨w.heap.size, 1, none⟩ (.int .i64 y)).setCell ⟨w.heap.size, 2, none⟩ (.int .i64 t)).setCell ⟨w.heap.size, 3, none⟩ (.int .i64 l)).setCell ⟨w.heap.size, 4, none⟩ (.string (str d))) = w9 at K9 G9 C9 ⊢
    exact bodyPost_ret (res_apk rfl K9) rfl ⟨_, _, _, _, _, rfl, by show d.length ≤ 20; omega, C9, G9⟩
  have b1 : (x == 1) = false := beq_eq_false_iff_ne.2 h1
  by_cases h2 : x = 2
  · subst h2
    obtain ⟨pb, p0, p1, p2, p3, p4⟩ := KP.out
    have hv2 := HX.out.inside
    have bW : Below v2.heap.size v2 (v2.alloc (.cells #[.int .i64 32767, .int .i64 32768] 3)).drew := ((Below.refl _ _).alloc (Nat.le_refl _) _).drew
    have CA := Lib.hid (c_among b _ (v2.heap.size + 1) (fun x => 32767 ≤ x ∧ x ≤ 32768) (some ⟨v2.heap.size, 0, none⟩) 2 [32767, 32768] (v2.alloc (.cells #[.int .i64 32767, .int .i64 32768] 3)).drew (HX.out.keep bW hv2) (by omega) ((ints_lit v2 _).keep ((Below.refl _ _).drew)) (by simp) (ne_new hv2) (by decide) (by decide) (by decide))
    go_upto_region 8 with fail
    go_region_held3 (fun W => W.cell? ⟨w1.heap.size, 2, none⟩ = some (.int .i64 t)) (first | assumption | exact (World.cell?_setCell_other _ ⟨w1.heap.size, 3, none⟩ ⟨w1.heap.size, 2, none⟩ _ (by simp)).trans (by assumption) | go_keep)
      (first
        | (go_at_call 34; refine CA.out.mono ?_; rintro e v3 ⟨y, rfl, ⟨hy0, hy1⟩, k3, g3⟩; have KQ := (KP.out.keep bW).grown g3 (by omega); have FQ := Free.grown (Free.keep PF.out KP.out.1 bW) (Nat.lt_of_lt_of_le KP.out.1 bW.size) g3 (by omega); obtain ⟨kb, u0, u1, u2, u3, u4⟩ := KQ; have uf := FQ 3)
        | (go_at_call 53; refine (c_l2After t _ _ (by omega) (by omega) (by omega) (by omega)).mono ?_; rintro e _ ⟨rfl, rfl⟩))
    have H3 := Lib.hid k3
    have g4 := grown_trans (grown_below (row := some b) bW) g3
    have KP3 := Lib.hid (KP.out.grown g4 (by omega))
    have PF3 := Lib.hid (Free.grown PF.out KP.out.1 g4 (by omega))
    have KZ3 := Lib.hid (KZX.out.grown g4 (by omega))
    have KF3 := Lib.hid (Free.grown KFX.out KZX.out.1 g4 (by omega))
    have G3 := Lib.hid (grown_trans GX.out g4)
    clear KP PF KZX KFX GX HX
    have pf := True.intro
    clear k3 g3 g4 CA u0 u1 u2 u3 u4 uf kb
    have o4 : ∀ j, (v3.setCell ⟨w1.heap.size, 3, none⟩ (.int .i64 (aftV t y))).cell? ⟨w.heap.size, j, none⟩ = v3.cell? ⟨w.heap.size, j, none⟩ := fun j => World.cell?_setCell_other v3 ⟨w1.heap.size, 3, none⟩ ⟨w.heap.size, j, none⟩ _ (by intro e; simp only [Addr.mk.injEq] at e; omega)
    have KZX : Hid (PkAt 0 0 0 0 [] w.heap.size (v3.setCell ⟨w1.heap.size, 3, none⟩ (.int .i64 (aftV t y)))) := Lib.hid (by
      obtain ⟨y0, y1, y2, y3, y4, y5⟩ := KZ3.out
      exact ⟨by rw [World.size_setCell]; exact y0, (o4 0).trans y1, (o4 1).trans y2, (o4 2).trans y3, (o4 3).trans y4, (o4 4).trans y5⟩)
    have KFX := Lib.hid (KF3.out.set ⟨w1.heap.size, 3, none⟩ (.int .i64 (aftV t y)))
    have KP := Lib.hid (KP3.out.set3 (aftV t y))
    have GX := Lib.hid (grown_new G3.out (show w.heap.size ≤ w1.heap.size by omega) 3 (.int .i64 (aftV t y)))
    have HX := Lib.hid (H3.out.keep ((Below.refl w1.heap.size v3).setCell (p := ⟨w1.heap.size, 3, none⟩) (Nat.le_refl _) (.int .i64 (aftV t y))) hb1)
    clear o4 p0 p1 p2 p3 p4 pb pf KP3 PF3 KZ3 KF3 G3 H3
    generalize (v3.setCell ⟨w1.heap.size, 3, none⟩ (.int .i64 (aftV t y))) = w7 at *
    obtain ⟨_, z0, z1, z2, z3, z4⟩ := KZX.out
    obtain ⟨pb, p0, p1, p2, p3, p4⟩ := KP.out
    have f0 := KFX.out 0
    have f1 := KFX.out 1
    have f2 := KFX.out 2
    have f3 := KFX.out 3
    have f4 := KFX.out 4
    go_wp2_with fail
    have K9 : PkAt k n t (aftV t y) d w.heap.size (((((w7.setCell ⟨w.heap.size, 0, none⟩ (.int .i64 k)).setCell ⟨w.heap.size, 1, none⟩ (.int .i64 n)).setCell ⟨w.heap.size, 2, none⟩ (.int .i64 t)).setCell ⟨w.heap.size, 3, none⟩ (.int .i64 (aftV t y))).setCell ⟨w.heap.size, 4, none⟩ (.string (str d))) := KZX.out.set5 k n t (aftV t y) d
    have G9 : w.grownBy (((((w7.setCell ⟨w.heap.size, 0, none⟩ (.int .i64 k)).setCell ⟨w.heap.size, 1, none⟩ (.int .i64 n)).setCell ⟨w.heap.size, 2, none⟩ (.int .i64 t)).setCell ⟨w.heap.size, 3, none⟩ (.int .i64 (aftV t y))).setCell ⟨w.heap.size, 4, none⟩ (.string (str d))) (some b) := grown_new (grown_new (grown_new (grown_new (grown_new GX.out (Nat.le_refl _) _ _) (Nat.le_refl _) _ _) (Nat.le_refl _) _ _) (Nat.le_refl _) _ _) (Nat.le_refl _) _ _
    have C9 : Cur (((((w7.setCell ⟨w.heap.size, 0, none⟩ (.int .i64 k)).setCell ⟨w.heap.size, 1, none⟩ (.int .i64 n)).setCell ⟨w.heap.size, 2, none⟩ (.int .i64 t)).setCell ⟨w.heap.size, 3, none⟩ (.int .i64 (aftV t y))).setCell ⟨w.heap.size, 4, none⟩ (.string (str d))) b (N + 60) := (cur_new5 HX.out hbz _ _ _ _ _).more (by omega)
    generalize (((((w7.setCell ⟨w.heap.size, 0, none⟩ (.int .i64 k)).setCell ⟨w.heap.size, 1, none⟩ (.int .i64 n)).setCell ⟨w.heap.size, 2, none⟩ (.int .i64 t)).setCell ⟨w.heap.size, 3, none⟩ (.int .i64 (aftV t y))).setCell ⟨w.heap.size, 4, none⟩ (.string (str d))) = w9 at K9 G9 C9 ⊢
    exact bodyPost_ret (res_apk rfl K9) rfl ⟨_, _, _, _, _, rfl, by show d.length ≤ 20; omega, C9, G9⟩
  have b2 : (x == 2) = false := beq_eq_false_iff_ne.2 h2
  by_cases h3 : x = 3
  · subst h3
    go_wp2_with fail
    refine (c_of b _ (v2.heap.size + 1) 5 (fun s => ∃ l : List UInt8, s = str l ∧ l.length ≤ 20) _ _ [.string ⟨#[97, 98, 99, 100, 101, 102, 103, 104]⟩, .string ⟨#[97, 98, 99, 100, 101, 102, 103, 104, 105]⟩, .string ⟨#[65]⟩, .string ⟨#[97, 32, 98]⟩, .string ⟨#[97]⟩] _ (HX.out.push _) (by omega) (lies_lit v2 _ _) (by simp) (ne_new HX.out.inside) (by rfl) (by decide) (by decide) ?_).mono ?_
    · intro v hv
      simp only [List.mem_cons, List.not_mem_nil, or_false] at hv
      rcases hv with rfl | rfl | rfl | rfl | rfl
      · exact ⟨_, rfl, [97, 98, 99, 100, 101, 102, 103, 104], rfl, by decide⟩
      · exact ⟨_, rfl, [97, 98, 99, 100, 101, 102, 103, 104, 105], rfl, by decide⟩
      · exact ⟨_, rfl, [65], rfl, by decide⟩
      · exact ⟨_, rfl, [97, 32, 98], rfl, by decide⟩
      · exact ⟨_, rfl, [97], rfl, by decide⟩
    rintro e v3 ⟨_, rfl, ⟨d2, rfl, hd2⟩, k3, g3⟩
    have H3 := Lib.hid k3
    have g4 := grown_trans (grown_alloc v2 _ (some b)) g3
    have KP3 := Lib.hid (KP.out.grown g4 (by omega))
    have PF3 := Lib.hid (Free.grown PF.out KP.out.1 g4 (by omega))
    have KZ3 := Lib.hid (KZX.out.grown g4 (by omega))
    have KF3 := Lib.hid (Free.grown KFX.out KZX.out.1 g4 (by omega))
    have G3 := Lib.hid (grown_trans GX.out g4)
    clear KP PF KZX KFX GX HX
    clear k3 g3 g4
    obtain ⟨pb, p0, p1, p2, p3, p4⟩ := KP3.out
    have pf := PF3.out 4
    go_upto_region 11 with fail
    have o4 : ∀ j, (v3.setCell ⟨w1.heap.size, 4, none⟩ (.string (str d2))).cell? ⟨w.heap.size, j, none⟩ = v3.cell? ⟨w.heap.size, j, none⟩ := fun j => World.cell?_setCell_other v3 ⟨w1.heap.size, 4, none⟩ ⟨w.heap.size, j, none⟩ _ (by intro e; simp only [Addr.mk.injEq] at e; omega)
    have KZX : Hid (PkAt 0 0 0 0 [] w.heap.size (v3.setCell ⟨w1.heap.size, 4, none⟩ (.string (str d2)))) := Lib.hid (by
      obtain ⟨y0, y1, y2, y3, y4, y5⟩ := KZ3.out
      exact ⟨by rw [World.size_setCell]; exact y0, (o4 0).trans y1, (o4 1).trans y2, (o4 2).trans y3, (o4 3).trans y4, (o4 4).trans y5⟩)
    have KFX := Lib.hid (KF3.out.set ⟨w1.heap.size, 4, none⟩ (.string (str d2)))
    have KP := Lib.hid (KP3.out.set4 d2)
    have GX := Lib.hid (grown_new G3.out (show w.heap.size ≤ w1.heap.size by omega) 4 (.string (str d2)))
    have HX := Lib.hid (H3.out.keep ((Below.refl w1.heap.size v3).setCell (p := ⟨w1.heap.size, 4, none⟩) (Nat.le_refl _) (.string (str d2))) hb1)
    clear o4 p0 p1 p2 p3 p4 pb pf KP3 PF3 KZ3 KF3 G3 H3
    generalize (v3.setCell ⟨w1.heap.size, 4, none⟩ (.string (str d2))) = w7 at *
    obtain ⟨_, z0, z1, z2, z3, z4⟩ := KZX.out
    obtain ⟨pb, p0, p1, p2, p3, p4⟩ := KP.out
    have f0 := KFX.out 0
    have f1 := KFX.out 1
    have f2 := KFX.out 2
    have f3 := KFX.out 3
    have f4 := KFX.out 4
    go_wp2_with fail
    have K9 : PkAt k n t l d2 w.heap.size (((((w7.setCell ⟨w.heap.size, 0, none⟩ (.int .i64 k)).setCell ⟨w.heap.size, 1, none⟩ (.int .i64 n)).setCell ⟨w.heap.size, 2, none⟩ (.int .i64 t)).setCell ⟨w.heap.size, 3, none⟩ (.int .i64 l)).setCell ⟨w.heap.size, 4, none⟩ (.string (str d2))) := KZX.out.set5 k n t l d2
    have G9 : w.grownBy (((((w7.setCell ⟨w.heap.size, 0, none⟩ (.int .i64 k)).setCell ⟨w.heap.size, 1, none⟩ (.int .i64 n)).setCell ⟨w.heap.size, 2, none⟩ (.int .i64 t)).setCell ⟨w.heap.size, 3, none⟩ (.int .i64 l)).setCell ⟨w.heap.size, 4, none⟩ (.string (str d2))) (some b) := grown_new (grown_new (grown_new (grown_new (grown_new GX.out (Nat.le_refl _) _ _) (Nat.le_refl _) _ _) (Nat.le_refl _) _ _) (Nat.le_refl _) _ _) (Nat.le_refl _) _ _
    have C9 : Cur (((((w7.setCell ⟨w.heap.size, 0, none⟩ (.int .i64 k)).setCell ⟨w.heap.size, 1, none⟩ (.int .i64 n)).setCell ⟨w.heap.size, 2, none⟩ (.int .i64 t)).setCell ⟨w.heap.size, 3, none⟩ (.int .i64 l)).setCell ⟨w.heap.size, 4, none⟩ (.string (str d2))) b (N + 60) := (cur_new5 HX.out hbz _ _ _ _ _).more (by omega)
    generalize (((((w7.setCell ⟨w.heap.size, 0, none⟩ (.int .i64 k)).setCell ⟨w.heap.size, 1, none⟩ (.int .i64 n)).setCell ⟨w.heap.size, 2, none⟩ (.int .i64 t)).setCell ⟨w.heap.size, 3, none⟩ (.int .i64 l)).setCell ⟨w.heap.size, 4, none⟩ (.string (str d2))) = w9 at K9 G9 C9 ⊢
    exact bodyPost_ret (res_apk rfl K9) rfl ⟨_, _, _, _, _, rfl, hd2, C9, G9⟩
  have b3 : (x == 3) = false := beq_eq_false_iff_ne.2 h3
  obtain ⟨pb, p0, p1, p2, p3, p4⟩ := KP.out
  go_upto_region 11 with fail
  clear p0 p1 p2 p3 p4 pb
  obtain ⟨_, z0, z1, z2, z3, z4⟩ := KZX.out
  obtain ⟨pb, p0, p1, p2, p3, p4⟩ := KP.out
  have f0 := KFX.out 0
  have f1 := KFX.out 1
  have f2 := KFX.out 2
  have f3 := KFX.out 3
  have f4 := KFX.out 4
  go_wp2_with fail
  have K9 : PkAt k n t l d w.heap.size (((((v2.setCell ⟨w.heap.size, 0, none⟩ (.int .i64 k)).setCell ⟨w.heap.size, 1, none⟩ (.int .i64 n)).setCell ⟨w.heap.size, 2, none⟩ (.int .i64 t)).setCell ⟨w.heap.size, 3, none⟩ (.int .i64 l)).setCell ⟨w.heap.size, 4, none⟩ (.string (str d))) := KZX.out.set5 k n t l d
  have G9 : w.grownBy (((((v2.setCell ⟨w.heap.size, 0, none⟩ (.int .i64 k)).setCell ⟨w.heap.size, 1, none⟩ (.int .i64 n)).setCell ⟨w.heap.size, 2, none⟩ (.int .i64 t)).setCell ⟨w.heap.size, 3, none⟩ (.int .i64 l)).setCell ⟨w.heap.size, 4, none⟩ (.string (str d))) (some b) := grown_new (grown_new (grown_new (grown_new (grown_new GX.out (Nat.le_refl _) _ _) (Nat.le_refl _) _ _) (Nat.le_refl _) _ _) (Nat.le_refl _) _ _) (Nat.le_refl _) _ _
  have C9 : Cur (((((v2.setCell ⟨w.heap.size, 0, none⟩ (.int .i64 k)).setCell ⟨w.heap.size, 1, none⟩ (.int .i64 n)).setCell ⟨w.heap.size, 2, none⟩ (.int .i64 t)).setCell ⟨w.heap.size, 3, none⟩ (.int .i64 l)).setCell ⟨w.heap.size, 4, none⟩ (.string (str d))) b (N + 60) := (cur_new5 HX.out hbz _ _ _ _ _).more (by omega)
  generalize (((((v2.setCell ⟨w.heap.size, 0, none⟩ (.int .i64 k)).setCell ⟨w.heap.size, 1, none⟩ (.int .i64 n)).setCell ⟨w.heap.size, 2, none⟩ (.int .i64 t)).setCell ⟨w.heap.size, 3, none⟩ (.int .i64 l)).setCell ⟨w.heap.size, 4, none⟩ (.string (str d))) = w9 at K9 G9 C9 ⊢
  exact bodyPost_ret (res_apk rfl K9) rfl ⟨_, _, _, _, _, rfl, by show d.length ≤ 20; omega, C9, G9⟩
def DrawnP (P : List UInt8 → Prop) (w : World) (e : Ending) (w' : World) : Prop := ∃ (k n t l : Int) (d : List UInt8), e = .returned (.agg (pkC k n t l d)) ∧ P d ∧ Below w.heap.size w w'
theorem res_div {ts : Array Value} {b : Nat} {w : World} {k n t l : Int} {d : List UInt8} (h2 : ts[2]? = some (.pointer (some ⟨b, 0, none⟩))) (K : PkAt k n t l d b w) :
    (results Tryz.f17 ts).run Tryz.prog w = .ok (.agg (pkC k n t l d)) w := by
  obtain ⟨_, c0, c1, c2, c3, c4⟩ := K
  simp [results, Tryz.results17, go_sem, h2, c0, c1, c2, c3, c4]
  rfl
set_option maxHeartbeats 2000000 in
theorem c_DrawIsValidPacket (A : Option Addr) (n cap : Nat) (w : World) (hB : BytesAt w w.heap.size A n) (hn : n ≤ 100000) :
    Calls Tryz.prog 17 #[.slice A n cap] w (DrawnP (fun d => d.length ≤ 20) w) := by
  have bA := (Below.refl w.heap.size w).alloc (Nat.le_refl _) (.cells #[.int .i64 0, .int .i64 0, .int .i64 0, .int .i64 0, .string ⟨#[]⟩] 25)
  have hs : (w.alloc (.cells #[.int .i64 0, .int .i64 0, .int .i64 0, .int .i64 0, .string ⟨#[]⟩] 25)).heap.size = w.heap.size + 1 := by simp
  have h0 := cur_new (w.alloc (.cells #[.int .i64 0, .int .i64 0, .int .i64 0, .int .i64 0, .string ⟨#[]⟩] 25)) A n cap ((hB.keep bA).more bA.size) hn
  rw [hs] at h0
  have bC := (Below.refl (w.alloc (.cells #[.int .i64 0, .int .i64 0, .int .i64 0, .int .i64 0, .string ⟨#[]⟩] 25)).heap.size (w.alloc (.cells #[.int .i64 0, .int .i64 0, .int .i64 0, .int .i64 0, .string ⟨#[]⟩] 25))).alloc (Nat.le_refl _) (.cells #[.slice A n cap, .int .i64 0, .int .u64 0] 53)
  have H0 := Lib.hid h0
  have KZ0 := Lib.hid ((show PkAt 0 0 0 0 [] w.heap.size (w.alloc (.cells #[.int .i64 0, .int .i64 0, .int .i64 0, .int .i64 0, .string ⟨#[]⟩] 25)) from pkAt_new 0 0 0 0 [] w 25).keep bC)
  have KF0 := Lib.hid (Free.keep (show Free w.heap.size (w.alloc (.cells #[.int .i64 0, .int .i64 0, .int .i64 0, .int .i64 0, .string ⟨#[]⟩] 25)) from fun j => free_new w #[.int .i64 0, .int .i64 0, .int .i64 0, .int .i64 0, .string ⟨#[]⟩] 25 j) (by rw [hs]; omega) bC)
  have B0 := Lib.hid (bA.trans (bC.mono bA.size))
  clear bA bC h0 hB hs
  go_enter Tryz.func17, Tryz.ntmps17
  go_wp2_with fail
  generalize (w.alloc (.cells #[.int .i64 0, .int .i64 0, .int .i64 0, .int .i64 0, .string ⟨#[]⟩] 25)).alloc (.cells #[.slice A n cap, .int .i64 0, .int .u64 0] 53) = w1 at *
  refine (c_anyPacket (w.heap.size + 1) 0 _ H0.out (by omega)).mono ?_
  rintro e w2 ⟨k, n, t, l, d, rfl, hd, k2, g2⟩
  have KZ2 := Lib.hid (KZ0.out.grown g2 (by omega))
  have KF2 := Lib.hid (Free.grown KF0.out KZ0.out.1 g2 (by omega))
  have B2 := Lib.hid (below_cur B0.out (by omega) g2)
  clear k2 g2 H0 KZ0 KF0 B0
  unfold pkC
  obtain ⟨_, z0, z1, z2, z3, z4⟩ := KZ2.out
  have f0 := KF2.out 0
  have f1 := KF2.out 1
  have f2 := KF2.out 2
  have f3 := KF2.out 3
  have f4 := KF2.out 4
  go_wp2_with fail
  have K9 : PkAt k n t l d w.heap.size (((((w2.setCell ⟨w.heap.size, 0, none⟩ (.int .i64 k)).setCell ⟨w.heap.size, 1, none⟩ (.int .i64 n)).setCell ⟨w.heap.size, 2, none⟩ (.int .i64 t)).setCell ⟨w.heap.size, 3, none⟩ (.int .i64 l)).setCell ⟨w.heap.size, 4, none⟩ (.string (str d))) := KZ2.out.set5 k n t l d
  have B9 : Below w.heap.size w (((((w2.setCell ⟨w.heap.size, 0, none⟩ (.int .i64 k)).setCell ⟨w.heap.size, 1, none⟩ (.int .i64 n)).setCell ⟨w.heap.size, 2, none⟩ (.int .i64 t)).setCell ⟨w.heap.size, 3, none⟩ (.int .i64 l)).setCell ⟨w.heap.size, 4, none⟩ (.string (str d))) := set5 B2.out (Nat.le_refl _) _ _ _ _ _
  generalize (((((w2.setCell ⟨w.heap.size, 0, none⟩ (.int .i64 k)).setCell ⟨w.heap.size, 1, none⟩ (.int .i64 n)).setCell ⟨w.heap.size, 2, none⟩ (.int .i64 t)).setCell ⟨w.heap.size, 3, none⟩ (.int .i64 l)).setCell ⟨w.heap.size, 4, none⟩ (.string (str d))) = w9 at K9 B9 ⊢
  exact bodyPost_ret (res_div rfl K9) rfl ⟨_, _, _, _, _, rfl, hd, B9⟩
end Go.Proofs.YtpmfaiocmgkmpaaGreatDoor
