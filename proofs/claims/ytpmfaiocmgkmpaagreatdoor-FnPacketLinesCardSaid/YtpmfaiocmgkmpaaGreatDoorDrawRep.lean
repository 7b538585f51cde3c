/- The draw of a packet with two serials. -/
import Derived.Test.YtpmfaiocmgkmpaaGreatDoorDrawA
import Derived.Test.YtpmfaiocmgkmpaaGreatDoorDrawD
namespace Go.Proofs.YtpmfaiocmgkmpaaGreatDoor
open Go.RowKit
set_option linter.unusedVariables false
set_option maxRecDepth 100000

theorem cell_set5 {w : World} {b r : Nat} {j : Nat} (h : r ≠ b) (x0 x1 x2 x3 x4 : Value) : (((((w.setCell ⟨b, 0, none⟩ x0).setCell ⟨b, 1, none⟩ x1).setCell ⟨b, 2, none⟩ x2).setCell ⟨b, 3, none⟩ x3).setCell ⟨b, 4, none⟩ x4).cell? ⟨r, j, none⟩ = w.cell? ⟨r, j, none⟩ := by
  have o : ∀ (W : World) (i : Nat) (x : Value), (W.setCell ⟨b, i, none⟩ x).cell? ⟨r, j, none⟩ = W.cell? ⟨r, j, none⟩ := fun W i x => World.cell?_setCell_other W ⟨b, i, none⟩ ⟨r, j, none⟩ x (by intro e; simp only [Addr.mk.injEq] at e; omega)
  rw [o, o, o, o, o]
theorem res_dro {ts : Array Value} {b : Nat} {w : World} {k n t l x y : Int} {d : List UInt8} (h2 : ts[2]? = some (.pointer (some ⟨b, 0, none⟩))) (h3 : ts[3]? = some (.int .i64 x)) (h4 : ts[4]? = some (.int .i64 y)) (K : PkAt k n t l d b w) :
    (results Tryz.f11 ts).run Tryz.prog w = .ok (.tuple #[.agg (pkC k n t l d), .int .i64 x, .int .i64 y]) w := by
  obtain ⟨_, c0, c1, c2, c3, c4⟩ := K
  simp [results, Tryz.results11, go_sem, h2, h3, h4, c0, c1, c2, c3, c4]
  rfl
set_option maxHeartbeats 8000000 in
theorem c_DrawRepairOf (A0 : Option Addr) (n0 cap0 : Nat) (w : World) (hB : BytesAt w w.heap.size A0 n0) (hn : n0 ≤ 100000) :
    Calls Tryz.prog 11 #[.slice A0 n0 cap0] w fun e w' => ∃ (k n t l : Int) (d : List UInt8) (x y : Int), e = .returned (.tuple #[.agg (pkC k n t l d), .int .i64 x, .int .i64 y]) ∧ d.length ≤ 20 ∧ Below w.heap.size w w' := by
  have bA := (Below.refl w.heap.size w).alloc (Nat.le_refl _) (.cells #[.int .i64 0, .int .i64 0, .int .i64 0, .int .i64 0, .string ⟨#[]⟩] 25)
  have hs : (w.alloc (.cells #[.int .i64 0, .int .i64 0, .int .i64 0, .int .i64 0, .string ⟨#[]⟩] 25)).heap.size = w.heap.size + 1 := by simp
  have h0 := cur_new (w.alloc (.cells #[.int .i64 0, .int .i64 0, .int .i64 0, .int .i64 0, .string ⟨#[]⟩] 25)) A0 n0 cap0 ((hB.keep bA).more bA.size) hn
  rw [hs] at h0
  have bC := (Below.refl (w.alloc (.cells #[.int .i64 0, .int .i64 0, .int .i64 0, .int .i64 0, .string ⟨#[]⟩] 25)).heap.size (w.alloc (.cells #[.int .i64 0, .int .i64 0, .int .i64 0, .int .i64 0, .string ⟨#[]⟩] 25))).alloc (Nat.le_refl _) (.cells #[.slice A0 n0 cap0, .int .i64 0, .int .u64 0] 53)
  have H0 := Lib.hid h0
  have KZ0 := Lib.hid ((show PkAt 0 0 0 0 [] w.heap.size (w.alloc (.cells #[.int .i64 0, .int .i64 0, .int .i64 0, .int .i64 0, .string ⟨#[]⟩] 25)) from pkAt_new 0 0 0 0 [] w 25).keep bC)
  have KF0 := Lib.hid (Free.keep (show Free w.heap.size (w.alloc (.cells #[.int .i64 0, .int .i64 0, .int .i64 0, .int .i64 0, .string ⟨#[]⟩] 25)) from fun j => free_new w #[.int .i64 0, .int .i64 0, .int .i64 0, .int .i64 0, .string ⟨#[]⟩] 25 j) (by rw [hs]; omega) bC)
  have B0 := Lib.hid (bA.trans (bC.mono bA.size))
  clear bA bC h0 hB hs
  go_enter Tryz.func11, Tryz.ntmps11
  go_wp2_with fail
  generalize (w.alloc (.cells #[.int .i64 0, .int .i64 0, .int .i64 0, .int .i64 0, .string ⟨#[]⟩] 25)).alloc (.cells #[.slice A0 n0 cap0, .int .i64 0, .int .u64 0] 53) = w1 at *
  refine (c_anyPacket (w.heap.size + 1) 0 _ H0.out (by omega)).mono ?_
  rintro e w2 ⟨k, n, t, l, d, rfl, hd, k2, g2⟩
  have hd : d.length ≤ 20 := hd
  have HD := Lib.hid hd
  have h2s : w.heap.size + 1 < w2.heap.size := k2.inside
  have bA := (Below.refl w2.heap.size w2).alloc (Nat.le_refl _) (.cells #[.int .i64 k, .int .i64 n, .int .i64 t, .int .i64 l, .string (str d)] 25)
  have KP := Lib.hid (pkAt_new k n t l d w2 25)
  have PF : Hid (Free w2.heap.size (w2.alloc (.cells #[.int .i64 k, .int .i64 n, .int .i64 t, .int .i64 l, .string (str d)] 25))) := Lib.hid (fun j => free_new w2 #[.int .i64 k, .int .i64 n, .int .i64 t, .int .i64 l, .string (str d)] 25 j)
  have HX := Lib.hid (k2.keep bA h2s)
  have KZ2 := KZ0.out.grown g2 (by omega)
  have KZ := Lib.hid (KZ2.keep bA)
  have KF := Lib.hid (Free.keep (Free.grown KF0.out KZ0.out.1 g2 (by omega)) KZ2.1 bA)
  have BX0 := below_cur B0.out (by omega) g2
  have BX := Lib.hid (BX0.trans (bA.mono BX0.size))
  have CG := fun W => Lib.hid (c_l4Good k n t l d W (by omega))
  clear k2 g2 H0 KZ0 KF0 B0 bA KZ2 BX0
  unfold pkC at *
  go_upto_region 3 with fail
  generalize w2.alloc (.cells #[.int .i64 k, .int .i64 n, .int .i64 t, .int .i64 l, .string (str d)] 25) = v2 at *
  obtain ⟨_, p0, p1, p2, p3, p4⟩ := KP.out
  generalize goodP k n t l d = gd at *
  go_wp2_with fail
  refine (CG _).out.mono ?_
  rintro e w3 ⟨rfl, b3⟩
  have HX3 := Lib.hid (HX.out.keep b3 HX.out.inside)
  have KP3 := Lib.hid (KP.out.keep b3)
  have PF3 := Lib.hid (Free.keep PF.out KP.out.1 b3)
  have KZ3 := Lib.hid (KZ.out.keep b3)
  have KF3 := Lib.hid (Free.keep KF.out KZ.out.1 b3)
  have BX3 := Lib.hid (BX.out.trans (b3.mono BX.out.size))
  clear b3 HX KP PF KZ KF BX CG p0 p1 p2 p3 p4
  cases gd
  · have HX := HX3
    have KP := KP3
    have PF := PF3
    have KZ := KZ3
    have KF := KF3
    have BX := BX3
    clear HX3 KP3 PF3 KZ3 KF3 BX3
    obtain ⟨kk, hkk⟩ : ∃ kk, kk = k := ⟨_, rfl⟩
    rw [← hkk] at KP
    clear hkk
    have b5 := HX.out.inside
    go_wp2_with fail
    refine (c_anySerial (w.heap.size + 1) _ _ HX.out (by omega)).mono ?_
    rintro e w6 ⟨tr, rfl, -, k6, g6⟩
    have bD := (Below.refl w6.heap.size w6).drew
    have b6 := k6.inside
    have H6 := Lib.hid (k6.keep bD b6)
    have KP6 := Lib.hid ((KP.out.grown g6 (by omega)).keep bD)
    have KZ6 := Lib.hid ((KZ.out.grown g6 (by omega)).keep bD)
    have KF6 := Lib.hid (Free.keep (Free.grown KF.out KZ.out.1 g6 (by omega)) (KZ.out.grown g6 (by omega)).1 bD)
    have B6 := Lib.hid ((below_cur BX.out (by omega) g6).drew)
    have KPl := Lib.hid (KP.out.grown g6 (by omega))
    clear k6 g6 bD HX KP KZ KF BX PF
    obtain ⟨_, p0, p1, p2, p3, p4⟩ := KPl.out
    obtain ⟨_, q0, q1, q2, q3, q4⟩ := KP6.out
    go_upto_region 6 with fail
    go_region_held3 (fun W => W.cell? ⟨w2.heap.size, 0, none⟩ = some (.int .i64 kk) ∧ W.cell? ⟨w2.heap.size, 1, none⟩ = some (.int .i64 n) ∧ W.cell? ⟨w2.heap.size, 2, none⟩ = some (.int .i64 t) ∧ W.cell? ⟨w2.heap.size, 3, none⟩ = some (.int .i64 l) ∧ W.cell? ⟨w2.heap.size, 4, none⟩ = some (.string (str d))) (refine ⟨?_, ?_, ?_, ?_, ?_⟩ <;> first | (with_reducible assumption) | (rw [cell_set5 (by omega)]; with_reducible assumption))
      (first | (go_at_call 32; refine (c_anySerial (w.heap.size + 1) _ _ H6.out (by omega)).mono ?_; rintro e w7 ⟨le, rfl, -, k7, g7⟩; have KP7 := KP6.out.grown g7 (by omega); have KZ7 := KZ6.out.grown g7 (by omega); have KF7 := Free.grown KF6.out KZ6.out.1 g7 (by omega); obtain ⟨_, u0, u1, u2, u3, u4⟩ := KP7; obtain ⟨_, z0, z1, z2, z3, z4⟩ := KZ7; have f0 := KF7 0; have f1 := KF7 1; have f2 := KF7 2; have f3 := KF7 3; have f4 := KF7 4))
    go_wp2_with fail
    have KZ8 := KZ6.out.grown g7 (by omega)
    have B8 := below_cur B6.out (by omega) g7
    have K9 : PkAt kk n t l d w.heap.size (((((w7.setCell ⟨w.heap.size, 0, none⟩ (.int .i64 kk)).setCell ⟨w.heap.size, 1, none⟩ (.int .i64 n)).setCell ⟨w.heap.size, 2, none⟩ (.int .i64 t)).setCell ⟨w.heap.size, 3, none⟩ (.int .i64 l)).setCell ⟨w.heap.size, 4, none⟩ (.string (str d))) := KZ8.set5 kk n t l d
    have B9 : Below w.heap.size w (((((w7.setCell ⟨w.heap.size, 0, none⟩ (.int .i64 kk)).setCell ⟨w.heap.size, 1, none⟩ (.int .i64 n)).setCell ⟨w.heap.size, 2, none⟩ (.int .i64 t)).setCell ⟨w.heap.size, 3, none⟩ (.int .i64 l)).setCell ⟨w.heap.size, 4, none⟩ (.string (str d))) := set5 B8 (Nat.le_refl _) _ _ _ _ _
    generalize (((((w7.setCell ⟨w.heap.size, 0, none⟩ (.int .i64 kk)).setCell ⟨w.heap.size, 1, none⟩ (.int .i64 n)).setCell ⟨w.heap.size, 2, none⟩ (.int .i64 t)).setCell ⟨w.heap.size, 3, none⟩ (.int .i64 l)).setCell ⟨w.heap.size, 4, none⟩ (.string (str d))) = w9 at K9 B9 ⊢
    exact bodyPost_ret (res_dro rfl rfl rfl K9) rfl ⟨_, _, _, _, _, _, _, rfl, HD.out, B9⟩
  · go_wp2_with fail
    refine (c_one (w.heap.size + 1) _ 2 _ HX3.out (by omega) (by omega) (by omega)).mono ?_
    rintro e w4 ⟨y, rfl, k4, g4⟩
    have HX4 := Lib.hid k4
    have KP4 := Lib.hid (KP3.out.grown g4 (by omega))
    have PF4 := Lib.hid (Free.grown PF3.out KP3.out.1 g4 (by omega))
    have KZ4 := Lib.hid (KZ3.out.grown g4 (by omega))
    have KF4 := Lib.hid (Free.grown KF3.out KZ3.out.1 g4 (by omega))
    have BX4 := Lib.hid (below_cur BX3.out (by omega) g4)
    clear k4 g4 HX3 KP3 PF3 KZ3 KF3 BX3
    cases y
    · have HX := HX4
      have KP := KP4
      have PF := PF4
      have KZ := KZ4
      have KF := KF4
      have BX := BX4
      clear HX4 KP4 PF4 KZ4 KF4 BX4
      obtain ⟨kk, hkk⟩ : ∃ kk, kk = k := ⟨_, rfl⟩
      rw [← hkk] at KP
      clear hkk
      have b5 := HX.out.inside
      go_wp2_with fail
      refine (c_anySerial (w.heap.size + 1) _ _ HX.out (by omega)).mono ?_
      rintro e w6 ⟨tr, rfl, -, k6, g6⟩
      have bD := (Below.refl w6.heap.size w6).drew
      have b6 := k6.inside
      have H6 := Lib.hid (k6.keep bD b6)
      have KP6 := Lib.hid ((KP.out.grown g6 (by omega)).keep bD)
      have KZ6 := Lib.hid ((KZ.out.grown g6 (by omega)).keep bD)
      have KF6 := Lib.hid (Free.keep (Free.grown KF.out KZ.out.1 g6 (by omega)) (KZ.out.grown g6 (by omega)).1 bD)
      have B6 := Lib.hid ((below_cur BX.out (by omega) g6).drew)
      have KPl := Lib.hid (KP.out.grown g6 (by omega))
      clear k6 g6 bD HX KP KZ KF BX PF
      obtain ⟨_, p0, p1, p2, p3, p4⟩ := KPl.out
      obtain ⟨_, q0, q1, q2, q3, q4⟩ := KP6.out
      go_upto_region 6 with fail
      go_region_held3 (fun W => W.cell? ⟨w2.heap.size, 0, none⟩ = some (.int .i64 kk) ∧ W.cell? ⟨w2.heap.size, 1, none⟩ = some (.int .i64 n) ∧ W.cell? ⟨w2.heap.size, 2, none⟩ = some (.int .i64 t) ∧ W.cell? ⟨w2.heap.size, 3, none⟩ = some (.int .i64 l) ∧ W.cell? ⟨w2.heap.size, 4, none⟩ = some (.string (str d))) (refine ⟨?_, ?_, ?_, ?_, ?_⟩ <;> first | (with_reducible assumption) | (rw [cell_set5 (by omega)]; with_reducible assumption))
        (first | (go_at_call 32; refine (c_anySerial (w.heap.size + 1) _ _ H6.out (by omega)).mono ?_; rintro e w7 ⟨le, rfl, -, k7, g7⟩; have KP7 := KP6.out.grown g7 (by omega); have KZ7 := KZ6.out.grown g7 (by omega); have KF7 := Free.grown KF6.out KZ6.out.1 g7 (by omega); obtain ⟨_, u0, u1, u2, u3, u4⟩ := KP7; obtain ⟨_, z0, z1, z2, z3, z4⟩ := KZ7; have f0 := KF7 0; have f1 := KF7 1; have f2 := KF7 2; have f3 := KF7 3; have f4 := KF7 4))
      go_wp2_with fail
      have KZ8 := KZ6.out.grown g7 (by omega)
      have B8 := below_cur B6.out (by omega) g7
      have K9 : PkAt kk n t l d w.heap.size (((((w7.setCell ⟨w.heap.size, 0, none⟩ (.int .i64 kk)).setCell ⟨w.heap.size, 1, none⟩ (.int .i64 n)).setCell ⟨w.heap.size, 2, none⟩ (.int .i64 t)).setCell ⟨w.heap.size, 3, none⟩ (.int .i64 l)).setCell ⟨w.heap.size, 4, none⟩ (.string (str d))) := KZ8.set5 kk n t l d
      have B9 : Below w.heap.size w (((((w7.setCell ⟨w.heap.size, 0, none⟩ (.int .i64 kk)).setCell ⟨w.heap.size, 1, none⟩ (.int .i64 n)).setCell ⟨w.heap.size, 2, none⟩ (.int .i64 t)).setCell ⟨w.heap.size, 3, none⟩ (.int .i64 l)).setCell ⟨w.heap.size, 4, none⟩ (.string (str d))) := set5 B8 (Nat.le_refl _) _ _ _ _ _
      generalize (((((w7.setCell ⟨w.heap.size, 0, none⟩ (.int .i64 kk)).setCell ⟨w.heap.size, 1, none⟩ (.int .i64 n)).setCell ⟨w.heap.size, 2, none⟩ (.int .i64 t)).setCell ⟨w.heap.size, 3, none⟩ (.int .i64 l)).setCell ⟨w.heap.size, 4, none⟩ (.string (str d))) = w9 at K9 B9 ⊢
      exact bodyPost_ret (res_dro rfl rfl rfl K9) rfl ⟨_, _, _, _, _, _, _, rfl, HD.out, B9⟩
    · obtain ⟨pb, p0, p1, p2, p3, p4⟩ := KP4.out
      have pf := PF4.out 0
      go_upto_region 5 with fail
      have o4 : ∀ j, (w4.setCell ⟨w2.heap.size, 0, none⟩ (.int .i64 1)).cell? ⟨w.heap.size, j, none⟩ = w4.cell? ⟨w.heap.size, j, none⟩ := fun j => World.cell?_setCell_other w4 ⟨w2.heap.size, 0, none⟩ ⟨w.heap.size, j, none⟩ _ (by intro e; simp only [Addr.mk.injEq] at e; omega)
      have KZ : Hid (PkAt 0 0 0 0 [] w.heap.size (w4.setCell ⟨w2.heap.size, 0, none⟩ (.int .i64 1))) := Lib.hid (by
        obtain ⟨y0, y1, y2, y3, y4, y5⟩ := KZ4.out
        exact ⟨by rw [World.size_setCell]; exact y0, (o4 0).trans y1, (o4 1).trans y2, (o4 2).trans y3, (o4 3).trans y4, (o4 4).trans y5⟩)
      have KF := Lib.hid (KF4.out.set ⟨w2.heap.size, 0, none⟩ (.int .i64 1))
      have PF := Lib.hid (PF4.out.set ⟨w2.heap.size, 0, none⟩ (.int .i64 1))
      have KP := Lib.hid (KP4.out.set0 1)
      have BX := Lib.hid (BX4.out.setCell (p := ⟨w2.heap.size, 0, none⟩) (by show w.heap.size ≤ w2.heap.size; omega) (.int .i64 1))
      have HX := Lib.hid (HX4.out.keep ((Below.refl w2.heap.size w4).setCell (p := ⟨w2.heap.size, 0, none⟩) (Nat.le_refl _) (.int .i64 1)) h2s)
      clear o4 p0 p1 p2 p3 p4 pb pf HX4 KP4 PF4 KZ4 KF4 BX4
      generalize w4.setCell ⟨w2.heap.size, 0, none⟩ (.int .i64 1) = w5 at *
      obtain ⟨kk, hkk⟩ : ∃ kk : Int, kk = 1 := ⟨_, rfl⟩
      rw [← hkk] at KP
      clear hkk
      have b5 := HX.out.inside
      go_wp2_with fail
      refine (c_anySerial (w.heap.size + 1) _ _ HX.out (by omega)).mono ?_
      rintro e w6 ⟨tr, rfl, -, k6, g6⟩
      have bD := (Below.refl w6.heap.size w6).drew
      have b6 := k6.inside
      have H6 := Lib.hid (k6.keep bD b6)
      have KP6 := Lib.hid ((KP.out.grown g6 (by omega)).keep bD)
      have KZ6 := Lib.hid ((KZ.out.grown g6 (by omega)).keep bD)
      have KF6 := Lib.hid (Free.keep (Free.grown KF.out KZ.out.1 g6 (by omega)) (KZ.out.grown g6 (by omega)).1 bD)
      have B6 := Lib.hid ((below_cur BX.out (by omega) g6).drew)
      have KPl := Lib.hid (KP.out.grown g6 (by omega))
      clear k6 g6 bD HX KP KZ KF BX PF
      obtain ⟨_, p0, p1, p2, p3, p4⟩ := KPl.out
      obtain ⟨_, q0, q1, q2, q3, q4⟩ := KP6.out
      go_upto_region 6 with fail
      go_region_held3 (fun W => W.cell? ⟨w2.heap.size, 0, none⟩ = some (.int .i64 kk) ∧ W.cell? ⟨w2.heap.size, 1, none⟩ = some (.int .i64 n) ∧ W.cell? ⟨w2.heap.size, 2, none⟩ = some (.int .i64 t) ∧ W.cell? ⟨w2.heap.size, 3, none⟩ = some (.int .i64 l) ∧ W.cell? ⟨w2.heap.size, 4, none⟩ = some (.string (str d))) (refine ⟨?_, ?_, ?_, ?_, ?_⟩ <;> first | (with_reducible assumption) | (rw [cell_set5 (by omega)]; with_reducible assumption))
        (first | (go_at_call 32; refine (c_anySerial (w.heap.size + 1) _ _ H6.out (by omega)).mono ?_; rintro e w7 ⟨le, rfl, -, k7, g7⟩; have KP7 := KP6.out.grown g7 (by omega); have KZ7 := KZ6.out.grown g7 (by omega); have KF7 := Free.grown KF6.out KZ6.out.1 g7 (by omega); obtain ⟨_, u0, u1, u2, u3, u4⟩ := KP7; obtain ⟨_, z0, z1, z2, z3, z4⟩ := KZ7; have f0 := KF7 0; have f1 := KF7 1; have f2 := KF7 2; have f3 := KF7 3; have f4 := KF7 4))
      go_wp2_with fail
      have KZ8 := KZ6.out.grown g7 (by omega)
      have B8 := below_cur B6.out (by omega) g7
      have K9 : PkAt kk n t l d w.heap.size (((((w7.setCell ⟨w.heap.size, 0, none⟩ (.int .i64 kk)).setCell ⟨w.heap.size, 1, none⟩ (.int .i64 n)).setCell ⟨w.heap.size, 2, none⟩ (.int .i64 t)).setCell ⟨w.heap.size, 3, none⟩ (.int .i64 l)).setCell ⟨w.heap.size, 4, none⟩ (.string (str d))) := KZ8.set5 kk n t l d
      have B9 : Below w.heap.size w (((((w7.setCell ⟨w.heap.size, 0, none⟩ (.int .i64 kk)).setCell ⟨w.heap.size, 1, none⟩ (.int .i64 n)).setCell ⟨w.heap.size, 2, none⟩ (.int .i64 t)).setCell ⟨w.heap.size, 3, none⟩ (.int .i64 l)).setCell ⟨w.heap.size, 4, none⟩ (.string (str d))) := set5 B8 (Nat.le_refl _) _ _ _ _ _
      generalize (((((w7.setCell ⟨w.heap.size, 0, none⟩ (.int .i64 kk)).setCell ⟨w.heap.size, 1, none⟩ (.int .i64 n)).setCell ⟨w.heap.size, 2, none⟩ (.int .i64 t)).setCell ⟨w.heap.size, 3, none⟩ (.int .i64 l)).setCell ⟨w.heap.size, 4, none⟩ (.string (str d))) = w9 at K9 B9 ⊢
      exact bodyPost_ret (res_dro rfl rfl rfl K9) rfl ⟨_, _, _, _, _, _, _, rfl, HD.out, B9⟩
end Go.Proofs.YtpmfaiocmgkmpaaGreatDoor
