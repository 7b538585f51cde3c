/- Packets: the exported tests and the repair. -/
import Derived.Test.YtpmfaiocmgkmpaaGreatDoorPk
namespace Go.Proofs.YtpmfaiocmgkmpaaGreatDoor
open Go.RowKit
set_option linter.unusedVariables false
set_option maxRecDepth 100000

/-- A packet lies in block b. -/
def PkAt (k n t l : Int) (d : List UInt8) (b : Nat) (w : World) : Prop :=
  b < w.heap.size ∧ w.cell? ⟨b, 0, none⟩ = some (.int .i64 k) ∧ w.cell? ⟨b, 1, none⟩ = some (.int .i64 n) ∧ w.cell? ⟨b, 2, none⟩ = some (.int .i64 t) ∧ w.cell? ⟨b, 3, none⟩ = some (.int .i64 l) ∧ w.cell? ⟨b, 4, none⟩ = some (.string (str d))
theorem PkAt.keep {k n t l : Int} {d : List UInt8} {b : Nat} {w w1 : World} (h : PkAt k n t l d b w) (b1 : Below w.heap.size w w1) : PkAt k n t l d b w1 := by
  obtain ⟨hb, h0, h1, h2, h3, h4⟩ := h
  exact ⟨Nat.lt_of_lt_of_le hb b1.size, (b1.cell (p := ⟨b, 0, none⟩) hb).trans h0, (b1.cell (p := ⟨b, 1, none⟩) hb).trans h1, (b1.cell (p := ⟨b, 2, none⟩) hb).trans h2, (b1.cell (p := ⟨b, 3, none⟩) hb).trans h3, (b1.cell (p := ⟨b, 4, none⟩) hb).trans h4⟩
theorem pkAt_new (k n t l : Int) (d : List UInt8) (w : World) (T : TypeId) : PkAt k n t l d w.heap.size (w.alloc (.cells #[.int .i64 k, .int .i64 n, .int .i64 t, .int .i64 l, .string (str d)] T)) := by
  refine ⟨by simp, ?_, ?_, ?_, ?_, ?_⟩ <;> simp [go_sem]
theorem free_new (w : World) (cs : Array Value) (T : TypeId) (j : Nat) : (w.alloc (.cells cs T)).frozen? ⟨w.heap.size, j, none⟩ = false := by simp [go_sem]
theorem set5 {B : Nat} {a w : World} {b : Nat} (h : Below B a w) (hb : B ≤ b) (x0 x1 x2 x3 x4 : Value) : Below B a (((((w.setCell ⟨b, 0, none⟩ x0).setCell ⟨b, 1, none⟩ x1).setCell ⟨b, 2, none⟩ x2).setCell ⟨b, 3, none⟩ x3).setCell ⟨b, 4, none⟩ x4) :=
  ((((h.setCell (p := ⟨b, 0, none⟩) hb x0).setCell (p := ⟨b, 1, none⟩) hb x1).setCell (p := ⟨b, 2, none⟩) hb x2).setCell (p := ⟨b, 3, none⟩) hb x3).setCell (p := ⟨b, 4, none⟩) hb x4
/-- Block b may be written. -/
def Free (b : Nat) (w : World) : Prop := ∀ j, w.frozen? ⟨b, j, none⟩ = false
theorem Free.keep {b : Nat} {w w1 : World} (h : Free b w) (hb : b < w.heap.size) (b1 : Below w.heap.size w w1) : Free b w1 := fun j => (b1.frozen (p := ⟨b, j, none⟩) hb).trans (h j)
/-- The repair's three boxes, behind a call. -/
theorem rep_world (k n t l : Int) (d : List UInt8) (tr le : Int) (w w1 : World) (b1 : Below (((w.alloc (.cells (pkC k n t l d) 25)).alloc (.cells (pkC 0 0 0 0 []) 25)).alloc (.cells (pkC 2 n tr le d) 25)).heap.size (((w.alloc (.cells (pkC k n t l d) 25)).alloc (.cells (pkC 0 0 0 0 []) 25)).alloc (.cells (pkC 2 n tr le d) 25)) w1) :
    Below w.heap.size w w1 ∧ PkAt k n t l d w.heap.size w1 ∧ PkAt 0 0 0 0 [] (w.heap.size + 1) w1 ∧ PkAt 2 n tr le d (w.heap.size + 1 + 1) w1 ∧ Free (w.heap.size + 1) w1 := by
  have e1 : (w.alloc (.cells (pkC k n t l d) 25)).heap.size = w.heap.size + 1 := by simp
  have e2 : ((w.alloc (.cells (pkC k n t l d) 25)).alloc (.cells (pkC 0 0 0 0 []) 25)).heap.size = w.heap.size + 1 + 1 := by simp
  have k1 : Below w.heap.size w (w.alloc (.cells (pkC k n t l d) 25)) := (Below.refl _ _).alloc (Nat.le_refl _) _
  have k2 := fun W : World => (Below.refl W.heap.size W).alloc (Nat.le_refl _) (.cells (pkC 0 0 0 0 []) 25)
  have k3 := fun W : World => (Below.refl W.heap.size W).alloc (Nat.le_refl _) (.cells (pkC 2 n tr le d) 25)
  have p1 := pkAt_new k n t l d w 25
  have p2 := pkAt_new 0 0 0 0 [] (w.alloc (.cells (pkC k n t l d) 25)) 25
  have p3 := pkAt_new 2 n tr le d ((w.alloc (.cells (pkC k n t l d) 25)).alloc (.cells (pkC 0 0 0 0 []) 25)) 25
  rw [e1] at p2
  rw [e2] at p3
  have hf : Free (w.heap.size + 1) ((w.alloc (.cells (pkC k n t l d) 25)).alloc (.cells (pkC 0 0 0 0 []) 25)) := fun j => by
    have := free_new (w.alloc (.cells (pkC k n t l d) 25)) (pkC 0 0 0 0 []) 25 j
    rwa [e1] at this
  refine ⟨((k1.trans ((k2 _).mono (by simp))).trans ((k3 _).mono (by simp; omega))).trans (b1.mono (by simp; omega)), ((p1.keep (k2 _)).keep (k3 _)).keep b1, (p2.keep (k3 _)).keep b1, p3.keep b1, (hf.keep (by simp) (k3 _)).keep (by simp) b1⟩
def repOk (k n t l : Int) (d : List UInt8) (tr le : Int) : Bool := goodP k n t l d && decide (k = 1) && goodP 2 n tr le d
def repC (k n t l : Int) (d : List UInt8) (tr le : Int) : Array Value := if repOk k n t l d tr le then pkC 2 n tr le d else pkC 0 0 0 0 []
theorem rep_pk (k n t l : Int) (d : List UInt8) (tr le : Int) : ∃ k' n' t' l' d', repC k n t l d tr le = pkC k' n' t' l' d' := by
  unfold repC
  split
  · exact ⟨2, n, tr, le, d, rfl⟩
  · exact ⟨0, 0, 0, 0, [], rfl⟩
set_option maxHeartbeats 4000000 in
theorem c_specRepairOf (k n t l : Int) (d : List UInt8) (tr le : Int) (w : World) (hd : d.length ≤ 1000000000) :
    Calls Tryz.prog 13 #[.agg (pkC k n t l d), .int .i64 tr, .int .i64 le] w fun e w' => e = .returned (.tuple #[.agg (repC k n t l d tr le), .bool (repOk k n t l d tr le)]) ∧ Below w.heap.size w w' := by
  have C1 := fun W => Lib.hid (c_l4Good k n t l d W hd)
  have C2 := fun W => Lib.hid (c_l4Good 2 n tr le d W hd)
  have K := Lib.hid (rep_world k n t l d tr le w)
  cases g1 : goodP k n t l d
  · rw [g1] at C1
    rw [show repOk k n t l d tr le = false from by simp [repOk, g1], show repC k n t l d tr le = pkC 0 0 0 0 [] from by simp [repC, repOk, g1]]
    unfold pkC at *
    go_enter Tryz.func13, Tryz.ntmps13
    go_wp2_with fail
    refine (C1 _).out.mono ?_
    rintro e w1 ⟨rfl, b1⟩
    have K1 := Lib.hid (K.out w1 b1)
    clear b1
    obtain ⟨HB, KP, KZ, KO, KF⟩ := K1.out
    obtain ⟨pb, p0, p1, p2, p3, p4⟩ := KP
    obtain ⟨zb, z0, z1, z2, z3, z4⟩ := KZ
    obtain ⟨ob, o0, o1, o2, o3, o4⟩ := KO
    have f0 := KF 0
    have f1 := KF 1
    have f2 := KF 2
    have f3 := KF 3
    have f4 := KF 4
    have HB := Lib.hid HB
    go_wp2
    exact bodyPost_ret (v := .tuple #[.agg #[.int .i64 0, .int .i64 0, .int .i64 0, .int .i64 0, .string ⟨#[]⟩], .bool false]) (by simp [results, Tryz.results13, go_sem, z0, z1, z2, z3, z4]) rfl ⟨rfl, set5 HB.out (by omega) _ _ _ _ _⟩
  rw [g1] at C1
  cases g2 : decide (k = 1)
  · have ga : (k == 1) = false := beq_eq_false_iff_ne.2 (of_decide_eq_false g2)
    have gb : (k != 1) = true := bne_iff_ne.2 (of_decide_eq_false g2)
    rw [show repOk k n t l d tr le = false from by simp [repOk, g1, g2], show repC k n t l d tr le = pkC 0 0 0 0 [] from by simp [repC, repOk, g1, g2]]
    clear g2
    unfold pkC at *
    go_enter Tryz.func13, Tryz.ntmps13
    go_wp2_with fail
    refine (C1 _).out.mono ?_
    rintro e w1 ⟨rfl, b1⟩
    have K1 := Lib.hid (K.out w1 b1)
    clear b1
    obtain ⟨HB, KP, KZ, KO, KF⟩ := K1.out
    obtain ⟨pb, p0, p1, p2, p3, p4⟩ := KP
    obtain ⟨zb, z0, z1, z2, z3, z4⟩ := KZ
    obtain ⟨ob, o0, o1, o2, o3, o4⟩ := KO
    have f0 := KF 0
    have f1 := KF 1
    have f2 := KF 2
    have f3 := KF 3
    have f4 := KF 4
    have HB := Lib.hid HB
    go_wp2
    exact bodyPost_ret (v := .tuple #[.agg #[.int .i64 0, .int .i64 0, .int .i64 0, .int .i64 0, .string ⟨#[]⟩], .bool false]) (by simp [results, Tryz.results13, go_sem, z0, z1, z2, z3, z4]) rfl ⟨rfl, set5 HB.out (by omega) _ _ _ _ _⟩
  have ga : (k == 1) = true := beq_iff_eq.2 (of_decide_eq_true g2)
  have gb : (k != 1) = false := by simp [of_decide_eq_true g2]
  cases g3 : goodP 2 n tr le d
  · rw [g3] at C2
    rw [show repOk k n t l d tr le = false from by simp [repOk, g1, g2, g3], show repC k n t l d tr le = pkC 0 0 0 0 [] from by simp [repC, repOk, g1, g2, g3]]
    clear g2
    unfold pkC at *
    go_enter Tryz.func13, Tryz.ntmps13
    go_wp2_with fail
    refine (C1 _).out.mono ?_
    rintro e w1 ⟨rfl, b1⟩
    have K1 := Lib.hid (K.out w1 b1)
    clear b1
    obtain ⟨HB, KP, KZ, KO, KF⟩ := K1.out
    obtain ⟨pb, p0, p1, p2, p3, p4⟩ := KP
    obtain ⟨zb, z0, z1, z2, z3, z4⟩ := KZ
    obtain ⟨ob, o0, o1, o2, o3, o4⟩ := KO
    have f0 := KF 0
    have f1 := KF 1
    have f2 := KF 2
    have f3 := KF 3
    have f4 := KF 4
    have HB := Lib.hid HB
    go_wp2_with fail
    refine (C2 _).out.mono ?_
    rintro e w2 ⟨rfl, b2⟩
    clear pb p0 p1 p2 p3 p4 zb z0 z1 z2 z3 z4 ob o0 o1 o2 o3 o4 f0 f1 f2 f3 f4
    obtain ⟨HB1, KP1, KZ1, KO1, KF1⟩ := K1.out
    have K2 := Lib.hid (And.intro (HB1.trans (b2.mono HB1.size)) (And.intro (KP1.keep b2) (And.intro (KZ1.keep b2) (And.intro (KO1.keep b2) (KF1.keep KZ1.1 b2)))))
    clear b2 K1 HB HB1 KP1 KZ1 KO1 KF1
    obtain ⟨HB, KP, KZ, KO, KF⟩ := K2.out
    obtain ⟨pb, p0, p1, p2, p3, p4⟩ := KP
    obtain ⟨zb, z0, z1, z2, z3, z4⟩ := KZ
    obtain ⟨ob, o0, o1, o2, o3, o4⟩ := KO
    have f0 := KF 0
    have f1 := KF 1
    have f2 := KF 2
    have f3 := KF 3
    have f4 := KF 4
    have HB := Lib.hid HB
    go_wp2
    exact bodyPost_ret (v := .tuple #[.agg #[.int .i64 0, .int .i64 0, .int .i64 0, .int .i64 0, .string ⟨#[]⟩], .bool false]) (by simp [results, Tryz.results13, go_sem, z0, z1, z2, z3, z4]) rfl ⟨rfl, set5 HB.out (by omega) _ _ _ _ _⟩
  rw [g3] at C2
  rw [show repOk k n t l d tr le = true from by simp [repOk, g1, g2, g3], show repC k n t l d tr le = pkC 2 n tr le d from by simp [repC, repOk, g1, g2, g3]]
  clear g2
  unfold pkC at *
  go_enter Tryz.func13, Tryz.ntmps13
  go_wp2_with fail
  refine (C1 _).out.mono ?_
  rintro e w1 ⟨rfl, b1⟩
  have K1 := Lib.hid (K.out w1 b1)
  clear b1
  obtain ⟨HB, KP, KZ, KO, KF⟩ := K1.out
  obtain ⟨pb, p0, p1, p2, p3, p4⟩ := KP
  obtain ⟨zb, z0, z1, z2, z3, z4⟩ := KZ
  obtain ⟨ob, o0, o1, o2, o3, o4⟩ := KO
  have f0 := KF 0
  have f1 := KF 1
  have f2 := KF 2
  have f3 := KF 3
  have f4 := KF 4
  have HB := Lib.hid HB
  go_wp2_with fail
  refine (C2 _).out.mono ?_
  rintro e w2 ⟨rfl, b2⟩
  clear pb p0 p1 p2 p3 p4 zb z0 z1 z2 z3 z4 ob o0 o1 o2 o3 o4 f0 f1 f2 f3 f4
  obtain ⟨HB1, KP1, KZ1, KO1, KF1⟩ := K1.out
  have K2 := Lib.hid (And.intro (HB1.trans (b2.mono HB1.size)) (And.intro (KP1.keep b2) (And.intro (KZ1.keep b2) (And.intro (KO1.keep b2) (KF1.keep KZ1.1 b2)))))
  clear b2 K1 HB HB1 KP1 KZ1 KO1 KF1
  obtain ⟨HB, KP, KZ, KO, KF⟩ := K2.out
  obtain ⟨pb, p0, p1, p2, p3, p4⟩ := KP
  obtain ⟨zb, z0, z1, z2, z3, z4⟩ := KZ
  obtain ⟨ob, o0, o1, o2, o3, o4⟩ := KO
  have f0 := KF 0
  have f1 := KF 1
  have f2 := KF 2
  have f3 := KF 3
  have f4 := KF 4
  have HB := Lib.hid HB
  go_wp2
  exact bodyPost_ret (v := .tuple #[.agg #[.int .i64 2, .int .i64 n, .int .i64 tr, .int .i64 le, .string (str d)], .bool true]) (by simp [results, Tryz.results13, go_sem, z0, z1, z2, z3, z4]) rfl ⟨rfl, set5 HB.out (by omega) _ _ _ _ _⟩
set_option maxHeartbeats 4000000 in
theorem c_implRepairOf (k n t l : Int) (d : List UInt8) (tr le : Int) (w : World) (hd : d.length ≤ 1000000000) :
    Calls Tryz.prog 12 #[.agg (pkC k n t l d), .int .i64 tr, .int .i64 le] w fun e w' => e = .returned (.tuple #[.agg (repC k n t l d tr le), .bool (repOk k n t l d tr le)]) ∧ Below w.heap.size w w' := by
  have C1 := fun W => Lib.hid (c_implIsValidPacket k n t l d W hd)
  have C2 := fun W => Lib.hid (c_implIsValidPacket 2 n tr le d W hd)
  have K := Lib.hid (rep_world k n t l d tr le w)
  cases g1 : goodP k n t l d
  · rw [g1] at C1
    rw [show repOk k n t l d tr le = false from by simp [repOk, g1], show repC k n t l d tr le = pkC 0 0 0 0 [] from by simp [repC, repOk, g1]]
    unfold pkC at *
    go_enter Tryz.func12, Tryz.ntmps12
    go_wp2_with fail
    refine (C1 _).out.mono ?_
    rintro e w1 ⟨rfl, b1⟩
    have K1 := Lib.hid (K.out w1 b1)
    clear b1
    obtain ⟨HB, KP, KZ, KO, KF⟩ := K1.out
    obtain ⟨pb, p0, p1, p2, p3, p4⟩ := KP
    obtain ⟨zb, z0, z1, z2, z3, z4⟩ := KZ
    obtain ⟨ob, o0, o1, o2, o3, o4⟩ := KO
    have f0 := KF 0
    have f1 := KF 1
    have f2 := KF 2
    have f3 := KF 3
    have f4 := KF 4
    have HB := Lib.hid HB
    go_wp2
    exact bodyPost_ret (v := .tuple #[.agg #[.int .i64 0, .int .i64 0, .int .i64 0, .int .i64 0, .string ⟨#[]⟩], .bool false]) (by simp [results, Tryz.results12, go_sem, z0, z1, z2, z3, z4]) rfl ⟨rfl, set5 HB.out (by omega) _ _ _ _ _⟩
  rw [g1] at C1
  cases g2 : decide (k = 1)
  · have ga : (k == 1) = false := beq_eq_false_iff_ne.2 (of_decide_eq_false g2)
    have gb : (k != 1) = true := bne_iff_ne.2 (of_decide_eq_false g2)
    rw [show repOk k n t l d tr le = false from by simp [repOk, g1, g2], show repC k n t l d tr le = pkC 0 0 0 0 [] from by simp [repC, repOk, g1, g2]]
    clear g2
    unfold pkC at *
    go_enter Tryz.func12, Tryz.ntmps12
    go_wp2_with fail
    refine (C1 _).out.mono ?_
    rintro e w1 ⟨rfl, b1⟩
    have K1 := Lib.hid (K.out w1 b1)
    clear b1
    obtain ⟨HB, KP, KZ, KO, KF⟩ := K1.out
    obtain ⟨pb, p0, p1, p2, p3, p4⟩ := KP
    obtain ⟨zb, z0, z1, z2, z3, z4⟩ := KZ
    obtain ⟨ob, o0, o1, o2, o3, o4⟩ := KO
    have f0 := KF 0
    have f1 := KF 1
    have f2 := KF 2
    have f3 := KF 3
    have f4 := KF 4
    have HB := Lib.hid HB
    go_wp2
    exact bodyPost_ret (v := .tuple #[.agg #[.int .i64 0, .int .i64 0, .int .i64 0, .int .i64 0, .string ⟨#[]⟩], .bool false]) (by simp [results, Tryz.results12, go_sem, z0, z1, z2, z3, z4]) rfl ⟨rfl, set5 HB.out (by omega) _ _ _ _ _⟩
  have ga : (k == 1) = true := beq_iff_eq.2 (of_decide_eq_true g2)
  have gb : (k != 1) = false := by simp [of_decide_eq_true g2]
  cases g3 : goodP 2 n tr le d
  · rw [g3] at C2
    rw [show repOk k n t l d tr le = false from by simp [repOk, g1, g2, g3], show repC k n t l d tr le = pkC 0 0 0 0 [] from by simp [repC, repOk, g1, g2, g3]]
    clear g2
    unfold pkC at *
    go_enter Tryz.func12, Tryz.ntmps12
    go_wp2_with fail
    refine (C1 _).out.mono ?_
    rintro e w1 ⟨rfl, b1⟩
    have K1 := Lib.hid (K.out w1 b1)
    clear b1
    obtain ⟨HB, KP, KZ, KO, KF⟩ := K1.out
    obtain ⟨pb, p0, p1, p2, p3, p4⟩ := KP
    obtain ⟨zb, z0, z1, z2, z3, z4⟩ := KZ
    obtain ⟨ob, o0, o1, o2, o3, o4⟩ := KO
    have f0 := KF 0
    have f1 := KF 1
    have f2 := KF 2
    have f3 := KF 3
    have f4 := KF 4
    have HB := Lib.hid HB
    go_wp2_with fail
    refine (C2 _).out.mono ?_
    rintro e w2 ⟨rfl, b2⟩
    clear pb p0 p1 p2 p3 p4 zb z0 z1 z2 z3 z4 ob o0 o1 o2 o3 o4 f0 f1 f2 f3 f4
    obtain ⟨HB1, KP1, KZ1, KO1, KF1⟩ := K1.out
    have K2 := Lib.hid (And.intro (HB1.trans (b2.mono HB1.size)) (And.intro (KP1.keep b2) (And.intro (KZ1.keep b2) (And.intro (KO1.keep b2) (KF1.keep KZ1.1 b2)))))
    clear b2 K1 HB HB1 KP1 KZ1 KO1 KF1
    obtain ⟨HB, KP, KZ, KO, KF⟩ := K2.out
    obtain ⟨pb, p0, p1, p2, p3, p4⟩ := KP
    obtain ⟨zb, z0, z1, z2, z3, z4⟩ := KZ
    obtain ⟨ob, o0, o1, o2, o3, o4⟩ := KO
    have f0 := KF 0
    have f1 := KF 1
    have f2 := KF 2
    have f3 := KF 3
    have f4 := KF 4
    have HB := Lib.hid HB
    go_wp2
    exact bodyPost_ret (v := .tuple #[.agg #[.int .i64 0, .int .i64 0, .int .i64 0, .int .i64 0, .string ⟨#[]⟩], .bool false]) (by simp [results, Tryz.results12, go_sem, z0, z1, z2, z3, z4]) rfl ⟨rfl, set5 HB.out (by omega) _ _ _ _ _⟩
  rw [g3] at C2
  rw [show repOk k n t l d tr le = true from by simp [repOk, g1, g2, g3], show repC k n t l d tr le = pkC 2 n tr le d from by simp [repC, repOk, g1, g2, g3]]
  clear g2
  unfold pkC at *
  go_enter Tryz.func12, Tryz.ntmps12
  go_wp2_with fail
  refine (C1 _).out.mono ?_
  rintro e w1 ⟨rfl, b1⟩
  have K1 := Lib.hid (K.out w1 b1)
  clear b1
  obtain ⟨HB, KP, KZ, KO, KF⟩ := K1.out
  obtain ⟨pb, p0, p1, p2, p3, p4⟩ := KP
  obtain ⟨zb, z0, z1, z2, z3, z4⟩ := KZ
  obtain ⟨ob, o0, o1, o2, o3, o4⟩ := KO
  have f0 := KF 0
  have f1 := KF 1
  have f2 := KF 2
  have f3 := KF 3
  have f4 := KF 4
  have HB := Lib.hid HB
  go_wp2_with fail
  refine (C2 _).out.mono ?_
  rintro e w2 ⟨rfl, b2⟩
  clear pb p0 p1 p2 p3 p4 zb z0 z1 z2 z3 z4 ob o0 o1 o2 o3 o4 f0 f1 f2 f3 f4
  obtain ⟨HB1, KP1, KZ1, KO1, KF1⟩ := K1.out
  have K2 := Lib.hid (And.intro (HB1.trans (b2.mono HB1.size)) (And.intro (KP1.keep b2) (And.intro (KZ1.keep b2) (And.intro (KO1.keep b2) (KF1.keep KZ1.1 b2)))))
  clear b2 K1 HB HB1 KP1 KZ1 KO1 KF1
  obtain ⟨HB, KP, KZ, KO, KF⟩ := K2.out
  obtain ⟨pb, p0, p1, p2, p3, p4⟩ := KP
  obtain ⟨zb, z0, z1, z2, z3, z4⟩ := KZ
  obtain ⟨ob, o0, o1, o2, o3, o4⟩ := KO
  have f0 := KF 0
  have f1 := KF 1
  have f2 := KF 2
  have f3 := KF 3
  have f4 := KF 4
  have HB := Lib.hid HB
  go_wp2
  exact bodyPost_ret (v := .tuple #[.agg #[.int .i64 2, .int .i64 n, .int .i64 tr, .int .i64 le, .string (str d)], .bool true]) (by simp [results, Tryz.results12, go_sem, z0, z1, z2, z3, z4]) rfl ⟨rfl, set5 HB.out (by omega) _ _ _ _ _⟩
end Go.Proofs.YtpmfaiocmgkmpaaGreatDoor
