/- Packets drawn. -/
import Derived.Test.YtpmfaiocmgkmpaaGreatDoorDrawT
import Derived.Test.YtpmfaiocmgkmpaaGreatDoorPkS
import Derived.Test.YtpmfaiocmgkmpaaGreatDoorRes
namespace Go.Proofs.YtpmfaiocmgkmpaaGreatDoor
open Go.RowKit
set_option linter.unusedVariables false
set_option maxRecDepth 100000

theorem grown_new {a w : World} {b r : Nat} (h : a.grownBy w (some b)) (hr : a.heap.size ≤ r) (o : Nat) (v : Value) : a.grownBy (w.setCell ⟨r, o, none⟩ v) (some b) :=
  ⟨h.os, h.tape, h.output, by rw [World.size_setCell]; exact h.size, fun k hk hne => by
    have e : (w.setCell ⟨r, o, none⟩ v).heap[k]? = w.heap[k]? := Below.heap_setCell _ _ _ k (by show k ≠ r; omega)
    rw [e]
    exact h.block k hk hne⟩
def letT (m : Nat) (s : ByteArray) : Prop := ∃ d : List UInt8, s = str d ∧ letB d = true ∧ d.length ≤ m
def oneT (s : ByteArray) : Prop := ∃ c : UInt8, s = str [c] ∧ letB [c] = true
theorem letB_app {a : List UInt8} {c : UInt8} (h : letB a = true) (k : letB [c] = true) : letB (a ++ [c]) = true := by
  unfold letB at *
  rw [List.all_append, h, k]
  rfl
set_option maxHeartbeats 2000000 in
theorem c_letters (b N : Nat) (w : World) (h : Cur w b N) (hN : N ≤ 900000) :
    Calls Tryz.prog 54 #[.pointer (some ⟨b, 0, none⟩), .int .i64 8] w (DrawsT b (N + 20) (letT 8) w) := by
  have H := Lib.hid h
  clear h
  go_enter Tryz.func54, Tryz.ntmps54
  go_wp2_with fail
  refine (c_pick b N 9 _ H.out (by omega) (by omega) (by omega)).mono ?_
  rintro e w1 ⟨y, rfl, ⟨hy0, hy1⟩, k1, g1⟩
  obtain ⟨n0, rfl⟩ : ∃ n : Nat, y = (n : Int) := ⟨y.toNat, by omega⟩
  have hn0 : n0 ≤ 8 := by omega
  have H1 := Lib.hid k1
  have G1 := Lib.hid g1
  clear k1 g1 hy0 hy1 H
  go_wp2
  go_loopw [5, 6] (fun v i wr => ∃ (k M : Nat) (d : List UInt8), k ≤ 8 ∧ i = .int .i64 k ∧ v = .string (str d) ∧ d.length + k ≤ 8 ∧ Hid (letB d = true) ∧ M + 2 * k ≤ N + 18 ∧ Hid (Cur wr b M) ∧ Hid (w.grownBy wr (some b))) (fun _ i _ => (intOf i).toNat)
  case atStart => exact ⟨n0, N + 2, [], hn0, rfl, rfl, by simpa using hn0, Lib.hid rfl, by omega, H1, G1⟩
  case round =>
    clear H1 G1
    obtain ⟨k, M, d, hk, rfl, rfl, hlen, HP, hM, HC, HGR⟩ := hrel
    by_cases hk0 : 0 < k
    · go_wp2_with fail
      refine (c_of b M (wr.heap.size + 1) 5 oneT _ _ _ _ (HC.out.push _) (by omega) (lies_lit wr [.string ⟨#[97]⟩, .string ⟨#[98]⟩, .string ⟨#[99]⟩, .string ⟨#[120]⟩, .string ⟨#[122]⟩] _) (by simp) (ne_new HC.out.inside) (by rfl) (by decide) (by decide) ?_).mono ?_
      · intro v hv
        simp only [List.mem_cons, List.not_mem_nil, or_false] at hv
        rcases hv with rfl | rfl | rfl | rfl | rfl
        · exact ⟨_, rfl, 97, rfl, by decide⟩
        · exact ⟨_, rfl, 98, rfl, by decide⟩
        · exact ⟨_, rfl, 99, rfl, by decide⟩
        · exact ⟨_, rfl, 120, rfl, by decide⟩
        · exact ⟨_, rfl, 122, rfl, by decide⟩
      rintro e w2 ⟨s, rfl, ⟨c, rfl, hc⟩, k2, g2⟩
      have H2 := Lib.hid k2
      have G2 := Lib.hid (grown_trans (grown_trans HGR.out (grown_alloc _ _ _)) g2)
      have HP2 := Lib.hid (letB_app HP.out hc)
      have hadd := fun W => run_add_str d [c] (d ++ [c]) rfl (by simp; omega) W
      clear k2 g2 hc HC HGR HP
      go_wp2
      go_roundw
      case rel => exact ⟨k - 1, M + 2, d ++ [c], by omega, by go_num, rfl, by simp; omega, HP2, by omega, H2, G2⟩
      case measure => simp [intOf]; omega
    · obtain rfl : k = 0 := by omega
      go_wp2
      go_ret
      exact ⟨_, rfl, ⟨d, rfl, HP.out, by omega⟩, HC.out.more (by omega), HGR.out⟩
theorem PkAt.grown {k n t l : Int} {d : List UInt8} {r b : Nat} {w w' : World} (h : PkAt k n t l d r w) (g : w.grownBy w' (some b)) (hne : b ≠ r) : PkAt k n t l d r w' := by
  have hb : w'.heap[r]? = w.heap[r]? := g.block r h.1 (fun e => hne (by injection e with e; exact e.symm))
  have c : ∀ j, w'.cell? ⟨r, j, none⟩ = w.cell? ⟨r, j, none⟩ := fun j => World.cell?_of_block (w := w) hb
  exact ⟨Nat.lt_of_lt_of_le h.1 g.size, (c 0).trans h.2.1, (c 1).trans h.2.2.1, (c 2).trans h.2.2.2.1, (c 3).trans h.2.2.2.2.1, (c 4).trans h.2.2.2.2.2⟩
theorem Free.grown {r b : Nat} {w w' : World} (h : Free r w) (hr : r < w.heap.size) (g : w.grownBy w' (some b)) (hne : b ≠ r) : Free r w' := fun j => by
  have hb : w'.heap[r]? = w.heap[r]? := g.block r hr (fun e => hne (by injection e with e; exact e.symm))
  exact (World.frozen?_of_block (w := w) (a := ⟨r, j, none⟩) hb).trans (h j)
theorem cur_new5 {w : World} {b N r : Nat} (h : Cur w b N) (hr : b < r) (x0 x1 x2 x3 x4 : Value) : Cur (((((w.setCell ⟨r, 0, none⟩ x0).setCell ⟨r, 1, none⟩ x1).setCell ⟨r, 2, none⟩ x2).setCell ⟨r, 3, none⟩ x3).setCell ⟨r, 4, none⟩ x4) b N :=
  h.keep (set5 (Below.refl r w) (Nat.le_refl _) x0 x1 x2 x3 x4) hr
theorem res_pkt {ts : Array Value} {b : Nat} {w : World} {k n t l : Int} {d : List UInt8} (h2 : ts[2]? = some (.pointer (some ⟨b, 0, none⟩))) (K : PkAt k n t l d b w) :
    (results Tryz.f27 ts).run Tryz.prog w = .ok (.agg (pkC k n t l d)) w := by
  obtain ⟨_, c0, c1, c2, c3, c4⟩ := K
  simp [results, Tryz.results27, go_sem, h2, c0, c1, c2, c3, c4]
  rfl
theorem good_drawn {x1 x2 x3 t : Int} {d : List UInt8} (h1 : 0 ≤ x1 ∧ x1 < 5) (h2 : 0 ≤ x2 ∧ x2 < 9) (h3 : 0 ≤ x3 ∧ x3 < 10) (ht : 0 ≤ t ∧ t ≤ 65535) (hd : letB d = true ∧ d.length ≤ 8) (hk : 1 + x1 ≤ 2 ∨ d = []) :
    goodP (1 + x1) (aftV t (x3 - 1)) t (aftV t x2) d = true := by
  have a := aftV_rng t (x3 - 1)
  have c := aftV_rng t x2
  have g : gapV t (aftV t x2) ≤ 32767 := by unfold gapV aftV; omega
  unfold goodP inR itemB
  rw [hd.1]
  simp only [Bool.and_eq_true, decide_eq_true_eq, Bool.or_eq_true, List.isEmpty_iff, Bool.true_and]
  refine ⟨⟨⟨⟨⟨⟨by omega, by omega⟩, by omega⟩, by omega⟩, hd.2⟩, g⟩, ?_⟩
  rcases hk with hk | hk
  · omega
  · exact .inl (.inl hk)
def DrawsP (b N : Nat) (P : Int → Int → Int → Int → List UInt8 → Prop) (w : World) (e : Ending) (w' : World) : Prop := ∃ (k n t l : Int) (d : List UInt8), e = .returned (.agg (pkC k n t l d)) ∧ P k n t l d ∧ Cur w' b N ∧ w.grownBy w' (some b)
set_option maxHeartbeats 8000000 in
theorem c_packet (b N : Nat) (w : World) (h : Cur w b N) (hN : N ≤ 800000) :
    Calls Tryz.prog 27 #[.pointer (some ⟨b, 0, none⟩)] w (DrawsP b (N + 40) (fun k n t l d => goodP k n t l d = true) w) := by
  have H0 := Lib.hid (h.push (.cells #[.int .i64 0, .int .i64 0, .int .i64 0, .int .i64 0, .string ⟨#[]⟩] 25))
  have hbz : b < w.heap.size := h.inside
  have G0 := Lib.hid (grown_alloc w (.cells #[.int .i64 0, .int .i64 0, .int .i64 0, .int .i64 0, .string ⟨#[]⟩] 25) (some b))
  have KZ0 : Hid (PkAt 0 0 0 0 [] w.heap.size (w.alloc (.cells #[.int .i64 0, .int .i64 0, .int .i64 0, .int .i64 0, .string ⟨#[]⟩] 25))) := Lib.hid (pkAt_new 0 0 0 0 [] w 25)
  have KF0 := Lib.hid (show Free w.heap.size (w.alloc (.cells #[.int .i64 0, .int .i64 0, .int .i64 0, .int .i64 0, .string ⟨#[]⟩] 25)) from fun j => free_new w #[.int .i64 0, .int .i64 0, .int .i64 0, .int .i64 0, .string ⟨#[]⟩] 25 j)
  clear h
  go_enter Tryz.func27, Tryz.ntmps27
  go_wp2_with fail
  generalize w.alloc (.cells #[.int .i64 0, .int .i64 0, .int .i64 0, .int .i64 0, .string ⟨#[]⟩] 25) = w0 at *
  refine (c_serial b N _ H0.out (by omega)).mono ?_
  rintro e w1 ⟨t, rfl, ⟨t0, t1⟩, k1, g1⟩
  have H1 := Lib.hid k1
  have G1 := Lib.hid (grown_trans G0.out g1)
  have KZ1 := Lib.hid (KZ0.out.grown g1 (by omega))
  have KF1 := Lib.hid (Free.grown KF0.out KZ0.out.1 g1 (by omega))
  clear k1 g1 H0 G0 KZ0 KF0
  go_wp2_with fail
  refine (c_pick b (N + 4) 5 _ H1.out (by omega) (by omega) (by omega)).mono ?_
  rintro e w2 ⟨x1, rfl, ⟨x10, x11⟩, k1, g1⟩
  have H2 := Lib.hid k1
  have G2 := Lib.hid (grown_trans G1.out g1)
  have KZ2 := Lib.hid (KZ1.out.grown g1 (by omega))
  have KF2 := Lib.hid (Free.grown KF1.out KZ1.out.1 g1 (by omega))
  clear k1 g1 H1 G1 KZ1 KF1
  go_wp2_with fail
  refine (c_pick b (N + 4 + 2) 9 _ H2.out (by omega) (by omega) (by omega)).mono ?_
  rintro e w3 ⟨x2, rfl, ⟨x20, x21⟩, k1, g1⟩
  have H3 := Lib.hid k1
  have G3 := Lib.hid (grown_trans G2.out g1)
  have KZ3 := Lib.hid (KZ2.out.grown g1 (by omega))
  have KF3 := Lib.hid (Free.grown KF2.out KZ2.out.1 g1 (by omega))
  clear k1 g1 H2 G2 KZ2 KF2
  go_wp2_with fail
  refine (c_l2After t x2 _ (by omega) (by omega) (by omega) (by omega)).mono ?_
  rintro e _ ⟨rfl, rfl⟩
  go_wp2_with fail
  refine (c_pick b (N + 4 + 2 + 2) 10 _ H3.out (by omega) (by omega) (by omega)).mono ?_
  rintro e w4 ⟨x3, rfl, ⟨x30, x31⟩, k1, g1⟩
  have H4 := Lib.hid k1
  have G4 := Lib.hid (grown_trans G3.out g1)
  have KZ4 := Lib.hid (KZ3.out.grown g1 (by omega))
  have KF4 := Lib.hid (Free.grown KF3.out KZ3.out.1 g1 (by omega))
  clear k1 g1 H3 G3 KZ3 KF3
  have wx3 : IntKind.i64.wrap (x3 - 1) = x3 - 1 := IntWalk.i64_in _ (by omega)
  go_wp2_with fail
  refine (c_l2After t (x3 - 1) _ (by omega) (by omega) (by omega) (by omega)).mono ?_
  rintro e _ ⟨rfl, rfl⟩
  have HGOOD : Hid (∀ d, letB d = true ∧ d.length ≤ 8 → (1 + x1 ≤ 2 ∨ d = []) → goodP (1 + x1) (aftV t (x3 - 1)) t (aftV t x2) d = true) := Lib.hid (fun d hd hk => good_drawn ⟨x10, by omega⟩ ⟨x20, by omega⟩ ⟨x30, by omega⟩ ⟨t0, t1⟩ hd hk)
  generalize aftV t (x3 - 1) = n2 at *
  generalize aftV t x2 = l2 at *
  have wx1 : IntKind.i64.wrap (1 + x1) = 1 + x1 := IntWalk.i64_in _ (by omega)
  have hs4 : w.heap.size < w4.heap.size := KZ4.out.1
  go_upto_region 3 with fail
  have bA := (Below.refl w4.heap.size w4).alloc (Nat.le_refl _) (.cells #[.int .i64 (1 + x1), .int .i64 n2, .int .i64 t, .int .i64 l2, .string ⟨#[]⟩] 25)
  have hb4 : b < w4.heap.size := H4.out.inside
  have KP5 : Hid (PkAt (1 + x1) n2 t l2 [] w4.heap.size (w4.alloc (.cells #[.int .i64 (1 + x1), .int .i64 n2, .int .i64 t, .int .i64 l2, .string ⟨#[]⟩] 25))) := Lib.hid (pkAt_new (1 + x1) n2 t l2 [] w4 25)
  have PF5 : Hid (Free w4.heap.size (w4.alloc (.cells #[.int .i64 (1 + x1), .int .i64 n2, .int .i64 t, .int .i64 l2, .string ⟨#[]⟩] 25))) := Lib.hid (fun j => free_new w4 #[.int .i64 (1 + x1), .int .i64 n2, .int .i64 t, .int .i64 l2, .string ⟨#[]⟩] 25 j)
  have H5 := Lib.hid (H4.out.keep bA hb4)
  have G5 := Lib.hid (grown_trans G4.out (grown_below bA))
  have KZ5 := Lib.hid (KZ4.out.keep bA)
  have KF5 := Lib.hid (Free.keep KF4.out hs4 bA)
  clear bA H4 G4 KZ4 KF4
  generalize w4.alloc (.cells #[.int .i64 (1 + x1), .int .i64 n2, .int .i64 t, .int .i64 l2, .string ⟨#[]⟩] 25) = w5 at *
  obtain ⟨pb, p0, p1, p2, p3, p4⟩ := KP5.out
  by_cases hk : 1 + x1 ≤ 2
  · go_wp2_with fail
    refine (c_letters b _ _ H5.out (by omega)).mono ?_
    rintro e w6 ⟨s, rfl, ⟨d, rfl, hd1, hd2⟩, k6, g6⟩
    have HGD := Lib.hid (HGOOD.out d ⟨hd1, hd2⟩ (.inl hk))
    have H6 := Lib.hid k6
    have G6 := Lib.hid (grown_trans G5.out g6)
    have KP6 := Lib.hid (KP5.out.grown g6 (by omega))
    have PF6 := Lib.hid (Free.grown PF5.out pb g6 (by omega))
    have KZ6 := Lib.hid (KZ5.out.grown g6 (by omega))
    have KF6 := Lib.hid (Free.grown KF5.out KZ5.out.1 g6 (by omega))
    clear k6 g6 H5 G5 KP5 PF5 KZ5 KF5 p0 p1 p2 p3 p4 pb
    obtain ⟨pb, p0, p1, p2, p3, p4⟩ := KP6.out
    have pf4 := PF6.out 4
    go_upto_region 5 with fail
    have o4 : ∀ j, (w6.setCell ⟨w4.heap.size, 4, none⟩ (.string (str d))).cell? ⟨w.heap.size, j, none⟩ = w6.cell? ⟨w.heap.size, j, none⟩ := fun j => World.cell?_setCell_other w6 ⟨w4.heap.size, 4, none⟩ ⟨w.heap.size, j, none⟩ _ (by intro e; simp only [Addr.mk.injEq] at e; omega)
    have KZX : Hid (PkAt 0 0 0 0 [] w.heap.size (w6.setCell ⟨w4.heap.size, 4, none⟩ (.string (str d)))) := Lib.hid (by
      obtain ⟨y0, y1, y2, y3, y4, y5⟩ := KZ6.out
      exact ⟨by rw [World.size_setCell]; exact y0, (o4 0).trans y1, (o4 1).trans y2, (o4 2).trans y3, (o4 3).trans y4, (o4 4).trans y5⟩)
    have KFX := Lib.hid (KF6.out.set ⟨w4.heap.size, 4, none⟩ (.string (str d)))
    have KP := Lib.hid (KP6.out.set4 d)
    have GX := Lib.hid (grown_new G6.out (show w.heap.size ≤ w4.heap.size by omega) 4 (.string (str d)))
    have HX := Lib.hid (H6.out.keep ((Below.refl w4.heap.size w6).setCell (p := ⟨w4.heap.size, 4, none⟩) (Nat.le_refl _) (.string (str d))) hb4)
    clear o4 p0 p1 p2 p3 p4 pb pf4 KP6 PF6 KZ6 KF6 G6 H6
    generalize w6.setCell ⟨w4.heap.size, 4, none⟩ (.string (str d)) = w7 at *
    obtain ⟨_, z0, z1, z2, z3, z4⟩ := KZX.out
    obtain ⟨pb, p0, p1, p2, p3, p4⟩ := KP.out
    have f0 := KFX.out 0
    have f1 := KFX.out 1
    have f2 := KFX.out 2
    have f3 := KFX.out 3
    have f4 := KFX.out 4
    go_wp2_with fail
    have K9 : PkAt (1 + x1) n2 t l2 d w.heap.size (((((w7.setCell ⟨w.heap.size, 0, none⟩ (.int .i64 (1 + x1))).setCell ⟨w.heap.size, 1, none⟩ (.int .i64 n2)).setCell ⟨w.heap.size, 2, none⟩ (.int .i64 t)).setCell ⟨w.heap.size, 3, none⟩ (.int .i64 l2)).setCell ⟨w.heap.size, 4, none⟩ (.string (str d))) := KZX.out.set5 (1 + x1) n2 t l2 d
    have G9 : w.grownBy (((((w7.setCell ⟨w.heap.size, 0, none⟩ (.int .i64 (1 + x1))).setCell ⟨w.heap.size, 1, none⟩ (.int .i64 n2)).setCell ⟨w.heap.size, 2, none⟩ (.int .i64 t)).setCell ⟨w.heap.size, 3, none⟩ (.int .i64 l2)).setCell ⟨w.heap.size, 4, none⟩ (.string (str d))) (some b) := grown_new (grown_new (grown_new (grown_new (grown_new GX.out (Nat.le_refl _) _ _) (Nat.le_refl _) _ _) (Nat.le_refl _) _ _) (Nat.le_refl _) _ _) (Nat.le_refl _) _ _
    have C9 : Cur (((((w7.setCell ⟨w.heap.size, 0, none⟩ (.int .i64 (1 + x1))).setCell ⟨w.heap.size, 1, none⟩ (.int .i64 n2)).setCell ⟨w.heap.size, 2, none⟩ (.int .i64 t)).setCell ⟨w.heap.size, 3, none⟩ (.int .i64 l2)).setCell ⟨w.heap.size, 4, none⟩ (.string (str d))) b (N + 40) := (cur_new5 HX.out hbz _ _ _ _ _).more (by omega)
    generalize (((((w7.setCell ⟨w.heap.size, 0, none⟩ (.int .i64 (1 + x1))).setCell ⟨w.heap.size, 1, none⟩ (.int .i64 n2)).setCell ⟨w.heap.size, 2, none⟩ (.int .i64 t)).setCell ⟨w.heap.size, 3, none⟩ (.int .i64 l2)).setCell ⟨w.heap.size, 4, none⟩ (.string (str d))) = w9 at K9 G9 C9 ⊢
    exact bodyPost_ret (res_pkt rfl K9) rfl ⟨_, _, _, _, _, rfl, HGD.out, C9, G9⟩
  · have HGD := Lib.hid (HGOOD.out [] ⟨rfl, by simp⟩ (.inr rfl))
    have HX := H5
    have GX := G5
    have KP := KP5
    have KZX := KZ5
    have KFX := KF5
    clear H5 G5 KP5 PF5 KZ5 KF5
    go_upto_region 5 with fail
    clear p0 p1 p2 p3 p4 pb
    obtain ⟨_, z0, z1, z2, z3, z4⟩ := KZX.out
    obtain ⟨pb, p0, p1, p2, p3, p4⟩ := KP.out
    have f0 := KFX.out 0
    have f1 := KFX.out 1
    have f2 := KFX.out 2
    have f3 := KFX.out 3
    have f4 := KFX.out 4
    go_wp2_with fail
    have K9 : PkAt (1 + x1) n2 t l2 [] w.heap.size (((((w5.setCell ⟨w.heap.size, 0, none⟩ (.int .i64 (1 + x1))).setCell ⟨w.heap.size, 1, none⟩ (.int .i64 n2)).setCell ⟨w.heap.size, 2, none⟩ (.int .i64 t)).setCell ⟨w.heap.size, 3, none⟩ (.int .i64 l2)).setCell ⟨w.heap.size, 4, none⟩ (.string (str []))) := KZX.out.set5 (1 + x1) n2 t l2 []
    have G9 : w.grownBy (((((w5.setCell ⟨w.heap.size, 0, none⟩ (.int .i64 (1 + x1))).setCell ⟨w.heap.size, 1, none⟩ (.int .i64 n2)).setCell ⟨w.heap.size, 2, none⟩ (.int .i64 t)).setCell ⟨w.heap.size, 3, none⟩ (.int .i64 l2)).setCell ⟨w.heap.size, 4, none⟩ (.string (str []))) (some b) := grown_new (grown_new (grown_new (grown_new (grown_new GX.out (Nat.le_refl _) _ _) (Nat.le_refl _) _ _) (Nat.le_refl _) _ _) (Nat.le_refl _) _ _) (Nat.le_refl _) _ _
    have C9 : Cur (((((w5.setCell ⟨w.heap.size, 0, none⟩ (.int .i64 (1 + x1))).setCell ⟨w.heap.size, 1, none⟩ (.int .i64 n2)).setCell ⟨w.heap.size, 2, none⟩ (.int .i64 t)).setCell ⟨w.heap.size, 3, none⟩ (.int .i64 l2)).setCell ⟨w.heap.size, 4, none⟩ (.string (str []))) b (N + 40) := (cur_new5 HX.out hbz _ _ _ _ _).more (by omega)
    generalize (((((w5.setCell ⟨w.heap.size, 0, none⟩ (.int .i64 (1 + x1))).setCell ⟨w.heap.size, 1, none⟩ (.int .i64 n2)).setCell ⟨w.heap.size, 2, none⟩ (.int .i64 t)).setCell ⟨w.heap.size, 3, none⟩ (.int .i64 l2)).setCell ⟨w.heap.size, 4, none⟩ (.string (str []))) = w9 at K9 G9 C9 ⊢
    exact bodyPost_ret (res_pkt rfl K9) rfl ⟨_, _, _, _, _, rfl, HGD.out, C9, G9⟩
end Go.Proofs.YtpmfaiocmgkmpaaGreatDoor
