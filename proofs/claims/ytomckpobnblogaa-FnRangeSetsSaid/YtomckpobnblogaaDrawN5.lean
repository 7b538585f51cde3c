/- The reference's draws for the laws on sets: sets and numbers near them. -/
import Derived.Test.YtomckpobnblogaaDrawR
namespace Go.Proofs.Ytomckpobnblogaa
open Go.RowKit
set_option linter.unusedVariables false
set_option maxRecDepth 100000

set_option maxHeartbeats 4000000 in
theorem c_number5 (b N : Nat) {B cap : Nat} (A : Option Addr) (rs : List (Int × Int)) (w : World) (h : Cur w b N) (hN : N ≤ 700000) (ho : OwnR w B A cap rs) (hb : b < B) (hl : rs.length ≤ 100) (hP : ∀ q ∈ rs, rgE q) :
    Calls Try.prog 49 #[.pointer (some ⟨b, 0, none⟩), .slice A rs.length cap] w (Draws b (N + 10) (fun x => -2 ≤ x ∧ x ≤ 65537) w) := by
  have HO := Lib.hid ho
  have H := Lib.hid h
  have HP := Lib.hid hP
  clear h ho hP
  by_cases hl0 : rs.length = 0
  · have q0 : decide ((0 : Int) < (rs.length : Int)) = false := decide_eq_false (by omega)
    have hq : ¬ (0 : Int) < (rs.length : Int) := by omega
    clear hl0
    go_enter Try.func49, Try.ntmps49
    have HI := Lib.hid (ints_lit w [0, 1, 6, 20, 65534, 65535, -1, 65536])
    go_wp2_with fail
    refine (c_pick b N 24 _ (H.out.push _) (by omega) (by omega) (by omega)).mono ?_
    rintro e u1 ⟨y, rfl, ⟨hy0, hy1⟩, k1, g1⟩
    have H1 := Lib.hid k1
    have G1 := Lib.hid (grown_trans (grown_trans (World.grownBy.refl w (some b)) (grown_alloc w _ _)) g1)
    have HI1 := Lib.hid (HI.out.far g1 (by simp) (ne_new H.out.inside))
    have S1 := Lib.hid (show w.heap.size + 1 ≤ u1.heap.size by have := g1.size; simpa using this)
    have hin : b < w.heap.size := H.out.inside
    clear k1 g1 HI
    by_cases hy2 : y < 11
    · have e : y / 11 = 0 := by omega
      go_wp2_with fail
      refine (c_among b _ (w.heap.size + 1) (fun x => -2 ≤ x ∧ x ≤ 65537) _ _ [0, 1, 6, 20, 65534, 65535] _ H1.out (by omega) (HI1.out.pre (ys := [-1, 65536])) S1.out (ne_new hin) (by decide) (by decide) (by decide)).mono ?_
      rintro e u2 ⟨z, rfl, hz, k2, g2⟩
      have H2 := Lib.hid k2
      have G2 := Lib.hid (grown_trans G1.out g2)
      have HZ := Lib.hid hz
      clear k2 g2 hz
      go_wp2
      go_ret
      exact ⟨_, rfl, HZ.out, H2.out.more (by omega), G2.out⟩
    by_cases hy3 : y < 22
    · have e : y / 11 = 1 := by omega
      go_wp2_with fail
      refine (c_among b _ (w.heap.size + 1) (fun x => -2 ≤ x ∧ x ≤ 65537) _ _ [0, 1, 6, 20, 65534, 65535, -1] _ H1.out (by omega) (HI1.out.pre (ys := [65536])) S1.out (ne_new hin) (by decide) (by decide) (by decide)).mono ?_
      rintro e u2 ⟨z, rfl, hz, k2, g2⟩
      have H2 := Lib.hid k2
      have G2 := Lib.hid (grown_trans G1.out g2)
      have HZ := Lib.hid hz
      clear k2 g2 hz
      go_wp2
      go_ret
      exact ⟨_, rfl, HZ.out, H2.out.more (by omega), G2.out⟩
    have e : y / 11 = 2 := by omega
    go_wp2_with fail
    refine (c_among b _ (w.heap.size + 1) (fun x => -2 ≤ x ∧ x ≤ 65537) _ _ [0, 1, 6, 20, 65534, 65535, -1, 65536] _ H1.out (by omega) (HI1.out) S1.out (ne_new hin) (by decide) (by decide) (by decide)).mono ?_
    rintro e u2 ⟨z, rfl, hz, k2, g2⟩
    have H2 := Lib.hid k2
    have G2 := Lib.hid (grown_trans G1.out g2)
    have HZ := Lib.hid hz
    clear k2 g2 hz
    go_wp2
    go_ret
    exact ⟨_, rfl, HZ.out, H2.out.more (by omega), G2.out⟩
  have hq : (0 : Int) < (rs.length : Int) := by omega
  go_enter Try.func49, Try.ntmps49
  go_wp2_with fail
  refine (c_one b N 2 _ H.out (by omega) (by omega) (by omega)).mono ?_
  rintro e w1 ⟨o, rfl, k0, g0⟩
  have HC := Lib.hid k0
  have GC := Lib.hid g0
  have OC := Lib.hid (HO.out.cur g0 hb)
  clear k0 g0 H HO
  cases o
  · clear OC
    have HI := Lib.hid (ints_lit w1 [0, 1, 6, 20, 65534, 65535, -1, 65536])
    go_wp2_with fail
    refine (c_pick b (N + 2) 24 _ (HC.out.push _) (by omega) (by omega) (by omega)).mono ?_
    rintro e u1 ⟨y, rfl, ⟨hy0, hy1⟩, k1, g1⟩
    have H1 := Lib.hid k1
    have G1 := Lib.hid (grown_trans (grown_trans GC.out (grown_alloc w1 _ _)) g1)
    have HI1 := Lib.hid (HI.out.far g1 (by simp) (ne_new HC.out.inside))
    have S1 := Lib.hid (show w1.heap.size + 1 ≤ u1.heap.size by have := g1.size; simpa using this)
    have hin : b < w1.heap.size := HC.out.inside
    clear k1 g1 HI
    by_cases hy2 : y < 11
    · have e : y / 11 = 0 := by omega
      go_wp2_with fail
      refine (c_among b _ (w1.heap.size + 1) (fun x => -2 ≤ x ∧ x ≤ 65537) _ _ [0, 1, 6, 20, 65534, 65535] _ H1.out (by omega) (HI1.out.pre (ys := [-1, 65536])) S1.out (ne_new hin) (by decide) (by decide) (by decide)).mono ?_
      rintro e u2 ⟨z, rfl, hz, k2, g2⟩
      have H2 := Lib.hid k2
      have G2 := Lib.hid (grown_trans G1.out g2)
      have HZ := Lib.hid hz
      clear k2 g2 hz
      go_wp2
      go_ret
      exact ⟨_, rfl, HZ.out, H2.out.more (by omega), G2.out⟩
    by_cases hy3 : y < 22
    · have e : y / 11 = 1 := by omega
      go_wp2_with fail
      refine (c_among b _ (w1.heap.size + 1) (fun x => -2 ≤ x ∧ x ≤ 65537) _ _ [0, 1, 6, 20, 65534, 65535, -1] _ H1.out (by omega) (HI1.out.pre (ys := [65536])) S1.out (ne_new hin) (by decide) (by decide) (by decide)).mono ?_
      rintro e u2 ⟨z, rfl, hz, k2, g2⟩
      have H2 := Lib.hid k2
      have G2 := Lib.hid (grown_trans G1.out g2)
      have HZ := Lib.hid hz
      clear k2 g2 hz
      go_wp2
      go_ret
      exact ⟨_, rfl, HZ.out, H2.out.more (by omega), G2.out⟩
    have e : y / 11 = 2 := by omega
    go_wp2_with fail
    refine (c_among b _ (w1.heap.size + 1) (fun x => -2 ≤ x ∧ x ≤ 65537) _ _ [0, 1, 6, 20, 65534, 65535, -1, 65536] _ H1.out (by omega) (HI1.out) S1.out (ne_new hin) (by decide) (by decide) (by decide)).mono ?_
    rintro e u2 ⟨z, rfl, hz, k2, g2⟩
    have H2 := Lib.hid k2
    have G2 := Lib.hid (grown_trans G1.out g2)
    have HZ := Lib.hid hz
    clear k2 g2 hz
    go_wp2
    go_ret
    exact ⟨_, rfl, HZ.out, H2.out.more (by omega), G2.out⟩
  · go_wp2_with fail
    refine (c_pick b _ _ _ HC.out (by omega) (by omega) (by omega)).mono ?_
    rintro e w2 ⟨y, rfl, ⟨hy0, hy1⟩, k2, g2⟩
    obtain ⟨kx, rfl⟩ : ∃ i : Nat, y = (i : Int) := ⟨y.toNat, by omega⟩
    have hkx : kx < rs.length := by omega
    have H2 := Lib.hid k2
    have G2 := Lib.hid (grown_trans GC.out g2)
    have O2 := Lib.hid (OC.out.cur g2 hb)
    clear k2 g2 HC GC OC hy0 hy1
    obtain ⟨g, rfl, hg⟩ := own_head O2.out (by omega)
    have hi : (kx : Int) < (rs.length : Int) := by omega
    have c0 := (World.ownsRow.cellAt O2.out (kx * 2) (by omega)).trans (rcells_get rs kx hkx).1
    have c1 := (World.ownsRow.cellAt O2.out (kx * 2 + 1) (by omega)).trans (rcells_get rs kx hkx).2
    have hge : rgE (rs.getD kx (0, 0)) := HP.out _ (by rw [show rs.getD kx (0, 0) = rs[kx] from by simp [hkx]]; exact List.getElem_mem _)
    generalize rs.getD kx (0, 0) = ee at *
    obtain ⟨ex, ey⟩ := ee
    obtain ⟨⟨x0, x1⟩, ⟨y0, y1⟩⟩ : (-1 ≤ ex ∧ ex ≤ 65536) ∧ (-1 ≤ ey ∧ ey ≤ 65536) := hge
    have r1 := IntWalk.i64_in (ex - 1) (by omega)
    have r2 := IntWalk.i64_in (ey + 1) (by omega)
    have hin : b < w2.heap.size := H2.out.inside
    clear HP
    go_wp2_with fail
    refine (c_among b _ (w2.heap.size + 1 + 1) (fun x => -2 ≤ x ∧ x ≤ 65537) _ _ [ex, ey, ex - 1, ey + 1] _ ((H2.out.push _).push _) (by omega) (ints_lit_at (w2.alloc (.cells #[.int .i64 ex, .int .i64 ey] 47)) _ (w2.heap.size + 1) (by simp)) (by simp) (ne_new (by omega)) (by simp) (by simp) (fun u hu => by simp at hu; omega)).mono ?_
    rintro e w3 ⟨z, rfl, ⟨hz0, hz1⟩, k3, g3⟩
    have H3 := Lib.hid k3
    have G3 := Lib.hid (grown_trans (grown_trans (grown_trans G2.out (grown_alloc _ _ _)) (grown_alloc _ _ _)) g3)
    clear k3 g3 H2 G2 O2 c0 c1 r1 r2
    go_wp2_with fail
    refine (c_l1LeastR _ _ _).mono ?_
    rintro e _ ⟨rfl, rfl⟩
    have HZ := Lib.hid (show -2 ≤ min z 65536 ∧ min z 65536 ≤ 65537 by omega)
    go_wp2
    go_ret
    exact ⟨_, rfl, HZ.out, H3.out.more (by omega), G3.out⟩
/-- A set and numbers that a call drew. -/
def DrawnR (n : Nat) (w : World) (e : Ending) (w' : World) : Prop :=
  ∃ (A : Option Addr) (cap : Nat) (rs : List (Int × Int)) (vs : List Int), vs.length = n ∧ e = .returned (.tuple (#[.slice A rs.length cap] ++ (vs.map (Value.int .i64)).toArray)) ∧ rs.length ≤ 30 ∧ (∀ v ∈ vs, -2 ≤ v ∧ v ≤ 65537) ∧ OwnR w' w.heap.size A cap rs ∧ Below w.heap.size w w'
set_option maxHeartbeats 2000000 in
theorem c_DrawHasNumber (A : Option Addr) (n cap : Nat) (w : World) (hB : BytesAt w w.heap.size A n) (hn : n ≤ 100000) :
    Calls Try.prog 33 #[.slice A n cap] w (DrawnR 1 w) := by
  have H0 := Lib.hid (cur_new w A n cap hB hn)
  have b0 := Lib.hid ((Below.refl w.heap.size w).alloc (Nat.le_refl _) (.cells #[.slice A n cap, .int .i64 0, .int .u64 0] 59))
  have s0 : w.heap.size < (w.alloc (.cells #[.slice A n cap, .int .i64 0, .int .u64 0] 59)).heap.size := by simp
  clear hB
  go_enter Try.func33, Try.ntmps33
  go_wp2_with fail
  refine (c_rangeSet w.heap.size 0 _ H0.out (by omega)).mono ?_
  rintro e w1 ⟨A1, c1, rs, rfl, hlen, hP, k1, o1, g1⟩
  have H1 := Lib.hid k1
  have G1 := Lib.hid g1
  have O1 := Lib.hid o1
  have HP := Lib.hid hP
  clear k1 g1 o1 hP H0
  go_wp2_with fail
  refine (c_number5 w.heap.size _ A1 rs _ H1.out (by omega) O1.out s0 (by omega) HP.out).mono ?_
  rintro e w2 ⟨x2, rfl, hx2, k2, g2⟩
  have H2 := Lib.hid k2
  have G2 := Lib.hid (grown_trans G1.out g2)
  have O2 := Lib.hid (O1.out.cur g2 s0)
  have HX2 := Lib.hid hx2
  clear k2 g2 hx2 H1 G1 O1
  have OE := Lib.hid (O2.out.base (Nat.le_of_lt s0))
  have BE := Lib.hid (below_cur b0.out (Nat.le_refl _) G2.out)
  go_wp2
  go_ret2
  exact ⟨A1, c1, rs, [x2], rfl, rfl, hlen, by intro v hv; simp at hv; subst hv; exact HX2.out, OE.out, BE.out⟩
set_option maxHeartbeats 2000000 in
theorem c_DrawNextMissing (A : Option Addr) (n cap : Nat) (w : World) (hB : BytesAt w w.heap.size A n) (hn : n ≤ 100000) :
    Calls Try.prog 31 #[.slice A n cap] w (DrawnR 1 w) := by
  have C := Lib.hid (c_DrawHasNumber A n cap w hB hn)
  clear hB
  go_enter Try.func31, Try.ntmps31
  go_wp2_with fail
  refine C.out.mono ?_
  rintro e w1 ⟨A1, c1, rs, vs, hv, rfl, hlen, hP, o1, b1⟩
  match vs, hv with
  | [x], _ =>
    have O1 := Lib.hid o1
    have B1 := Lib.hid b1
    have HP := Lib.hid hP
    clear o1 b1 hP C
    go_wp2
    go_ret2
    exact ⟨A1, c1, rs, [x], rfl, rfl, hlen, HP.out, O1.out, B1.out⟩
set_option maxHeartbeats 4000000 in
theorem c_DrawAddRange (A : Option Addr) (n cap : Nat) (w : World) (hB : BytesAt w w.heap.size A n) (hn : n ≤ 100000) :
    Calls Try.prog 25 #[.slice A n cap] w (DrawnR 2 w) := by
  have H0 := Lib.hid (cur_new w A n cap hB hn)
  have b0 := Lib.hid ((Below.refl w.heap.size w).alloc (Nat.le_refl _) (.cells #[.slice A n cap, .int .i64 0, .int .u64 0] 59))
  have s0 : w.heap.size < (w.alloc (.cells #[.slice A n cap, .int .i64 0, .int .u64 0] 59)).heap.size := by simp
  clear hB
  go_enter Try.func25, Try.ntmps25
  go_wp2_with fail
  refine (c_rangeSet w.heap.size 0 _ H0.out (by omega)).mono ?_
  rintro e w1 ⟨A1, c1, rs, rfl, hlen, hP, k1, o1, g1⟩
  have H1 := Lib.hid k1
  have G1 := Lib.hid g1
  have O1 := Lib.hid o1
  have HP := Lib.hid hP
  clear k1 g1 o1 hP H0
  go_wp2_with fail
  refine (c_number5 w.heap.size _ A1 rs _ H1.out (by omega) O1.out s0 (by omega) HP.out).mono ?_
  rintro e w2 ⟨x2, rfl, hx2, k2, g2⟩
  have H2 := Lib.hid k2
  have G2 := Lib.hid (grown_trans G1.out g2)
  have O2 := Lib.hid (O1.out.cur g2 s0)
  have HX2 := Lib.hid hx2
  clear k2 g2 hx2 H1 G1 O1
  go_wp2_with fail
  refine (c_one w.heap.size _ 4 _ H2.out (by omega) (by omega) (by omega)).mono ?_
  rintro e w3 ⟨o, rfl, k3, g3⟩
  have H3 := Lib.hid k3
  have G3 := Lib.hid (grown_trans G2.out g3)
  have O3 := Lib.hid (O2.out.cur g3 s0)
  clear k3 g3 H2 G2 O2
  cases o
  · go_wp2_with fail
    refine (c_among w.heap.size _ (w3.heap.size + 1) (fun x => 0 ≤ x ∧ x ≤ 30) _ _ [0, 1, 5, 30] _ (H3.out.push _) (by omega) (ints_lit w3 _) (by simp) (ne_new H3.out.inside) (by decide) (by decide) (by decide)).mono ?_
    rintro e w4 ⟨d, rfl, ⟨hd0, hd1⟩, k4, g4⟩
    have H4 := Lib.hid k4
    have G4 := Lib.hid (grown_trans (grown_trans G3.out (grown_alloc _ _ _)) g4)
    have O4 := Lib.hid ((O3.out.push _).cur g4 s0)
    obtain ⟨q0, q1⟩ := HX2.out
    clear k4 g4 H3 G3 O3
    go_wp2_with fail
    refine (c_l1LeastR _ _ _).mono ?_
    rintro e _ ⟨rfl, rfl⟩
    have HX4 := Lib.hid (show -2 ≤ min (x2 + d) 65535 ∧ min (x2 + d) 65535 ≤ 65537 by omega)
    generalize min (x2 + d) 65535 = x4 at *
    clear q0 q1 hd0 hd1
    have OE := Lib.hid (O4.out.base (Nat.le_of_lt s0))
    have BE := Lib.hid (below_cur b0.out (Nat.le_refl _) G4.out)
    go_wp2
    go_ret3
    exact ⟨A1, c1, rs, [x2, x4], rfl, rfl, hlen, by intro v hv; simp at hv; rcases hv with rfl | rfl; exact HX2.out; exact HX4.out, OE.out, BE.out⟩
  · go_wp2_with fail
    refine (c_number5 w.heap.size _ A1 rs _ H3.out (by omega) O3.out s0 (by omega) HP.out).mono ?_
    rintro e w4 ⟨x4, rfl, hx4, k4, g4⟩
    have H4 := Lib.hid k4
    have G4 := Lib.hid (grown_trans G3.out g4)
    have O4 := Lib.hid (O3.out.cur g4 s0)
    have HX4 := Lib.hid hx4
    clear k4 g4 hx4 H3 G3 O3
    have OE := Lib.hid (O4.out.base (Nat.le_of_lt s0))
    have BE := Lib.hid (below_cur b0.out (Nat.le_refl _) G4.out)
    go_wp2
    go_ret3
    exact ⟨A1, c1, rs, [x2, x4], rfl, rfl, hlen, by intro v hv; simp at hv; rcases hv with rfl | rfl; exact HX2.out; exact HX4.out, OE.out, BE.out⟩
end Go.Proofs.Ytomckpobnblogaa
