/- The reference's draws for the law on spans: lists of serials. -/
import Derived.Test.YtkoccbjeoihbiaaDrawW
namespace Go.Proofs.Ytkoccbjeoihbiaa
open Go.RowKit
set_option linter.unusedVariables false
set_option maxRecDepth 100000

set_option maxHeartbeats 4000000 in
theorem c_serials (b N : Nat) (w : World) (h : Cur w b N) (hN : N ≤ 700000) :
    Calls Try.prog 146 #[.pointer (some ⟨b, 0, none⟩)] w (DrawsL b (N + 200) 60 word_rng w) := by
  have HIN := Lib.hid h.inside
  have H := Lib.hid (h.push (.cells #[] 3))
  have HE := Lib.hid (OwnI.empty w w.heap.size (Nat.le_refl _))
  have HG := Lib.hid (grown_alloc w (.cells #[] 3) (some b))
  clear h
  go_enter Try.func146, Try.ntmps146
  go_wp2_with fail
  refine (c_serial b N _ H.out (by omega)).mono ?_
  rintro e w0 ⟨x, rfl, ⟨hx0, hx1⟩, k0, g0⟩
  have H0 := Lib.hid k0
  have G0 := Lib.hid (grown_trans HG.out g0)
  have O0 := Lib.hid (HE.out.cur g0 HIN.out)
  clear k0 g0 HE HG H
  go_wp2_with fail
  refine (c_pick b _ 7 _ H0.out (by omega) (by omega) (by omega)).mono ?_
  rintro e w1 ⟨y, rfl, ⟨hy0, hy1⟩, k1, g1⟩
  obtain ⟨n0, rfl⟩ : ∃ n : Nat, y = (n : Int) := ⟨y.toNat, by omega⟩
  have hn0 : n0 ≤ 6 := by omega
  have H1 := Lib.hid k1
  have G1 := Lib.hid (grown_trans G0.out g1)
  have O1 := Lib.hid (O0.out.cur g1 HIN.out)
  clear k1 g1 hy0 hy1 O0 G0 H0
  go_wp2
  go_loopw [3, 5] (fun v i wr => ∃ (k M : Nat) (A : Option Addr) (cap : Nat) (zs : List Int), k ≤ 6 ∧ i = .int .i64 k ∧ v = .slice A zs.length cap ∧ zs.length + k ≤ 6 ∧ Hid (∀ z ∈ zs, word_rng z) ∧ M + 2 * k ≤ N + 40 ∧ Hid (Cur wr b M) ∧ Hid (OwnI wr w.heap.size A cap zs) ∧ Hid (w.grownBy wr (some b))) (fun _ i _ => (intOf i).toNat)
  case atStart => exact ⟨n0, N + 6, _, _, [], hn0, rfl, rfl, by simpa using hn0, Lib.hid (by simp), by omega, H1, O1, G1⟩
  case round =>
    clear H1 G1 O1
    obtain ⟨k, M, A, cap, zs, hk, rfl, rfl, hlen, HP, hM, HC, HO, HGR⟩ := hrel
    by_cases hk0 : 0 < k
    · go_wp2_with fail
      refine (c_near b M x _ HC.out (by omega) (by omega) (by omega)).mono ?_
      rintro e w2 ⟨z, rfl, hz, k2, g2⟩
      have H2 := Lib.hid k2
      have G2 := Lib.hid (grown_trans HGR.out g2)
      have O2 := Lib.hid (HO.out.cur g2 HIN.out)
      have HZ := Lib.hid (show word_rng z from ⟨by omega, by omega⟩)
      have S2 := Lib.hid (show w.heap.size ≤ w2.heap.size from G2.out.size)
      clear k2 g2 hz HC HO HGR
      have hce : (w2.alloc (.cells #[.int .i64 z] 3)).cell? ((⟨w2.heap.size, 0, none⟩ : Addr).add 0) = some (.int .i64 z) := by rw [add_zero']; exact new1_cell _ _ _
      go_wp2_with (at_builtin; refine wpList_appI _ rfl _ _ rfl w.heap.size A cap zs rfl (O2.out.push _) z _ rfl hce (by omega) (by have := S2.out; simp; omega) ?_; intro A' cap' w3 o3 b3)
      have O3 := Lib.hid o3
      have G3 := Lib.hid (grown_then (grown_trans G2.out (grown_alloc _ _ _)) b3 (Nat.le_refl _))
      have H3 := Lib.hid ((H2.out.push (.cells #[.int .i64 z] 3)).keep b3 HIN.out)
      have HP3 := Lib.hid (mem_snoc HP.out HZ.out)
      clear o3 b3 hce H2 G2 O2 HP HZ S2
      go_wp2
      go_roundw
      case rel => exact ⟨k - 1, M + 2, A', cap', zs ++ [z], by omega, by go_num, by simp, by simp; omega, HP3, by omega, H3, O3, G3⟩
      case measure => simp [intOf]; omega
    · obtain rfl : k = 0 := by omega
      go_wp2_with fail
      refine (c_pick b M 20 _ HC.out (by omega) (by omega) (by omega)).mono ?_
      rintro e w2 ⟨y, rfl, ⟨hy0, hy1⟩, k2, g2⟩
      have H2 := Lib.hid k2
      have G2 := Lib.hid (grown_trans HGR.out g2)
      have O2 := Lib.hid (HO.out.cur g2 HIN.out)
      have S2 := Lib.hid (show w.heap.size ≤ w2.heap.size from G2.out.size)
      clear k2 g2 HC HO HGR
      by_cases e0 : y = 0
      · subst e0
        go_wp2_with fail
        refine (c_anySerial b _ _ H2.out (by omega)).mono ?_
        rintro e w3 ⟨z, rfl, hz, k3, g3⟩
        have H3 := Lib.hid k3
        have G3 := Lib.hid (grown_trans G2.out g3)
        have O3 := Lib.hid (O2.out.cur g3 HIN.out)
        have HZ := Lib.hid (show word_rng z from hz)
        have S3 := Lib.hid (show w.heap.size ≤ w3.heap.size from G3.out.size)
        clear k3 g3 hz H2 G2 O2 S2
        have hce : (w3.alloc (.cells #[.int .i64 z] 3)).cell? ((⟨w3.heap.size, 0, none⟩ : Addr).add 0) = some (.int .i64 z) := by rw [add_zero']; exact new1_cell _ _ _
        go_wp2_with (at_builtin; refine wpList_appI _ rfl _ _ rfl w.heap.size A cap zs rfl (O3.out.push _) z _ rfl hce (by omega) (by have := S3.out; simp; omega) ?_; intro A' cap' w4 o4 b4)
        have O4 := Lib.hid o4
        have G4 := Lib.hid (grown_then (grown_trans G3.out (grown_alloc _ _ _)) b4 (Nat.le_refl _))
        have H4 := Lib.hid ((H3.out.push (.cells #[.int .i64 z] 3)).keep b4 HIN.out)
        have HP4 := Lib.hid (mem_snoc HP.out HZ.out)
        have HL4 := Lib.hid (show (zs ++ [z]).length = zs.length + 1 by simp)
        clear o4 b4 hce H3 G3 O3 HP HZ S3
        go_wp2
        go_ret
        exact ⟨A', cap', zs ++ [z], by rw [HL4.out]; rfl, by rw [HL4.out]; omega, HP4.out, H4.out.more (by omega), O4.out, G4.out⟩
      · have b0 : (y == 0) = false := beq_eq_false_iff_ne.2 e0
        by_cases e1 : y = 1
        · subst e1
          clear b0 e0
          go_wp2
          go_loopw [3, 6] (fun v i wr => ∃ (j M' : Nat) (A : Option Addr) (cap : Nat) (zs : List Int), j ≤ 22 ∧ i = .int .i64 j ∧ v = .slice A zs.length cap ∧ zs.length ≤ 6 + j ∧ Hid (∀ z ∈ zs, word_rng z) ∧ M' ≤ N + 60 + 2 * j ∧ Hid (Cur wr b M') ∧ Hid (OwnI wr w.heap.size A cap zs) ∧ Hid (w.grownBy wr (some b))) (fun _ i _ => 22 - (intOf i).toNat)
          case atStart => exact ⟨0, M + 2, A, cap, zs, by omega, rfl, rfl, by omega, HP, by omega, H2, O2, G2⟩
          case round =>
            clear H2 G2 O2 S2 HP
            obtain ⟨j, M', A, cap, zs, hj, rfl, rfl, hlen, HP, hM', HC, HO, HGR⟩ := hrel
            go_wp2_with fail
            refine (c_pick b M' 2 _ HC.out (by omega) (by omega) (by omega)).mono ?_
            rintro e w3 ⟨y, rfl, ⟨hz0, hz1⟩, k3, g3⟩
            have H3 := Lib.hid k3
            have G3 := Lib.hid (grown_trans HGR.out g3)
            have O3 := Lib.hid (HO.out.cur g3 HIN.out)
            have S3 := Lib.hid (show w.heap.size ≤ w3.heap.size from G3.out.size)
            have hz2 : y < 2 := by omega
            clear k3 g3 HC HO HGR hz1
            by_cases hlt : (zs.length : Int) < 20 + y
            · by_cases hj2 : j < 22
              · have HZ := Lib.hid (show word_rng (3 * (j : Int)) from ⟨by omega, by omega⟩)
                have hce : (w3.alloc (.cells #[.int .i64 (3 * (j : Int))] 3)).cell? ((⟨w3.heap.size, 0, none⟩ : Addr).add 0) = some (.int .i64 (3 * (j : Int))) := by rw [add_zero']; exact new1_cell _ _ _
                go_wp2_with (at_builtin; refine wpList_appI _ rfl _ _ rfl w.heap.size A cap zs rfl (O3.out.push _) (3 * (j : Int)) _ rfl hce (by omega) (by have := S3.out; simp; omega) ?_; intro A' cap' w4 o4 b4)
                have O4 := Lib.hid o4
                have G4 := Lib.hid (grown_then (grown_trans G3.out (grown_alloc _ _ _)) b4 (Nat.le_refl _))
                have H4 := Lib.hid ((H3.out.push (.cells #[.int .i64 (3 * (j : Int))] 3)).keep b4 HIN.out)
                have HP4 := Lib.hid (mem_snoc HP.out HZ.out)
                clear o4 b4 hce H3 G3 O3 HP HZ S3
                go_wp2
                go_roundw
                case rel => exact ⟨j + 1, M' + 2, A', cap', zs ++ [3 * (j : Int)], by omega, by go_num, by simp, by simp; omega, HP4, by omega, H4, O4, G4⟩
                case measure => simp [intOf]; omega
              · go_wp2
                go_ret
                exact ⟨A, cap, zs, rfl, by omega, HP.out, H3.out.more (by omega), O3.out, G3.out⟩
            · go_wp2
              go_ret
              exact ⟨A, cap, zs, rfl, by omega, HP.out, H3.out.more (by omega), O3.out, G3.out⟩
        · have b1 : (y == 1) = false := beq_eq_false_iff_ne.2 e1
          go_wp2
          go_ret
          exact ⟨A, cap, zs, rfl, by omega, HP.out, H2.out.more (by omega), O2.out, G2.out⟩
set_option maxHeartbeats 2000000 in
theorem c_DrawSerialSpan (A : Option Addr) (n cap : Nat) (w : World) (hB : BytesAt w w.heap.size A n) (hn : n ≤ 100000) :
    Calls Try.prog 84 #[.slice A n cap] w (Drawn2 100000 w) := by
  have H0 := Lib.hid (cur_new w A n cap hB hn)
  have b0 := Lib.hid ((Below.refl w.heap.size w).alloc (Nat.le_refl _) (.cells #[.slice A n cap, .int .i64 0, .int .u64 0] 93))
  clear hB
  go_enter Try.func84, Try.ntmps84
  go_wp2_with fail
  refine (c_anySerial w.heap.size 0 _ H0.out (by omega)).mono ?_
  rintro e w1 ⟨x, rfl, ⟨hx0, hx1⟩, k1, g1⟩
  have H1 := Lib.hid k1
  have G1 := Lib.hid g1
  clear k1 g1
  go_wp2_with fail
  refine (c_l2Good x _).mono ?_
  rintro e _ ⟨rfl, rfl⟩
  cases hg : inR x 0 65535
  · go_wp2_with fail
    refine (c_anySerial w.heap.size _ _ H1.out (by omega)).mono ?_
    rintro e w2 ⟨y, rfl, ⟨hy0, hy1⟩, k2, g2⟩
    have G2 := Lib.hid (grown_trans G1.out g2)
    clear k2 g2
    go_wp2
    go_ret2
    exact ⟨x, y, rfl, by omega, by omega, by omega, by omega, below_cur b0.out (Nat.le_refl _) G2.out⟩
  · obtain ⟨hz0, hz1⟩ := inR_t hg
    go_wp2_with fail
    refine (c_one w.heap.size _ 8 _ H1.out (by omega) (by omega) (by omega)).mono ?_
    rintro e w2 ⟨y, rfl, k2, g2⟩
    have H2 := Lib.hid k2
    have G2 := Lib.hid (grown_trans G1.out g2)
    clear k2 g2
    cases y
    rotate_left
    · go_wp2_with fail
      refine (c_anySerial w.heap.size _ _ H2.out (by omega)).mono ?_
      rintro e w3 ⟨y, rfl, ⟨hy0, hy1⟩, k3, g3⟩
      have G3 := Lib.hid (grown_trans G2.out g3)
      clear k3 g3
      go_wp2
      go_ret2
      exact ⟨x, y, rfl, by omega, by omega, by omega, by omega, below_cur b0.out (Nat.le_refl _) G3.out⟩
    · go_wp2_with fail
      refine (c_among w.heap.size _ (w2.heap.size + 1) (fun x => 0 ≤ x ∧ x ≤ 100000) _ _ [0, 1, 5, 20, 21, 12] _ (H2.out.push _) (by omega) (ints_lit w2 _) (by simp) (ne_new H2.out.inside) (by decide) (by decide) (by decide)).mono ?_
      rintro e w3 ⟨y, rfl, ⟨hy0, hy1⟩, k3, g3⟩
      have G3 := Lib.hid (grown_trans G2.out (grown_trans (grown_alloc _ _ _) g3))
      clear k3 g3
      go_wp2_with fail
      refine (c_l2After x y _ (by omega) (by omega) (by omega) (by omega)).mono ?_
      rintro e _ ⟨rfl, rfl⟩
      have hr := aftV_rng x y
      generalize aftV x y = z at *
      go_wp2
      go_ret2
      exact ⟨x, z, rfl, by omega, by omega, by omega, by omega, below_cur b0.out (Nat.le_refl _) G3.out⟩
/-- A list and a number that a call drew. -/
def DrawnLI (len : Nat) (B : Int) (w : World) (e : Ending) (w' : World) : Prop :=
  ∃ (A : Option Addr) (cap : Nat) (zs : List Int) (x : Int), e = .returned (.tuple #[.slice A zs.length cap, .int .i64 x]) ∧ zs.length ≤ len ∧ -B ≤ x ∧ x ≤ B ∧ OwnI w' w.heap.size A cap zs ∧ Below w.heap.size w w'
set_option maxHeartbeats 1000000 in
theorem c_DrawSortSerials (A : Option Addr) (n cap : Nat) (w : World) (hB : BytesAt w w.heap.size A n) (hn : n ≤ 100000) :
    Calls Try.prog 88 #[.slice A n cap] w (DrawnLI 60 100000 w) := by
  have H0 := Lib.hid (cur_new w A n cap hB hn)
  have b0 := Lib.hid ((Below.refl w.heap.size w).alloc (Nat.le_refl _) (.cells #[.slice A n cap, .int .i64 0, .int .u64 0] 93))
  clear hB
  go_enter Try.func88, Try.ntmps88
  go_wp2_with fail
  refine (c_serials w.heap.size 0 _ H0.out (by omega)).mono ?_
  rintro e w1 ⟨A1, c1, zs, rfl, hl, -, h1, o1, g1⟩
  have B1 := Lib.hid (below_cur b0.out (Nat.le_refl _) g1)
  have O1 := Lib.hid (o1.base (B' := w.heap.size + 1) (by simp))
  have H1 := Lib.hid h1
  clear o1 g1 h1
  go_wp2_with fail
  refine (c_anySerial w.heap.size _ _ H1.out (by omega)).mono ?_
  rintro e w2 ⟨y, rfl, ⟨hy0, hy1⟩, k2, g2⟩
  have B2 := Lib.hid (below_cur B1.out (Nat.le_refl _) g2)
  have O2 := Lib.hid ((O1.out.cur g2 (Nat.lt_succ_self _)).base (Nat.le_succ _))
  clear k2 g2
  go_wp2
  go_ret2
  exact ⟨A1, c1, zs, y, rfl, hl, by omega, by omega, O2.out, B2.out⟩
set_option maxHeartbeats 1000000 in
theorem c_DrawSpanOf (A : Option Addr) (n cap : Nat) (w : World) (hB : BytesAt w w.heap.size A n) (hn : n ≤ 100000) :
    Calls Try.prog 90 #[.slice A n cap] w (DrawnL 60 word_rng w) := by
  have H0 := Lib.hid (cur_new w A n cap hB hn)
  have b0 := Lib.hid ((Below.refl w.heap.size w).alloc (Nat.le_refl _) (.cells #[.slice A n cap, .int .i64 0, .int .u64 0] 93))
  clear hB
  go_enter Try.func90, Try.ntmps90
  go_wp2_with fail
  refine (c_serials w.heap.size 0 _ H0.out (by omega)).mono ?_
  rintro e w1 ⟨A1, c1, zs, rfl, hl, hP, -, o1, g1⟩
  have G1 := Lib.hid (below_cur b0.out (Nat.le_refl _) g1)
  have O1 := Lib.hid (o1.base b0.out.size)
  have HP := Lib.hid hP
  clear o1 g1 hP
  go_wp2
  go_ret
  exact ⟨A1, c1, zs, rfl, hl, HP.out, O1.out, G1.out⟩
end Go.Proofs.Ytkoccbjeoihbiaa
