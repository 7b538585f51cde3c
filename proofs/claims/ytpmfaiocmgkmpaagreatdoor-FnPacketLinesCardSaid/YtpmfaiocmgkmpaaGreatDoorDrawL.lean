/- The draws of the law on packets' lines: a packet, a line, a list of octets. -/
import Derived.Test.YtpmfaiocmgkmpaaGreatDoorDrawA
import Derived.Test.YtpmfaiocmgkmpaaGreatDoorDrawD
import Derived.Test.YtpmfaiocmgkmpaaGreatDoorLineP
import Derived.Test.YtpmfaiocmgkmpaaGreatDoorLineLaw
namespace Go.Proofs.YtpmfaiocmgkmpaaGreatDoor
open Go.RowKit
set_option linter.unusedVariables false
set_option maxRecDepth 100000

theorem res_dpl {ts : Array Value} {b : Nat} {w : World} {k n t l : Int} {d : List UInt8} (h2 : ts[2]? = some (.pointer (some ⟨b, 0, none⟩))) (K : PkAt k n t l d b w) :
    (results Tryz.f5 ts).run Tryz.prog w = .ok (.agg (pkC k n t l d)) w := by
  obtain ⟨_, c0, c1, c2, c3, c4⟩ := K
  simp [results, Tryz.results5, go_sem, h2, c0, c1, c2, c3, c4]
  rfl
set_option maxHeartbeats 2000000 in
theorem c_DrawPacketLine (A : Option Addr) (n cap : Nat) (w : World) (hB : BytesAt w w.heap.size A n) (hn : n ≤ 100000) :
    Calls Tryz.prog 5 #[.slice A n cap] w (DrawnP (fun d => d.length ≤ 20) w) := by
  have bA := (Below.refl w.heap.size w).alloc (Nat.le_refl _) (.cells #[.int .i64 0, .int .i64 0, .int .i64 0, .int .i64 0, .string ⟨#[]⟩] 25)
  have C := Lib.hid (c_DrawIsValidPacket A n cap (w.alloc (.cells #[.int .i64 0, .int .i64 0, .int .i64 0, .int .i64 0, .string ⟨#[]⟩] 25)) ((hB.keep bA).more bA.size) hn)
  have KZ0 := Lib.hid (show PkAt 0 0 0 0 [] w.heap.size (w.alloc (.cells #[.int .i64 0, .int .i64 0, .int .i64 0, .int .i64 0, .string ⟨#[]⟩] 25)) from pkAt_new 0 0 0 0 [] w 25)
  have KF0 := Lib.hid (show Free w.heap.size (w.alloc (.cells #[.int .i64 0, .int .i64 0, .int .i64 0, .int .i64 0, .string ⟨#[]⟩] 25)) from fun j => free_new w #[.int .i64 0, .int .i64 0, .int .i64 0, .int .i64 0, .string ⟨#[]⟩] 25 j)
  have B0 := Lib.hid bA
  clear bA hB
  go_enter Tryz.func5, Tryz.ntmps5
  go_wp2_with fail
  refine C.out.mono ?_
  rintro e w2 ⟨k, n, t, l, d, rfl, hd, b2⟩
  have KZ2 := Lib.hid (KZ0.out.keep b2)
  have KF2 := Lib.hid (Free.keep KF0.out KZ0.out.1 b2)
  have B2 := Lib.hid (B0.out.trans (b2.mono B0.out.size))
  clear b2 C KZ0 KF0 B0
  unfold pkC
  obtain ⟨_, z0, z1, z2, z3, z4⟩ := KZ2.out
  have f0 := KF2.out 0
  have f1 := KF2.out 1
  have f2 := KF2.out 2
  have f3 := KF2.out 3
  have f4 := KF2.out 4
  go_wp2_with fail
  have K9 : PkAt k n t l d w.heap.size (((((w2.setCell ⟨w.heap.size, 0, none⟩ (.int .i64 k)).setCell ⟨w.heap.size, 1, none⟩ (.int .i64 n)).setCell ⟨w.heap.size, 2, none⟩ (.int .i64 t)).setCell ⟨w.heap.size, 3, none⟩ (.int .i64 l)).setCell ⟨w.heap.size, 4, none⟩ (.string (str d))) := KZ2.out.set5 k n t l d
  have B9 : Below w.heap.size w (((((w2.setCell ⟨w.heap.size, 0, none⟩ (.int .i64 k)).setCell ⟨w.heap.size, 1, none⟩ (.int .i64 n)).setCell ⟨w.heap.size, 2, none⟩ (.int .i64 t)).setCell ⟨w.heap.size, 3, none⟩ (.int .i64 l)).setCell ⟨w.heap.size, 4, none⟩ (.string (str d))) := set5 B2.out (Nat.le_refl _) _ _ _ _ _
  generalize (((((w2.setCell ⟨w.heap.size, 0, none⟩ (.int .i64 k)).setCell ⟨w.heap.size, 1, none⟩ (.int .i64 n)).setCell ⟨w.heap.size, 2, none⟩ (.int .i64 t)).setCell ⟨w.heap.size, 3, none⟩ (.int .i64 l)).setCell ⟨w.heap.size, 4, none⟩ (.string (str d))) = w9 at K9 B9 ⊢
  exact bodyPost_ret (res_dpl rfl K9) rfl ⟨_, _, _, _, _, rfl, hd, B9⟩
set_option maxHeartbeats 4000000 in
theorem c_DrawParsePacketLine (A : Option Addr) (n cap : Nat) (w : World) (hB : BytesAt w w.heap.size A n) (hn : n ≤ 100000) :
    Calls Tryz.prog 9 #[.slice A n cap] w (DrawnT (fun s => s.size ≤ 100) w) := by
  have H0 := Lib.hid (cur_new w A n cap hB hn)
  have b0 := Lib.hid ((Below.refl w.heap.size w).alloc (Nat.le_refl _) (.cells #[.slice A n cap, .int .i64 0, .int .u64 0] 53))
  clear hB
  go_enter Tryz.func9, Tryz.ntmps9
  go_wp2_with fail
  refine (c_packet w.heap.size 0 _ H0.out (by omega)).mono ?_
  rintro e w1 ⟨pk, pn, pt, pl, pd, rfl, hg, k1, g1⟩
  have H1 := Lib.hid k1
  have B1 := Lib.hid (below_cur b0.out (Nat.le_refl _) g1)
  obtain ⟨⟨m, rfl, hm1, hm6⟩, hn5, ht5, hl5, hd8⟩ := good_rng hg
  have C := Lib.hid (c_l4Line m pn pt pl pd w1 hm6 hn5 ht5 hl5 (by omega))
  obtain ⟨hl0, hl1⟩ : 0 < (lineL m pn pt pl pd).length ∧ (lineL m pn pt pl pd).length ≤ 99 := by
    have := (line_facts hg rfl).1
    refine ⟨?_, by omega⟩
    unfold lineL
    simp
    omega
  generalize lineL m pn pt pl pd = l at *
  clear k1 g1 hg H0 b0
  unfold pkC at C
  go_wp2_with fail
  refine C.out.mono ?_
  rintro e w2 ⟨rfl, b2⟩
  have H2 := Lib.hid (H1.out.keep b2 H1.out.inside)
  have B2 := Lib.hid (B1.out.trans (b2.mono B1.out.size))
  clear b2 C H1 B1
  go_wp2_with fail
  refine (c_one w.heap.size _ 4 _ H2.out (by omega) (by omega) (by omega)).mono ?_
  rintro e w3 ⟨y, rfl, k3, g3⟩
  have H3 := Lib.hid k3
  have B3 := Lib.hid (below_cur B2.out (Nat.le_refl _) g3)
  have hsz := str_size l
  clear k3 g3 H2 B2
  cases y
  · go_wp2
    go_ret
    exact ⟨_, rfl, by show (str l).size ≤ 100; omega, B3.out⟩
  · have CS := Lib.hid (c_spoilt w.heap.size _ l [49, 32, 45, 97, 100] w3 H3.out (by omega) hl0 (by omega) (by simp) (by simp))
    go_wp2_with fail
    refine CS.out.mono ?_
    rintro e w4 ⟨s, rfl, hs, k4, g4⟩
    have B4 := Lib.hid (below_cur B3.out (Nat.le_refl _) g4)
    clear k4 g4 CS
    go_wp2
    go_ret
    exact ⟨_, rfl, by show s.size ≤ 100; omega, B4.out⟩
set_option maxHeartbeats 4000000 in
theorem c_DrawCheckOf (A0 : Option Addr) (n cap0 : Nat) (w : World) (hB : BytesAt w w.heap.size A0 n) (hn : n ≤ 100000) :
    Calls Tryz.prog 14 #[.slice A0 n cap0] w (DrawnL 60 (fun _ => True) w) := by
  have h0 := cur_new w A0 n cap0 hB hn
  have b0 := Lib.hid ((Below.refl w.heap.size w).alloc (Nat.le_refl _) (.cells #[.slice A0 n cap0, .int .i64 0, .int .u64 0] 53))
  have hsv : (w.alloc (.cells #[.slice A0 n cap0, .int .i64 0, .int .u64 0] 53)).heap.size = w.heap.size + 1 := by simp
  have H := Lib.hid (h0.push (.cells #[] 3))
  have he := OwnI.empty (w.alloc (.cells #[.slice A0 n cap0, .int .i64 0, .int .u64 0] 53)) (w.heap.size + 1) (by simp)
  rw [hsv] at he
  have HE := Lib.hid he
  have HG := Lib.hid (grown_alloc (w.alloc (.cells #[.slice A0 n cap0, .int .i64 0, .int .u64 0] 53)) (.cells #[] 3) (some w.heap.size))
  have HIN := Nat.lt_succ_self w.heap.size
  clear h0 hB he
  go_enter Tryz.func14, Tryz.ntmps14
  go_wp2_with fail
  generalize w.alloc (.cells #[.slice A0 n cap0, .int .i64 0, .int .u64 0] 53) = v at *
  refine (c_pick w.heap.size 0 20 _ H.out (by omega) (by omega) (by omega)).mono ?_
  rintro e w1 ⟨y, rfl, ⟨hy0, hy1⟩, k1, g1⟩
  obtain ⟨n0, rfl⟩ : ∃ n : Nat, y = (n : Int) := ⟨y.toNat, by omega⟩
  have hn0 : n0 ≤ 20 := by omega
  have H1 := Lib.hid k1
  have G1 := Lib.hid (grown_trans HG.out g1)
  have O1 := Lib.hid (HE.out.cur g1 HIN)
  clear k1 g1 hy0 hy1 HE HG H
  go_wp2
  go_loopw [4, 5] (fun a i wr => ∃ (k M : Nat) (A : Option Addr) (cap : Nat) (zs : List Int), k ≤ 20 ∧ i = .int .i64 k ∧ a = .slice A zs.length cap ∧ zs.length + k ≤ 20 ∧ M + 2 * k ≤ 60 ∧ Hid (Cur wr w.heap.size M) ∧ Hid (OwnI wr (w.heap.size + 1) A cap zs) ∧ Hid (v.grownBy wr (some w.heap.size))) (fun _ i _ => (intOf i).toNat)
  case atStart => exact ⟨n0, 0 + 2, _, _, [], hn0, rfl, rfl, by simpa using hn0, by omega, H1, O1, G1⟩
  case round =>
    clear H1 G1 O1
    obtain ⟨k, M, A, cap, zs, hk, rfl, rfl, hlen, hM, HC, HO, HGR⟩ := hrel
    by_cases hk0 : 0 < k
    · go_wp2_with fail
      refine (c_pick w.heap.size M 256 _ HC.out (by omega) (by omega) (by omega)).mono ?_
      rintro e w2 ⟨z, rfl, ⟨hz0, hz1⟩, k2, g2⟩
      have H2 := Lib.hid k2
      have G2 := Lib.hid (grown_trans HGR.out g2)
      have O2 := Lib.hid (HO.out.cur g2 HIN)
      have S2 := Lib.hid (show w.heap.size + 1 ≤ w2.heap.size from Nat.lt_of_lt_of_le HC.out.inside g2.size)
      clear k2 g2 HC HO HGR
      have hce : (w2.alloc (.cells #[.int .i64 z] 3)).cell? ((⟨w2.heap.size, 0, none⟩ : Addr).add 0) = some (.int .i64 z) := by rw [add_zero']; exact new1_cell _ _ _
      go_wp2_with (at_builtin; refine wpList_appI _ rfl _ _ rfl (w.heap.size + 1) A cap zs rfl (O2.out.push _) z _ rfl hce (by omega) (by have := S2.out; simp; omega) ?_; intro A' cap' w3 o3 b3)
      have O3 := Lib.hid o3
      have G3 := Lib.hid (grown_then (grown_trans G2.out (grown_alloc _ _ _)) b3 (by have := G2.out.size; have := S2.out; rw [hsv] at *; omega))
      have H3 := Lib.hid ((H2.out.push (.cells #[.int .i64 z] 3)).keep b3 HIN)
      clear o3 b3 hce H2 G2 O2 S2
      go_wp2
      go_roundw
      case rel => exact ⟨k - 1, M + 2, A', cap', zs ++ [z], by omega, by go_num, by simp, by simp; omega, by omega, H3, O3, G3⟩
      case measure => simp [intOf]; omega
    · obtain rfl : k = 0 := by omega
      go_wp2_with fail
      refine (c_pick w.heap.size M 16 _ HC.out (by omega) (by omega) (by omega)).mono ?_
      rintro e w2 ⟨y, rfl, ⟨hy0, hy1⟩, k2, g2⟩
      have H2 := Lib.hid k2
      have G2 := Lib.hid (grown_trans HGR.out g2)
      have O2 := Lib.hid (HO.out.cur g2 HIN)
      have S2 := Lib.hid (show w.heap.size + 1 ≤ w2.heap.size from Nat.lt_of_lt_of_le HC.out.inside g2.size)
      clear k2 g2 HC HO HGR
      by_cases e0 : y = 0
      · subst e0
        go_wp2_with fail
        refine (c_among w.heap.size _ (w2.heap.size + 1) (fun x => -100000 ≤ x ∧ x ≤ 100000) _ _ [-1, 255, 256] _ (H2.out.push _) (by omega) (ints_lit w2 _) (by simp) (ne_new H2.out.inside) (by decide) (by decide) (by decide)).mono ?_
        rintro e w3 ⟨z, rfl, hz, k3, g3⟩
        have H3 := Lib.hid k3
        have G3 := Lib.hid (grown_trans (grown_trans G2.out (grown_alloc _ _ _)) g3)
        have O3 := Lib.hid ((O2.out.push _).cur g3 HIN)
        have S3 := Lib.hid (show w.heap.size + 1 ≤ w3.heap.size from by have := g3.size; have := S2.out; simp at *; omega)
        clear k3 g3 hz H2 G2 O2 S2
        have hce : (w3.alloc (.cells #[.int .i64 z] 3)).cell? ((⟨w3.heap.size, 0, none⟩ : Addr).add 0) = some (.int .i64 z) := by rw [add_zero']; exact new1_cell _ _ _
        go_wp2_with (at_builtin; refine wpList_appI _ rfl _ _ rfl (w.heap.size + 1) A cap zs rfl (O3.out.push _) z _ rfl hce (by omega) (by have := S3.out; simp; omega) ?_; intro A' cap' w4 o4 b4)
        have O4 := Lib.hid o4
        have G4 := Lib.hid (below_cur b0.out (Nat.le_refl _) (grown_then (grown_trans G3.out (grown_alloc _ _ _)) b4 (by have := S3.out; rw [hsv] at *; omega)))
        have HL4 := Lib.hid (show (zs ++ [z]).length = zs.length + 1 by simp)
        clear o4 b4 hce H3 G3 O3 S3
        go_wp2
        go_ret
        exact ⟨A', cap', zs ++ [z], by rw [HL4.out]; rfl, by rw [HL4.out]; omega, fun _ _ => trivial, O4.out.base (Nat.le_succ _), G4.out⟩
      · have b0' : (y == 0) = false := beq_eq_false_iff_ne.2 e0
        by_cases e1 : y = 1
        · subst e1
          clear b0' e0
          go_wp2
          go_loopw [4] (fun a wr => ∃ (m M : Nat) (A : Option Addr) (cap : Nat) (zs : List Int), a = .slice A zs.length cap ∧ zs.length ≤ 41 ∧ m + zs.length = 41 ∧ M + 2 * m ≤ 200 ∧ Hid (Cur wr w.heap.size M) ∧ Hid (OwnI wr (w.heap.size + 1) A cap zs) ∧ Hid (v.grownBy wr (some w.heap.size))) (fun a _ => match a with | .slice _ n _ => 41 - n | _ => 0)
          case atStart => exact ⟨41 - zs.length, M + 2, A, cap, zs, rfl, by omega, by omega, by omega, H2, O2, G2⟩
          case round =>
            clear H2 G2 O2 S2
            obtain ⟨m, M', A, cap, zs, rfl, hle, hm, hM', HC, HO, HGR⟩ := hrel
            go_wp2_with fail
            refine (c_pick w.heap.size M' 2 _ HC.out (by omega) (by omega) (by omega)).mono ?_
            rintro e w3 ⟨y, rfl, ⟨hz0, hz1⟩, k3, g3⟩
            have H3 := Lib.hid k3
            have G3 := Lib.hid (grown_trans HGR.out g3)
            have O3 := Lib.hid (HO.out.cur g3 HIN)
            have S3 := Lib.hid (show w.heap.size + 1 ≤ w3.heap.size from Nat.lt_of_lt_of_le HC.out.inside g3.size)
            have hz2 : y < 2 := by omega
            clear k3 g3 HC HO HGR hz1
            by_cases hlt : (zs.length : Int) < 40 + y
            · have hce : (w3.alloc (.cells #[.int .i64 255] 3)).cell? ((⟨w3.heap.size, 0, none⟩ : Addr).add 0) = some (.int .i64 255) := by rw [add_zero']; exact new1_cell _ _ _
              go_wp2_with (at_builtin; refine wpList_appI _ rfl _ _ rfl (w.heap.size + 1) A cap zs rfl (O3.out.push _) 255 _ rfl hce (by omega) (by have := S3.out; simp; omega) ?_; intro A' cap' w4 o4 b4)
              have O4 := Lib.hid o4
              have G4 := Lib.hid (grown_then (grown_trans G3.out (grown_alloc _ _ _)) b4 (by have := S3.out; rw [hsv] at *; omega))
              have H4 := Lib.hid ((H3.out.push (.cells #[.int .i64 255] 3)).keep b4 HIN)
              clear o4 b4 hce H3 G3 O3 S3
              go_wp2
              go_roundw
              case rel => exact ⟨m - 1, M' + 2, A', cap', zs ++ [255], by simp, by simp; omega, by simp; omega, by omega, H4, O4, G4⟩
              case measure => simp; omega
            · have G4 := Lib.hid (below_cur b0.out (Nat.le_refl _) G3.out)
              go_wp2
              go_ret
              exact ⟨A, cap, zs, rfl, by omega, fun _ _ => trivial, O3.out.base (Nat.le_succ _), G4.out⟩
        · have b1 : (y == 1) = false := beq_eq_false_iff_ne.2 e1
          have G4 := Lib.hid (below_cur b0.out (Nat.le_refl _) G2.out)
          go_wp2
          go_ret
          exact ⟨A, cap, zs, rfl, by omega, fun _ _ => trivial, O2.out.base (Nat.le_succ _), G4.out⟩
end Go.Proofs.YtpmfaiocmgkmpaaGreatDoor
