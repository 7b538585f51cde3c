/- Packets as digits: the program's list of bytes. -/
import Derived.Test.YtnabiehbecojlaaDoorEnc
import Derived.Deep.RegionHeld3
namespace Go.Proofs.YtnabiehbecojlaaDoor
open Go.RowKit
set_option linter.unusedVariables false
set_option maxRecDepth 100000

theorem hex_at (i : Nat) (h : i < 16) (h2) : (⟨#[48, 49, 50, 51, 52, 53, 54, 55, 56, 57, 65, 66, 67, 68, 69, 70]⟩ : ByteArray)[i]'h2 = hx i := by
  have : ∀ m : Fin 16, D16[m.val]'(by have := m.isLt; unfold D16; exact this) = hx m.val := by decide +kernel
  exact this ⟨i, h⟩
theorem run_hexi (d : Nat) (h : d < 16) (W : World) : (Instr.index 9 (.string ⟨#[48, 49, 50, 51, 52, 53, 54, 55, 56, 57, 65, 66, 67, 68, 69, 70]⟩) (.int .i64 (d : Int))).run Tryd.prog W = .ok (.int .u8 ((hx d).toNat : Int)) W := by
  rw [run_index_string (P := Tryd.prog) W 9 _ .i64 (d : Int) Tryd.underlying9, dif_pos ⟨by omega, by show (d : Int) < 16; omega⟩]
  have := hex_at d h
  simp only [Int.toNat_natCast, this]
set_option maxHeartbeats 4000000 in
theorem c_implEncodePacket (k n t l : Int) (d : List UInt8) (w : World) (hd : d.length ≤ 1000000000) :
    Calls Tryd.prog 11 #[.agg (pkC k n t l d)] w fun e w' => e = .returned (.tuple #[.string (str (encR k n t l d)), .bool (goodP k n t l d)]) ∧ Below w.heap.size w w' := by
  have C1 := fun W => Lib.hid (c_implIsValidPacket k n t l d W hd)
  have bb := Lib.hid ((Below.refl w.heap.size w).alloc (Nat.le_refl _) (.cells (pkC k n t l d) 27))
  have K := Lib.hid (pkAt_new k n t l d w 27)
  cases g1 : goodP k n t l d
  · rw [g1] at C1
    rw [show encR k n t l d = [] from by simp [encR, g1]]
    unfold pkC at *
    go_enter Tryd.func11, Tryd.ntmps11
    go_wp2_with fail
    refine (C1 _).out.mono ?_
    rintro e w1 ⟨rfl, b1⟩
    have HB := Lib.hid (bb.out.trans (b1.mono bb.out.size))
    clear b1 bb K
    go_wp2
    go_ret2
    exact ⟨rfl, HB.out⟩
  rw [g1] at C1
  rw [show encR k n t l d = hexL (octL k n t l d) from by simp [encR, g1]]
  have C2 := fun W => Lib.hid (c_octetsOf k n t l d W g1)
  have HO := Lib.hid (octL_isO g1)
  have hlen := octL_length k n t l d
  have hd8 := (goodP_t g1).2.2.2.2.2
  have hl18 : (octL k n t l d).length ≤ 18 := by omega
  have hl1 : 0 < (octL k n t l d).length := by omega
  clear hlen g1
  generalize octL k n t l d = zs at *
  unfold pkC at *
  go_enter Tryd.func11, Tryd.ntmps11
  go_wp2_with fail
  refine (C1 _).out.mono ?_
  rintro e w1 ⟨rfl, b1⟩
  obtain ⟨_, p0, p1, p2, p3, p4⟩ := (show PkAt k n t l d w.heap.size w1 from K.out.keep b1)
  have HB := Lib.hid (bb.out.trans (b1.mono bb.out.size))
  clear b1 bb K
  go_wp2_with fail
  refine (C2 _).out.mono ?_
  rintro e w2 ⟨A, cap, rfl, o2, b2⟩
  have HI := Lib.hid o2.ints
  have B2 := Lib.hid (HB.out.trans (b2.mono HB.out.size))
  clear o2 b2 HB C2 C1 p0 p1 p2 p3 p4
  go_wp2_with fail
  go_loopw [4, 13] (fun v i wr => ∃ j : Nat, j ≤ zs.length ∧ i = .int .i64 j ∧ ∃ A' cap', v = .slice A' (hexL (zs.take j)).length cap' ∧ Hid (OwnU wr w2.heap.size A' cap' (hexL (zs.take j)) ∧ Below w2.heap.size w2 wr)) (fun _ i _ => zs.length - (intOf i).toNat)
  case atStart => exact ⟨0, Nat.zero_le _, rfl, none, 0, rfl, Lib.hid ⟨OwnU.nil _ _, Below.refl _ _⟩⟩
  case round =>
    obtain ⟨j, hj, rfl, A', cap', rfl, HB⟩ := hrel
    by_cases hlt : j < zs.length
    · obtain ⟨ad, rfl, hadb, hc⟩ := (HI.out.keep HB.out.2).at_ hlt
      obtain ⟨x0, x1⟩ := HO.out (zs.getD j 0) (by rw [List.getD_eq_getElem?_getD, List.getElem?_eq_getElem hlt]; exact List.getElem_mem _)
      obtain ⟨a, b, ha, hb, ha16, hb16⟩ := nib _ x0 x1
      have HN := Lib.hid (hexL_snoc zs hlt ha hb)
      generalize zs.getD j 0 = x at *
      have hand := and15 x x0 (by omega)
      rw [hb] at hand
      have s1 := run_hexi a ha16
      have s2 := run_hexi b hb16
      have hlh : (hexL (zs.take j)).length ≤ 36 := by rw [hexL_length, List.length_take]; omega
      generalize hexL (zs.take j) = p at *
      go_wp2_with fail
      go_region_held3 (fun W => True) (trivial)
        (first
          | (refine step_appU _ (by rfl) _ _ (by rfl) w2.heap.size A' cap' p (by rfl) (HB.out.1.push _) [hx a, hx b] _ 2 (by rfl) (by simp) (two_u8 _ _ _ _ (by simp)) (by simp; omega) (by have := HB.out.2.size; simp; omega) ?_; intro A4 c4 w4 o4 b4))
      all_goals
        have HB2 : Hid (Below w2.heap.size w2 w4) := Lib.hid (HB.out.2.trans (by first | exact ((below_dr (Below.refl w2.heap.size wr) _).alloc HB.out.2.size _).trans b4 | exact (((Below.refl w2.heap.size wr).drew).alloc HB.out.2.size _).trans b4))
        go_wp2
        go_roundw
        case rel => exact ⟨j + 1, by omega, by go_num, A4, c4, by rw [HN.out]; simp, Lib.hid ⟨by rw [HN.out]; simpa using o4, HB2.out⟩⟩
        case measure => simp [intOf]; omega
    · obtain rfl : j = zs.length := by omega
      have hT := Lib.hid (List.take_length (l := zs))
      have hU := HB.out.1
      rw [hT.out] at hU
      have HT := Lib.hid (own_text hU (by rw [hexL_length]; omega) wr rfl)
      rw [hT.out]
      have hq := HT.out
      clear hT hU HT
      have hbb := HB.out.2
      clear HB
      go_wp2
      go_ret2
      exact ⟨rfl, B2.out.trans (hbb.mono B2.out.size)⟩
end Go.Proofs.YtnabiehbecojlaaDoor
