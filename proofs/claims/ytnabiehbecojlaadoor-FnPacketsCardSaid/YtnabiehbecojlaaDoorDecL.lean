/- The reference's DecodePacket. -/
import Derived.Test.YtnabiehbecojlaaDoorDecS
namespace Go.Proofs.YtnabiehbecojlaaDoor
open Go.RowKit
set_option linter.unusedVariables false
set_option maxRecDepth 100000

theorem dC_pk (l : List UInt8) : ∃ k n t l' d, dC l = pkC k n t l' d ∧ d.length ≤ l.length + 18 := by
  unfold dC
  split
  · refine ⟨_, _, _, _, _, rfl, ?_⟩
    next h =>
    have : 10 ≤ (unz l).length ∧ (unz l).length ≤ 18 := by
      refine Decidable.byContradiction fun hn => ?_
      rw [dec_bad fun ⟨_, h2, h3⟩ => hn ⟨h2, h3⟩] at h
      cases h
    unfold pkD
    rw [List.length_map, List.length_take]
    omega
  · exact ⟨0, 0, 0, 0, [], rfl, by simp⟩
set_option maxHeartbeats 8000000 in
theorem c_specDecodePacket (l : List UInt8) (w : World) (hl : l.length ≤ 10000000) :
    Calls Tryd.prog 12 #[.string (str l)] w fun e w' => e = .returned (.tuple #[.agg (dC l), .bool (decOk l)]) ∧ Below w.heap.size w w' := by
  obtain ⟨k, n, t, l', d, hd, _⟩ := dC_pk l
  have C := fun W => Lib.hid (c_l4Decode l W hl)
  simp only [hd] at C ⊢
  generalize decOk l = ok at *
  clear hd
  have bb := Lib.hid ((Below.refl w.heap.size w).alloc (Nat.le_refl _) (.cells (pkC 0 0 0 0 []) 27))
  have KZ := Lib.hid (pkAt_new 0 0 0 0 [] w 27)
  have KF := Lib.hid (free_new w (pkC 0 0 0 0 []) 27)
  unfold pkC at *
  go_enter Tryd.func12, Tryd.ntmps12
  go_wp2_with fail
  refine (C _).out.mono ?_
  rintro e w1 ⟨rfl, b1⟩
  have HB := Lib.hid (bb.out.trans (b1.mono bb.out.size))
  have KZ1 := Lib.hid (KZ.out.keep b1)
  have KF1 := Lib.hid (show Free w.heap.size w1 from Free.keep (fun j => KF.out j) (by simp) b1)
  clear b1 bb KZ KF C
  obtain ⟨zb, z0, z1, z2, z3, z4⟩ := KZ1.out
  have f0 := KF1.out 0
  have f1 := KF1.out 1
  have f2 := KF1.out 2
  have f3 := KF1.out 3
  have f4 := KF1.out 4
  go_wp2_with fail
  have K9 : PkAt k n t l' d w.heap.size (((((w1.setCell ⟨w.heap.size, 0, none⟩ (.int .i64 k)).setCell ⟨w.heap.size, 1, none⟩ (.int .i64 n)).setCell ⟨w.heap.size, 2, none⟩ (.int .i64 t)).setCell ⟨w.heap.size, 3, none⟩ (.int .i64 l')).setCell ⟨w.heap.size, 4, none⟩ (.string (str d))) := KZ1.out.set5 k n t l' d
  have B9 : Below w.heap.size w (((((w1.setCell ⟨w.heap.size, 0, none⟩ (.int .i64 k)).setCell ⟨w.heap.size, 1, none⟩ (.int .i64 n)).setCell ⟨w.heap.size, 2, none⟩ (.int .i64 t)).setCell ⟨w.heap.size, 3, none⟩ (.int .i64 l')).setCell ⟨w.heap.size, 4, none⟩ (.string (str d))) := set5 HB.out (Nat.le_refl _) _ _ _ _ _
  generalize (((((w1.setCell ⟨w.heap.size, 0, none⟩ (.int .i64 k)).setCell ⟨w.heap.size, 1, none⟩ (.int .i64 n)).setCell ⟨w.heap.size, 2, none⟩ (.int .i64 t)).setCell ⟨w.heap.size, 3, none⟩ (.int .i64 l')).setCell ⟨w.heap.size, 4, none⟩ (.string (str d))) = w9 at K9 B9 ⊢
  exact bodyPost_ret (res_sdec (ok := ok) rfl rfl K9) rfl ⟨rfl, B9⟩
end Go.Proofs.YtnabiehbecojlaaDoor
