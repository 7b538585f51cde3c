/- The reference's ParsePacketLine, its outer function. -/
import Derived.Test.YtpmfaiocmgkmpaaGreatDoorLineS
import Derived.Test.YtpmfaiocmgkmpaaGreatDoorLineI
namespace Go.Proofs.YtpmfaiocmgkmpaaGreatDoor
open Go.RowKit
set_option linter.unusedVariables false
set_option maxRecDepth 100000

set_option maxHeartbeats 8000000 in
theorem c_specParsePacketLine (l : List UInt8) (w : World) (hl : l.length ≤ 10000000) :
    Calls Tryz.prog 10 #[.string (str l)] w fun e w' => e = .returned (.tuple #[.agg (plC l), .bool (plOk l)]) ∧ Below w.heap.size w w' := by
  obtain ⟨k, n, t, l', d, hd, _⟩ := plC_pk l
  have C := fun W => Lib.hid (c_l4Parse l W hl)
  simp only [hd] at C ⊢
  generalize plOk l = ok at *
  clear hd
  have bb := Lib.hid ((Below.refl w.heap.size w).alloc (Nat.le_refl _) (.cells (pkC 0 0 0 0 []) 25))
  have KZ := Lib.hid (pkAt_new 0 0 0 0 [] w 25)
  have KF := Lib.hid (free_new w (pkC 0 0 0 0 []) 25)
  unfold pkC at *
  go_enter Tryz.func10, Tryz.ntmps10
  go_wp2_with fail
  refine (C _).out.mono ?_
  rintro e w1 ⟨rfl, b1⟩
  have HB := Lib.hid (bb.out.trans (b1.mono bb.out.size))
  have KZ1 := Lib.hid (KZ.out.keep b1)
  have KF1 := Lib.hid (show Free w.heap.size w1 from Free.keep (fun j => KF.out j) (by simp) b1)
  clear b1 bb KZ KF C
  obtain ⟨zb, z0, z1, z2, z3, z4⟩ := KZ1.out
  have f0 := KF1.out 0
  have f1 := KF1.out 1
  have f2 := KF1.out 2
  have f3 := KF1.out 3
  have f4 := KF1.out 4
  go_wp2_with fail
  have K9 : PkAt k n t l' d w.heap.size (((((w1.setCell ⟨w.heap.size, 0, none⟩ (.int .i64 k)).setCell ⟨w.heap.size, 1, none⟩ (.int .i64 n)).setCell ⟨w.heap.size, 2, none⟩ (.int .i64 t)).setCell ⟨w.heap.size, 3, none⟩ (.int .i64 l')).setCell ⟨w.heap.size, 4, none⟩ (.string (str d))) := KZ1.out.set5 k n t l' d
  have B9 : Below w.heap.size w (((((w1.setCell ⟨w.heap.size, 0, none⟩ (.int .i64 k)).setCell ⟨w.heap.size, 1, none⟩ (.int .i64 n)).setCell ⟨w.heap.size, 2, none⟩ (.int .i64 t)).setCell ⟨w.heap.size, 3, none⟩ (.int .i64 l')).setCell ⟨w.heap.size, 4, none⟩ (.string (str d))) := set5 HB.out (Nat.le_refl _) _ _ _ _ _
  generalize (((((w1.setCell ⟨w.heap.size, 0, none⟩ (.int .i64 k)).setCell ⟨w.heap.size, 1, none⟩ (.int .i64 n)).setCell ⟨w.heap.size, 2, none⟩ (.int .i64 t)).setCell ⟨w.heap.size, 3, none⟩ (.int .i64 l')).setCell ⟨w.heap.size, 4, none⟩ (.string (str d))) = w9 at K9 B9 ⊢
  exact bodyPost_ret (res_sppl (ok := ok) rfl rfl K9) rfl ⟨rfl, B9⟩
end Go.Proofs.YtpmfaiocmgkmpaaGreatDoor
