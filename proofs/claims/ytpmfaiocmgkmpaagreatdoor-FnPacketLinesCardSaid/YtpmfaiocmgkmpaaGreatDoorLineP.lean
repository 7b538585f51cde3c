/- PacketLine, of the reference and of the program. -/
import Derived.Test.YtpmfaiocmgkmpaaGreatDoorLine
import Derived.Test.YtpmfaiocmgkmpaaGreatDoorEncI
namespace Go.Proofs.YtpmfaiocmgkmpaaGreatDoor
open Go.RowKit
open Go.Lib (itoa)
set_option linter.unusedVariables false
set_option maxRecDepth 100000

theorem good_rng {k n t l : Int} {d : List UInt8} (h : goodP k n t l d = true) : (∃ m : Nat, k = (m : Int) ∧ 1 ≤ m ∧ m < 6) ∧ (0 ≤ n ∧ n ≤ 65535) ∧ (0 ≤ t ∧ t ≤ 65535) ∧ (0 ≤ l ∧ l ≤ 65535) ∧ d.length ≤ 8 := by
  have := goodP_t h
  refine ⟨⟨k.toNat, ?_, ?_, ?_⟩, ⟨?_, ?_⟩, ⟨?_, ?_⟩, ⟨?_, ?_⟩, ?_⟩ <;> omega
theorem lineR_good {m : Nat} {n t l : Int} {d : List UInt8} (h : goodP (m : Int) n t l d = true) : lineR (m : Int) n t l d = lineL m n t l d := by
  unfold lineR
  rw [if_pos h]
  rfl
set_option maxHeartbeats 4000000 in
theorem c_specPacketLine (k n t l : Int) (d : List UInt8) (w : World) (hd : d.length ≤ 1000000000) :
    Calls Tryz.prog 8 #[.agg (pkC k n t l d)] w fun e w' => e = .returned (.tuple #[.string (str (lineR k n t l d)), .bool (goodP k n t l d)]) ∧ Below w.heap.size w w' := by
  have C1 := fun W => Lib.hid (c_l4Good k n t l d W hd)
  have bb := Lib.hid ((Below.refl w.heap.size w).alloc (Nat.le_refl _) (.cells (pkC k n t l d) 25))
  have K := Lib.hid (pkAt_new k n t l d w 25)
  cases g1 : goodP k n t l d
  · rw [g1] at C1
    rw [show lineR k n t l d = [] from by simp [lineR, g1]]
    unfold pkC at *
    go_enter Tryz.func8, Tryz.ntmps8
    go_wp2_with fail
    refine (C1 _).out.mono ?_
    rintro e w1 ⟨rfl, b1⟩
    have HB := Lib.hid (bb.out.trans (b1.mono bb.out.size))
    clear b1 bb K
    go_wp2
    go_ret2
    exact ⟨rfl, HB.out⟩
  obtain ⟨⟨m, rfl, hm0, hm⟩, rn, rt, rl, rd⟩ := good_rng g1
  rw [lineR_good g1]
  rw [g1] at C1
  have C2 := fun W => Lib.hid (c_l4Line m n t l d W hm rn rt rl (by omega))
  clear g1
  generalize lineL m n t l d = L at *
  unfold pkC at *
  go_enter Tryz.func8, Tryz.ntmps8
  go_wp2_with fail
  refine (C1 _).out.mono ?_
  rintro e w1 ⟨rfl, b1⟩
  obtain ⟨_, p0, p1, p2, p3, p4⟩ := (show PkAt (m : Int) n t l d w.heap.size w1 from K.out.keep b1)
  have HB := Lib.hid (bb.out.trans (b1.mono bb.out.size))
  clear b1 bb K
  go_wp2_with fail
  refine (C2 _).out.mono ?_
  rintro e w2 ⟨rfl, b2⟩
  have B2 := Lib.hid (HB.out.trans (b2.mono HB.out.size))
  clear b2
  go_wp2
  go_ret2
  exact ⟨rfl, B2.out⟩
set_option maxHeartbeats 4000000 in
theorem c_implPacketLine {B : Nat} (k n t l : Int) (d : List UInt8) (w : World) (hk : KindW w B) (hp : PowW w B) (hB : B ≤ w.heap.size) (hd : d.length ≤ 1000000000) :
    Calls Tryz.prog 6 #[.agg (pkC k n t l d)] w fun e w' => e = .returned (.tuple #[.string (str (lineR k n t l d)), .bool (goodP k n t l d)]) ∧ Below w.heap.size w w' := by
  have C1 := fun W => Lib.hid (c_implIsValidPacket k n t l d W hd)
  have bb := Lib.hid ((Below.refl w.heap.size w).alloc (Nat.le_refl _) (.cells (pkC k n t l d) 25))
  have K := Lib.hid (pkAt_new k n t l d w 25)
  have HK := Lib.hid hk
  have HP := Lib.hid hp
  clear hk hp
  cases g1 : goodP k n t l d
  · rw [g1] at C1
    rw [show lineR k n t l d = [] from by simp [lineR, g1]]
    unfold pkC at *
    go_enter Tryz.func6, Tryz.ntmps6
    go_wp2_with fail
    refine (C1 _).out.mono ?_
    rintro e w1 ⟨rfl, b1⟩
    have HB := Lib.hid (bb.out.trans (b1.mono bb.out.size))
    clear b1 bb K
    go_wp2
    go_ret2
    exact ⟨rfl, HB.out⟩
  obtain ⟨⟨m, rfl, hm0, hm⟩, rn, rt, rl, rd⟩ := good_rng g1
  rw [lineR_good g1]
  rw [g1] at C1
  have C2 := fun (W : World) (b : Below w.heap.size w W) => Lib.hid (c_packetLine m n t l d W (HK.out.keep b hB) (HP.out.keep b hB) (Nat.le_trans hB b.size) hm rn rt rl (by omega))
  clear g1
  generalize lineL m n t l d = L at *
  unfold pkC at *
  go_enter Tryz.func6, Tryz.ntmps6
  go_wp2_with fail
  refine (C1 _).out.mono ?_
  rintro e w1 ⟨rfl, b1⟩
  obtain ⟨_, p0, p1, p2, p3, p4⟩ := (show PkAt (m : Int) n t l d w.heap.size w1 from K.out.keep b1)
  have HB := Lib.hid (bb.out.trans (b1.mono bb.out.size))
  clear b1 bb K
  go_wp2_with fail
  refine (C2 _ HB.out).out.mono ?_
  rintro e w2 ⟨rfl, b2⟩
  have B2 := Lib.hid (HB.out.trans (b2.mono HB.out.size))
  clear b2
  go_wp2
  go_ret2
  exact ⟨rfl, B2.out⟩
end Go.Proofs.YtpmfaiocmgkmpaaGreatDoor
