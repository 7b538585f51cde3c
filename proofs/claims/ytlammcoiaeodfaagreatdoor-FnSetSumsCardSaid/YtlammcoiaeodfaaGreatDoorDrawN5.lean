/- The reference's draws for the laws on sets: sets and numbers near them. -/
import Derived.Test.YtlammcoiaeodfaaGreatDoorDrawR
namespace Go.Proofs.YtlammcoiaeodfaaGreatDoor
open Go.RowKit
set_option linter.unusedVariables false
set_option maxRecDepth 100000

/-- A set and numbers that a call drew. -/
def DrawnR (n : Nat) (w : World) (e : Ending) (w' : World) : Prop :=
  ∃ (A : Option Addr) (cap : Nat) (rs : List (Int × Int)) (vs : List Int), vs.length = n ∧ e = .returned (.tuple (#[.slice A rs.length cap] ++ (vs.map (Value.int .i64)).toArray)) ∧ rs.length ≤ 30 ∧ (∀ v ∈ vs, -2 ≤ v ∧ v ≤ 65537) ∧ OwnR w' w.heap.size A cap rs ∧ Below w.heap.size w w'
set_option maxHeartbeats 4000000 in
theorem c_DrawUnionOf (A : Option Addr) (n cap : Nat) (w : World) (hB : BytesAt w w.heap.size A n) (hn : n ≤ 100000) :
    Calls Tryz.prog 5 #[.slice A n cap] w fun e w' => ∃ (A1 : Option Addr) (c1 : Nat) (ra : List (Int × Int)) (A2 : Option Addr) (c2 : Nat) (bs : List (Int × Int)), e = .returned (.tuple #[.slice A1 ra.length c1, .slice A2 bs.length c2]) ∧ ra.length ≤ 30 ∧ bs.length ≤ 30 ∧ Rngs w' w'.heap.size A1 ra ∧ Rngs w' w'.heap.size A2 bs ∧ Below w.heap.size w w' := by
  have H0 := Lib.hid (cur_new w A n cap hB hn)
  have b0 := Lib.hid ((Below.refl w.heap.size w).alloc (Nat.le_refl _) (.cells #[.slice A n cap, .int .i64 0, .int .u64 0] 41))
  have s0 : w.heap.size < (w.alloc (.cells #[.slice A n cap, .int .i64 0, .int .u64 0] 41)).heap.size := by simp
  clear hB
  go_enter Tryz.func5, Tryz.ntmps5
  go_wp2_with fail
  refine (c_rangeSet w.heap.size 0 _ H0.out (by omega)).mono ?_
  rintro e w1 ⟨A1, c1, ra, rfl, hlen, hP, k1, o1, g1⟩
  have H1 := Lib.hid k1
  have G1 := Lib.hid g1
  have O1 := Lib.hid o1
  clear k1 g1 o1 hP H0
  go_wp2_with fail
  refine (c_rangeSet w.heap.size _ _ H1.out (by omega)).mono ?_
  rintro e w2 ⟨A2, c2, bs, rfl, hlen2, hP2, k2, o2, g2⟩
  have G2 := Lib.hid (grown_trans G1.out g2)
  have O2 := Lib.hid (O1.out.cur g2 s0)
  have OB := Lib.hid o2
  have BE := Lib.hid (below_cur b0.out (Nat.le_refl _) G2.out)
  clear k2 g2 o2 hP2 H1 G1 O1
  go_wp2
  go_ret2
  exact ⟨A1, c1, ra, A2, c2, bs, rfl, hlen, hlen2, O2.out.rngs, OB.out.rngs, BE.out⟩
end Go.Proofs.YtlammcoiaeodfaaGreatDoor
