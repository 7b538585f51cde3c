/- Trees: their nodes, the children of a node, the leaves; marks in a tree's list. -/
import Derived.Test.YtkoccbjeoihbiaaFuncsC
import Derived.Test.YtkoccbjeoihbiaaTree
namespace Go.Proofs.Ytkoccbjeoihbiaa
open Go.RowKit
set_option linter.unusedVariables false
set_option maxRecDepth 100000

set_option maxHeartbeats 400000 in
theorem c_markTree {B : Nat} (A : Option Addr) (cap : Nat) (zs : List Int) (k0 : Int) (w : World) (h : OwnI w B A cap zs) (hB : B ≤ w.heap.size) (hl : zs.length ≤ 100000000) (h1 : 0 ≤ k0) (h2 : k0 ≤ 100000000) :
    Calls Try.prog 46 #[.agg #[.slice A zs.length cap], .int .i64 k0] w fun e w' => e = .returned (.int .i64 (k0 + zs.length)) ∧ OwnI w' B A cap (seqI k0 zs.length) ∧ Below B w w' ∧ w.heap.size ≤ w'.heap.size ∧ w.grownBy w' (Value.ownBlock (.slice A zs.length cap)) := by
  have HO := Lib.hid (h.push (.cells #[.slice A zs.length cap] 51))
  clear h
  go_enter Try.func46, Try.ntmps46
  go_wp2_with fail
  refine (c_markIntS A cap zs k0 _ HO.out hl h1 h2).mono ?_
  rintro e w1 ⟨rfl, o1, b1, hz, hg⟩
  have HO1 := Lib.hid o1
  have HB := Lib.hid (((Below.refl B w).alloc hB (.cells #[.slice A zs.length cap] 51)).trans b1)
  have HG := Lib.hid (grown_trans (World.grownBy_alloc w (.cells #[.slice A zs.length cap] 51) _) hg)
  clear o1 b1 hz hg HO
  go_wp2
  go_ret
  exact ⟨rfl, HO1.out, HB.out, HB.out.size, HG.out⟩
theorem c_heldTree {H : Nat} (A : Option Addr) (cap : Nat) (n : Nat) (k0 : Int) (w : World) (h : Ints w H A (seqI k0 n)) (hH : H ≤ w.heap.size) (hl : n ≤ 100000000) (h1 : 0 ≤ k0) (h2 : k0 ≤ 100000000) :
    Calls Try.prog 47 #[.agg #[.slice A n cap], .int .i64 k0] w fun e w' => e = .returned (.int .i64 (k0 + n)) ∧ Below w.heap.size w w' := by
  have b1 := (Below.refl w.heap.size w).alloc (Nat.le_refl _) (.cells #[.slice A n cap] 51)
  have HI := Lib.hid ((h.more hH).keep b1)
  have HB := Lib.hid b1
  clear h b1
  go_enter Try.func47, Try.ntmps47
  go_wp2_with fail
  refine (c_heldIntS A cap n k0 _ HI.out hl h1 h2).mono ?_
  rintro e _ ⟨rfl, rfl⟩
  go_wp2
  go_ret
  exact ⟨rfl, HB.out⟩
/-- The tree is valid, and all these are nodes of it. -/
def nodesB (zs ns : List Int) : Bool := treeB zs && ns.all fun x => inR x 0 ((zs.length : Int) - 1)
theorem c_hasNodes1 (x : Int) (A : Option Addr) (n cap : Nat) (cp : Addr) (W : World) (hn : n ≤ 100000000) (hc : W.cell? cp = some (.slice A n cap)) :
    Calls Try.prog 153 #[.int .i64 x, .pointer (some cp)] W fun e w' => e = .returned (.bool (!inR x 0 ((n : Int) - 1))) ∧ W = w' := by
  go_enter Try.func153, Try.ntmps153
  go_wp2_with (go_at_call 109; refine (c_within _ _ _ _).mono ?_; rintro e _ ⟨rfl, rfl⟩)
  go_ret
  exact ⟨rfl, rfl⟩
set_option maxHeartbeats 400000 in
theorem c_hasNodes {H K : Nat} (A : Option Addr) (cap : Nat) (zs : List Int) (A2 : Option Addr) (cap2 : Nat) (ns : List Int) (w : World) (h : Ints w H A zs) (h2 : Ints w K A2 ns) (hH : H ≤ w.heap.size) (hK : K ≤ w.heap.size) (hl : zs.length ≤ 100000000) (hl2 : ns.length ≤ 100000000) :
    Calls Try.prog 123 #[.agg #[.slice A zs.length cap], .slice A2 ns.length cap2] w fun e w' => e = .returned (.bool (nodesB zs ns)) ∧ Below w.heap.size w w' := by
  obtain ⟨X, hX⟩ : ∃ X, X = w.alloc (.cells #[.slice A zs.length cap] 51) := ⟨_, rfl⟩
  have b1 : Below w.heap.size w X := by rw [hX]; exact (Below.refl _ _).alloc (Nat.le_refl _) _
  have hlt : w.heap.size < X.heap.size := by rw [hX]; simp
  have hc : X.cell? ⟨w.heap.size, 0, none⟩ = some (.slice A zs.length cap) := by rw [hX]; exact new1_cell _ _ _
  have i1 := (h.more hH).keep b1
  have i2 := (h2.more hK).keep b1
  have C1 := Lib.hid (c_implIsValidTree A cap zs X i1 b1.size hl)
  have HX := Lib.hid hX
  clear h h2 i1 hX
  cases g0 : treeB zs
  · rw [show nodesB zs ns = false from by simp [nodesB, g0]]
    go_enter Try.func123, Try.ntmps123
    go_wp2_with fail
    rw [← HX.out]
    refine C1.out.mono ?_
    rintro e w1 ⟨rfl, b2⟩
    have HB := Lib.hid (b1.trans (b2.mono b1.size))
    clear b1 b2 hc i2
    go_wp2
    go_ret
    exact ⟨rfl, HB.out⟩
  · have HN := Lib.hid (show nodesB zs ns = !(ns.any fun x => !inR x 0 ((zs.length : Int) - 1)) from by
      simp only [nodesB, g0, Bool.true_and]
      exact List.all_eq_not_any_not)
    go_enter Try.func123, Try.ntmps123
    go_wp2_with fail
    rw [← HX.out]
    refine C1.out.mono ?_
    rintro e w1 ⟨rfl, b2⟩
    have hc1 := (b2.cell (p := ⟨w.heap.size, 0, none⟩) hlt).trans hc
    have hlt1 := Nat.lt_of_lt_of_le hlt b2.size
    have i3 := i2.keep (b2.mono b1.size)
    have HB := Lib.hid (b1.trans (b2.mono b1.size))
    have C2 := Lib.hid (c_containsFuncIC 153 (.pointer (some ⟨w.heap.size, 0, none⟩)) (fun x => !inR x 0 ((zs.length : Int) - 1)) A2 cap2 ns w1 (fun x w => by kernel_rfl)
      (fun x W hb => (c_hasNodes1 x A zs.length cap _ W hl ((hb.cell (p := ⟨w.heap.size, 0, none⟩) hlt1).trans hc1)).mono fun _ _ ⟨he, hw⟩ => ⟨he, hw ▸ Below.refl _ _⟩) i3 (Nat.le_trans b1.size b2.size) hl2)
    clear b1 b2 hc hc1 i2 i3 hlt hlt1
    go_wp2_with fail
    refine C2.out.mono ?_
    rintro e w2 ⟨rfl, b3⟩
    have HB2 := Lib.hid (HB.out.trans (b3.mono HB.out.size))
    clear b3
    go_wp2
    go_ret
    exact ⟨ret_b HN.out.symm, HB2.out⟩
def nodeB (zs : List Int) (x : Int) : Bool := treeB zs && inR x 0 ((zs.length : Int) - 1)
set_option maxHeartbeats 400000 in
theorem c_l6Node {H : Nat} (A : Option Addr) (cap : Nat) (zs : List Int) (x : Int) (w : World) (h : Ints w H A zs) (hH : H ≤ w.heap.size) (hl : zs.length ≤ 100000000) :
    Calls Try.prog 122 #[.agg #[.slice A zs.length cap], .int .i64 x] w fun e w' => e = .returned (.bool (nodeB zs x)) ∧ Below w.heap.size w w' := by
  obtain ⟨X, hX⟩ : ∃ X, X = w.alloc (.cells #[.slice A zs.length cap] 51) := ⟨_, rfl⟩
  have b1 : Below w.heap.size w X := by rw [hX]; exact (Below.refl _ _).alloc (Nat.le_refl _) _
  have hlt : w.heap.size < X.heap.size := by rw [hX]; simp
  have hc : X.cell? ⟨w.heap.size, 0, none⟩ = some (.slice A zs.length cap) := by rw [hX]; exact new1_cell _ _ _
  have C1 := Lib.hid (c_l6Good A cap zs X ((h.more hH).keep b1) b1.size hl)
  have HX := Lib.hid hX
  clear h hX
  cases g0 : treeB zs
  · rw [show nodeB zs x = false from by simp [nodeB, g0]]
    go_enter Try.func122, Try.ntmps122
    go_wp2_with fail
    rw [← HX.out]
    refine C1.out.mono ?_
    rintro e w1 ⟨rfl, b2⟩
    have HB := Lib.hid (b1.trans (b2.mono b1.size))
    clear b1 b2 hc
    go_wp2
    go_ret
    exact ⟨rfl, HB.out⟩
  · rw [show nodeB zs x = inR x 0 ((zs.length : Int) - 1) from by simp [nodeB, g0]]
    go_enter Try.func122, Try.ntmps122
    go_wp2_with fail
    rw [← HX.out]
    refine C1.out.mono ?_
    rintro e w1 ⟨rfl, b2⟩
    have hc1 := (b2.cell (p := ⟨w.heap.size, 0, none⟩) hlt).trans hc
    have HB := Lib.hid (b1.trans (b2.mono b1.size))
    clear b1 b2 hc
    go_wp2_with (go_at_call 112; refine (c_l1In _ _ _ _).mono ?_; rintro e _ ⟨rfl, rfl⟩)
    go_ret
    exact ⟨rfl, HB.out⟩
end Go.Proofs.Ytkoccbjeoihbiaa
