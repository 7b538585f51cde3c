/- The face of a node towards another one. -/
import Derived.Test.YtkoccbjeoihbiaaPath
namespace Go.Proofs.Ytkoccbjeoihbiaa
open Go.RowKit
set_option linter.unusedVariables false
set_option maxRecDepth 100000

theorem add_far (a : Addr) (k : Nat) : a.add (k + 1) = ⟨a.block, a.off + (k + 1), none⟩ := by
  unfold Addr.add
  split <;> simp_all
theorem idx_none {f : Int → Bool} {p : List Int} (h : ∀ j, j < p.length → f (p.getD j 0) = false) : p.findIdx f = p.length := by
  refine List.findIdx_eq_length.2 fun x hx => ?_
  obtain ⟨j, hj, rfl⟩ := List.getElem_of_mem hx
  have := h j hj
  simpa [hj] using this
theorem idx_some {f : Int → Bool} {p : List Int} {k : Nat} (hk : k < p.length) (h1 : f (p.getD k 0) = true) (h : ∀ j, j < k → f (p.getD j 0) = false) : p.findIdx f = k := by
  refine (List.findIdx_eq hk).2 ⟨by simpa [hk] using h1, fun j hj => ?_⟩
  have := h j hj
  simpa [show j < p.length by omega] using this
theorem FoundI.idx {f : Int → Bool} {p : List Int} {r : Int} (h : FoundI f p r) : (r = -1 ∧ p.findIdx f = p.length) ∨ ∃ k : Nat, r = k ∧ k < p.length ∧ p.findIdx f = k ∧ f (p.getD k 0) = true := by
  rcases h with ⟨rfl, h⟩ | ⟨k, rfl, hk, h1, h⟩
  · exact .inl ⟨rfl, idx_none h⟩
  · exact .inr ⟨k, rfl, hk, idx_some hk h1 h, h1⟩
theorem pathL_last {zs : List Int} (ht : treeB zs = true) {b : Int} (h0 : 0 ≤ b) (hb : b < zs.length) : (1 ≤ (pathL zs b).length ∧ (pathL zs b).length ≤ 8) ∧ (pathL zs b).getD ((pathL zs b).length - 1) 0 = b := by
  obtain ⟨k, rfl⟩ : ∃ k : Nat, b = k := ⟨b.toNat, by omega⟩
  have h1 := upL_step ht (y := k) (by omega)
  have h2 := upL_len zs k
  have h3 := (treeB_t ht).1
  refine ⟨⟨?_, ?_⟩, ?_⟩
  · rw [pathL, List.length_reverse, h1]; simp
  · rw [pathL, List.length_reverse]; omega
  · rw [pathL, h1]; simp
def faceB (zs : List Int) (a b : Int) : Bool := nodeB zs a && nodeB zs b && !(a == b) && decide ((pathL zs b).findIdx (fun y => a == y) < (pathL zs b).length)
def faceV (zs : List Int) (a b : Int) : Int := if faceB zs a b then (pathL zs b).getD ((pathL zs b).findIdx (fun y => a == y) + 1) 0 else 0
theorem face_no {zs : List Int} {a b : Int} (h : (nodeB zs a && nodeB zs b && !(a == b)) = false) : faceV zs a b = 0 ∧ faceB zs a b = false := by
  have : faceB zs a b = false := by unfold faceB; rw [h]; rfl
  exact ⟨by unfold faceV; rw [this]; rfl, this⟩
theorem face_none {zs : List Int} {a b : Int} (h : (pathL zs b).findIdx (fun y => a == y) = (pathL zs b).length) : faceV zs a b = 0 ∧ faceB zs a b = false := by
  have : faceB zs a b = false := by unfold faceB; rw [h]; simp
  exact ⟨by unfold faceV; rw [this]; rfl, this⟩
theorem face_some {zs : List Int} {a b : Int} (h1 : nodeB zs a = true) (h2 : nodeB zs b = true) (h3 : a ≠ b) {k : Nat} (h : (pathL zs b).findIdx (fun y => a == y) = k) (hk : k < (pathL zs b).length) : faceV zs a b = (pathL zs b).getD (k + 1) 0 ∧ faceB zs a b = true := by
  have : faceB zs a b = true := by unfold faceB; rw [h, h1, h2]; simp [hk, h3]
  exact ⟨by unfold faceV; rw [this, h]; rfl, this⟩
theorem nodesB_two (zs : List Int) (x y : Int) : nodesB zs [x, y] = (nodeB zs x && nodeB zs y) := by
  simp only [nodesB, nodeB, List.all_cons, List.all_nil, Bool.and_true]
  cases treeB zs <;> simp
set_option maxHeartbeats 1000000 in
theorem c_specFaceTo {H : Nat} (A : Option Addr) (cap : Nat) (zs : List Int) (x y : Int) (w : World) (h : Ints w H A zs) (hH : H ≤ w.heap.size) (hl : zs.length ≤ 100000000) :
    Calls Try.prog 50 #[.agg #[.slice A zs.length cap], .int .i64 x, .int .i64 y] w fun e w' => e = .returned (.tuple #[.int .i64 (faceV zs x y), .bool (faceB zs x y)]) ∧ Below w.heap.size w w' := by
  obtain ⟨X, hX⟩ : ∃ X, X = w.alloc (.cells #[.slice A zs.length cap] 51) := ⟨_, rfl⟩
  have b1 : Below w.heap.size w X := by rw [hX]; exact (Below.refl _ _).alloc (Nat.le_refl _) _
  have hlt : w.heap.size < X.heap.size := by rw [hX]; simp
  have hc : X.cell? ⟨w.heap.size, 0, none⟩ = some (.slice A zs.length cap) := by rw [hX]; exact new1_cell _ _ _
  have i1 := (h.more hH).keep b1
  have C1 := Lib.hid (c_l6Node A cap zs x X i1 b1.size hl)
  have HX := Lib.hid hX
  clear h hX
  cases g0 : nodeB zs x
  · rw [(face_no (a := x) (b := y) (by rw [g0]; rfl)).1, (face_no (a := x) (b := y) (by rw [g0]; rfl)).2]
    go_enter Try.func50, Try.ntmps50
    go_wp2_with fail
    rw [← HX.out]
    refine C1.out.mono ?_
    rintro e w1 ⟨rfl, b2⟩
    have HB := Lib.hid (b1.trans (b2.mono b1.size))
    rw [g0]
    clear b1 b2 hc i1
    go_wp2
    go_ret2
    exact ⟨rfl, HB.out⟩
  · cases g1 : nodeB zs y
    · rw [(face_no (a := x) (b := y) (by rw [g0, g1]; rfl)).1, (face_no (a := x) (b := y) (by rw [g0, g1]; rfl)).2]
      go_enter Try.func50, Try.ntmps50
      go_wp2_with fail
      rw [← HX.out]
      refine C1.out.mono ?_
      rintro e w1 ⟨rfl, b2⟩
      rw [g0]
      have hc1 := (b2.cell (p := ⟨w.heap.size, 0, none⟩) hlt).trans hc
      have i2 := i1.keep (b2.mono b1.size)
      have HB := Lib.hid (b1.trans (b2.mono b1.size))
      clear b1 b2 hc i1
      go_wp2_with fail
      refine (c_l6Node A cap zs y w1 i2 HB.out.size hl).mono ?_
      rintro e w2 ⟨rfl, b3⟩
      rw [g1]
      have HB2 := Lib.hid (HB.out.trans (b3.mono HB.out.size))
      clear b3 hc1 i2
      go_wp2
      go_ret2
      exact ⟨rfl, HB2.out⟩
    · by_cases hxy : x = y
      · subst hxy
        rw [(face_no (zs := zs) (a := x) (b := x) (by simp)).1, (face_no (zs := zs) (a := x) (b := x) (by simp)).2]
        go_enter Try.func50, Try.ntmps50
        go_wp2_with fail
        rw [← HX.out]
        refine C1.out.mono ?_
        rintro e w1 ⟨rfl, b2⟩
        rw [g0]
        have hc1 := (b2.cell (p := ⟨w.heap.size, 0, none⟩) hlt).trans hc
        have i2 := i1.keep (b2.mono b1.size)
        have HB := Lib.hid (b1.trans (b2.mono b1.size))
        clear b1 b2 hc i1
        go_wp2_with fail
        refine (c_l6Node A cap zs x w1 i2 HB.out.size hl).mono ?_
        rintro e w2 ⟨rfl, b3⟩
        rw [g0]
        have HB2 := Lib.hid (HB.out.trans (b3.mono HB.out.size))
        have e0 : (x == x) = true := beq_self_eq_true x
        clear b3 hc1 i2
        go_wp2
        go_ret2
        exact ⟨rfl, HB2.out⟩
      · have HT := Lib.hid (nodeB_t g1)
        have HPL := Lib.hid (pathL_last HT.out.1 HT.out.2.1 HT.out.2.2)
        have HFN := Lib.hid (fun h => @face_none zs x y h)
        have HFS := Lib.hid (fun k h hk => @face_some zs x y g0 g1 hxy k h hk)
        have e0 : (x == y) = false := beq_eq_false_iff_ne.2 hxy
        go_enter Try.func50, Try.ntmps50
        go_wp2_with fail
        rw [← HX.out]
        refine C1.out.mono ?_
        rintro e w1 ⟨rfl, b2⟩
        rw [g0]
        have hlt1 := Nat.lt_of_lt_of_le hlt b2.size
        have hc1 := (b2.cell (p := ⟨w.heap.size, 0, none⟩) hlt).trans hc
        have i2 := i1.keep (b2.mono b1.size)
        have HB := Lib.hid (b1.trans (b2.mono b1.size))
        clear b1 b2 hc i1
        go_wp2_with fail
        refine (c_l6Node A cap zs y w1 i2 HB.out.size hl).mono ?_
        rintro e w2 ⟨rfl, b3⟩
        rw [g1]
        have hc2 := (b3.cell (p := ⟨w.heap.size, 0, none⟩) hlt1).trans hc1
        have i3 := i2.keep (b3.mono HB.out.size)
        have HB2 := Lib.hid (HB.out.trans (b3.mono HB.out.size))
        clear b3 hc1 i2
        go_wp2_with fail
        refine (c_l6Path A cap zs y _ i3 HB2.out.size HT.out.1 HT.out.2.1 HT.out.2.2).mono ?_
        rintro e w3 ⟨Ap, cp, rfl, op, b4⟩
        have HB3 := Lib.hid (HB2.out.trans (b4.mono HB2.out.size))
        have hp := op.ints
        clear b4 op hc2 i3
        generalize pathL zs y = p at *
        obtain ⟨⟨hp1, hp8⟩, hpl⟩ := HPL.out
        have HPE := Lib.hid hpl
        clear hpl HPL
        go_wp2
        go_loop [9] (fun i => ∃ k : Nat, k + 1 ≤ p.length ∧ i = .int .i64 k ∧ Hid (∀ j, j < k → (x == p.getD j 0) = false)) (fun i => p.length - (intOf i).toNat)
        case atStart => exact ⟨0, by omega, rfl, Lib.hid (fun j hj => absurd hj (by omega))⟩
        case round =>
          obtain ⟨k, hk, rfl, HJ⟩ := hrel
          by_cases hlt3 : k + 1 < p.length
          · obtain ⟨ad, rfl, hadb, hcz⟩ := hp.at_ (k := k) (by omega)
            obtain ⟨ad', e', hadb', hcz'⟩ := hp.at_ (k := k + 1) hlt3
            simp only [Option.some.injEq] at e'
            subst e'
            rw [add_far] at hcz'
            have HK := Lib.hid (fun h => HFS.out k (idx_some (by omega) h HJ.out) (by omega))
            have HK0 := Lib.hid (fun (h : (x == p.getD k 0) = false) (j : Nat) (hj : j < k + 1) => show (x == p.getD j 0) = false from by
              by_cases hjk : j = k
              · subst hjk; exact h
              · exact HJ.out j (by omega))
            clear HJ
            generalize p.getD k 0 = u at *
            generalize p.getD (k + 1) 0 = v at *
            clear hp
            cases e1 : (u == x)
            · have HJ := Lib.hid (HK0.out (by rw [Bool.beq_comm]; exact e1))
              go_wp2
              go_round
              case rel => exact ⟨k + 1, by omega, by go_num, HJ⟩
              case measure => simp [intOf]; omega
            · have HF := Lib.hid (HK.out (by rw [Bool.beq_comm]; exact e1))
              go_wp2
              go_ret2
              exact ⟨by rw [HF.out.1, HF.out.2]; rfl, HB3.out⟩
          · have HF := Lib.hid (HFN.out (idx_none fun j hj => by
              by_cases hjk : j < k
              · exact HJ.out j hjk
              · rw [show j = p.length - 1 by omega, HPE.out]; exact e0))
            go_wp2
            go_ret2
            exact ⟨by rw [HF.out.1, HF.out.2]; rfl, HB3.out⟩
set_option maxHeartbeats 1000000 in
theorem c_implFaceTo {H : Nat} (A : Option Addr) (cap : Nat) (zs : List Int) (x y : Int) (w : World) (h : Ints w H A zs) (hH : H ≤ w.heap.size) (hl : zs.length ≤ 100000000) :
    Calls Try.prog 51 #[.agg #[.slice A zs.length cap], .int .i64 x, .int .i64 y] w fun e w' => e = .returned (.tuple #[.int .i64 (faceV zs x y), .bool (faceB zs x y)]) ∧ Below w.heap.size w w' := by
  obtain ⟨X, hX⟩ : ∃ X, X = (w.alloc (.cells #[.slice A zs.length cap] 51)).alloc (.cells #[.int .i64 x, .int .i64 y] 3) := ⟨_, rfl⟩
  have b0 : Below w.heap.size w (w.alloc (.cells #[.slice A zs.length cap] 51)) := (Below.refl _ _).alloc (Nat.le_refl _) _
  have b1 : Below w.heap.size w X := by rw [hX]; exact b0.alloc b0.size _
  have hlt : w.heap.size < X.heap.size := by rw [hX]; simp; omega
  have hc : X.cell? ⟨w.heap.size, 0, none⟩ = some (.slice A zs.length cap) := by
    rw [hX, World.cell?_alloc_lt _ _ _ (by simp)]
    exact new1_cell _ _ _
  have i1 := (h.more hH).keep b1
  have ix : Ints X X.heap.size (some ⟨w.heap.size + 1, 0, none⟩) [x, y] := by
    rw [hX]
    have := (show OwnI ((w.alloc (.cells #[.slice A zs.length cap] 51)).alloc (.cells #[.int .i64 x, .int .i64 y] 3)) 0 (some ⟨(w.alloc (.cells #[.slice A zs.length cap] 51)).heap.size, 0, none⟩) 2 [x, y] from World.ownsRow_lit _ #[.int .i64 x, .int .i64 y] 2 (Nat.zero_le _) (by unfold maxLen; omega) rfl).ints
    simp only [World.size_alloc] at this ⊢
    exact this
  have C1 := Lib.hid (c_hasNodes A cap zs (some ⟨w.heap.size + 1, 0, none⟩) 2 [x, y] X i1 ix b1.size (Nat.le_refl _) hl (by simp))
  rw [nodesB_two] at C1
  have HX := Lib.hid hX
  clear h hX b0 ix
  cases g0 : (nodeB zs x && nodeB zs y)
  · rw [(face_no (a := x) (b := y) (by rw [g0]; rfl)).1, (face_no (a := x) (b := y) (by rw [g0]; rfl)).2]
    go_enter Try.func51, Try.ntmps51
    go_wp2_with fail
    rw [← HX.out]
    refine C1.out.mono ?_
    rintro e w1 ⟨rfl, b2⟩
    have HB := Lib.hid (b1.trans (b2.mono b1.size))
    rw [g0]
    clear b1 b2 hc i1
    go_wp2
    go_ret2
    exact ⟨rfl, HB.out⟩
  · by_cases hxy : x = y
    · subst hxy
      rw [(face_no (zs := zs) (a := x) (b := x) (by simp)).1, (face_no (zs := zs) (a := x) (b := x) (by simp)).2]
      go_enter Try.func51, Try.ntmps51
      go_wp2_with fail
      rw [← HX.out]
      refine C1.out.mono ?_
      rintro e w1 ⟨rfl, b2⟩
      rw [g0]
      have HB := Lib.hid (b1.trans (b2.mono b1.size))
      have e0 : (x == x) = true := beq_self_eq_true x
      clear b1 b2 hc i1
      go_wp2
      go_ret2
      exact ⟨rfl, HB.out⟩
    · have hg : nodeB zs x = true ∧ nodeB zs y = true := by simpa using g0
      have HT := Lib.hid (nodeB_t hg.2)
      have HPL := Lib.hid (pathL_last HT.out.1 HT.out.2.1 HT.out.2.2)
      have HFN := Lib.hid (fun h => @face_none zs x y h)
      have HFS := Lib.hid (fun k h hk => @face_some zs x y hg.1 hg.2 hxy k h hk)
      have e0 : (x == y) = false := beq_eq_false_iff_ne.2 hxy
      clear hg
      go_enter Try.func51, Try.ntmps51
      go_wp2_with fail
      rw [← HX.out]
      refine C1.out.mono ?_
      rintro e w1 ⟨rfl, b2⟩
      rw [g0]
      have hc1 := (b2.cell (p := ⟨w.heap.size, 0, none⟩) hlt).trans hc
      have i2 := i1.keep (b2.mono b1.size)
      have HB := Lib.hid (b1.trans (b2.mono b1.size))
      clear b1 b2 hc i1
      go_wp2_with fail
      refine (c_path A cap zs y _ i2 HB.out.size HT.out.1 HT.out.2.1 HT.out.2.2).mono ?_
      rintro e w3 ⟨Ap, cp, rfl, op, b4⟩
      have HB3 := Lib.hid (HB.out.trans (b4.mono HB.out.size))
      have hp := op.ints
      clear b4 op hc1 i2
      generalize pathL zs y = p at *
      obtain ⟨⟨hp1, hp8⟩, hpl⟩ := HPL.out
      have HPE := Lib.hid hpl
      clear hpl HPL
      go_wp2_with fail
      refine (c_indexI Ap cp p x _ hp (by omega)).mono ?_
      rintro e _ ⟨r, rfl, hr, rfl⟩
      rcases hr.idx with ⟨rfl, hi⟩ | ⟨k, rfl, hk, hi, hf⟩
      · have HF := Lib.hid (HFN.out hi)
        clear hr hi hp
        go_wp2
        go_ret2
        exact ⟨by rw [HF.out.1, HF.out.2]; rfl, HB3.out⟩
      · have HF := Lib.hid (HFS.out k hi hk)
        have hk1 : k + 1 < p.length := by
          by_cases h2 : k + 1 < p.length
          · exact h2
          · rw [show k = p.length - 1 by omega, HPE.out, e0] at hf
            cases hf
        obtain ⟨ad, rfl, hadb, hcz⟩ := hp.at_ hk1
        rw [add_far] at hcz
        clear hr hi hf hp
        generalize p.getD (k + 1) 0 = v at *
        go_wp2
        go_ret2
        exact ⟨by rw [HF.out.1, HF.out.2]; rfl, HB3.out⟩
end Go.Proofs.Ytkoccbjeoihbiaa
