/- The reference's cursor over bytes: what a draw returns lies in its range; nothing but the cursor's own block turns. -/
import Derived.Test.YtlammcoiaeodfaaGreatDoorMem
import Derived.Test.YtlammcoiaeodfaaGreatDoorLists
import Derived.Handy
namespace Go.Proofs.YtlammcoiaeodfaaGreatDoor
open Go.RowKit
set_option linter.unusedVariables false
set_option maxRecDepth 100000

/-- n bytes, in a block below H. -/
def BytesAt (w : World) (H : Nat) (A : Option Addr) (n : Nat) : Prop := ∀ i, i < n → ∃ ad x, A = some ad ∧ ad.block < H ∧ w.cell? (ad.add i) = some (.int .u8 x) ∧ 0 ≤ x ∧ x ≤ 255
theorem BytesAt.keep {w w' : World} {H n : Nat} {A : Option Addr} (h : BytesAt w H A n) (k : Below H w w') : BytesAt w' H A n := fun i hi => by
  obtain ⟨ad, x, e, hb, hc, hx⟩ := h i hi
  exact ⟨ad, x, e, hb, (k.cell (by rw [block_of_add]; exact hb)).trans hc, hx⟩
theorem BytesAt.more {w : World} {H H' n : Nat} {A : Option Addr} (h : BytesAt w H A n) (k : H ≤ H') : BytesAt w H' A n := fun i hi => by
  obtain ⟨ad, x, e, hb, hc, hx⟩ := h i hi
  exact ⟨ad, x, e, by omega, hc, hx⟩
/-- The cursor in block b, of which at most N bytes have been asked. -/
structure Cur (w : World) (b N : Nat) : Prop where
  inside : b < w.heap.size
  free0 : w.frozen? ⟨b, 0, none⟩ = false
  free1 : w.frozen? ⟨b, 1, none⟩ = false
  free2 : w.frozen? ⟨b, 2, none⟩ = false
  cells : ∃ (A : Option Addr) (n cap : Nat) (p s : Int), BytesAt w b A n ∧ n ≤ 100000 ∧ 0 ≤ p ∧ p ≤ (N : Int) ∧ w.cell? ⟨b, 0, none⟩ = some (.slice A n cap) ∧ w.cell? ⟨b, 1, none⟩ = some (.int .i64 p) ∧ w.cell? ⟨b, 2, none⟩ = some (.int .u64 s)
theorem Cur.more {w : World} {b N M : Nat} (h : Cur w b N) (k : N ≤ M) : Cur w b M := by
  obtain ⟨A, n, cap, p, s, h1, h2, h3, h4, h5⟩ := h.cells
  exact ⟨h.inside, h.free0, h.free1, h.free2, ⟨A, n, cap, p, s, h1, h2, h3, by omega, h5⟩⟩
theorem Cur.keep {w w' : World} {b N H : Nat} (h : Cur w b N) (k : Below H w w') (hH : b < H) : Cur w' b N := by
  obtain ⟨A, n, cap, p, s, h1, h2, h3, h4, h5, h6, h7⟩ := h.cells
  have c := fun o => k.cell (p := ⟨b, o, none⟩) hH
  have f := fun o => k.frozen (p := ⟨b, o, none⟩) hH
  exact ⟨Nat.lt_of_lt_of_le h.inside k.size, (f 0).trans h.free0, (f 1).trans h.free1, (f 2).trans h.free2, ⟨A, n, cap, p, s, h1.keep (k.mono (by omega)), h2, h3, h4, (c 0).trans h5, (c 1).trans h6, (c 2).trans h7⟩⟩
/-- A draw's answer. -/
def Draws (b N : Nat) (P : Int → Prop) (w : World) (e : Ending) (w' : World) : Prop := ∃ x : Int, e = .returned (.int .i64 x) ∧ P x ∧ Cur w' b N ∧ w.grownBy w' (some b)
theorem grown_drewN {a w : World} {row : Option Nat} (h : a.grownBy w row) (q : Nat) : a.grownBy (w.drewN q) row := ⟨h.os, h.tape, h.output, h.size, h.block⟩
theorem grown_setCell {a w : World} {b : Nat} (h : a.grownBy w (some b)) (o : Nat) (v : Value) : a.grownBy (w.setCell ⟨b, o, none⟩ v) (some b) := grown_trans h ⟨rfl, rfl, rfl, by simp [World.setCell], fun k _ hk => Below.heap_setCell _ _ _ k (fun e => hk (by rw [e]))⟩

theorem low255 (z : Int) : 0 ≤ wrap64 (bits .and .u64 z 255) ∧ wrap64 (bits .and .u64 z 255) ≤ 255 := by
  have h : bits .and .u64 z 255 = IntKind.u64.wrap ((BitVec.ofInt 64 z &&& BitVec.ofInt 64 255).toNat : Int) := rfl
  have h1 : (BitVec.ofInt 64 z &&& BitVec.ofInt 64 255).toNat ≤ 255 := by
    rw [BitVec.toNat_and]
    exact Nat.and_le_right
  generalize (BitVec.ofInt 64 z &&& BitVec.ofInt 64 255).toNat = m at h h1
  have h2 : IntKind.u64.wrap (m : Int) = m := by
    simp only [IntKind.wrap, IntKind.bits, IntKind.signed]
    simp
    omega
  rw [h, h2, IntWalk.wrap64_in _ ⟨by omega, by omega⟩]
  omega
theorem Cur.drewN {w : World} {b N : Nat} (h : Cur w b N) (q : Nat) : Cur (w.drewN q) b N := ⟨h.inside, h.free0, h.free1, h.free2, h.cells⟩
theorem Cur.set1 {w : World} {b N M : Nat} (h : Cur w b N) (p : Int) (h0 : 0 ≤ p) (h1 : p ≤ (M : Int)) : Cur (w.setCell ⟨b, 1, none⟩ (.int .i64 p)) b M := by
  obtain ⟨A, n, cap, _, s, hB, hn, _, _, c0, c1, c2⟩ := h.cells
  refine ⟨by rw [World.size_setCell]; exact h.inside, by rw [World.frozen?_setCell]; exact h.free0, by rw [World.frozen?_setCell]; exact h.free1, by rw [World.frozen?_setCell]; exact h.free2, A, n, cap, p, s, hB.keep ((Below.refl b w).setCell (p := ⟨b, 1, none⟩) (Nat.le_refl _) _), hn, h0, h1, ?_, ?_, ?_⟩
  · exact (World.cell?_setCell_other w ⟨b, 1, none⟩ ⟨b, 0, none⟩ _ (by simp)).trans c0
  · exact World.cell?_setCell_same w ⟨b, 1, none⟩ _ c1
  · exact (World.cell?_setCell_other w ⟨b, 1, none⟩ ⟨b, 2, none⟩ _ (by simp)).trans c2
theorem Cur.set2 {w : World} {b N : Nat} (h : Cur w b N) (s : Int) : Cur (w.setCell ⟨b, 2, none⟩ (.int .u64 s)) b N := by
  obtain ⟨A, n, cap, p, _, hB, hn, h0, h1, c0, c1, c2⟩ := h.cells
  refine ⟨by rw [World.size_setCell]; exact h.inside, by rw [World.frozen?_setCell]; exact h.free0, by rw [World.frozen?_setCell]; exact h.free1, by rw [World.frozen?_setCell]; exact h.free2, A, n, cap, p, s, hB.keep ((Below.refl b w).setCell (p := ⟨b, 2, none⟩) (Nat.le_refl _) _), hn, h0, h1, ?_, ?_, ?_⟩
  · exact (World.cell?_setCell_other w ⟨b, 2, none⟩ ⟨b, 0, none⟩ _ (by simp)).trans c0
  · exact (World.cell?_setCell_other w ⟨b, 2, none⟩ ⟨b, 1, none⟩ _ (by simp)).trans c1
  · exact World.cell?_setCell_same w ⟨b, 2, none⟩ _ c2
theorem grown_next (w : World) (b q r : Nat) (u v : Value) : w.grownBy ((((w.drewN q).setCell ⟨b, 1, none⟩ u).setCell ⟨b, 2, none⟩ v).drewN r) (some b) :=
  grown_drewN (grown_setCell (grown_setCell (grown_drewN (World.grownBy.refl _ _) _) _ _) _ _) _
set_option maxHeartbeats 1000000 in
theorem c_next (b N : Nat) (w : World) (h : Cur w b N) (hN : N ≤ 1000001) :
    Calls Tryz.prog 60 #[.pointer (some ⟨b, 0, none⟩)] w (Draws b (N + 1) (fun x => 0 ≤ x ∧ x ≤ 255) w) := by
  have h' := h
  obtain ⟨hin, f0, f1, f2, A, n, cap, p, s, hB, hn, hp0, hpN, c0, c1, c2⟩ := h
  by_cases hlt : p < (n : Int)
  · obtain ⟨i, rfl⟩ : ∃ i : Nat, p = (i : Int) := ⟨p.toNat, by omega⟩
    obtain ⟨ad, x, rfl, hadb, hcx, hx0, hx1⟩ := hB i (by omega)
    have H' := Lib.hid h'
    have HB := Lib.hid hB
    clear h' hB
    go_enter Tryz.func60, Tryz.ntmps60
    go_wp2_with fail
    go_quiet (fail)
    go_wp2_with fail
    go_quiet (fail)
    go_wp2_with fail
    go_quiet (fail)
    go_wp2
    go_ret
    exact ⟨x, rfl, ⟨hx0, hx1⟩, (((H'.out.drewN _).set1 (M := N + 1) _ (by omega) (by push_cast; omega)).set2 _).drewN _, grown_next _ _ _ _ _ _⟩
  · have H' := Lib.hid h'
    have HB := Lib.hid hB
    clear h' hB
    go_enter Tryz.func60, Tryz.ntmps60
    go_wp2_with fail
    go_quiet (fail)
    go_wp2_with fail
    go_quiet (fail)
    go_wp2
    go_ret
    exact ⟨_, rfl, low255 _, (((H'.out.drewN _).set1 (M := N + 1) _ (by omega) (by push_cast; omega)).set2 _).drewN _, grown_next _ _ _ _ _ _⟩
set_option maxHeartbeats 1000000 in
theorem c_pick (b N : Nat) (n : Int) (w : World) (h : Cur w b N) (hN : N ≤ 1000000) (hn : n ≤ 1000000) (hn0 : 0 ≤ n) :
    Calls Tryz.prog 43 #[.pointer (some ⟨b, 0, none⟩), .int .i64 n] w (Draws b (N + 2) (fun x => 0 ≤ x ∧ (x < n ∨ x = 0)) w) := by
  have H := Lib.hid h
  clear h
  by_cases h1 : n ≤ 1
  · go_enter Tryz.func43, Tryz.ntmps43
    go_wp2
    go_ret
    exact ⟨0, rfl, ⟨by omega, .inr rfl⟩, H.out.more (by omega), World.grownBy.refl _ _⟩
  · by_cases h2 : 200 < n
    · go_enter Tryz.func43, Tryz.ntmps43
      go_wp2_with fail
      refine (c_next b N _ H.out (by omega)).mono ?_
      rintro e w1 ⟨x, rfl, ⟨hx0, hx1⟩, k1, g1⟩
      have H1 := Lib.hid k1
      have G1 := Lib.hid g1
      clear k1 g1
      go_wp2_with fail
      refine (c_next b (N + 1) _ H1.out (by omega)).mono ?_
      rintro e w2 ⟨y, rfl, ⟨hy0, hy1⟩, k2, g2⟩
      have H2 := Lib.hid k2
      have G2 := Lib.hid (grown_trans G1.out g2)
      clear k2 g2
      have hne : (n == 0) = false := beq_eq_false_iff_ne.2 (by omega)
      go_wp2
      go_ret
      exact ⟨_, rfl, ⟨Int.emod_nonneg _ (by omega), .inl (Int.emod_lt_of_pos _ (by omega))⟩, H2.out, G2.out⟩
    · go_enter Tryz.func43, Tryz.ntmps43
      go_wp2_with fail
      refine (c_next b N _ H.out (by omega)).mono ?_
      rintro e w1 ⟨x, rfl, ⟨hx0, hx1⟩, k1, g1⟩
      have H1 := Lib.hid k1
      have G1 := Lib.hid g1
      clear k1 g1
      have hne : (n == 0) = false := beq_eq_false_iff_ne.2 (by omega)
      go_wp2
      go_ret
      exact ⟨_, rfl, ⟨Int.emod_nonneg _ (by omega), .inl (Int.emod_lt_of_pos _ (by omega))⟩, H1.out.more (by omega), G1.out⟩
/-- A yes or no that is drawn. -/
def DrawsB (b N : Nat) (w : World) (e : Ending) (w' : World) : Prop := ∃ x : Bool, e = .returned (.bool x) ∧ Cur w' b N ∧ w.grownBy w' (some b)
theorem c_one (b N : Nat) (n : Int) (w : World) (h : Cur w b N) (hN : N ≤ 1000000) (hn : n ≤ 1000000) (hn0 : 0 ≤ n) :
    Calls Tryz.prog 38 #[.pointer (some ⟨b, 0, none⟩), .int .i64 n] w (DrawsB b (N + 2) w) := by
  have H := Lib.hid h
  clear h
  go_enter Tryz.func38, Tryz.ntmps38
  go_wp2_with fail
  refine (c_pick b N n _ H.out hN hn hn0).mono ?_
  rintro e w1 ⟨x, rfl, ⟨hx0, hx1⟩, k1, g1⟩
  have H1 := Lib.hid k1
  have G1 := Lib.hid g1
  clear k1 g1
  go_wp2
  go_ret
  exact ⟨_, rfl, H1.out, G1.out⟩
theorem Ints.far {w w' : World} {H : Nat} {A : Option Addr} {zs : List Int} {row : Option Nat} (h : Ints w H A zs) (hg : w.grownBy w' row) (hH : H ≤ w.heap.size) (hne : ∀ ad, A = some ad → row ≠ some ad.block) : Ints w' H A zs := fun hn => by
  obtain ⟨ad, e, hb, hc⟩ := h hn
  refine ⟨ad, e, hb, fun j u hu => ?_⟩
  rw [← hc j u hu]
  exact World.cell?_of_block (hg.block _ (by rw [block_of_add]; omega) (by rw [block_of_add]; exact fun e2 => hne ad e e2.symm))
theorem ints_lit (w : World) (zs : List Int) : Ints (w.alloc (.cells (zs.map (Value.int .i64)).toArray 3)) (w.heap.size + 1) (some ⟨w.heap.size, 0, none⟩) zs := fun hn => by
  refine ⟨_, rfl, Nat.lt_succ_self _, fun j u hu => ?_⟩
  rw [add_lit]
  simp at hu
  simp [go_sem]
  exact hu
set_option maxHeartbeats 1000000 in
theorem c_among (b N H : Nat) (P : Int → Prop) (A : Option Addr) (cap : Nat) (zs : List Int) (w : World) (h : Cur w b N) (hN : N ≤ 1000000) (hA : Ints w H A zs) (hH : H ≤ w.heap.size) (hne : ∀ ad, A = some ad → (some b : Option Nat) ≠ some ad.block) (hp : 0 < zs.length) (hl : zs.length ≤ 1000) (hP : ∀ z ∈ zs, P z) :
    Calls Tryz.prog 42 #[.pointer (some ⟨b, 0, none⟩), .slice A zs.length cap] w (Draws b (N + 2) P w) := by
  have H0 := Lib.hid h
  have HA := Lib.hid hA
  have HP := Lib.hid hP
  have HNE := Lib.hid hne
  clear h hA hP hne
  go_enter Tryz.func42, Tryz.ntmps42
  go_wp2_with fail
  refine (c_pick b N _ _ H0.out hN (by omega) (by omega)).mono ?_
  rintro e w1 ⟨x, rfl, ⟨hx0, hx1⟩, k1, g1⟩
  obtain ⟨i, rfl⟩ : ∃ i : Nat, x = (i : Int) := ⟨x.toNat, by omega⟩
  have hi : i < zs.length := by omega
  obtain ⟨ad, rfl, hadb, hc⟩ := (HA.out.far g1 hH HNE.out).at_ hi
  have HPX := Lib.hid (HP.out (zs.getD i 0) (by rw [show zs.getD i 0 = zs[i] from by simp [hi]]; exact List.getElem_mem _))
  have H1 := Lib.hid k1
  have G1 := Lib.hid g1
  clear k1 g1 HA HP HNE
  generalize zs.getD i 0 = z at *
  go_wp2
  go_ret
  exact ⟨_, rfl, HPX.out, H1.out, G1.out⟩
end Go.Proofs.YtlammcoiaeodfaaGreatDoor
