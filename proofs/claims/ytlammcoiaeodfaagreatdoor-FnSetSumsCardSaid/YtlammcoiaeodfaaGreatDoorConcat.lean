/- Two lists of ranges in one; a list turned round; a list merged. -/
import Derived.Test.YtlammcoiaeodfaaGreatDoorMerge
namespace Go.Proofs.YtlammcoiaeodfaaGreatDoor
open Go.RowKit
set_option linter.unusedVariables false
set_option maxRecDepth 100000

set_option maxHeartbeats 4000000 in
theorem c_concat2 {H : Nat} (g : Nat) (A1 : Option Addr) (c1 : Nat) (L1 : List (Int × Int)) (A2 : Option Addr) (c2 : Nat) (L2 : List (Int × Int)) (w : World) (h1 : Rngs w H A1 L1) (h2 : Rngs w H A2 L2) (hH : H ≤ w.heap.size) (hl1 : L1.length ≤ 1000000) (hl2 : L2.length ≤ 1000000) (hP : g < w.heap.size)
    (k0 : w.cell? ⟨g, 0, none⟩ = some (.slice A1 L1.length c1)) (k1 : w.cell? ⟨g, 1, none⟩ = some (.slice A2 L2.length c2)) :
    Calls Tryz.prog 24 #[.slice (some ⟨g, 0, none⟩) 2 2] w fun e w' => ∃ A' cap', e = .returned (.slice A' (L1 ++ L2).length cap') ∧ OwnR w' w.heap.size A' cap' (L1 ++ L2) ∧ Below w.heap.size w w' := by
  have H1 := Lib.hid (h1.more hH)
  have H2 := Lib.hid (h2.more hH)
  clear h1 h2
  go_enter Tryz.func24, Tryz.ntmps24
  go_wp2
  refine wp_loop_rounds 3 ?_
  rw [rounds_succ]
  go_wp2
  rw [rounds_succ]
  go_wp2
  rw [rounds_succ]
  go_wp2_with fail
  have C := c_growR (L1.length + L2.length) w (by omega)
  rw [Int.natCast_add] at C
  refine C.mono ?_
  rintro e w1 ⟨A3, c3, rfl, o3, b3⟩
  have j0 := (b3.cell (p := ⟨g, 0, none⟩) hP).trans k0
  have j1 := (b3.cell (p := ⟨g, 1, none⟩) hP).trans k1
  have s1 := b3.size
  have HO := Lib.hid o3
  have HB := Lib.hid b3
  clear o3 b3 C k0 k1
  go_wp2
  refine wp_loop_rounds 3 ?_
  rw [rounds_succ]
  go_wp2_with (at_builtin; refine wpList_appRz _ rfl _ _ rfl w.heap.size A3 c3 [] rfl HO.out L1 A1 c1 rfl (H1.out.keep HB.out) (by simp; omega) s1 ?_; intro A4 c4 w2 o4 b4)
  have i1 := (b4.cell (p := ⟨g, 1, none⟩) hP).trans j1
  have HO4 : Hid (OwnR w2 w.heap.size A4 c4 L1) := Lib.hid (by simpa using o4)
  have HB4 := Lib.hid (HB.out.trans b4)
  have s2 := HB4.out.size
  clear o4 b4 HO HB
  go_wp2
  rw [rounds_succ]
  go_wp2_with (at_builtin; refine wpList_appRz _ rfl _ _ rfl w.heap.size A4 c4 L1 rfl HO4.out L2 A2 c2 rfl (H2.out.keep HB4.out) (by omega) s2 ?_; intro A5 c5 w3 o5 b5)
  have HO5 := Lib.hid o5
  have HB5 := Lib.hid (HB4.out.trans b5)
  clear o5 b5 HO4 HB4
  go_wp2
  rw [rounds_succ]
  go_wp2
  go_ret
  exact ⟨A5, c5, by rw [List.length_append]; rfl, HO5.out, HB5.out⟩
set_option maxHeartbeats 4000000 in
theorem c_opposite {H : Nat} (A : Option Addr) (cap : Nat) (rs : List (Int × Int)) (w : World) (h : Rngs w H A rs) (hH : H ≤ w.heap.size) (hl : rs.length ≤ 1000000) (hw : WordRs rs) :
    Calls Tryz.prog 26 #[.slice A rs.length cap] w fun e w' => ∃ A' cap', e = .returned (.slice A' (oppL rs).length cap') ∧ OwnR w' w.heap.size A' cap' (oppL rs) ∧ Below w.heap.size w w' := by
  have HI := Lib.hid (h.more hH)
  have HW := Lib.hid hw
  have HWE := Lib.hid (show ∀ q ∈ rs, wordE q from fun q hq => ⟨by have := hw q hq; omega, (hw q hq).2.2⟩)
  have S := Lib.hid (OwnR.nil w w.heap.size)
  clear h hw
  go_enter Tryz.func26, Tryz.ntmps26
  go_wp2
  go_loopw [3, 4, 9] (fun v fr i wr => ∃ (k : Nat) (A1 : Option Addr) (c1 : Nat), k ≤ rs.length ∧ i = .int .i64 k ∧ v = .slice A1 (oppK rs k).1.length c1 ∧ fr = .int .i64 (oppK rs k).2 ∧ Hid (OwnR wr w.heap.size A1 c1 (oppK rs k).1) ∧ Hid (Below w.heap.size w wr)) (fun _ _ i _ => rs.length - (intOf i).toNat)
  case atStart => exact ⟨0, none, 0, Nat.zero_le _, rfl, rfl, rfl, S, Lib.hid (Below.refl _ _)⟩
  case round =>
    clear S
    obtain ⟨k, A1, c1, hk, rfl, rfl, rfl, HO, HB⟩ := hrel
    obtain ⟨⟨f1, f2⟩, hlen⟩ := oppK_keeps HWE.out k hk
    have hsz := HB.out.size
    by_cases hlt : k < rs.length
    · have HN := Lib.hid (oppK_step rs k hlt)
      obtain ⟨w1, w2, w3⟩ := HW.out.at_ hlt
      obtain ⟨ad, rfl, hadb, hc, hd⟩ := (HI.out.keep HB.out).at_ hlt
      have hi : (k : Int) < (rs.length : Int) := by omega
      clear HI HW HWE
      generalize rs.getD k (0, 0) = e at *
      generalize oppK rs k = s at *
      obtain ⟨x, y⟩ := e
      obtain ⟨out, f⟩ := s
      simp only at hc hd w1 w2 w3 f1 f2 hlen HO
      have r1 := IntWalk.i64_in (x - 1) (by omega)
      have r2 := IntWalk.i64_in (y + 1) (by omega)
      by_cases g1 : f < x
      · have HQ := Lib.hid (HN.out.trans (oppStep_y (out := out) (f := f) (r := (x, y)) g1))
        have tp := Lib.hid (HO.out.top)
        go_wp2_with (at_builtin; refine wpList_appRG _ rfl _ _ rfl w.heap.size A1 c1 out rfl ((HO.out.push _).push _) (f, x - 1) _ rfl (two_cells_at _ _ _ _ _ (by simp)).1 (two_cells_at _ _ _ _ _ (by simp)).2 (by omega) (by simp; omega) ?_; intro A2 c2 w2 o2 b2 g2; have y1 := (g2.cell_far (a := ⟨wr.heap.size, 1, none⟩) (by simp; omega) (fun e => by have := tp.out _ e.symm; simp at this)).trans ((World.cell?_alloc_lt _ _ _ (by simp)).trans (Rb.new x y wr 47).c1))
        have HO2 := Lib.hid o2
        have HB2 := Lib.hid (((HB.out.alloc hsz _).alloc (by simp; omega) _).trans b2)
        clear o2 b2 g2 y1 HO HB
        go_wp2
        go_roundw
        case rel => exact ⟨k + 1, A2, c2, by omega, by go_num, by rw [HQ.out]; simp, by rw [HQ.out], Lib.hid (by rw [HQ.out]; exact HO2.out), HB2⟩
        case measure => simp [intOf]; omega
      · have HQ := Lib.hid (HN.out.trans (oppStep_n (out := out) (f := f) (r := (x, y)) g1))
        go_wp2
        go_roundw
        case rel => exact ⟨k + 1, A1, c1, by omega, by go_num, by rw [HQ.out], by rw [HQ.out], Lib.hid (by rw [HQ.out]; exact HO.out.push _), Lib.hid (HB.out.alloc hsz _)⟩
        case measure => simp [intOf]; omega
    · obtain rfl : k = rs.length := by omega
      have HE := Lib.hid (oppK_all rs)
      clear HI HW HWE
      generalize oppK rs rs.length = s at *
      obtain ⟨out, f⟩ := s
      simp only at f1 f2 hlen HO
      by_cases g1 : f ≤ 65535
      · have HQ : Hid (out ++ [(f, 65535)] = oppL rs) := Lib.hid (by have := HE.out; unfold oppEnd at this; rw [if_pos g1] at this; exact this)
        go_wp2_with (at_builtin; refine wpList_appR _ rfl _ _ rfl w.heap.size A1 c1 out rfl (HO.out.push _) (f, 65535) _ rfl (two_cells _ _ _ _).1 (two_cells _ _ _ _).2 (by omega) (by simp; omega) ?_; intro A2 c2 w2 o2 b2)
        rw [HQ.out] at o2
        have HO2 := Lib.hid o2
        have HB2 := Lib.hid ((HB.out.alloc hsz _).trans b2)
        clear o2 b2 HO HB
        go_wp2
        go_ret
        exact ⟨A2, c2, by rw [← HQ.out, List.length_append]; rfl, HO2.out, HB2.out⟩
      · have HQ : Hid (out = oppL rs) := Lib.hid (by have := HE.out; unfold oppEnd at this; rw [if_neg g1] at this; exact this)
        go_wp2
        go_ret
        exact ⟨A1, c1, by rw [← HQ.out]; rfl, by rw [← HQ.out]; exact HO.out, HB.out⟩
end Go.Proofs.YtlammcoiaeodfaaGreatDoor
