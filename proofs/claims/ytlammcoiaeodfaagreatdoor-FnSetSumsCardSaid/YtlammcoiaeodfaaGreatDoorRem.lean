/- A set without a range: by the reference. -/
import Derived.Test.YtlammcoiaeodfaaGreatDoorUni
namespace Go.Proofs.YtlammcoiaeodfaaGreatDoor
open Go.RowKit
set_option linter.unusedVariables false
set_option maxRecDepth 100000

theorem remP_nn {r e : Int × Int} (h : ¬ e.1 < r.1) (k : ¬ r.2 < e.2) : remP r e = [] := by unfold remP; rw [if_neg h, if_neg k]; rfl
theorem remP_yn {r e : Int × Int} (h : e.1 < r.1) (k : ¬ r.2 < e.2) : remP r e = [(e.1, min e.2 (r.1 - 1))] := by unfold remP; rw [if_pos h, if_neg k]; rfl
theorem remP_ny {r e : Int × Int} (h : ¬ e.1 < r.1) (k : r.2 < e.2) : remP r e = [(max e.1 (r.2 + 1), e.2)] := by unfold remP; rw [if_neg h, if_pos k]; rfl
theorem remP_yy {r e : Int × Int} (h : e.1 < r.1) (k : r.2 < e.2) : remP r e = [(e.1, min e.2 (r.1 - 1))] ++ [(max e.1 (r.2 + 1), e.2)] := by unfold remP; rw [if_pos h, if_pos k]
set_option maxHeartbeats 8000000 in
theorem c_l5Remove {H : Nat} (A : Option Addr) (cap : Nat) (rs : List (Int × Int)) (x0 y0 : Int) (w : World) (h : Rngs w H A rs) (hH : H ≤ w.heap.size) (hl : rs.length ≤ 1000000) (hw : WordRs rs) (hx : 0 ≤ x0 ∧ x0 ≤ y0 ∧ y0 ≤ 65535) :
    Calls Tryz.prog 51 #[.slice A rs.length cap, .agg #[.int .i64 x0, .int .i64 y0]] w fun e w' => ∃ A' cap', e = .returned (.slice A' (remL rs (x0, y0)).length cap') ∧ OwnR w' w.heap.size A' cap' (remL rs (x0, y0)) ∧ Below w.heap.size w w' := by
  have h1 := h.more hH
  have HW := Lib.hid hw
  have S := Lib.hid (addW_start w x0 y0)
  obtain ⟨v1, v2, v3⟩ := hx
  clear h hw
  go_enter Tryz.func51, Tryz.ntmps51
  go_wp2
  go_loopw [5, 6] (fun v i wr => ∃ (k : Nat) (A1 : Option Addr) (c1 : Nat), k ≤ rs.length ∧ i = .int .i64 k ∧ v = .slice A1 (rmK rs (x0, y0) k).length c1 ∧ Hid (AddW w (rmK rs (x0, y0) k) x0 y0 A1 c1 wr)) (fun _ i _ => rs.length - (intOf i).toNat)
  case atStart => exact ⟨0, _, 0, Nat.zero_le _, rfl, rfl, S⟩
  case round =>
    clear S
    obtain ⟨k, A1, c1, hk, rfl, rfl, HS⟩ := hrel
    have hlen := rmK_len rs (x0, y0) k hk
    have hsz := HS.out.size
    by_cases hlt : k < rs.length
    · have HN := Lib.hid (rmK_step rs (x0, y0) k hlt)
      obtain ⟨w1, w2, w3⟩ := HW.out.at_ hlt
      obtain ⟨ad, rfl, hadb, hc, hd⟩ := (h1.keep HS.out.bel).at_ hlt
      have hi : (k : Int) < (rs.length : Int) := by omega
      obtain ⟨_, f0, f1, e0, e1⟩ := HS.out.box
      clear h1 HW
      generalize rs.getD k (0, 0) = e at *
      generalize rmK rs (x0, y0) k = out at *
      obtain ⟨x, y⟩ := e
      simp only at hc hd w1 w2 w3
      have HC := Lib.hid (fun (W : World) (b : Below (w.heap.size + 1) wr W) => (⟨(b.cell (by rw [block_of_add]; omega)).trans hc, (b.cell (by simp only [block_of_add]; omega)).trans hd, (b.cell (p := ⟨w.heap.size, 0, none⟩) (Nat.lt_succ_self _)).trans e0, (b.cell (p := ⟨w.heap.size, 1, none⟩) (Nat.lt_succ_self _)).trans e1⟩ :
        W.cell? (ad.add (k * 2)) = some (.int .i64 x) ∧ W.cell? ⟨(ad.add (k * 2)).block, (ad.add (k * 2)).off + 1, none⟩ = some (.int .i64 y) ∧ W.cell? ⟨w.heap.size, 0, none⟩ = some (.int .i64 x0) ∧ W.cell? ⟨w.heap.size, 1, none⟩ = some (.int .i64 y0)))
      have bR := Lib.hid (Below.refl (w.heap.size + 1) wr)
      have r1 := IntWalk.i64_in (x0 - 1) (by omega)
      have r2 := IntWalk.i64_in (y0 + 1) (by omega)
      by_cases k1 : x < x0
      · go_wp2
        go_quiet (fail)
        generalize hq : World.drewN wr _ = wq
        have HSq : Hid (AddW w _ x0 y0 _ _ wq) := Lib.hid (by rw [← hq]; exact HS.out.drewN _)
        have bq : Hid (Below (w.heap.size + 1) wr wq) := Lib.hid (by rw [← hq]; exact below_dw bR.out _)
        obtain ⟨hcq, hdq, e0q, e1q⟩ := HC.out wq bq.out
        clear hq HS
        go_wp2_with fail
        go_region_held3 (fun W => W.cell? (ad.add (k * 2)) = some (.int .i64 x) ∧ W.cell? ⟨(ad.add (k * 2)).block, (ad.add (k * 2)).off + 1, none⟩ = some (.int .i64 y) ∧ W.cell? ⟨w.heap.size, 0, none⟩ = some (.int .i64 x0) ∧ W.cell? ⟨w.heap.size, 1, none⟩ = some (.int .i64 y0)) (refine ⟨?_, ?_, ?_, ?_⟩ <;> first | assumption | go_keep)
          (first
            | (go_at_call 44; refine (c_l1LeastR _ _ _).mono ?_; rintro e _ ⟨rfl, rfl⟩)
            | (refine step_appR _ (by rfl) _ _ (by rfl) (w.heap.size + 1) A1 c1 (out) (by rfl) ((HSq.out.drew).push _).own (x, min y (x0 - 1)) _ (by rfl) (two_cells _ _ _ _).1 (two_cells _ _ _ _).2 (by omega) ((HSq.out.drew).push _).size ?_; intro A2 c2 u2 o2 q2; have b2 := (((bq.out.drew).alloc (HSq.out.size) _).trans q2); obtain ⟨hc2, hd2, g02, g12⟩ := HC.out _ b2))
        have HS2 := Lib.hid (((HSq.out.drew).push _).next o2 q2)
        have hb2 := Lib.hid b2
        clear o2 q2 b2 HSq
        clear hcq hdq e0q e1q hc hd e0 e1 bq f0 f1
        by_cases k2 : y0 < y
        · have HQ := Lib.hid (HN.out.trans (show out ++ remP (x0, y0) (x, y) = out ++ [(x, min y (x0 - 1))] ++ [(max x (y0 + 1), y)] from by rw [remP_yy (by simp only []; omega) (by simp only []; omega)]; rw [List.append_assoc]))
          go_wp2
          go_quiet (fail)
          generalize hq : World.drewN u2 _ = wq
          have HSq : Hid (AddW w _ x0 y0 _ _ wq) := Lib.hid (by rw [← hq]; exact HS2.out.drewN _)
          have bq : Hid (Below (w.heap.size + 1) wr wq) := Lib.hid (by rw [← hq]; exact below_dw hb2.out _)
          obtain ⟨hcq, hdq, e0q, e1q⟩ := HC.out wq bq.out
          clear hq HS2
          go_wp2_with fail
          go_region_held3 (fun W => W.cell? (ad.add (k * 2)) = some (.int .i64 x) ∧ W.cell? ⟨(ad.add (k * 2)).block, (ad.add (k * 2)).off + 1, none⟩ = some (.int .i64 y) ∧ W.cell? ⟨w.heap.size, 0, none⟩ = some (.int .i64 x0) ∧ W.cell? ⟨w.heap.size, 1, none⟩ = some (.int .i64 y0)) (refine ⟨?_, ?_, ?_, ?_⟩ <;> first | assumption | go_keep)
            (first
              | (go_at_call 50; refine (c_l1MostR _ _ _).mono ?_; rintro e _ ⟨rfl, rfl⟩)
              | (refine step_appR _ (by rfl) _ _ (by rfl) (w.heap.size + 1) A2 c2 (out ++ [(x, min y (x0 - 1))]) (by rw [List.length_append]; rfl) ((HSq.out.drew).push _).own (max x (y0 + 1), y) _ (by rfl) (two_cells _ _ _ _).1 (two_cells _ _ _ _).2 (by simp; omega) ((HSq.out.drew).push _).size ?_; intro A3 c3 u3 o3 q3; have b3 := (((bq.out.drew).alloc (HSq.out.size) _).trans q3); obtain ⟨hc3, hd3, g03, g13⟩ := HC.out _ b3))
          have HS3 := Lib.hid (((HSq.out.drew).push _).next o3 q3)
          have hb3 := Lib.hid b3
          clear o3 q3 b3 HSq
          go_wp2
          go_roundw
          case rel => exact ⟨k + 1, A3, c3, by omega, by go_num, by rw [HQ.out]; try simp, Lib.hid (by rw [HQ.out]; exact HS3.out)⟩
          case measure => simp [intOf]; omega
        · have HQ := Lib.hid (HN.out.trans (show out ++ remP (x0, y0) (x, y) = out ++ [(x, min y (x0 - 1))] from by rw [remP_yn (by simp only []; omega) (by simp only []; omega)]))
          go_wp2
          go_quiet (fail)
          go_wp2
          go_roundw
          case rel => exact ⟨k + 1, A2, c2, by omega, by go_num, by rw [HQ.out]; try simp, Lib.hid (by rw [HQ.out]; exact HS2.out.drewN _)⟩
          case measure => simp [intOf]; omega
      · go_wp2
        go_quiet (fail)
        by_cases k2 : y0 < y
        · have HQ := Lib.hid (HN.out.trans (show out ++ remP (x0, y0) (x, y) = out ++ [(max x (y0 + 1), y)] from by rw [remP_ny (by simp only []; omega) (by simp only []; omega)]))
          go_wp2
          go_quiet (fail)
          generalize hq : World.drewN (World.drewN wr _) _ = wq
          have HSq : Hid (AddW w _ x0 y0 _ _ wq) := Lib.hid (by rw [← hq]; exact (HS.out.drewN _).drewN _)
          have bq : Hid (Below (w.heap.size + 1) wr wq) := Lib.hid (by rw [← hq]; exact below_dw (below_dw bR.out _) _)
          obtain ⟨hcq, hdq, e0q, e1q⟩ := HC.out wq bq.out
          clear hq HS
          go_wp2_with fail
          go_region_held3 (fun W => W.cell? (ad.add (k * 2)) = some (.int .i64 x) ∧ W.cell? ⟨(ad.add (k * 2)).block, (ad.add (k * 2)).off + 1, none⟩ = some (.int .i64 y) ∧ W.cell? ⟨w.heap.size, 0, none⟩ = some (.int .i64 x0) ∧ W.cell? ⟨w.heap.size, 1, none⟩ = some (.int .i64 y0)) (refine ⟨?_, ?_, ?_, ?_⟩ <;> first | assumption | go_keep)
            (first
              | (go_at_call 50; refine (c_l1MostR _ _ _).mono ?_; rintro e _ ⟨rfl, rfl⟩)
              | (refine step_appR _ (by rfl) _ _ (by rfl) (w.heap.size + 1) A1 c1 (out) (by rfl) ((HSq.out.drew).push _).own (max x (y0 + 1), y) _ (by rfl) (two_cells _ _ _ _).1 (two_cells _ _ _ _).2 (by omega) ((HSq.out.drew).push _).size ?_; intro A3 c3 u3 o3 q3; have b3 := (((bq.out.drew).alloc (HSq.out.size) _).trans q3); obtain ⟨hc3, hd3, g03, g13⟩ := HC.out _ b3))
          have HS3 := Lib.hid (((HSq.out.drew).push _).next o3 q3)
          have hb3 := Lib.hid b3
          clear o3 q3 b3 HSq
          go_wp2
          go_roundw
          case rel => exact ⟨k + 1, A3, c3, by omega, by go_num, by rw [HQ.out]; try simp, Lib.hid (by rw [HQ.out]; exact HS3.out)⟩
          case measure => simp [intOf]; omega
        · have HQ := Lib.hid (HN.out.trans (show out ++ remP (x0, y0) (x, y) = out from by rw [remP_nn (by simp only []; omega) (by simp only []; omega)]; rw [List.append_nil]))
          go_wp2
          go_quiet (fail)
          go_wp2
          go_roundw
          case rel => exact ⟨k + 1, A1, c1, by omega, by go_num, by rw [HQ.out]; try simp, Lib.hid (by rw [HQ.out]; exact (HS.out.drewN _))⟩
          case measure => simp [intOf]; omega
    · obtain rfl : k = rs.length := by omega
      clear h1 HW
      have HE := Lib.hid (rmK_all rs (x0, y0))
      go_wp2
      go_ret
      exact ⟨A1, c1, by rw [← HE.out]; rfl, by rw [← HE.out]; exact HS.out.out.1, HS.out.out.2⟩
end Go.Proofs.YtlammcoiaeodfaaGreatDoor
