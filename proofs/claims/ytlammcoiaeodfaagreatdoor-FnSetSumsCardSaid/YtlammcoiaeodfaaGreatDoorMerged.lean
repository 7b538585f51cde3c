/- A list of ranges merged by the program; its five functions over sets. -/
import Derived.Test.YtlammcoiaeodfaaGreatDoorConcat
import Derived.Test.YtlammcoiaeodfaaGreatDoorSpecU
namespace Go.Proofs.YtlammcoiaeodfaaGreatDoor
open Go.RowKit
set_option linter.unusedVariables false
set_option maxRecDepth 100000

theorem rcells_lastAt (init : List (Int × Int)) (a b : Int) : (rcells (init ++ [(a, b)]))[init.length * 2 + 1]? = some (.int .i64 b) := by
  have := (rcells_get (init ++ [(a, b)]) init.length (by simp)).2
  rw [this]
  simp
theorem WordRs.perm {a b : List (Int × Int)} (h : WordRs b) (hp : a.Perm b) : WordRs a := fun q hq => h q (hp.mem_iff.1 hq)
set_option maxHeartbeats 4000000 in
theorem c_merged {H : Nat} (A : Option Addr) (cap : Nat) (rs : List (Int × Int)) (w : World) (h : Rngs w H A rs) (hH : H ≤ w.heap.size) (hl : rs.length ≤ 1000000) (hw : WordRs rs) :
    Calls Tryz.prog 23 #[.slice A rs.length cap] w fun e w' => ∃ d A' cap', d.Perm rs ∧ Sorted1 d ∧ e = .returned (.slice A' (mergeL d).length cap') ∧ OwnR w' w.heap.size A' cap' (mergeL d) ∧ Below w.heap.size w w' := by
  have HW := Lib.hid hw
  have C1 := Lib.hid (c_cloneR A cap rs w h hH (by omega))
  clear h hw
  go_enter Tryz.func23, Tryz.ntmps23
  go_wp2_with fail
  refine C1.out.mono ?_
  rintro e w1 ⟨A1, c1, rfl, o1, b1⟩
  have HO1 := Lib.hid o1
  have HB1 := Lib.hid b1
  clear o1 b1 C1
  go_wp2_with fail
  refine (c_sortR rs w1 HO1.out (fun q hq => ⟨(HW.out q hq).1, by have := HW.out q hq; omega⟩) (by omega) HB1.out.size).mono ?_
  rintro e w2 ⟨rfl, d, hp, hs, o2, b2⟩
  have hdl := hp.length_eq
  have HD := Lib.hid (HW.out.perm hp)
  have HP := Lib.hid hp
  have HS := Lib.hid hs
  have HDC := Lib.hid o2.rngs
  have HB2 := Lib.hid (HB1.out.trans b2)
  have hbs := HB2.out.size
  have HDE := Lib.hid (show ∀ q ∈ d, wordE q from fun q hq => ⟨by have := HD.out q hq; omega, (HD.out q hq).2.2⟩)
  have S := Lib.hid (OwnR.nil w2 w2.heap.size)
  clear hp hs o2 b2 HO1 HB1 HW
  rw [← hdl]
  rw [← hdl] at hl
  clear hdl
  go_wp2
  go_loopw [4, 14] (fun v i wr => ∃ (k : Nat) (A3 : Option Addr) (c3 : Nat), k ≤ d.length ∧ i = .int .i64 k ∧ v = .slice A3 (mrg d k).length c3 ∧ Hid (OwnR wr w2.heap.size A3 c3 (mrg d k)) ∧ Hid (Below w2.heap.size w2 wr)) (fun _ i _ => d.length - (intOf i).toNat)
  case atStart => exact ⟨0, none, 0, Nat.zero_le _, rfl, rfl, S, Lib.hid (Below.refl _ _)⟩
  case round =>
    clear S
    obtain ⟨k, A3, c3, hk, rfl, rfl, HO, HB⟩ := hrel
    obtain ⟨hE, hlen⟩ := mrg_keeps HDE.out k hk
    have hE := Lib.hid hE
    have hsz := HB.out.size
    by_cases hlt : k < d.length
    · have HN := Lib.hid (mrg_step d k hlt)
      obtain ⟨w1, w2', w3⟩ := HD.out.at_ hlt
      obtain ⟨ad, rfl, hadb, hc, hd⟩ := (HDC.out.keep HB.out).at_ hlt
      have hi : (k : Int) < (d.length : Int) := by omega
      clear HD HDC HDE
      generalize d.getD k (0, 0) = e at *
      generalize mrg d k = out at *
      obtain ⟨x, y⟩ := e
      simp only at hc hd w1 w2' w3
      rcases snoc_cases out with rfl | ⟨init, ⟨l1, l2⟩, rfl⟩
      · have HQ := Lib.hid (HN.out.trans (mergeStep_nil (x, y)))
        simp only [List.length_nil]
        go_wp2
        go_quiet (fail)
        go_wp2_with (at_builtin; refine wpList_appR _ rfl _ _ rfl w2.heap.size A3 c3 [] rfl (((HO.out.push _).drewN _).push _) (x, y) _ rfl (two_cells_at _ _ _ _ _ (by simp)).1 (two_cells_at _ _ _ _ _ (by simp)).2 (by simp) (by simp; omega) ?_; intro A4 c4 w4 o4 b4)
        have HO4 := Lib.hid o4
        have HB4 := Lib.hid (((below_dw (HB.out.alloc hsz _) _).alloc (by simp; omega) _).trans b4)
        clear o4 b4 HO HB
        go_wp2
        go_roundw
        case rel => exact ⟨k + 1, A4, c4, by omega, by go_num, by rw [HQ.out]; rfl, Lib.hid (by rw [HQ.out]; exact HO4.out), HB4⟩
        case measure => simp [intOf]; omega
      · have hE2 := hE.out (l1, l2) (by simp)
        obtain ⟨e1, e2⟩ : 0 ≤ l2 ∧ l2 ≤ 65535 := hE2
        have hlen2 : (init ++ [(l1, l2)]).length = init.length + 1 := by simp
        have HL := Lib.hid (rcells_lastAt init l1 l2)
        have HU := fun c => Lib.hid (rcells_last init l1 l2 c)
        obtain ⟨g, rfl, hg⟩ := own_head HO.out (by rw [hlen2]; omega)
        have hgt : g < wr.heap.size := (World.ownsRow.lt HO.out g rfl).2
        have hcl := (World.ownsRow.cellAt HO.out (init.length * 2 + 1) (by rw [hlen2]; omega)).trans HL.out
        have hfl := World.ownsRow.frozenAt HO.out (init.length * 2 + 1)
        have hmk : init.length + 1 ≤ k := by omega
        rw [hlen2]
        obtain ⟨m, hm⟩ : ∃ m, m = init.length := ⟨_, rfl⟩
        rw [← hm] at hcl hfl hmk
        rw [← hm]
        have hji : (m : Int) < ((m + 1 : Nat) : Int) := by omega
        have hj1 : (m : Int) < (m : Int) + 1 := by omega
        have hw1 := IntWalk.i64_in (m : Int) (by omega)
        have hw2 := IntWalk.i64_in (l2 + 1) (by omega)
        have hne : wr.heap.size ≠ g := by omega
        have hcl' : ∀ o, (wr.alloc o).cell? ⟨g, m * 2 + 1, none⟩ = some (.int .i64 l2) := fun o => (World.cell?_alloc_lt wr o _ hgt).trans hcl
        have hj0 : decide ((0 : Int) < (m : Int) + 1) = true := decide_eq_true (by omega)
        have HM := Lib.hid hm
        have HL2 : Hid ((init ++ [(l1, l2)]).length = m + 1) := Lib.hid (by rw [hm]; exact hlen2)
        clear hE hlen hlen2 HL hm
        by_cases g1 : x ≤ l2 + 1
        · have HQ := Lib.hid (HN.out.trans (mergeStep_in (out := init) (l := (l1, l2)) (r := (x, y)) g1))
          go_wp2
          go_quiet (fail)
          go_wp2_with fail
          generalize hq : World.drewN (World.alloc wr _) _ = wq
          have HOq : Hid (OwnR wq w2.heap.size (some ⟨g, 0, none⟩) c3 (init ++ [(l1, l2)])) := Lib.hid (by rw [← hq]; exact (HO.out.push _).drewN _)
          have HBq : Hid (Below w2.heap.size w2 wq) := Lib.hid (by rw [← hq]; exact below_dw (HB.out.alloc hsz _) _)
          obtain ⟨_, _, _, x0, x1⟩ : Rb wq wr.heap.size x y := by rw [← hq]; exact (Rb.new x y wr _).drewN _
          replace hcl : wq.cell? ⟨g, m * 2 + 1, none⟩ = some (.int .i64 l2) := by rw [← hq]; exact hcl' _
          replace hfl := World.ownsRow.frozenAt HOq.out (m * 2 + 1)
          clear hq HO HB hcl' hc hd
          have hmx : max l2 y = if l2 < y then y else l2 := by split <;> omega
          refine wp_region_still_tail 14 (by kernel_rfl) (by kernel_rfl) ?_
          simp only [List.take_succ_cons, List.take_zero, List.drop_succ_cons, List.drop_zero]
          repeat still_step
          refine wpStill_nil ?_
          change wpList _ _ _ _ _ (World.drew _)
          have HST : Hid (OwnR (wq.setCell ⟨g, m * 2 + 1, none⟩ (.int .i64 (if l2 < y then y else l2))) w2.heap.size (some ⟨g, 0, none⟩) c3 (init ++ [(l1, max l2 y)])) := Lib.hid (by
            rw [← hmx]
            have h5 := (World.ownsRow.stored HOq.out (m * 2 + 1) (.int .i64 (max l2 y))).1
            have e5 : (init ++ [(l1, max l2 y)]).length = (init ++ [(l1, l2)]).length := by simp
            have e6 : (rcells (init ++ [(l1, l2)])).set (m * 2 + 1) (.int .i64 (max l2 y)) = rcells (init ++ [(l1, max l2 y)]) := by rw [HM.out]; exact (HU (max l2 y)).out
            rw [e6] at h5
            unfold OwnR
            rw [e5]
            exact h5)
          have HBT := Lib.hid (HBq.out.setCell (p := ⟨g, m * 2 + 1, none⟩) hg (.int .i64 (if l2 < y then y else l2)))
          have HL3 : Hid ((init ++ [(l1, max l2 y)]).length = m + 1) := Lib.hid (by rw [HM.out]; simp)
          clear HOq HBq
          go_wp2
          go_roundw
          case rel => exact ⟨k + 1, _, c3, by omega, by go_num, by rw [HQ.out, HL3.out], Lib.hid (by rw [HQ.out]; exact HST.out.drew), Lib.hid HBT.out.drew⟩
          case measure => simp [intOf]; omega
        · have HQ := Lib.hid (HN.out.trans (mergeStep_out (out := init) (l := (l1, l2)) (r := (x, y)) g1))
          go_wp2
          go_quiet (fail)
          go_wp2_with (at_builtin; refine wpList_appR _ rfl _ _ rfl w2.heap.size (some ⟨g, 0, none⟩) c3 (init ++ [(l1, l2)]) (by rw [HL2.out]; rfl) (((HO.out.push _).drewN _).push _) (x, y) _ rfl (two_cells_at _ _ _ _ _ (by simp)).1 (two_cells_at _ _ _ _ _ (by simp)).2 (by rw [HL2.out]; omega) (by simp; omega) ?_; intro A4 c4 w4 o4 b4)
          have HO4 := Lib.hid o4
          have HB4 := Lib.hid (((below_dw (HB.out.alloc hsz _) _).alloc (by simp; omega) _).trans b4)
          clear o4 b4 HO HB
          go_wp2
          go_roundw
          case rel => exact ⟨k + 1, A4, c4, by omega, by go_num, by rw [HQ.out]; simp, Lib.hid (by rw [HQ.out]; exact HO4.out), HB4⟩
          case measure => simp [intOf]; omega
    · obtain rfl : k = d.length := by omega
      rw [mrg_all] at HO
      try rw [mrg_all]
      go_wp2
      go_ret
      exact ⟨d, A3, c3, HP.out, HS.out, rfl, HO.out.base hbs, HB2.out.trans (HB.out.mono hbs)⟩
end Go.Proofs.YtlammcoiaeodfaaGreatDoor
