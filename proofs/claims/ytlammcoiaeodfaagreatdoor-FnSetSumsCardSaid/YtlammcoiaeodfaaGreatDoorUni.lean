/- Sets added, removed, joined: by the reference. -/
import Derived.Test.YtlammcoiaeodfaaGreatDoorSets
import Derived.Test.YtlammcoiaeodfaaGreatDoorSetBr
import Derived.Test.YtlammcoiaeodfaaGreatDoorSetLaw
import Derived.Test.YtlammcoiaeodfaaGreatDoorRapp
import Derived.StillTailTactics
namespace Go.Proofs.YtlammcoiaeodfaaGreatDoor
open Go.RowKit
set_option linter.unusedVariables false
set_option maxRecDepth 100000

theorem Nf.len : ∀ {rs : List (Int × Int)} {lo : Int}, Nf lo rs → lo ≤ 65537 → 2 * (rs.length : Int) ≤ 65537 - lo
  | [], lo, _, h => by simp; omega
  | r :: t, lo, h, hl => by
    have h3 := h.2.2.1
    have ih := Nf.len h.2.2.2 (by omega)
    have h1 := h.1
    have h2 := h.2.1
    rw [List.length_cons]
    push_cast
    omega
theorem Nf.small {rs : List (Int × Int)} (h : Nf 0 rs) : rs.length ≤ 32768 := by
  have := h.len (by omega)
  omega
/-- The answer: a list of ranges, if it may be asked for and is a set. -/
def sOk (c : Bool) (L : List (Int × Int)) : Bool := c && setB L
def sgl (c : Bool) (L : List (Int × Int)) : List (Int × Int) := if sOk c L then L else []
theorem sgl_len (c : Bool) (L : List (Int × Int)) : (sgl c L).length ≤ 10 := by
  unfold sgl sOk
  split
  · rename_i h
    simp only [Bool.and_eq_true] at h
    exact (setB_t h.2).1
  · simp
theorem sOk_n (L : List (Int × Int)) : sOk false L = false := rfl
theorem sgl_n (L : List (Int × Int)) : sgl false L = [] := rfl
theorem sOk_y {L : List (Int × Int)} (h : setB L = true) : sOk true L = true := by simp [sOk, h]
theorem sgl_y {L : List (Int × Int)} (h : setB L = true) : sgl true L = L := by simp [sgl, sOk, h]
theorem sOk_b {L : List (Int × Int)} (h : setB L = false) : sOk true L = false := by simp [sOk, h]
theorem sgl_b {L : List (Int × Int)} (h : setB L = false) : sgl true L = [] := by simp [sgl, sOk, h]
/-- All ranges are ranges of words. -/
def WordRs (rs : List (Int × Int)) : Prop := ∀ q ∈ rs, 0 ≤ q.1 ∧ q.1 ≤ q.2 ∧ q.2 ≤ 65535
theorem WordRs.of_nf {rs : List (Int × Int)} (h : Nf 0 rs) : WordRs rs := fun q hq => h.all q hq
theorem WordRs.at_ {rs : List (Int × Int)} (h : WordRs rs) {k : Nat} (hk : k < rs.length) : 0 ≤ (rs.getD k (0, 0)).1 ∧ (rs.getD k (0, 0)).1 ≤ (rs.getD k (0, 0)).2 ∧ (rs.getD k (0, 0)).2 ≤ 65535 :=
  h _ (by rw [show rs.getD k (0, 0) = rs[k] from by simp [hk]]; exact List.getElem_mem _)
theorem setB_one (f t : Int) : setB [(f, t)] = (inR f 0 65535 && inR t 0 65535 && decide (f ≤ t)) := by
  rw [Bool.eq_iff_iff, setB_good]
  simp only [Bool.and_eq_true, decide_eq_true_eq]
  constructor
  · rintro ⟨h, _⟩
    obtain ⟨h1, h2, h3⟩ := nf_one.1 h
    exact ⟨⟨inR_y (by omega), inR_y (by omega)⟩, h2⟩
  · rintro ⟨⟨h1, h2⟩, h3⟩
    have a := inR_t h1
    have b := inR_t h2
    exact ⟨nf_one.2 ⟨by omega, h3, by omega⟩, by simp⟩
/-- The states of adding a range. -/
def stA (rs : List (Int × Int)) (r : Int × Int) (k : Nat) : List (Int × Int) × Bool × (Int × Int) := (rs.take k).foldl addStep ([], false, r)
theorem stA_step (rs : List (Int × Int)) (r : Int × Int) (k : Nat) (h : k < rs.length) : stA rs r (k + 1) = addStep (stA rs r k) (rs.getD k (0, 0)) := by
  unfold stA
  rw [take_snoc_r rs k h, List.foldl_append]
  rfl
theorem stA_all (rs : List (Int × Int)) (r : Int × Int) : addEnd (stA rs r rs.length) = addL rs r := by
  unfold stA addL
  rw [List.take_length]
theorem stA_len (rs : List (Int × Int)) (r : Int × Int) : ∀ k, k ≤ rs.length → (stA rs r k).1.length ≤ 2 * k
  | 0, _ => by simp [stA]
  | k + 1, h => by
    have ih := stA_len rs r k (by omega)
    rw [stA_step rs r k (by omega)]
    unfold addStep
    split
    · simp; omega
    · split
      · split <;> simp <;> omega
      · simp only []; omega
theorem stA_word {rs : List (Int × Int)} {r : Int × Int} (h : WordRs rs) (hr : 0 ≤ r.1 ∧ r.1 ≤ r.2 ∧ r.2 ≤ 65535) : ∀ k, k ≤ rs.length → 0 ≤ (stA rs r k).2.2.1 ∧ (stA rs r k).2.2.1 ≤ (stA rs r k).2.2.2 ∧ (stA rs r k).2.2.2 ≤ 65535
  | 0, _ => by simpa [stA] using hr
  | k + 1, hk => by
    have ih := stA_word h hr k (by omega)
    have hx := h.at_ (k := k) (by omega)
    rw [stA_step rs r k (by omega)]
    unfold addStep
    split
    · exact ih
    · split
      · exact ih
      · simp only []
        omega
/-- k ranges of a list, without a range. -/
def rmK (rs : List (Int × Int)) (r : Int × Int) (k : Nat) : List (Int × Int) := remL (rs.take k) r
theorem rmK_step (rs : List (Int × Int)) (r : Int × Int) (k : Nat) (h : k < rs.length) : rmK rs r (k + 1) = rmK rs r k ++ remP r (rs.getD k (0, 0)) := by
  unfold rmK remL
  rw [take_snoc_r rs k h, List.flatMap_append]
  simp
theorem rmK_all (rs : List (Int × Int)) (r : Int × Int) : rmK rs r rs.length = remL rs r := by unfold rmK; rw [List.take_length]
theorem remP_len (r e : Int × Int) : (remP r e).length ≤ 2 := by
  unfold remP
  rw [List.length_append]
  split <;> split <;> simp
theorem rmK_len (rs : List (Int × Int)) (r : Int × Int) : ∀ k, k ≤ rs.length → (rmK rs r k).length ≤ 2 * k
  | 0, _ => by simp [rmK, remL]
  | k + 1, h => by
    have ih := rmK_len rs r k (by omega)
    have := remP_len r (rs.getD k (0, 0))
    rw [rmK_step rs r k (by omega), List.length_append]
    omega
theorem addK_step (a qs : List (Int × Int)) (k : Nat) (h : k < qs.length) : addAll a (qs.take (k + 1)) = addL (addAll a (qs.take k)) (qs.getD k (0, 0)) := by
  unfold addAll
  rw [take_snoc_r qs k h, List.foldl_append]
  rfl
theorem remK_step (a qs : List (Int × Int)) (k : Nat) (h : k < qs.length) : remAll a (qs.take (k + 1)) = remL (remAll a (qs.take k)) (qs.getD k (0, 0)) := by
  unfold remAll
  rw [take_snoc_r qs k h, List.foldl_append]
  rfl
theorem addK_nf {a qs : List (Int × Int)} (ha : Nf 0 a) (hq : WordRs qs) (k : Nat) : Nf 0 (addAll a (qs.take k)) :=
  (addAll_law _ a ha (fun q h => hq q (List.mem_of_mem_take h))).1
theorem remK_nf {a qs : List (Int × Int)} (ha : Nf 0 a) (hq : WordRs qs) (k : Nat) : Nf 0 (remAll a (qs.take k)) :=
  (remAll_law _ a ha (fun q h => (hq q (List.mem_of_mem_take h)).2.1)).1
set_option maxHeartbeats 400000 in
theorem c_l5Checked {B : Nat} (A : Option Addr) (cap : Nat) (L : List (Int × Int)) (w : World) (h : OwnR w B A cap L) (hB : B ≤ w.heap.size) (hl : L.length ≤ 100000000) :
    Calls Tryz.prog 29 #[.slice A L.length cap] w fun e w' => ∃ A' cap', e = .returned (.tuple #[.slice A' (sgl true L).length cap', .bool (sOk true L)]) ∧ OwnR w' B A' cap' (sgl true L) ∧ Below w.heap.size w w' := by
  have C1 := Lib.hid (c_l5Good A cap L w h.rngs (Nat.le_refl _) hl)
  cases g0 : setB L
  · rw [sOk_b g0, sgl_b g0]
    clear h
    go_enter Tryz.func29, Tryz.ntmps29
    go_wp2_with fail
    refine C1.out.mono ?_
    rintro e w1 ⟨rfl, b1⟩
    have s1 := b1.size
    have HE := Lib.hid (OwnR.empty w1 B (by omega))
    have HB := Lib.hid (b1.alloc b1.size (.cells #[] 47))
    clear b1
    go_wp2
    go_ret2
    exact ⟨_, _, rfl, HE.out, HB.out⟩
  · rw [sOk_y g0, sgl_y g0]
    have HO := Lib.hid h
    clear h
    go_enter Tryz.func29, Tryz.ntmps29
    go_wp2_with fail
    refine C1.out.mono ?_
    rintro e w1 ⟨rfl, b1⟩
    have HO1 := Lib.hid (HO.out.keep b1)
    have HB := Lib.hid b1
    clear b1 HO
    go_wp2
    go_ret2
    exact ⟨_, _, rfl, HO1.out, HB.out⟩
theorem c_l1LeastR (a b : Int) (w : World) : Calls Tryz.prog 44 #[.int .i64 a, .int .i64 b] w fun e w' => e = .returned (.int .i64 (min a b)) ∧ w = w' := by
  by_cases h : a < b
  · rw [show min a b = a from by omega]
    go_enter Tryz.func44, Tryz.ntmps44
    go_wp2
    go_ret
    exact ⟨rfl, rfl⟩
  · rw [show min a b = b from by omega]
    go_enter Tryz.func44, Tryz.ntmps44
    go_wp2
    go_ret
    exact ⟨rfl, rfl⟩
theorem c_l1MostR (a b : Int) (w : World) : Calls Tryz.prog 50 #[.int .i64 a, .int .i64 b] w fun e w' => e = .returned (.int .i64 (max a b)) ∧ w = w' := by
  by_cases h : b < a
  · rw [show max a b = a from by omega]
    go_enter Tryz.func50, Tryz.ntmps50
    go_wp2
    go_ret
    exact ⟨rfl, rfl⟩
  · rw [show max a b = b from by omega]
    go_enter Tryz.func50, Tryz.ntmps50
    go_wp2
    go_ret
    exact ⟨rfl, rfl⟩
/-- The list under way, beside the range's box. -/
structure AddW (w : World) (L : List (Int × Int)) (x y : Int) (A : Option Addr) (cap : Nat) (wr : World) : Prop where
  own : OwnR wr (w.heap.size + 1) A cap L
  box : Rb wr w.heap.size x y
  bel : Below w.heap.size w wr
theorem addW_start (w : World) (x y : Int) : AddW w [] x y (some ⟨w.heap.size + 1, 0, none⟩) 0 ((w.alloc (.cells #[.int .i64 x, .int .i64 y] 47)).alloc (.cells #[] 47)) := by
  have h := OwnR.empty (w.alloc (.cells #[.int .i64 x, .int .i64 y] 47)) (w.heap.size + 1) (by simp)
  refine ⟨by simpa using h, (Rb.new x y w _).push _, ((Below.refl _ _).alloc (Nat.le_refl _) _).alloc (by simp) _⟩
theorem AddW.drewN {w wr : World} {L : List (Int × Int)} {x y : Int} {A : Option Addr} {cap : Nat} (h : AddW w L x y A cap wr) (q : Nat) : AddW w L x y A cap (wr.drewN q) := ⟨h.own, h.box.drewN q, below_dw h.bel q⟩
theorem AddW.drew {w wr : World} {L : List (Int × Int)} {x y : Int} {A : Option Addr} {cap : Nat} (h : AddW w L x y A cap wr) : AddW w L x y A cap wr.drew := ⟨h.own, h.box.drew, h.bel.drew⟩
theorem AddW.push {w wr : World} {L : List (Int × Int)} {x y : Int} {A : Option Addr} {cap : Nat} (h : AddW w L x y A cap wr) (o : Obj) : AddW w L x y A cap (wr.alloc o) := ⟨h.own.push o, h.box.push o, h.bel.alloc h.bel.size o⟩
theorem AddW.next {w wr w2 : World} {L L2 : List (Int × Int)} {x y : Int} {A A2 : Option Addr} {cap c2 : Nat} (h : AddW w L x y A cap wr) (o2 : OwnR w2 (w.heap.size + 1) A2 c2 L2) (b2 : Below (w.heap.size + 1) wr w2) : AddW w L2 x y A2 c2 w2 :=
  ⟨o2, h.box.keep b2 (Nat.lt_succ_self _), h.bel.trans (b2.mono (Nat.le_succ _))⟩
theorem AddW.set {w wr : World} {L : List (Int × Int)} {x y : Int} {A : Option Addr} {cap : Nat} (h : AddW w L x y A cap wr) (x' y' : Int) : AddW w L x' y' A cap ((wr.setCell ⟨w.heap.size, 0, none⟩ (.int .i64 x')).setCell ⟨w.heap.size, 1, none⟩ (.int .i64 y')) :=
  ⟨(h.own.low (a := ⟨w.heap.size, 0, none⟩) (Nat.lt_succ_self _) _).low (a := ⟨w.heap.size, 1, none⟩) (Nat.lt_succ_self _) _, h.box.set x' y', (h.bel.setCell (p := ⟨w.heap.size, 0, none⟩) (Nat.le_refl _) _).setCell (p := ⟨w.heap.size, 1, none⟩) (Nat.le_refl _) _⟩
theorem AddW.out {w wr : World} {L : List (Int × Int)} {x y : Int} {A : Option Addr} {cap : Nat} (h : AddW w L x y A cap wr) : OwnR wr w.heap.size A cap L ∧ Below w.heap.size w wr := ⟨h.own.base (Nat.le_succ _), h.bel⟩
theorem AddW.size {w wr : World} {L : List (Int × Int)} {x y : Int} {A : Option Addr} {cap : Nat} (h : AddW w L x y A cap wr) : w.heap.size + 1 ≤ wr.heap.size := h.box.inside
set_option maxHeartbeats 4000000 in
theorem c_l5Add {H : Nat} (A : Option Addr) (cap : Nat) (rs : List (Int × Int)) (x0 y0 : Int) (w : World) (h : Rngs w H A rs) (hH : H ≤ w.heap.size) (hl : rs.length ≤ 1000000) (hw : WordRs rs) (hx : 0 ≤ x0 ∧ x0 ≤ y0 ∧ y0 ≤ 65535) :
    Calls Tryz.prog 28 #[.slice A rs.length cap, .agg #[.int .i64 x0, .int .i64 y0]] w fun e w' => ∃ A' cap', e = .returned (.slice A' (addL rs (x0, y0)).length cap') ∧ OwnR w' w.heap.size A' cap' (addL rs (x0, y0)) ∧ Below w.heap.size w w' := by
  have h1 := h.more hH
  have HW := Lib.hid hw
  have HX := Lib.hid hx
  have S := Lib.hid (addW_start w x0 y0)
  clear h hw hx
  go_enter Tryz.func28, Tryz.ntmps28
  go_wp2
  go_loopw [5, 6, 7] (fun v d i wr => ∃ (k : Nat) (A1 : Option Addr) (c1 : Nat), k ≤ rs.length ∧ i = .int .i64 k ∧ v = .slice A1 (stA rs (x0, y0) k).1.length c1 ∧ d = .bool (stA rs (x0, y0) k).2.1 ∧ Hid (AddW w (stA rs (x0, y0) k).1 (stA rs (x0, y0) k).2.2.1 (stA rs (x0, y0) k).2.2.2 A1 c1 wr)) (fun _ _ i _ => rs.length - (intOf i).toNat)
  case atStart => exact ⟨0, _, 0, Nat.zero_le _, rfl, rfl, rfl, S⟩
  case round =>
    clear S
    obtain ⟨k, A1, c1, hk, rfl, rfl, rfl, HS⟩ := hrel
    have hlen := stA_len rs (x0, y0) k hk
    have hwd := stA_word (r := (x0, y0)) HW.out HX.out k hk
    have hb := HS.out.box
    have hsz := HS.out.size
    by_cases hlt : k < rs.length
    · have HN := Lib.hid (stA_step rs (x0, y0) k hlt)
      have he := HW.out.at_ hlt
      obtain ⟨ad, rfl, hadb, hc, hd⟩ := (h1.keep HS.out.bel).at_ hlt
      have hi : (k : Int) < (rs.length : Int) := by omega
      obtain ⟨_, f0, f1, e0, e1⟩ := hb
      clear h1 HW HX
      generalize rs.getD k (0, 0) = e at *
      generalize stA rs (x0, y0) k = s at *
      obtain ⟨x, y⟩ := e
      obtain ⟨out, dn, q1, q2⟩ := s
      simp only at hlen hwd hc hd e0 e1 HS he
      obtain ⟨⟨w1, w2, w3⟩, ⟨w4, w5, w6⟩⟩ := And.intro he hwd
      have HC := Lib.hid (fun (W : World) (b : Below (w.heap.size + 1) wr W) => (⟨(b.cell (by rw [block_of_add]; omega)).trans hc, (b.cell (by simp only [block_of_add]; omega)).trans hd⟩ :
        W.cell? (ad.add (k * 2)) = some (.int .i64 x) ∧ W.cell? ⟨(ad.add (k * 2)).block, (ad.add (k * 2)).off + 1, none⟩ = some (.int .i64 y)))
      by_cases g1 : y + 1 < q1
      · have HQ := Lib.hid (HN.out.trans (show addStep (out, dn, q1, q2) (x, y) = (out ++ [(x, y)], dn, q1, q2) from by simp only [addStep]; rw [if_pos g1]))
        go_wp2
        go_quiet (fail)
        go_wp2_with (at_builtin; refine wpList_appR _ rfl _ _ rfl (w.heap.size + 1) A1 c1 out rfl ((HS.out.drewN _).push _).own (x, y) _ rfl (two_cells _ _ _ _).1 (two_cells _ _ _ _).2 (by omega) ((HS.out.drewN _).push _).size ?_; intro A2 c2 w2 o2 b2)
        have HS3 := Lib.hid (((HS.out.drewN _).push _).next o2 b2)
        clear o2 b2 HS
        go_wp2
        go_roundw
        case rel => exact ⟨k + 1, A2, c2, by omega, by go_num, by rw [HQ.out]; simp, by rw [HQ.out], Lib.hid (by rw [HQ.out]; exact HS3.out)⟩
        case measure => simp [intOf]; omega
      by_cases g2 : q2 + 1 < x
      · cases dn
        · have HQ := Lib.hid (HN.out.trans (show addStep (out, false, q1, q2) (x, y) = (out ++ [(q1, q2)] ++ [(x, y)], true, q1, q2) from by simp only [addStep]; rw [if_neg g1, if_pos g2]; rfl))
          go_wp2
          go_quiet (fail)
          go_wp2
          go_quiet (fail)
          go_wp2_with (at_builtin; first
            | (refine wpList_appR _ rfl _ _ rfl (w.heap.size + 1) A2 c2 (out ++ [(q1, q2)]) (by rw [List.length_append]; rfl) (HS3.out.push _).own (x, y) _ rfl (two_cells _ _ _ _).1 (two_cells _ _ _ _).2 (by rw [List.length_append, List.length_singleton]; omega) (HS3.out.push _).size ?_; intro A3 c3 w3 o3 b3)
            | (refine wpList_appR _ rfl _ _ rfl (w.heap.size + 1) A1 c1 out rfl ((HS.out.drewN _).push _).own (q1, q2) _ rfl (two_cells _ _ _ _).1 (two_cells _ _ _ _).2 (by omega) ((HS.out.drewN _).push _).size ?_; intro A2 c2 w2 o2 b2; have HS3 := Lib.hid (((HS.out.drewN _).push _).next o2 b2); obtain ⟨hc2, hd2⟩ := HC.out w2 (((below_dw (Below.refl (w.heap.size + 1) wr) _).alloc hsz _).trans b2)))
          have HS5 := Lib.hid ((HS3.out.push _).next o3 b3)
          clear o2 b2 o3 b3 HS HS3 hc2 hd2 hc hd HC
          go_wp2
          go_roundw
          case rel => exact ⟨k + 1, A3, c3, by omega, by go_num, by rw [HQ.out]; simp, by rw [HQ.out], Lib.hid (by rw [HQ.out]; exact HS5.out)⟩
          case measure => simp [intOf]; omega
        · have HQ := Lib.hid (HN.out.trans (show addStep (out, true, q1, q2) (x, y) = (out ++ [(x, y)], true, q1, q2) from by simp only [addStep]; rw [if_neg g1, if_pos g2]; rfl))
          go_wp2
          go_quiet (fail)
          go_wp2
          go_quiet (fail)
          go_wp2_with (at_builtin; refine wpList_appR _ rfl _ _ rfl (w.heap.size + 1) A1 c1 out rfl ((HS.out.drewN _).push _).own (x, y) _ rfl (two_cells _ _ _ _).1 (two_cells _ _ _ _).2 (by omega) ((HS.out.drewN _).push _).size ?_; intro A2 c2 w2 o2 b2)
          have HS3 := Lib.hid (((HS.out.drewN _).push _).next o2 b2)
          clear o2 b2 HS
          go_wp2
          go_roundw
          case rel => exact ⟨k + 1, A2, c2, by omega, by go_num, by rw [HQ.out]; simp, by rw [HQ.out], Lib.hid (by rw [HQ.out]; exact HS3.out)⟩
          case measure => simp [intOf]; omega
      · have hne : w.heap.size ≠ (ad.add (k * 2)).block := by rw [block_of_add]; omega
        have HQ := Lib.hid (HN.out.trans (show addStep (out, dn, q1, q2) (x, y) = (out, dn, min q1 x, max q2 y) from by simp only [addStep]; rw [if_neg g1, if_neg g2]))
        go_wp2
        go_quiet (fail)
        go_wp2
        go_quiet (fail)
        go_wp2_with fail
        generalize hq : World.drewN (World.drewN wr _) _ = wq
        have HSq : Hid (AddW w out q1 q2 A1 c1 wq) := Lib.hid (by rw [← hq]; exact (HS.out.drewN _).drewN _)
        replace hc : wq.cell? (ad.add (k * 2)) = some (.int .i64 x) := by rw [← hq]; exact hc
        replace hd : wq.cell? ⟨(ad.add (k * 2)).block, (ad.add (k * 2)).off + 1, none⟩ = some (.int .i64 y) := by rw [← hq]; exact hd
        obtain ⟨_, f0, f1, e0, e1⟩ := HSq.out.box
        clear hq HC HS
        refine wp_region_still_tail 17 (by kernel_rfl) (by kernel_rfl) ?_
        simp only [List.take_succ_cons, List.take_zero, List.drop_succ_cons, List.drop_zero]
        repeat (first | still_step | still_call ((c_l1LeastR _ _ _).mono fun _ _ h => ⟨h.1, h.2.symm⟩) | still_call ((c_l1MostR _ _ _).mono fun _ _ h => ⟨h.1, h.2.symm⟩))
        refine wpStill_nil ?_
        change wpList _ _ _ _ _ (World.drew _)
        · clear hc hd
          go_wp2
          go_roundw
          case rel => exact ⟨k + 1, A1, c1, by omega, by go_num, by rw [HQ.out], by rw [HQ.out], Lib.hid (by rw [HQ.out]; exact (HSq.out.drew).set _ _)⟩
          case measure => simp [intOf]; omega
    · obtain rfl : k = rs.length := by omega
      have HE := Lib.hid (stA_all rs (x0, y0))
      obtain ⟨_, f0, f1, e0, e1⟩ := hb
      clear h1 HW HX
      generalize stA rs (x0, y0) rs.length = s at *
      obtain ⟨out, dn, q1, q2⟩ := s
      simp only at hlen hwd e0 e1 HS
      cases dn
      · have HQ : Hid (out ++ [(q1, q2)] = addL rs (x0, y0)) := Lib.hid HE.out
        go_wp2_with (at_builtin; refine wpList_appR _ rfl _ _ rfl (w.heap.size + 1) A1 c1 out rfl (HS.out.push _).own (q1, q2) _ rfl (two_cells _ _ _ _).1 (two_cells _ _ _ _).2 (by omega) (HS.out.push _).size ?_; intro A2 c2 w2 o2 b2)
        have HS3 := Lib.hid (((HS.out.push _).next o2 b2).out)
        rw [HQ.out] at HS3
        clear o2 b2 HS
        go_wp2
        go_ret
        exact ⟨A2, c2, by rw [← HQ.out, List.length_append]; rfl, HS3.out.1, HS3.out.2⟩
      · have HQ : Hid (out = addL rs (x0, y0)) := Lib.hid HE.out
        go_wp2
        go_ret
        exact ⟨A1, c1, by rw [← HQ.out]; rfl, by rw [← HQ.out]; exact HS.out.out.1, HS.out.out.2⟩
end Go.Proofs.YtlammcoiaeodfaaGreatDoor
