/- The shortest span that has all serials of a list. -/
import Derived.Test.YtkoccbjeoihbiaaSerF
import Derived.Test.YtkoccbjeoihbiaaGood
namespace Go.Proofs.Ytkoccbjeoihbiaa
open Go.RowKit
set_option linter.unusedVariables false
set_option maxRecDepth 100000

/-- The greatest gap from a to one of zs. -/
def mostL (a : Int) (zs : List Int) : Int := zs.foldl (fun m x => max m (gapV a x)) 0
theorem mostL_snoc (a : Int) (l : List Int) (x : Int) : mostL a (l ++ [x]) = max (mostL a l) (gapV a x) := by simp [mostL]
theorem mostL_rng (a : Int) (zs : List Int) : ∀ k, k ≤ zs.length → 0 ≤ mostL a (zs.take k) ∧ mostL a (zs.take k) ≤ 65535 := by
  intro k
  induction k with
  | zero => intro _; simp [mostL]
  | succ k ih =>
    intro hk
    have := ih (by omega)
    have := gapV_rng a (zs.getD k 0)
    rw [take_snoc_z zs k (by omega), mostL_snoc]
    omega
/-- One start more: a shorter span, or one as short from a lesser serial. -/
def bestB (s : Int × Int) (a m : Int) : Bool := decide (m + 1 < s.2) || (m + 1 == s.2 && decide (a < s.1))
def bestS (zs : List Int) (s : Int × Int) (a : Int) : Int × Int := if bestB s a (mostL a zs) then (a, mostL a zs + 1) else s
def bestL (zs : List Int) (k : Nat) : Int × Int := (zs.take k).foldl (bestS zs) (0, 65537)
theorem bestL_succ (zs : List Int) (k : Nat) (hk : k < zs.length) : bestL zs (k + 1) = bestS zs (bestL zs k) (zs.getD k 0) := by
  unfold bestL
  rw [take_snoc_z zs k hk, List.foldl_append]
  rfl
theorem bestL_rng {zs : List Int} (hz : AreW zs) : ∀ k, k ≤ zs.length → 0 ≤ (bestL zs k).1 ∧ (bestL zs k).1 ≤ 65535 ∧ 0 ≤ (bestL zs k).2 ∧ (bestL zs k).2 ≤ 65537 := by
  intro k
  induction k with
  | zero => intro _; simp [bestL]
  | succ k ih =>
    intro hk
    have h1 := ih (by omega)
    have h2 := mostL_rng (zs.getD k 0) zs zs.length (Nat.le_refl _)
    rw [List.take_length] at h2
    have h3 := hz k (by omega)
    rw [bestL_succ zs k (by omega)]
    unfold bestS
    split
    · exact ⟨h3.1, h3.2, by simp only; omega, by simp only; omega⟩
    · exact h1
def spanOk (zs : List Int) : Bool := goodB 20 65535 zs && !decide (zs.length = 0)
def spanB (zs : List Int) : Int := if spanOk zs then (bestL zs zs.length).1 else 0
def spanC (zs : List Int) : Int := if spanOk zs then (bestL zs zs.length).2 else 0
theorem c_l1Most (a b : Int) (w : World) : Calls Try.prog 147 #[.int .i64 a, .int .i64 b] w fun e w' => e = .returned (.int .i64 (max a b)) ∧ w = w' := by
  by_cases h : b < a
  · rw [show max a b = a from by omega]
    go_enter Try.func147, Try.ntmps147
    go_wp2
    go_ret
    exact ⟨rfl, rfl⟩
  · rw [show max a b = b from by omega]
    go_enter Try.func147, Try.ntmps147
    go_wp2
    go_ret
    exact ⟨rfl, rfl⟩
set_option maxHeartbeats 2000000 in
theorem c_implSpanOfP {H : Nat} (A : Option Addr) (cap : Nat) (zs : List Int) (w : World) (h : Ints w H A zs) (hl : zs.length ≤ 100000000) :
    Calls Try.prog 91 #[.slice A zs.length cap] w fun e w' => e = .returned (.tuple #[.int .i64 (spanB zs), .int .i64 (spanC zs), .bool (spanOk zs)]) ∧ w = w' := by
  have C1 := Lib.hid (c_areSerials A cap zs w h hl)
  by_cases g1 : zs.length = 0
  · rw [show spanOk zs = false from by simp [spanOk, g1], show spanB zs = 0 from by simp [spanB, spanOk, g1], show spanC zs = 0 from by simp [spanC, spanOk, g1]]
    have g2 : ((zs.length : Int) == 0) = true := beq_iff_eq.2 (by omega)
    clear h g1
    go_enter Try.func91, Try.ntmps91
    go_wp2
    go_ret3
    exact ⟨rfl, rfl⟩
  have g2 : ((zs.length : Int) == 0) = false := beq_eq_false_iff_ne.2 (by omega)
  cases g0 : goodB 20 65535 zs
  · rw [show spanOk zs = false from by simp [spanOk, g0], show spanB zs = 0 from by simp [spanB, spanOk, g0], show spanC zs = 0 from by simp [spanC, spanOk, g0]]
    clear h g1
    go_enter Try.func91, Try.ntmps91
    go_wp2_with fail
    refine C1.out.mono ?_
    rintro e w' ⟨rfl, rfl⟩
    go_wp2
    go_ret3
    exact ⟨rfl, rfl⟩
  · have HF := Lib.hid (show spanOk zs = true ∧ spanB zs = (bestL zs zs.length).1 ∧ spanC zs = (bestL zs zs.length).2 from by simp [spanOk, spanB, spanC, g0, g1])
    have HW := Lib.hid (goodB_areW g0)
    have hn20 := (goodB_t g0).1
    clear g1
    go_enter Try.func91, Try.ntmps91
    go_wp2_with fail
    refine C1.out.mono ?_
    rintro e w' ⟨rfl, rfl⟩
    go_wp2
    go_loop [5, 6, 22] (fun b l i => ∃ k : Nat, k ≤ zs.length ∧ i = .int .i64 k ∧ b = .int .i64 (bestL zs k).1 ∧ l = .int .i64 (bestL zs k).2) (fun _ _ i => zs.length - (intOf i).toNat)
    case atStart => exact ⟨0, Nat.zero_le _, rfl, rfl, rfl⟩
    case round =>
      obtain ⟨k, hk, rfl, rfl, rfl⟩ := hrel
      by_cases hlt : k < zs.length
      · obtain ⟨ad, rfl, _, hc⟩ := h.at_ hlt
        have ha := HW.out k hlt
        have hbl := bestL_rng HW.out k hk
        have HS := Lib.hid (bestL_succ zs k hlt)
        have h' := Lib.hid h
        clear h
        have HM := Lib.hid (mostL_rng (zs.getD k 0) zs)
        obtain ⟨a, hx⟩ : ∃ a, a = zs.getD k 0 := ⟨_, rfl⟩
        rw [← hx] at hc ha HS HM
        clear hx
        obtain ⟨B, hB⟩ : ∃ B, B = bestL zs k := ⟨_, rfl⟩
        rw [← hB] at hbl HS ⊢
        clear hB
        obtain ⟨b, l⟩ := B
        simp only at hbl
        go_wp2
        go_loop [9, 28] (fun c j => ∃ n : Nat, n ≤ zs.length ∧ j = .int .i64 n ∧ c = .int .i64 (if n = 0 then 0 else mostL a (zs.take n) + 1)) (fun _ j => zs.length - (intOf j).toNat)
        case atStart => exact ⟨0, Nat.zero_le _, rfl, rfl⟩
        case round =>
          obtain ⟨n, hn, rfl, rfl⟩ := hrel
          by_cases hnl : n < zs.length
          · obtain ⟨ad', e', _, hcn⟩ := h'.out.at_ hnl
            simp only [Option.some.injEq] at e'
            subst e'
            have hxn := HW.out n hnl
            have hgr := gapV_rng a (zs.getD n 0)
            have HM2 := Lib.hid (show (if n + 1 = 0 then 0 else mostL a (zs.take (n + 1)) + 1) = max (if n = 0 then 0 else mostL a (zs.take n) + 1) (gapV a (zs.getD n 0) + 1) from by
              rw [if_neg (by omega), take_snoc_z zs n hnl, mostL_snoc]
              have := (HM.out n hn)
              by_cases h0 : n = 0
              · subst h0
                have e0 : mostL a (zs.take 0) = 0 := rfl
                rw [if_pos rfl, e0]
                omega
              · rw [if_neg h0]; omega)
            have hq : 0 ≤ (if n = 0 then 0 else mostL a (zs.take n) + 1) ∧ (if n = 0 then 0 else mostL a (zs.take n) + 1) ≤ 65536 := by
              have := (HM.out n hn)
              split <;> omega
            generalize (if n = 0 then 0 else mostL a (zs.take n) + 1) = q at *
            generalize zs.getD n 0 = x at *
            go_wp2_with (go_at_call 114; refine (c_gap _ _ _ (by omega) (by omega) (by omega) (by omega)).mono ?_; rintro e w' ⟨rfl, rfl⟩)
            go_round
            case rel => exact ⟨n + 1, by omega, by go_num, by rw [HM2.out]; congr 1; split <;> omega⟩
            case measure => simp [intOf]; omega
          · obtain rfl : n = zs.length := by omega
            have hmz := HM.out zs.length (Nat.le_refl _)
            rw [if_neg (by omega)]
            rw [List.take_length] at hmz ⊢
            have HY := Lib.hid (show bestS zs (b, l) a = if bestB (b, l) a (mostL a zs) then (a, mostL a zs + 1) else (b, l) from rfl)
            generalize mostL a zs = m at *
            clear HM
            by_cases t1 : m + 1 < l
            · have HZ := Lib.hid (HS.out.trans (HY.out.trans (by rw [if_pos (by simp [bestB, t1])])))
              go_wp2
              go_round
              case rel => exact ⟨k + 1, by omega, by go_num, by rw [HZ.out], by rw [HZ.out]⟩
              case measure => simp [intOf]; omega
            by_cases t2 : m + 1 = l
            · by_cases t3 : a < b
              · have HZ := Lib.hid (HS.out.trans (HY.out.trans (by rw [if_pos (by simp [bestB, t2, t3])])))
                have e1 : decide (m + 1 < l) = false := decide_eq_false t1
                have e2 : (m + 1 == l) = true := beq_iff_eq.2 t2
                clear t1 t2
                go_wp2
                go_round
                case rel => exact ⟨k + 1, by omega, by go_num, by rw [HZ.out], by rw [HZ.out]⟩
                case measure => simp [intOf]; omega
              · have HZ := Lib.hid (HS.out.trans (HY.out.trans (by rw [if_neg (by simp [bestB]; omega)])))
                have e1 : decide (m + 1 < l) = false := decide_eq_false t1
                have e2 : (m + 1 == l) = true := beq_iff_eq.2 t2
                have e3 : decide (a < b) = false := decide_eq_false t3
                clear t1 t2 t3
                go_wp2
                go_round
                case rel => exact ⟨k + 1, by omega, by go_num, by rw [HZ.out], by rw [HZ.out]⟩
                case measure => simp [intOf]; omega
            · have HZ := Lib.hid (HS.out.trans (HY.out.trans (by rw [if_neg (by simp [bestB]; omega)])))
              have e1 : decide (m + 1 < l) = false := decide_eq_false t1
              have e2 : (m + 1 == l) = false := beq_eq_false_iff_ne.2 t2
              clear t1 t2
              go_wp2
              go_round
              case rel => exact ⟨k + 1, by omega, by go_num, by rw [HZ.out], by rw [HZ.out]⟩
              case measure => simp [intOf]; omega
      · obtain rfl : k = zs.length := by omega
        clear h
        go_wp2
        go_ret3
        exact ⟨by rw [HF.out.1, HF.out.2.1, HF.out.2.2]; rfl, rfl⟩
theorem c_implSpanOf {H : Nat} (A : Option Addr) (cap : Nat) (zs : List Int) (w : World) (h : Ints w H A zs) (_hH : H ≤ w.heap.size) (hl : zs.length ≤ 100000000) :
    Calls Try.prog 91 #[.slice A zs.length cap] w fun e w' => e = .returned (.tuple #[.int .i64 (spanB zs), .int .i64 (spanC zs), .bool (spanOk zs)]) ∧ Below w.heap.size w w' :=
  (c_implSpanOfP A cap zs w h hl).mono fun _ _ ⟨he, hw⟩ => ⟨he, hw ▸ Below.refl _ _⟩
set_option maxHeartbeats 2000000 in
theorem c_specSpanOf {H : Nat} (A : Option Addr) (cap : Nat) (zs : List Int) (w : World) (h : Ints w H A zs) (hH : H ≤ w.heap.size) (hl : zs.length ≤ 100000000) :
    Calls Try.prog 92 #[.slice A zs.length cap] w fun e w' => e = .returned (.tuple #[.int .i64 (spanB zs), .int .i64 (spanC zs), .bool (spanOk zs)]) ∧ Below w.heap.size w w' := by
  have C1 := Lib.hid (c_l2List A cap zs w h hl)
  have h1 := h.more hH
  clear h
  cases g0 : goodB 20 65535 zs
  · rw [show spanOk zs = false from by simp [spanOk, g0], show spanB zs = 0 from by simp [spanB, spanOk, g0], show spanC zs = 0 from by simp [spanC, spanOk, g0]]
    clear h1
    go_enter Try.func92, Try.ntmps92
    go_wp2_with fail
    refine C1.out.mono ?_
    rintro e w' ⟨rfl, rfl⟩
    go_wp2
    go_ret3
    exact ⟨rfl, Below.refl _ _⟩
  by_cases g1 : zs.length = 0
  · rw [show spanOk zs = false from by simp [spanOk, g1], show spanB zs = 0 from by simp [spanB, spanOk, g1], show spanC zs = 0 from by simp [spanC, spanOk, g1]]
    have g2 : ((zs.length : Int) == 0) = true := beq_iff_eq.2 (by omega)
    clear h1 g1
    go_enter Try.func92, Try.ntmps92
    go_wp2_with fail
    refine C1.out.mono ?_
    rintro e w' ⟨rfl, rfl⟩
    go_wp2
    go_ret3
    exact ⟨rfl, Below.refl _ _⟩
  · have g2 : ((zs.length : Int) == 0) = false := beq_eq_false_iff_ne.2 (by omega)
    have HF := Lib.hid (show spanOk zs = true ∧ spanB zs = (bestL zs zs.length).1 ∧ spanC zs = (bestL zs zs.length).2 from by simp [spanOk, spanB, spanC, g0, g1])
    have HW := Lib.hid (goodB_areW g0)
    have hn20 := (goodB_t g0).1
    clear g1
    go_enter Try.func92, Try.ntmps92
    go_wp2_with fail
    refine C1.out.mono ?_
    rintro e w' ⟨rfl, rfl⟩
    go_wp2
    go_loopw [5, 6, 7] (fun b l i wr => ∃ k : Nat, k ≤ zs.length ∧ i = .int .i64 k ∧ b = .int .i64 (bestL zs k).1 ∧ l = .int .i64 (bestL zs k).2 ∧ Below w.heap.size w wr) (fun _ _ i _ => zs.length - (intOf i).toNat)
    case atStart => exact ⟨0, Nat.zero_le _, rfl, rfl, rfl, Below.refl _ _⟩
    case round =>
      obtain ⟨k, hk, rfl, rfl, rfl, hbel⟩ := hrel
      obtain ⟨wo, rfl⟩ : ∃ wo : World, wo = wr := ⟨_, rfl⟩
      by_cases hlt : k < zs.length
      · have HB0 := Lib.hid hbel
        have h' := Lib.hid h1
        clear h1 hbel
        have ha := HW.out k hlt
        have hbl := bestL_rng HW.out k hk
        have HS := Lib.hid (bestL_succ zs k hlt)
        have HM := Lib.hid (mostL_rng (zs.getD k 0) zs)
        have HC : ∀ W, Below w.heap.size w W → ∃ ad, A = some ad ∧ W.cell? (ad.add k) = some (.int .i64 (zs.getD k 0)) := fun W hW => by
          obtain ⟨ad, e, _, hc⟩ := (h'.out.keep hW).at_ hlt
          exact ⟨ad, e, hc⟩
        obtain ⟨a, hx⟩ : ∃ a, a = zs.getD k 0 := ⟨_, rfl⟩
        rw [← hx] at ha HS HM HC
        clear hx
        have HCH := Lib.hid HC
        clear HC
        obtain ⟨B, hB⟩ : ∃ B, B = bestL zs k := ⟨_, rfl⟩
        rw [← hB] at hbl HS ⊢
        clear hB
        obtain ⟨b, l⟩ := B
        simp only at hbl
        go_wp2
        go_loopw [8, 9] (fun c j wr => ∃ n : Nat, n ≤ zs.length ∧ j = .int .i64 n ∧ c = .int .i64 (mostL a (zs.take n)) ∧ Below w.heap.size w wr) (fun _ j _ => zs.length - (intOf j).toNat)
        case atStart => exact ⟨0, Nat.zero_le _, rfl, rfl, HB0.out⟩
        case round =>
          clear HB0
          obtain ⟨n, hn, rfl, rfl, hbel⟩ := hrel
          by_cases hnl : n < zs.length
          · obtain ⟨ad, rfl, hck⟩ := HCH.out _ hbel
            obtain ⟨ad', e', _, hcn⟩ := (h'.out.keep hbel).at_ hnl
            simp only [Option.some.injEq] at e'
            subst e'
            have HB := Lib.hid hbel
            clear hbel
            have hxn := HW.out n hnl
            have hgr := gapV_rng a (zs.getD n 0)
            have HM2 := Lib.hid ((congrArg (mostL a) (take_snoc_z zs n hnl)).trans (mostL_snoc _ _ _))
            have hq := HM.out n hn
            have hi1 : (k : Int) < (zs.length : Int) := by omega
            have hi2 : (n : Int) < (zs.length : Int) := by omega
            generalize mostL a (zs.take n) = q at *
            generalize zs.getD n 0 = x at *
            go_wp2
            go_quiet ((first | (go_at_call 120; exact quiet_left (c_l2Gap _ _ _ (by omega) (by omega) (by omega) (by omega))) | (go_at_call 147; exact quiet_left (c_l1Most _ _ _))))
            go_wp2
            go_roundw
            case rel => exact ⟨n + 1, by omega, by go_num, by rw [HM2.out], below_drewN HB.out _⟩
            case measure => simp [intOf]; omega
          · obtain rfl : n = zs.length := by omega
            have hmz := HM.out zs.length (Nat.le_refl _)
            rw [List.take_length] at hmz ⊢
            obtain ⟨ad, rfl, hck⟩ := HCH.out _ hbel
            have HB := Lib.hid hbel
            clear hbel
            have HY := Lib.hid (show bestS zs (b, l) a = if bestB (b, l) a (mostL a zs) then (a, mostL a zs + 1) else (b, l) from rfl)
            generalize mostL a zs = m at *
            clear HM HCH h'
            by_cases t1 : m + 1 < l
            · have HZ := Lib.hid (HS.out.trans (HY.out.trans (by rw [if_pos (by simp [bestB, t1])])))
              go_wp2
              go_roundw
              case rel => exact ⟨k + 1, by omega, by go_num, by rw [HZ.out], by rw [HZ.out], HB.out⟩
              case measure => simp [intOf]; omega
            by_cases t2 : m + 1 = l
            · by_cases t3 : a < b
              · have HZ := Lib.hid (HS.out.trans (HY.out.trans (by rw [if_pos (by simp [bestB, t2, t3])])))
                have e1 : decide (m + 1 < l) = false := decide_eq_false t1
                have e2 : (m + 1 == l) = true := beq_iff_eq.2 t2
                clear t1 t2
                go_wp2
                go_roundw
                case rel => exact ⟨k + 1, by omega, by go_num, by rw [HZ.out], by rw [HZ.out], HB.out⟩
                case measure => simp [intOf]; omega
              · have HZ := Lib.hid (HS.out.trans (HY.out.trans (by rw [if_neg (by simp [bestB]; omega)])))
                have e1 : decide (m + 1 < l) = false := decide_eq_false t1
                have e2 : (m + 1 == l) = true := beq_iff_eq.2 t2
                have e3 : decide (a < b) = false := decide_eq_false t3
                clear t1 t2 t3
                go_wp2
                go_roundw
                case rel => exact ⟨k + 1, by omega, by go_num, by rw [HZ.out], by rw [HZ.out], HB.out⟩
                case measure => simp [intOf]; omega
            · have HZ := Lib.hid (HS.out.trans (HY.out.trans (by rw [if_neg (by simp [bestB]; omega)])))
              have e1 : decide (m + 1 < l) = false := decide_eq_false t1
              have e2 : (m + 1 == l) = false := beq_eq_false_iff_ne.2 t2
              clear t1 t2
              go_wp2
              go_roundw
              case rel => exact ⟨k + 1, by omega, by go_num, by rw [HZ.out], by rw [HZ.out], HB.out⟩
              case measure => simp [intOf]; omega
      · obtain rfl : k = zs.length := by omega
        clear h1
        go_wp2
        go_ret3
        exact ⟨by rw [HF.out.1, HF.out.2.1, HF.out.2.2]; rfl, hbel⟩
end Go.Proofs.Ytkoccbjeoihbiaa
