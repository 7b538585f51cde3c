/- SortSerials: the library's stable sort of at most 20 whole numbers, and the reference's insertion. -/
import Derived.Test.YtkoccbjeoihbiaaSerF
import Derived.Test.YtkoccbjeoihbiaaGoodF
import Derived.Test.YtkoccbjeoihbiaaLists
import Derived.Deep.RegionHeldLaw
import Derived.Deep.AppendLies
namespace Go.Proofs.Ytkoccbjeoihbiaa
open Go.RowKit
set_option linter.unusedVariables false
set_option maxRecDepth 100000

/-- Where x goes among the first k of out, from behind. -/
def posK (f : Int → Int) (out : List Int) (x : Int) : Nat → Nat
  | 0 => 0
  | k + 1 => if f x < f (out.getD k 0) then posK f out x k else k + 1
theorem posK_le (f : Int → Int) (out : List Int) (x : Int) (k : Nat) : posK f out x k ≤ k := by
  induction k with
  | zero => exact Nat.le_refl _
  | succ k ih =>
    simp only [posK]
    split
    · omega
    · exact Nat.le_refl _
def arrT (S : List Int) (x : Int) (R : List Int) (j : Nat) : List Int := S.take j ++ (x :: (S.drop j ++ R))
theorem arrT_len (S : List Int) (x : Int) (R : List Int) (j : Nat) (h : j ≤ S.length) : (arrT S x R j).length = S.length + 1 + R.length := by
  simp [arrT]; omega
theorem arrT_at (S : List Int) (x : Int) (R : List Int) (t : Nat) (h : t < S.length) : arrT S x R t = S.take t ++ (x :: S.getD t 0 :: (S.drop (t + 1) ++ R)) := by
  unfold arrT
  rw [List.drop_eq_getElem_cons h, show S.getD t 0 = S[t] from by simp [h]]
  rfl
theorem arrT_succ (S : List Int) (x : Int) (R : List Int) (t : Nat) (h : t < S.length) : arrT S x R (t + 1) = S.take t ++ (S.getD t 0 :: x :: (S.drop (t + 1) ++ R)) := by
  unfold arrT
  rw [List.take_succ_eq_append_getElem h, show S.getD t 0 = S[t] from by simp [h], List.append_assoc]
  rfl
def insP (f : Int → Int) (out : List Int) (x : Int) : List Int := arrT out x [] (posK f out x out.length)
def sortK (f : Int → Int) (zs : List Int) : Nat → List Int
  | 0 => []
  | k + 1 => insP f (sortK f zs k) (zs.getD k 0)
def sortL (f : Int → Int) (zs : List Int) : List Int := sortK f zs zs.length
theorem insP_len (f : Int → Int) (out : List Int) (x : Int) : (insP f out x).length = out.length + 1 := by
  unfold insP
  rw [arrT_len _ _ _ _ (posK_le _ _ _ _)]
  simp
theorem sortK_len (f : Int → Int) (zs : List Int) (k : Nat) : (sortK f zs k).length = k := by
  induction k with
  | zero => rfl
  | succ k ih => simp only [sortK]; rw [insP_len, ih]
theorem arrT_rest (S : List Int) (x : Int) (R : List Int) (j : Nat) : arrT S x R j = arrT S x [] j ++ R := by simp [arrT]
/-- Elements at the place t + 1 and at t. -/
theorem arrT_get1 (S : List Int) (x : Int) (R : List Int) (t : Nat) (h : t < S.length) : ((arrT S x R (t + 1)).map (Value.int .i64))[t]? = some (.int .i64 (S.getD t 0)) ∧ ((arrT S x R (t + 1)).map (Value.int .i64))[t + 1]? = some (.int .i64 x) := by
  rw [arrT_succ S x R t h]
  have hl : (S.take t).length = t := by simp; omega
  constructor
  · rw [List.getElem?_map, List.getElem?_append_right (by omega), hl]; simp
  · rw [List.getElem?_map, List.getElem?_append_right (by omega), hl, show t + 1 - t = 1 by omega]; simp
theorem arrT_swap (S : List Int) (x : Int) (R : List Int) (t : Nat) (h : t < S.length) : (((arrT S x R (t + 1)).map (Value.int .i64)).set (t + 1) (.int .i64 (S.getD t 0))).set t (.int .i64 x) = (arrT S x R t).map (Value.int .i64) := by
  rw [arrT_succ S x R t h, arrT_at S x R t h]
  have hl : ((S.take t).map (Value.int .i64)).length = t := by simp; omega
  simp only [List.map_append, List.map_cons]
  rw [List.set_append_right _ _ (by omega), hl, show t + 1 - t = 1 by omega, List.set_append_right _ _ (by omega), hl]
  simp
theorem own_cap {w : World} {B : Nat} {e : TypeId} {n g c : Nat} {xs : List Value} (h : w.ownsRow B e 1 (.slice (some ⟨g, 0, none⟩) n c) n xs) : n ≤ c := by
  rcases h.2 with ⟨hv, hz⟩ | ⟨g', cap, cur, hv, hb, hr⟩
  · omega
  · simp only [Value.slice.injEq] at hv
    obtain ⟨_, _, rfl⟩ := hv
    exact hr.2.1
theorem c_cmpS (fr a b : Int) (cp : Addr) (w : World) (hc : w.cell? cp = some (.int .i64 fr)) (h1 : 0 ≤ fr ∧ fr ≤ 65535) (h2 : 0 ≤ a ∧ a ≤ 65535) (h3 : 0 ≤ b ∧ b ≤ 65535) :
    Calls Try.prog 144 #[.int .i64 a, .int .i64 b, .pointer (some cp)] w fun e w' => e = .returned (.int .i64 (gapV fr a - gapV fr b)) ∧ ∃ m, w' = w.drewN m := by
  have g1 := gapV_rng fr a
  have g2 := gapV_rng fr b
  have hw : IntKind.i64.wrap (gapV fr a - gapV fr b) = gapV fr a - gapV fr b := IntWalk.i64_in _ (by omega)
  go_enter Try.func144, Try.ntmps144
  go_wp2
  go_quiet ((go_at_call 114; exact quiet_left (c_gap _ _ _ (by omega) (by omega) (by omega) (by omega))))
  go_wp2
  go_ret
  exact ⟨rfl, _, rfl⟩
/-- Nothing to sort. -/
theorem c_insNone (A : Option Addr) (n cap : Nat) (k : Int) (v : Value) (w : World) (h0 : 0 ≤ k) (h1 : k ≤ 100) :
    Calls Try.prog 162 #[.slice A n cap, .int .i64 k, .int .i64 k, v] w fun e w' => e = .returned (.tuple #[]) ∧ w = w' := by
  go_enter Try.func162, Try.ntmps162
  go_wp2
  go_loop [8] (fun i => i = .int .i64 (k + 1)) (fun i => 0)
  case atStart => rfl
  case round =>
    obtain rfl := hrel
    go_wp2
    go_end0
    exact ⟨rfl, rfl⟩
theorem sort_one (f : Int → Int) (zs : List Int) (h : 1 ≤ zs.length) : sortK f zs 1 ++ zs.drop 1 = zs := by
  cases zs with
  | nil => simp at h
  | cons z r => simp [sortK, insP, posK, arrT]
theorem sort_in (f : Int → Int) (zs : List Int) (k : Nat) (hk : k < zs.length) : sortK f zs k ++ zs.drop k = arrT (sortK f zs k) (zs.getD k 0) (zs.drop (k + 1)) k := by
  have hl := sortK_len f zs k
  unfold arrT
  have e1 : (sortK f zs k).take k = sortK f zs k := List.take_of_length_le (by omega)
  have e2 : (sortK f zs k).drop k = [] := List.drop_of_length_le (by omega)
  rw [e1, e2, List.drop_eq_getElem_cons hk, show zs.getD k 0 = zs[k] from by simp [hk]]
  rfl
theorem sort_out (f : Int → Int) (zs : List Int) (k t : Nat) (hp : posK f (sortK f zs k) (zs.getD k 0) k = t) : arrT (sortK f zs k) (zs.getD k 0) (zs.drop (k + 1)) t = sortK f zs (k + 1) ++ zs.drop (k + 1) := by
  have hl := sortK_len f zs k
  rw [arrT_rest]
  show _ = insP f (sortK f zs k) (zs.getD k 0) ++ _
  unfold insP
  rw [hl, hp]
theorem drewN_own {w : World} {B : Nat} {e : TypeId} {size n : Nat} {v : Value} {xs : List Value} (h : w.ownsRow B e size v n xs) (q : Nat) : (w.drewN q).ownsRow B e size v n xs := h
theorem drewN_below {B : Nat} {a w : World} (h : Below B a w) (q : Nat) : Below B a (w.drewN q) := ⟨h.os, h.tape, h.output, h.size, h.block⟩
/-- All elements of the sorted part lie among the list's. -/
theorem arrT_mem {S : List Int} {x : Int} {R : List Int} {j : Nat} {u : Int} (h : u ∈ arrT S x R j) : u ∈ S ∨ u = x ∨ u ∈ R := by
  simp only [arrT, List.mem_append, List.mem_cons] at h
  rcases h with h | h | h | h
  · exact .inl (List.mem_of_mem_take h)
  · exact .inr (.inl h)
  · exact .inl (List.mem_of_mem_drop h)
  · exact .inr (.inr h)
theorem sortK_rng (f : Int → Int) (zs : List Int) (hz : ∀ i, i < zs.length → 0 ≤ zs.getD i 0 ∧ zs.getD i 0 ≤ 65535) : ∀ k, k ≤ zs.length → ∀ u ∈ sortK f zs k, 0 ≤ u ∧ u ≤ 65535
  | 0, _, u, hu => by simp [sortK] at hu
  | k + 1, hk, u, hu => by
    rcases arrT_mem (show u ∈ arrT (sortK f zs k) (zs.getD k 0) [] _ from hu) with h | rfl | h
    · exact sortK_rng f zs hz k (by omega) u h
    · exact hz k (by omega)
    · simp at h
set_option maxHeartbeats 4000000 in
theorem c_insSort {B : Nat} (fr : Int) (cp : Addr) (A : Option Addr) (cap : Nat) (zs : List Int) (w : World) (h : OwnI w B A cap zs) (hB : cp.block < B) (hc : w.cell? cp = some (.int .i64 fr)) (hl : zs.length ≤ 20)
    (hf : 0 ≤ fr ∧ fr ≤ 65535) (hz : ∀ i, i < zs.length → 0 ≤ zs.getD i 0 ∧ zs.getD i 0 ≤ 65535) (h0 : 1 ≤ zs.length) :
    Calls Try.prog 162 #[.slice A zs.length cap, .int .i64 0, .int .i64 zs.length, .func (Fn.func 144) #[] #[.pointer (some cp)]] w fun e w' => e = .returned (.tuple #[]) ∧ OwnI w' B A cap (sortL (gapV fr) zs) ∧ Below B w w' := by
  have HR := Lib.hid (sortK_rng (gapV fr) zs hz)
  have HZ := Lib.hid hz
  have HC := Lib.hid hc
  clear hz hc
  go_enter Try.func162, Try.ntmps162
  go_wp2
  go_loopw [8] (fun i wr => ∃ k : Nat, 1 ≤ k ∧ k ≤ zs.length ∧ i = .int .i64 k ∧ wr.ownsRow B 3 1 (.slice A zs.length cap) zs.length ((sortK (gapV fr) zs k ++ zs.drop k).map (Value.int .i64)) ∧ Below B w wr) (fun i _ => zs.length - (intOf i).toNat)
  case atStart => exact ⟨1, by omega, by omega, rfl, by rw [sort_one _ _ h0]; exact h, Below.refl _ _⟩
  case round =>
    clear h
    obtain ⟨k, hk1, hk, rfl, hown, hbel⟩ := hrel
    by_cases hlt : k < zs.length
    · have HIN := Lib.hid (sort_in (gapV fr) zs k hlt)
      have HOUT := Lib.hid (sort_out (gapV fr) zs k)
      have HSL := Lib.hid (sortK_len (gapV fr) zs k)
      have HRK := Lib.hid (HR.out k hk)
      have hx := HZ.out k hlt
      rw [HIN.out] at hown
      generalize hS : sortK (gapV fr) zs k = S at *
      generalize zs.getD k 0 = x at *
      generalize hR : zs.drop (k + 1) = R at *
      have HRR := Lib.hid hR
      clear hS hR
      go_wp2
      go_loopw [9] (fun j wr => ∃ t : Nat, t ≤ k ∧ j = .int .i64 t ∧ Hid (posK (gapV fr) S x t = posK (gapV fr) S x k) ∧ wr.ownsRow B 3 1 (.slice A zs.length cap) zs.length ((arrT S x R t).map (Value.int .i64)) ∧ Below B w wr) (fun j _ => (intOf j).toNat)
      case atStart => exact ⟨k, Nat.le_refl _, rfl, Lib.hid rfl, hown, hbel⟩
      case round =>
        clear hown hbel
        obtain ⟨t, ht, rfl, HP, hown, hbel⟩ := hrel
        by_cases ht0 : 0 < t
        · obtain ⟨s, hts⟩ : ∃ s, t = s + 1 := ⟨t - 1, by omega⟩
          obtain ⟨g, rfl, hgB⟩ := own_head hown (by omega)
          have hsS : s < S.length := by have := HSL.out; omega
          have hg := arrT_get1 S x R s hsS
          rw [← hts] at hg
          have hcs := (hown.cellAt s (by omega)).trans hg.1
          have hct := (hown.cellAt t (by omega)).trans hg.2
          have hy := HRK.out (S.getD s 0) (by rw [show S.getD s 0 = S[s] from by simp [hsS]]; exact List.getElem_mem _)
          have hcc := (hbel.cell (p := cp) hB).trans HC.out
          have HPS := Lib.hid (show posK (gapV fr) S x (s + 1) = if gapV fr x < gapV fr (S.getD s 0) then posK (gapV fr) S x s else s + 1 from rfl)
          have HSW := Lib.hid (arrT_swap S x R s hsS)
          have fi := hown.frozenAt s
          have ft := hown.frozenAt t
          rw [← hts] at HPS HSW
          have HO := Lib.hid hown
          have HB := Lib.hid hbel
          generalize S.getD s 0 = y at *
          have e1 : (t : Int) - 1 = s := by omega
          have e2 := IntWalk.i64_in (s : Int) (by omega)
          have l1 : s < zs.length := by omega
          have l2 : t < zs.length := by omega
          obtain ⟨d, hd⟩ : ∃ d, d = gapV fr x - gapV fr y := ⟨_, rfl⟩
          have HCALL : Hid (∀ n, Calls Try.prog 144 #[.int .i64 x, .int .i64 y, .pointer (some cp)] (wr.drewN n) fun e w'' => e = .returned (.int .i64 d) ∧ ∃ m, w'' = wr.drewN m) :=
            Lib.hid (fun n => (c_cmpS fr x y cp (wr.drewN n) hcc hf hx hy).mono (by rintro e w' ⟨rfl, m, rfl⟩; exact ⟨by rw [hd], n + m, by simp⟩))
          have HD := Lib.hid hd
          have HTS := Lib.hid hts
          clear hown hbel hg hd hts hsS hx hy hf
          by_cases hneg : d < 0
          · have HQ := Lib.hid (show posK (gapV fr) S x s = posK (gapV fr) S x k from by
              have h1 := HPS.out
              rw [if_pos (by have := HD.out; omega)] at h1
              rw [← h1]; exact HP.out)
            go_wp2_with fail
            go_quiet ((go_at_call 144; exact HCALL.out _))
            have hcs5 : (wr.drewN nq).cell? ⟨g, s, none⟩ = some (.int .i64 y) := hcs
            have hct5 : (wr.drewN nq).cell? ⟨g, t, none⟩ = some (.int .i64 x) := hct
            have fi5 : (wr.drewN nq).frozen? ⟨g, s, none⟩ = false := fi
            have ft5 : (wr.drewN nq).frozen? ⟨g, t, none⟩ = false := ft
            have st1 := (drewN_own HO.out nq).drew.stored t (.int .i64 y)
            have st2 := st1.1.stored s (.int .i64 x)
            rw [HSW.out] at st2
            have HS := Lib.hid st2.1
            have HB5 := Lib.hid (((drewN_below HB.out nq).drew.setCell (p := ⟨g, t, none⟩) hgB (.int .i64 y)).setCell (p := ⟨g, s, none⟩) hgB (.int .i64 x))
            clear st1 st2 hcs hct fi ft HO HB HCALL hcc
            generalize wr.drewN nq = w5 at *
            go_wp2_with fail
            go_region
            go_wp2
            go_roundw
            case rel => exact ⟨s, by omega, by go_num, HQ, HS.out, HB5.out⟩
            case measure => simp [intOf]; have := HTS.out; omega
          · have HQ := Lib.hid (show posK (gapV fr) S x k = t from by
              have h1 := HPS.out
              rw [if_neg (by have := HD.out; omega)] at h1
              rw [← HP.out]; exact h1)
            have hown := HO.out
            rw [HOUT.out t HQ.out, ← HRR.out] at hown
            have HO2 := Lib.hid hown
            clear hown HO
            go_wp2_with fail
            go_quiet ((go_at_call 144; exact HCALL.out _))
            have HO5 := Lib.hid (drewN_own HO2.out nq)
            have HB5 := Lib.hid (drewN_below HB.out nq)
            clear hcs hct fi ft HO2 HB HCALL hcc
            generalize wr.drewN nq = w5 at *
            go_wp2
            go_roundw
            case rel => exact ⟨k + 1, by omega, by omega, by go_num, HO5.out, HB5.out⟩
            case measure => simp [intOf]; omega
        · obtain rfl : t = 0 := by omega
          rw [HOUT.out 0 HP.out.symm, ← HRR.out] at hown
          have HO2 := Lib.hid hown
          have HB := Lib.hid hbel
          clear hown hbel
          go_wp2_with fail
          go_quiet (fail)
          have HO5 := Lib.hid (drewN_own HO2.out nq)
          have HB5 := Lib.hid (drewN_below HB.out nq)
          clear HO2 HB
          generalize wr.drewN nq = w5 at *
          go_wp2
          go_roundw
          case rel => exact ⟨k + 1, by omega, by omega, by go_num, HO5.out, HB5.out⟩
          case measure => simp [intOf]; omega
    · obtain rfl : k = zs.length := by omega
      rw [List.drop_length, List.append_nil] at hown
      go_wp2
      go_end0
      exact ⟨rfl, by unfold OwnI sortL; rw [sortK_len]; exact hown, hbel⟩
set_option maxHeartbeats 1000000 in
theorem c_stable {B : Nat} (fr : Int) (cp : Addr) (A : Option Addr) (cap : Nat) (zs : List Int) (w : World) (h : OwnI w B A cap zs) (hB : cp.block < B) (hc : w.cell? cp = some (.int .i64 fr)) (hl : zs.length ≤ 20)
    (hf : 0 ≤ fr ∧ fr ≤ 65535) (hz : ∀ i, i < zs.length → 0 ≤ zs.getD i 0 ∧ zs.getD i 0 ≤ 65535) :
    Calls Try.prog 158 #[.slice A zs.length cap, .int .i64 zs.length, .func (Fn.func 144) #[] #[.pointer (some cp)]] w fun e w' => e = .returned (.tuple #[]) ∧ OwnI w' B A cap (sortL (gapV fr) zs) ∧ Below B w w' := by
  by_cases h0 : zs.length = 0
  · obtain rfl := List.eq_nil_of_length_eq_zero h0
    have HO := Lib.hid h
    clear h
    go_enter Try.func158, Try.ntmps158
    go_wp2
    go_loopw [7, 8] (fun a b wr => a = .int .i64 0 ∧ b = .int .i64 20 ∧ w = wr) (fun _ _ _ => 0)
    case atStart => exact ⟨rfl, rfl, rfl⟩
    case round =>
      obtain ⟨rfl, rfl, rfl⟩ := hrel
      go_wp2_with fail
      refine (c_insNone A 0 cap 0 _ _ (by omega) (by omega)).mono ?_
      rintro e _ ⟨rfl, rfl⟩
      go_wp2
      go_loopw [6, 7, 8, 9] (fun s a b c wr => s = .int .i64 20 ∧ w = wr) (fun _ _ _ _ _ => 0)
      case atStart => exact ⟨rfl, rfl⟩
      case round =>
        obtain ⟨rfl, rfl⟩ := hrel
        go_wp2
        go_end0
        exact ⟨rfl, HO.out, Below.refl _ _⟩
  · by_cases h20 : zs.length = 20
    · have C := Lib.hid (c_insSort fr cp A cap zs w h hB hc hl hf hz (by omega))
      have e20 : ((zs.length : Nat) : Int) = 20 := by omega
      rw [h20] at C
      rw [h20]
      clear h hc hz h0 hf
      go_enter Try.func158, Try.ntmps158
      go_wp2
      go_loopw [7, 8] (fun a b wr => ∃ z : Nat, (z = 0 ∧ a = .int .i64 0 ∧ b = .int .i64 20 ∧ w = wr) ∨ (z = 1 ∧ a = .int .i64 20 ∧ b = .int .i64 40 ∧ OwnI wr B A cap (sortL (gapV fr) zs) ∧ Below B w wr)) (fun a b _ => (40 - intOf b).toNat)
      case atStart => exact ⟨0, .inl ⟨rfl, rfl, rfl, rfl⟩⟩
      case round =>
        rcases hrel with ⟨z, ⟨rfl, rfl, rfl, rfl⟩ | ⟨rfl, rfl, rfl, ho, hb⟩⟩
        · go_wp2_with fail
          refine C.out.mono ?_
          rintro e w2 ⟨rfl, o2, b2⟩
          have HO := Lib.hid o2
          have HB := Lib.hid b2
          clear o2 b2
          go_wp2
          go_roundw
          case rel => exact ⟨_, _, _, _, _, _, _, _, _, _, _, _, _, _, ⟨1, .inr ⟨rfl, rfl, rfl, HO.out, HB.out⟩⟩, rfl⟩
          case measure => simp [intOf]
        · have HO := Lib.hid ho
          have HB := Lib.hid hb
          clear ho hb
          go_wp2_with fail
          refine (c_insNone A 20 cap 20 _ _ (by omega) (by omega)).mono ?_
          rintro e _ ⟨rfl, rfl⟩
          go_wp2
          go_loopw [6, 7, 8, 9] (fun s a b c w' => s = .int .i64 20 ∧ wr = w') (fun _ _ _ _ _ => 0)
          case atStart => exact ⟨rfl, rfl⟩
          case round =>
            obtain ⟨rfl, rfl⟩ := hrel
            go_wp2
            go_end0
            exact ⟨rfl, HO.out, HB.out⟩
    · have C := Lib.hid (c_insSort fr cp A cap zs w h hB hc hl hf hz (by omega))
      have hl2 : zs.length < 20 := by omega
      clear h hc hz h0 h20 hf
      go_enter Try.func158, Try.ntmps158
      go_wp2
      go_loopw [7, 8] (fun a b wr => a = .int .i64 0 ∧ b = .int .i64 20 ∧ w = wr) (fun _ _ _ => 0)
      case atStart => exact ⟨rfl, rfl, rfl⟩
      case round =>
        obtain ⟨rfl, rfl, rfl⟩ := hrel
        go_wp2_with fail
        refine C.out.mono ?_
        rintro e w2 ⟨rfl, o2, b2⟩
        have HO := Lib.hid o2
        have HB := Lib.hid b2
        clear o2 b2
        go_wp2
        go_loopw [6, 7, 8, 9] (fun s a b c w' => s = .int .i64 20 ∧ w2 = w') (fun _ _ _ _ _ => 0)
        case atStart => exact ⟨rfl, rfl⟩
        case round =>
          obtain ⟨rfl, rfl⟩ := hrel
          go_wp2
          go_end0
          exact ⟨rfl, HO.out, HB.out⟩
theorem c_sortStable {B : Nat} (fr : Int) (cp : Addr) (A : Option Addr) (cap : Nat) (zs : List Int) (w : World) (h : OwnI w B A cap zs) (hB : cp.block < B) (hc : w.cell? cp = some (.int .i64 fr)) (hl : zs.length ≤ 20)
    (hf : 0 ≤ fr ∧ fr ≤ 65535) (hz : ∀ i, i < zs.length → 0 ≤ zs.getD i 0 ∧ zs.getD i 0 ≤ 65535) :
    Calls Try.prog 143 #[.slice A zs.length cap, .func (Fn.func 144) #[] #[.pointer (some cp)]] w fun e w' => e = .returned (.tuple #[]) ∧ OwnI w' B A cap (sortL (gapV fr) zs) ∧ Below B w w' := by
  have C := Lib.hid (c_stable fr cp A cap zs w h hB hc hl hf hz)
  clear h hc hz
  go_enter Try.func143, Try.ntmps143
  go_wp2_with fail
  refine C.out.mono ?_
  rintro e w2 ⟨rfl, o2, b2⟩
  have HO := Lib.hid o2
  have HB := Lib.hid b2
  clear o2 b2
  go_wp2
  go_end0
  exact ⟨rfl, HO.out, HB.out⟩
def ssB (zs : List Int) (fr : Int) : Bool := goodB 20 65535 zs && inR fr 0 65535
def ssL (zs : List Int) (fr : Int) : List Int := if ssB zs fr then sortL (gapV fr) zs else []
theorem ssL_len (zs : List Int) (fr : Int) : (ssL zs fr).length ≤ 100000 := by
  unfold ssL
  split
  · rename_i h
    simp only [ssB, Bool.and_eq_true] at h
    have := (goodB_t h.1).1
    unfold sortL
    rw [sortK_len]
    omega
  · simp
set_option maxHeartbeats 1000000 in
theorem c_implSortSerials {H : Nat} (A : Option Addr) (cap : Nat) (zs : List Int) (fr : Int) (w : World) (h : Ints w H A zs) (hH : H ≤ w.heap.size) (hl : zs.length ≤ 100000000) :
    Calls Try.prog 83 #[.slice A zs.length cap, .int .i64 fr] w fun e w' => ∃ A' cap', e = .returned (.tuple #[.slice A' (ssL zs fr).length cap', .bool (ssB zs fr)]) ∧ OwnI w' w.heap.size A' cap' (ssL zs fr) ∧ Below w.heap.size w w' := by
  obtain ⟨X, hX⟩ : ∃ X, X = w.alloc (.cells #[.int .i64 fr] 3) := ⟨_, rfl⟩
  have b1 : Below w.heap.size w X := by rw [hX]; exact (Below.refl _ _).alloc (Nat.le_refl _) _
  have hlt : w.heap.size < X.heap.size := by rw [hX]; simp
  have hc : X.cell? ⟨w.heap.size, 0, none⟩ = some (.int .i64 fr) := by rw [hX]; exact new1_cell _ _ _
  have i1 := (h.more hH).keep b1
  have C1 := Lib.hid (c_areSerials A cap zs X i1 hl)
  have HX := Lib.hid hX
  clear h hX
  cases g0 : goodB 20 65535 zs
  · rw [show ssB zs fr = false from by simp [ssB, g0], show ssL zs fr = [] from by simp [ssL, ssB, g0]]
    go_enter Try.func83, Try.ntmps83
    go_wp2_with fail
    rw [← HX.out]
    refine C1.out.mono ?_
    rintro e _ ⟨rfl, rfl⟩
    rw [g0]
    have HB := Lib.hid b1
    clear b1 i1
    go_wp2
    go_ret2
    exact ⟨none, 0, rfl, OwnI.nil _ _, HB.out⟩
  · cases g1 : inR fr 0 65535
    · rw [show ssB zs fr = false from by simp [ssB, g1], show ssL zs fr = [] from by simp [ssL, ssB, g1]]
      go_enter Try.func83, Try.ntmps83
      go_wp2_with fail
      rw [← HX.out]
      refine C1.out.mono ?_
      rintro e _ ⟨rfl, rfl⟩
      rw [g0]
      have HB := Lib.hid b1
      clear b1 i1
      go_wp2_with fail
      refine (c_isSerial _ _).mono ?_
      rintro e _ ⟨rfl, rfl⟩
      rw [g1]
      go_wp2
      go_ret2
      exact ⟨none, 0, rfl, OwnI.nil _ _, HB.out⟩
    · rw [show ssB zs fr = true from by simp [ssB, g0, g1], show ssL zs fr = sortL (gapV fr) zs from by simp [ssL, ssB, g0, g1]]
      have HG := Lib.hid (goodB_t g0)
      have HF := Lib.hid (inR_t g1)
      go_enter Try.func83, Try.ntmps83
      go_wp2_with fail
      rw [← HX.out]
      refine C1.out.mono ?_
      rintro e _ ⟨rfl, rfl⟩
      rw [g0]
      have HB := Lib.hid b1
      clear b1
      go_wp2_with fail
      refine (c_isSerial _ _).mono ?_
      rintro e _ ⟨rfl, rfl⟩
      rw [g1]
      go_wp2_with fail
      refine (c_cloneI A cap zs _ i1 HB.out.size (by omega)).mono ?_
      rintro e w2 ⟨A2, c2, rfl, o2, b3⟩
      have hc2 := (b3.cell (p := ⟨w.heap.size, 0, none⟩) hlt).trans hc
      have HB2 := Lib.hid (HB.out.trans (b3.mono HB.out.size))
      clear b3 i1 hc
      go_wp2_with fail
      refine (c_sortStable fr ⟨w.heap.size, 0, none⟩ A2 c2 zs _ o2 hlt hc2 HG.out.1 HF.out (fun i hi => inR_t (HG.out.2 i hi))).mono ?_
      rintro e w3 ⟨rfl, o3, b4⟩
      have HO := Lib.hid (o3.base HB.out.size)
      have HB3 := Lib.hid (HB2.out.trans (b4.mono HB.out.size))
      have HL := Lib.hid (sortK_len (gapV fr) zs zs.length)
      clear o2 o3 b4 hc2
      go_wp2
      go_ret2
      exact ⟨A2, c2, by unfold sortL; rw [HL.out]; rfl, HO.out, HB3.out⟩
/-- 'append(out, ys...)' onto a list of the call's own, at a step of a region that draws: n and m the lengths as they stand there, r the new one. -/
theorem step_appN (w : World) {ops : Array Oper} {o : Oper} {a : Act} {K : Act → World → Prop} {Q : Exit → Act → World → Prop} {E : Prop} (hg : o.guard = none) (s x : Operand)
    (ho : o.op = .call { callee := .builtin .append, args := #[s, x], argTypes := #[30, 30] }) (B : Nat) (A : Option Addr) (cap : Nat) (zs ys : List Int) (n m r : Nat) (hn : zs.length = n) (hm : ys.length = m) (hr : n + m = r)
    (hs : a.eval s = .slice A n cap) (hown : OwnI w B A cap zs) (ad : Addr) (c : Nat) (hx : a.eval x = .slice (some ad) m c) (hy : ∀ j u, (ys.map (Value.int .i64))[j]? = some u → w.cell? (ad.add j) = some u)
    (hl : r ≤ 100000000) (hB : B ≤ w.heap.size)
    (h : ∀ A' cap' w', OwnI w' B A' cap' (zs ++ ys) → Below B w w' → w.grownBy w' (Value.ownBlock (.slice A n cap)) → K (a.put o.dst (.slice A' r cap')) w') :
    if Region.wanted o (yielded ops a.tmps) = true then Oper.wp Try.prog o a w K Q else E := by
  subst hn
  subst hm
  subst hr
  have hw : Region.wanted o (yielded ops a.tmps) = true := by simp [Region.wanted, hg]
  rw [if_pos hw]
  obtain ⟨i0, hi, hz0, hz1, hz2⟩ := info_parts int_info
  refine wp_append_own w s x 30 ho B 3 i0 (.int .i64 0) 1 8 Try.underlying30 hi hz0 hz1 hz2 rfl (by omega) _ zs.length (zs.map (Value.int .i64)) hs hown ad ys.length c (ys.map (Value.int .i64)) hx (by simp) hy ?_ (by unfold maxLen; omega) (by omega) hB ?_
  · intro u hu
    obtain ⟨z, _, rfl⟩ := List.mem_map.1 hu
    rfl
  · intro v' w' hown' hgrow hnil
    have hb : Below B w w' := (Below.refl _ _).grown hgrow hB (fun k hk => (World.ownsRow.lt hown k hk).1)
    have e : zs.map (Value.int .i64) ++ ys.map (Value.int .i64) = (zs ++ ys).map (Value.int .i64) := by simp
    rw [e] at hown'
    rcases hown'.2 with ⟨rfl, h0⟩ | ⟨g, c, cur, rfl, _⟩
    · have h1 : zs.length + ys.length = 0 := h0
      rw [h1] at hown' h
      exact h _ _ _ (by unfold OwnI; rw [List.length_append, h1]; exact hown') hb hgrow
    · exact h _ _ _ (by unfold OwnI; rw [List.length_append]; exact hown') hb hgrow
end Go.Proofs.Ytkoccbjeoihbiaa
