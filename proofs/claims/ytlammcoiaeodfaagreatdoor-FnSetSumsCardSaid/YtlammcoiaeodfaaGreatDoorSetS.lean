/- The texts of sets: written by the reference's loop, by the program's parts. -/
import Derived.Test.YtlammcoiaeodfaaGreatDoorSplit
import Derived.Test.YtlammcoiaeodfaaGreatDoorFmtI
import Derived.Test.YtlammcoiaeodfaaGreatDoorSetTxt
import Derived.Test.YtlammcoiaeodfaaGreatDoorSetsF
namespace Go.Proofs.YtlammcoiaeodfaaGreatDoor
open Go.RowKit
open Go.Lib (itoa decDigits)
set_option linter.unusedVariables false
set_option maxRecDepth 100000

/-- The text of the first k ranges. -/
def setP (rs : List (Int × Int)) (k : Nat) : List UInt8 := jn 44 ((rs.take k).map rTxt)
theorem setP_zero (rs : List (Int × Int)) : setP rs 0 = [] := rfl
theorem setP_one (rs : List (Int × Int)) (h : 0 < rs.length) : setP rs 1 = rTxt (rs.getD 0 (0, 0)) := by
  unfold setP
  rw [take_snoc_r rs 0 h]
  rfl
theorem setP_next (rs : List (Int × Int)) (k : Nat) (h : k < rs.length) (h0 : 0 < k) : setP rs (k + 1) = setP rs k ++ 44 :: rTxt (rs.getD k (0, 0)) := by
  unfold setP
  rw [take_snoc_r rs k h, List.map_append]
  exact jn_snoc 44 _ _ (by
    intro e
    have := congrArg List.length e
    rw [List.length_map, List.length_take] at this
    simp only [List.length_nil] at this
    omega)
/-- The comma ahead of a range, if one is wanted. -/
def comma (k : Nat) (p : List UInt8) : List UInt8 := if k = 0 then p else p ++ [44]
theorem setP_step (rs : List (Int × Int)) (k : Nat) (h : k < rs.length) : setP rs (k + 1) = comma k (setP rs k) ++ rTxt (rs.getD k (0, 0)) := by
  unfold comma
  by_cases h0 : k = 0
  · subst h0
    rw [if_pos rfl, setP_one rs h]
    rfl
  · rw [if_neg h0, setP_next rs k h (by omega)]
    simp
theorem setP_all (rs : List (Int × Int)) (h : rs ≠ []) : setP rs rs.length = setT rs := by
  unfold setP
  rw [List.take_length, setT_cons h]
def WordsR (rs : List (Int × Int)) : Prop := ∀ k, k < rs.length → wordR (rs.getD k (0, 0))
theorem WordsR.mem {rs : List (Int × Int)} (h : WordsR rs) : ∀ r ∈ rs, wordR r := fun r hr => by
  obtain ⟨k, hk, e⟩ := List.getElem_of_mem hr
  have := h k hk
  rw [show rs.getD k (0, 0) = r from by simp [hk, e]] at this
  exact this
theorem WordsR.of {rs : List (Int × Int)} (h : ∀ r ∈ rs, wordR r) : WordsR rs := fun k hk => by
  rw [show rs.getD k (0, 0) = rs[k] from by simp [hk]]
  exact h _ (List.getElem_mem _)
theorem setP_len {rs : List (Int × Int)} (h : WordsR rs) (k : Nat) : (setP rs k).length ≤ 12 * rs.length := by
  unfold setP
  have := jn_len 44 11 ((rs.take k).map rTxt) (fun x hx => by
    obtain ⟨r, hr, rfl⟩ := List.mem_map.1 hx
    exact (rTxt_len (h.mem r (List.mem_of_mem_take hr))).2)
  rw [List.length_map, List.length_take] at this
  omega
theorem rTxt_lt {x y : Int} (h : x < y) : rTxt (x, y) = itoa x ++ 45 :: itoa y := by unfold rTxt; rw [if_pos h]
theorem rTxt_eq {x y : Int} (h : ¬ x < y) : rTxt (x, y) = itoa x := by unfold rTxt; rw [if_neg h, List.append_nil]
set_option maxHeartbeats 4000000 in
theorem c_l5Text {H : Nat} (A : Option Addr) (cap : Nat) (rs : List (Int × Int)) (w : World) (h : Rngs w H A rs) (hH : H ≤ w.heap.size) (hl : rs.length ≤ 1000) (hw : WordsR rs) :
    Calls Tryz.prog 33 #[.slice A rs.length cap] w fun e w' => e = .returned (.string (str (setT rs))) ∧ Below w.heap.size w w' := by
  have HW := Lib.hid hw
  clear hw
  by_cases h0 : rs = []
  · subst h0
    go_enter Tryz.func33, Tryz.ntmps33
    go_wp2
    go_ret
    exact ⟨rfl, Below.refl _ _⟩
  have hpos : 0 < rs.length := List.length_pos_iff.2 h0
  have g0 : ((rs.length : Int) == 0) = false := by simp; omega
  have HA := Lib.hid (setP_all rs h0)
  clear h0
  go_enter Tryz.func33, Tryz.ntmps33
  go_wp2
  go_loopw [3, 4] (fun v i wr => ∃ k : Nat, k ≤ rs.length ∧ i = .int .i64 k ∧ v = .string (str (setP rs k)) ∧ Below w.heap.size w wr) (fun _ i _ => rs.length - (intOf i).toNat)
  case atStart => exact ⟨0, Nat.zero_le _, rfl, rfl, Below.refl _ _⟩
  case round =>
    obtain ⟨k, hk, rfl, rfl, hbel⟩ := hrel
    by_cases hlt : k < rs.length
    · obtain ⟨ad, rfl, hadb, hc0, hc1⟩ := h.at_ hlt
      have hc : wr.cell? (ad.add (k * 2)) = some (.int .i64 (rs.getD k (0, 0)).1) := (hbel.cell (by rw [block_of_add]; omega)).trans hc0
      have hd : wr.cell? ⟨(ad.add (k * 2)).block, (ad.add (k * 2)).off + 1, none⟩ = some (.int .i64 (rs.getD k (0, 0)).2) := (hbel.cell (by simp only [block_of_add]; omega)).trans hc1
      have HB := Lib.hid hbel
      have hi : (k : Int) < (rs.length : Int) := by omega
      have hwk := HW.out k hlt
      have HN := Lib.hid (setP_step rs k hlt)
      have hlen := setP_len HW.out k
      have hlen2 := setP_len HW.out (k + 1)
      clear hbel hc0 hc1 h
      generalize rs.getD k (0, 0) = r at *
      obtain ⟨x, y⟩ := r
      obtain ⟨r0, r1, r2⟩ := hwk
      have hx0 : 0 ≤ x := r0
      have hxy0 : x ≤ y := r1
      have hy1 : y ≤ 65535 := r2
      clear r0 r1 r2
      have lx := (word_len (n := x) hx0 (by omega)).2
      have ly := (word_len (n := y) (by omega) hy1).2
      have CX := fun W => Lib.hid (c_l1Num x W (by omega) (by omega))
      have CY := fun W => Lib.hid (c_l1Num y W (by omega) (by omega))
      generalize setP rs k = p at *
      have hqa : (comma k p).length ≤ p.length + 1 := by unfold comma; split <;> simp
      obtain ⟨q, eq⟩ : ∃ q, comma k p = q := ⟨_, rfl⟩
      rw [eq] at HN hqa
      obtain ⟨t1, e1⟩ : ∃ t1, q ++ itoa x = t1 := ⟨_, rfl⟩
      obtain ⟨t2, e2⟩ : ∃ t2, t1 ++ [45] = t2 := ⟨_, rfl⟩
      obtain ⟨t3, e3⟩ : ∃ t3, t2 ++ itoa y = t3 := ⟨_, rfl⟩
      have l1 : t1.length ≤ q.length + 5 := by rw [← e1, List.length_append]; omega
      have l2 : t2.length ≤ t1.length + 1 := by rw [← e2, List.length_append]; exact Nat.le_refl _
      have l3 : t3.length ≤ t2.length + 5 := by rw [← e3, List.length_append]; omega
      have hadd1 := fun W => run_add_str q (itoa x) t1 e1 (by omega) W
      have hadd2 := fun W => run_add_str t1 [45] t2 e2 (by omega) W
      have hadd2 : ∀ W, (Op.stringOp .add (str t1) ⟨#[45]⟩).run Tryz.prog W = .ok (.string (str t2)) W := hadd2
      have hadd3 := fun W => run_add_str t2 (itoa y) t3 e3 (by omega) W
      have HT : x < y → Hid (setP rs (k + 1) = t3) := fun hxy => Lib.hid (by rw [HN.out, rTxt_lt hxy, ← e3, ← e2, ← e1]; simp)
      have HU : ¬ x < y → Hid (setP rs (k + 1) = t1) := fun hxy => Lib.hid (by rw [HN.out, rTxt_eq hxy, ← e1])
      clear HN e1 e2 e3 l1 l2 l3
      by_cases hk0 : k = 0
      · have hk1 : decide (0 < k) = false := by simp; omega
        have hq : q = p := by rw [← eq]; unfold comma; rw [if_pos hk0]
        clear eq
        subst hq
        clear hk0 hqa
        by_cases hxy : x < y
        · have HN := HT hxy
          clear HT HU
          go_wp2_with fail
          refine (CX _).out.mono ?_
          rintro e _ ⟨rfl, q1, rfl⟩
          go_wp2_with fail
          go_quiet (fail)
          go_wp2_with fail
          refine (CY _).out.mono ?_
          rintro e _ ⟨rfl, q2, rfl⟩
          go_wp2
          go_roundw
          case rel => exact ⟨k + 1, by omega, by go_num, by rw [HN.out], by first | exact below_dr (below_dr (below_dr HB.out _) _) _ | exact below_dr (below_dr HB.out _) _ | exact below_dr HB.out _⟩
          case measure => simp [intOf]; omega
        · have HN := HU hxy
          clear HT HU
          have hyx : decide (x < y) = false := by simp; omega
          go_wp2_with fail
          refine (CX _).out.mono ?_
          rintro e _ ⟨rfl, q1, rfl⟩
          go_wp2_with fail
          go_quiet (fail)
          go_wp2
          go_roundw
          case rel => exact ⟨k + 1, by omega, by go_num, by rw [HN.out], by first | exact below_dr (below_dr HB.out _) _ | exact below_dr HB.out _⟩
          case measure => simp [intOf]; omega
      · have hk1 : decide (0 < k) = true := by simp; omega
        have hadd0 := fun W => run_add_str p [44] q (by rw [← eq]; unfold comma; rw [if_neg hk0]) (by omega) W
        have hadd0 : ∀ W, (Op.stringOp .add (str p) ⟨#[44]⟩).run Tryz.prog W = .ok (.string (str q)) W := hadd0
        clear hk0 eq hqa
        by_cases hxy : x < y
        · have HN := HT hxy
          clear HT HU
          go_wp2_with fail
          refine (CX _).out.mono ?_
          rintro e _ ⟨rfl, q1, rfl⟩
          go_wp2_with fail
          go_quiet (fail)
          go_wp2_with fail
          refine (CY _).out.mono ?_
          rintro e _ ⟨rfl, q2, rfl⟩
          go_wp2
          go_roundw
          case rel => exact ⟨k + 1, by omega, by go_num, by rw [HN.out], by first | exact below_dr (below_dr (below_dr HB.out _) _) _ | exact below_dr (below_dr HB.out _) _ | exact below_dr HB.out _⟩
          case measure => simp [intOf]; omega
        · have HN := HU hxy
          clear HT HU
          have hyx : decide (x < y) = false := by simp; omega
          go_wp2_with fail
          refine (CX _).out.mono ?_
          rintro e _ ⟨rfl, q1, rfl⟩
          go_wp2_with fail
          go_quiet (fail)
          go_wp2
          go_roundw
          case rel => exact ⟨k + 1, by omega, by go_num, by rw [HN.out], by first | exact below_dr (below_dr HB.out _) _ | exact below_dr HB.out _⟩
          case measure => simp [intOf]; omega
    · obtain rfl : k = rs.length := by omega
      go_wp2
      go_ret
      exact ⟨ret_s (by rw [HA.out]), hbel⟩
set_option maxHeartbeats 4000000 in
theorem c_setText {H B : Nat} (A : Option Addr) (cap : Nat) (rs : List (Int × Int)) (w : World) (hp : PowW w B) (hB : B ≤ w.heap.size) (h : Rngs w H A rs) (hH : H ≤ w.heap.size) (hl : rs.length ≤ 1000) (hw : WordsR rs) :
    Calls Tryz.prog 32 #[.slice A rs.length cap] w fun e w' => e = .returned (.string (str (setT rs))) ∧ Below w.heap.size w w' := by
  have HW := Lib.hid hw
  have HP := Lib.hid hp
  clear hw hp
  by_cases h0 : rs = []
  · subst h0
    go_enter Tryz.func32, Tryz.ntmps32
    go_wp2
    go_ret
    exact ⟨rfl, Below.refl _ _⟩
  have hpos : 0 < rs.length := List.length_pos_iff.2 h0
  have g0 : ((rs.length : Int) == 0) = false := by simp; omega
  go_enter Tryz.func32, Tryz.ntmps32
  go_wp2
  go_loopw [3, 12] (fun v i wr => ∃ (k : Nat) (A' : Option Addr) (c' : Nat), k ≤ rs.length ∧ i = .int .i64 k ∧ v = .slice A' ((rs.take k).map rTxt).length c' ∧ Hid (OwnS wr w.heap.size A' c' ((rs.take k).map rTxt)) ∧ Below w.heap.size w wr) (fun _ i _ => rs.length - (intOf i).toNat)
  case atStart => exact ⟨0, none, 0, Nat.zero_le _, rfl, rfl, Lib.hid (OwnS.nil _ _), Below.refl _ _⟩
  case round =>
    obtain ⟨k, A', c', hk, rfl, rfl, HO, hbel⟩ := hrel
    by_cases hlt : k < rs.length
    · obtain ⟨ad, rfl, hadb, hc0, hc1⟩ := h.at_ hlt
      have hc : wr.cell? (ad.add (k * 2)) = some (.int .i64 (rs.getD k (0, 0)).1) := (hbel.cell (by rw [block_of_add]; omega)).trans hc0
      have hd : wr.cell? ⟨(ad.add (k * 2)).block, (ad.add (k * 2)).off + 1, none⟩ = some (.int .i64 (rs.getD k (0, 0)).2) := (hbel.cell (by simp only [block_of_add]; omega)).trans hc1
      have HB := Lib.hid hbel
      have hsz := hbel.size
      have hi : (k : Int) < (rs.length : Int) := by omega
      have hwk := HW.out k hlt
      have HL : Hid ((rs.take (k + 1)).map rTxt = (rs.take k).map rTxt ++ [rTxt (rs.getD k (0, 0))]) := Lib.hid (by rw [take_snoc_r rs k hlt]; simp)
      have hxl : ((rs.take k).map rTxt).length ≤ k := by simp; omega
      clear hbel hc0 hc1 h
      generalize rs.getD k (0, 0) = r at *
      generalize (rs.take k).map rTxt = xs at *
      obtain ⟨x, y⟩ := r
      obtain ⟨r0, r1, r2⟩ := hwk
      have hx0 : 0 ≤ x := r0
      have hxy0 : x ≤ y := r1
      have hy1 : y ≤ 65535 := r2
      clear r0 r1 r2
      have bb := Lib.hid ((Below.refl wr.heap.size wr).alloc (Nat.le_refl _) (.cells #[.int .i64 x, .int .i64 y] 47))
      have HB1 := Lib.hid (HB.out.alloc hsz (.cells #[.int .i64 x, .int .i64 y] 47))
      have C1 := Lib.hid (c_itoa x (wr.alloc (.cells #[.int .i64 x, .int .i64 y] 47)) (HP.out.keep HB1.out hB) (by omega) (by omega))
      have k0 : (wr.alloc (.cells #[.int .i64 x, .int .i64 y] 47)).cell? ⟨wr.heap.size, 0, none⟩ = some (.int .i64 x) := by simp [go_sem]
      have k1 : (wr.alloc (.cells #[.int .i64 x, .int .i64 y] 47)).cell? ⟨wr.heap.size, 1, none⟩ = some (.int .i64 y) := by simp [go_sem]
      have K := Lib.hid (And.intro k0 k1)
      have HO1 := Lib.hid (HO.out.push (.cells #[.int .i64 x, .int .i64 y] 47))
      have lx := (word_len (n := x) hx0 (by omega)).2
      have ly := (word_len (n := y) (by omega) hy1).2
      clear k0 k1 HO
      by_cases hxy : x < y
      · have hne : (x != y) = true := by simp; omega
        have HR := Lib.hid (rTxt_lt hxy)
        obtain ⟨u, eu⟩ : ∃ u, 45 :: itoa y = u := ⟨_, rfl⟩
        obtain ⟨t, et⟩ : ∃ t, itoa x ++ u = t := ⟨_, rfl⟩
        have lu : u.length ≤ 6 := by rw [← eu]; simp; omega
        have hadd1 := fun W => run_add_str [45] (itoa y) u eu (by omega) W
        have hadd1 : ∀ W, (Op.stringOp .add ⟨#[45]⟩ (str (itoa y))).run Tryz.prog W = .ok (.string (str u)) W := hadd1
        have hadd2 := fun W => run_add_str (itoa x) u t et (by rw [← et, List.length_append]; omega) W
        have HR2 : Hid (rTxt (x, y) = t) := Lib.hid (by rw [HR.out, eu, et])
        clear eu et lu HR
        go_wp2_with fail
        refine C1.out.mono ?_
        rintro e w2 ⟨rfl, b2⟩
        have q0 := (b2.cell (p := ⟨wr.heap.size, 0, none⟩) (by simp)).trans K.out.1
        have q1 := (b2.cell (p := ⟨wr.heap.size, 1, none⟩) (by simp)).trans K.out.2
        have HB1b := Lib.hid (HB1.out.trans (b2.mono HB1.out.size))
        have HO1b := Lib.hid (HO1.out.keep b2)
        have C2 := Lib.hid (c_itoa y w2 (HP.out.keep HB1b.out hB) (by omega) (by omega))
        clear b2 K HB1 HO1 C1 bb HB hc hd
        go_wp2_with fail
        refine C2.out.mono ?_
        rintro e w3 ⟨rfl, b3⟩
        have HB2 := Lib.hid (HB1b.out.trans (b3.mono HB1b.out.size))
        have HO2 := Lib.hid (HO1b.out.keep b3)
        clear b3 HB1b HO1b C2 q0 q1
        go_wp2_with (at_builtin; refine wpList_appS _ rfl _ _ rfl w.heap.size A' c' xs rfl (HO2.out.push _) t _ rfl (new1_cell _ _ _) (by omega) (by have := HB2.out.size; simp; omega) ?_; intro A2 c2 w3 o3 b3)
        have HO3 := Lib.hid o3
        have HB3 := Lib.hid ((HB2.out.alloc HB2.out.size _).trans b3)
        clear o3 b3 HO2 HB2
        go_wp2
        go_roundw
        case rel => exact ⟨k + 1, A2, c2, by omega, by go_num, by rw [HL.out]; simp, by rw [HL.out, HR2.out]; exact HO3, HB3.out⟩
        case measure => simp [intOf]; omega
      · have hne : (x != y) = false := by simp; omega
        have HR2 := Lib.hid (rTxt_eq hxy)
        go_wp2_with fail
        refine C1.out.mono ?_
        rintro e w2 ⟨rfl, b2⟩
        have q0 := (b2.cell (p := ⟨wr.heap.size, 0, none⟩) (by simp)).trans K.out.1
        have q1 := (b2.cell (p := ⟨wr.heap.size, 1, none⟩) (by simp)).trans K.out.2
        have HB2 := Lib.hid (HB1.out.trans (b2.mono HB1.out.size))
        have HO2 := Lib.hid (HO1.out.keep b2)
        clear b2 K HB1 HO1 C1 bb HB hc hd hxy
        go_wp2_with (at_builtin; refine wpList_appS _ rfl _ _ rfl w.heap.size A' c' xs rfl (HO2.out.push _) (itoa x) _ rfl (new1_cell _ _ _) (by omega) (by have := HB2.out.size; simp; omega) ?_; intro A2 c2 w3 o3 b3)
        have HO3 := Lib.hid o3
        have HB3 := Lib.hid ((HB2.out.alloc HB2.out.size _).trans b3)
        clear o3 b3 HO2 HB2
        go_wp2
        go_roundw
        case rel => exact ⟨k + 1, A2, c2, by omega, by go_num, by rw [HL.out]; simp, by rw [HL.out, HR2.out]; exact HO3, HB3.out⟩
        case measure => simp [intOf]; omega
    · obtain rfl : k = rs.length := by omega
      have hj : (jn 44 (rs.map rTxt)).length ≤ 1000000000 := by
        have := setP_len HW.out rs.length
        unfold setP at this
        rw [List.take_length] at this
        omega
      have HS := Lib.hid (setT_cons h0)
      rw [List.take_length] at HO
      have C := c_join (rs.map rTxt) 44 wr HO.out hj (by simp; omega)
      simp only [List.length_map] at C
      have C := Lib.hid C
      rw [List.take_length]
      clear HO h h0
      go_wp2_with fail
      refine C.out.mono ?_
      rintro e w2 ⟨rfl, b2⟩
      have HB2 := Lib.hid (hbel.trans (b2.mono hbel.size))
      clear b2 hbel
      go_wp2
      go_ret
      exact ⟨ret_s (by rw [HS.out]), HB2.out⟩
def setTT (rs : List (Int × Int)) : List UInt8 := if setB rs then setT rs else []
theorem setB_words {rs : List (Int × Int)} (h : setB rs = true) : WordsR rs := fun k hk => okAt_rng ((setB_t h).2 k hk)
set_option maxHeartbeats 400000 in
theorem c_specSetText {H : Nat} (A : Option Addr) (cap : Nat) (rs : List (Int × Int)) (w : World) (h : Rngs w H A rs) (hH : H ≤ w.heap.size) (hl : rs.length ≤ 100000000) :
    Calls Tryz.prog 16 #[.slice A rs.length cap] w fun e w' => e = .returned (.tuple #[.string (str (setTT rs)), .bool (setB rs)]) ∧ Below w.heap.size w w' := by
  have C1 := Lib.hid (c_l5Good A cap rs w h hH hl)
  have h1 := Lib.hid (h.more hH)
  clear h
  cases g0 : setB rs
  · rw [show setTT rs = [] from by simp [setTT, g0]]
    go_enter Tryz.func16, Tryz.ntmps16
    go_wp2_with fail
    refine C1.out.mono ?_
    rintro e w' ⟨rfl, bel⟩
    go_wp2
    go_ret2
    exact ⟨rfl, bel⟩
  · rw [show setTT rs = setT rs from by simp [setTT, g0]]
    have hl10 := (setB_t g0).1
    have HW := Lib.hid (setB_words g0)
    go_enter Tryz.func16, Tryz.ntmps16
    go_wp2_with fail
    refine C1.out.mono ?_
    rintro e w1 ⟨rfl, bel⟩
    have C2 := Lib.hid (c_l5Text A cap rs w1 (h1.out.keep bel) bel.size (by omega) HW.out)
    have HB := Lib.hid bel
    clear bel h1
    go_wp2_with fail
    refine C2.out.mono ?_
    rintro e w2 ⟨rfl, b2⟩
    have HB2 := Lib.hid (HB.out.trans (b2.mono HB.out.size))
    clear b2 C2
    go_wp2
    go_ret2
    exact ⟨rfl, HB2.out⟩
set_option maxHeartbeats 400000 in
theorem c_implSetText {H : Nat} (A : Option Addr) (cap : Nat) (rs : List (Int × Int)) (w : World) (hp : PowW w w.heap.size) (h : Rngs w H A rs) (hH : H ≤ w.heap.size) (hl : rs.length ≤ 100000000) :
    Calls Tryz.prog 15 #[.slice A rs.length cap] w fun e w' => e = .returned (.tuple #[.string (str (setTT rs)), .bool (setB rs)]) ∧ Below w.heap.size w w' := by
  have HP := Lib.hid hp
  clear hp
  have C1 := Lib.hid (c_isRangeSet A cap rs w h hH hl)
  have h1 := Lib.hid (h.more hH)
  clear h
  cases g0 : setB rs
  · rw [show setTT rs = [] from by simp [setTT, g0]]
    go_enter Tryz.func15, Tryz.ntmps15
    go_wp2_with fail
    refine C1.out.mono ?_
    rintro e w' ⟨rfl, bel⟩
    go_wp2
    go_ret2
    exact ⟨rfl, bel⟩
  · rw [show setTT rs = setT rs from by simp [setTT, g0]]
    have hl10 := (setB_t g0).1
    have HW := Lib.hid (setB_words g0)
    go_enter Tryz.func15, Tryz.ntmps15
    go_wp2_with fail
    refine C1.out.mono ?_
    rintro e w1 ⟨rfl, bel⟩
    have C2 := Lib.hid (c_setText A cap rs w1 (HP.out.keep bel (Nat.le_refl _)) bel.size (h1.out.keep bel) bel.size (by omega) HW.out)
    have HB := Lib.hid bel
    clear bel h1
    go_wp2_with fail
    refine C2.out.mono ?_
    rintro e w2 ⟨rfl, b2⟩
    have HB2 := Lib.hid (HB.out.trans (b2.mono HB.out.size))
    clear b2 C2
    go_wp2
    go_ret2
    exact ⟨rfl, HB2.out⟩
end Go.Proofs.YtlammcoiaeodfaaGreatDoor
