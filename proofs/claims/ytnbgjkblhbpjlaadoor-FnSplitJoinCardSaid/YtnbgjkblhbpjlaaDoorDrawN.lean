/- The reference's draws of numbers and texts for the first chapter. -/
import Derived.Test.YtnbgjkblhbpjlaaDoorDrawT
import Derived.Test.YtnbgjkblhbpjlaaDoorStrs
import Derived.Laws.IdiomStrings
namespace Go.Proofs.YtnbgjkblhbpjlaaDoor
open Go.RowKit
open Go.Lib (itoa decDigits)
set_option linter.unusedVariables false
set_option maxRecDepth 100000

set_option maxHeartbeats 1000000 in
theorem c_any1 (b N : Nat) (w : World) (h : Cur w b N) (hN : N ≤ 900000) :
    Calls Tryd.prog 74 #[.pointer (some ⟨b, 0, none⟩)] w fun e w' => ∃ s : ByteArray, e = .returned (.string s) ∧ s.size ≤ 10 ∧ Cur w' b (N + 2) ∧ w.grownBy w' (some b) := by
  have H0 := Lib.hid h
  clear h
  go_enter Tryd.func74, Tryd.ntmps74
  go_wp2_with fail
  refine (c_of b N (w.heap.size + 1) 9 (fun s => s.size ≤ 10) _ _ _ _ (H0.out.push _) (by omega) (lies_lit w _ _) (by simp) (ne_new H0.out.inside) (by rfl) (by decide) (by decide) ?_).mono ?_
  · intro v hv
    simp only [List.mem_cons, List.not_mem_nil, or_false] at hv
    rcases hv with rfl | rfl | rfl | rfl | rfl | rfl | rfl | rfl | rfl
    all_goals exact ⟨_, rfl, by decide⟩
  rintro e w2 ⟨s, rfl, hs, k2, g2⟩
  have K2 := Lib.hid k2
  have G2 := Lib.hid (grown_trans (grown_alloc w (.cells _ _) (some b)) g2)
  clear k2 g2
  go_wp2
  go_ret
  exact ⟨_, rfl, hs, K2.out, G2.out⟩
set_option maxHeartbeats 1000000 in
theorem c_DrawLessString (A : Option Addr) (n cap : Nat) (w : World) (hB : BytesAt w w.heap.size A n) (hn : n ≤ 100000) :
    Calls Tryd.prog 36 #[.slice A n cap] w (DrawnTT (fun s t => s.size ≤ 10 ∧ t.size ≤ 10) w) := by
  have H0 := Lib.hid (cur_new w A n cap hB hn)
  have b0 := Lib.hid ((Below.refl w.heap.size w).alloc (Nat.le_refl _) (.cells #[.slice A n cap, .int .i64 0, .int .u64 0] 84))
  clear hB
  go_enter Tryd.func36, Tryd.ntmps36
  go_wp2_with fail
  refine (c_any1 w.heap.size 0 _ H0.out (by omega)).mono ?_
  rintro e w1 ⟨s, rfl, hs, k1, g1⟩
  have H1 := Lib.hid k1
  have B1 := Lib.hid (below_cur b0.out (Nat.le_refl _) g1)
  clear k1 g1
  go_wp2_with fail
  refine (c_any1 w.heap.size 2 _ H1.out (by omega)).mono ?_
  rintro e w2 ⟨t, rfl, ht, k2, g2⟩
  have B2 := Lib.hid (below_cur B1.out (Nat.le_refl _) g2)
  clear k2 g2
  go_wp2
  go_ret2
  exact ⟨s, t, rfl, ⟨hs, ht⟩, B2.out⟩
set_option maxHeartbeats 1000000 in
theorem c_DrawSplitString (A : Option Addr) (n cap : Nat) (w : World) (hB : BytesAt w w.heap.size A n) (hn : n ≤ 100000) :
    Calls Tryd.prog 32 #[.slice A n cap] w (DrawnTT (fun s t => s.size ≤ 10 ∧ t.size ≤ 10) w) := by
  have H0 := Lib.hid (cur_new w A n cap hB hn)
  have b0 := Lib.hid ((Below.refl w.heap.size w).alloc (Nat.le_refl _) (.cells #[.slice A n cap, .int .i64 0, .int .u64 0] 84))
  clear hB
  go_enter Tryd.func32, Tryd.ntmps32
  go_wp2_with fail
  refine (c_any1 w.heap.size 0 _ H0.out (by omega)).mono ?_
  rintro e w1 ⟨s, rfl, hs, k1, g1⟩
  have H1 := Lib.hid k1
  have B1 := Lib.hid (below_cur b0.out (Nat.le_refl _) g1)
  clear k1 g1
  go_wp2_with fail
  refine (c_of w.heap.size 2 (w1.heap.size + 1) 5 (fun s => s.size ≤ 10) _ _ _ _ (H1.out.push _) (by omega) (lies_lit w1 _ _) (by simp) (ne_new H1.out.inside) (by rfl) (by decide) (by decide) ?_).mono ?_
  · intro v hv
    simp only [List.mem_cons, List.not_mem_nil, or_false] at hv
    rcases hv with rfl | rfl | rfl | rfl | rfl
    all_goals exact ⟨_, rfl, by decide⟩
  rintro e w2 ⟨t, rfl, ht, k2, g2⟩
  have B2 := Lib.hid (below_cur (B1.out.alloc B1.out.size _) (Nat.le_refl _) g2)
  clear k2 g2
  go_wp2
  go_ret2
  exact ⟨s, t, rfl, ⟨hs, ht⟩, B2.out⟩
set_option maxHeartbeats 1000000 in
theorem c_DrawFormatInt (A : Option Addr) (n cap : Nat) (w : World) (hB : BytesAt w w.heap.size A n) (hn : n ≤ 100000) :
    Calls Tryd.prog 28 #[.slice A n cap] w fun e w' => ∃ x : Int, e = .returned (.int .i64 x) ∧ (-1000000 ≤ x ∧ x ≤ 1000000) ∧ Below w.heap.size w w' := by
  have H0 := Lib.hid (cur_new w A n cap hB hn)
  have b0 := Lib.hid ((Below.refl w.heap.size w).alloc (Nat.le_refl _) (.cells #[.slice A n cap, .int .i64 0, .int .u64 0] 84))
  clear hB
  go_enter Tryd.func28, Tryd.ntmps28
  go_wp2_with fail
  refine (c_pick w.heap.size 0 1000 _ H0.out (by omega) (by omega) (by omega)).mono ?_
  rintro e w1 ⟨y, rfl, ⟨hy0, hy1⟩, k1, g1⟩
  have hy2 : y < 1000 := by omega
  have H1 := Lib.hid k1
  have B1 := Lib.hid (below_cur b0.out (Nat.le_refl _) g1)
  clear k1 g1 hy1
  go_wp2_with fail
  refine (c_among w.heap.size 2 (w1.heap.size + 1) (fun x => -1000000 ≤ x ∧ x ≤ 1000000) _ _ [0, 1, -1, 10, 999999, -999999, 1000000, -1000000, y - 500] _ (H1.out.push _) (by omega) (ints_lit w1 _) (by simp) (ne_new H1.out.inside) (by simp) (by simp) ?_).mono ?_
  · intro z hz
    simp only [List.mem_cons, List.not_mem_nil, or_false] at hz
    omega
  rintro e w2 ⟨x, rfl, hx, k2, g2⟩
  have B2 := Lib.hid (below_cur (B1.out.alloc B1.out.size _) (Nat.le_refl _) g2)
  clear k2 g2
  go_wp2
  go_ret
  exact ⟨x, rfl, hx, B2.out⟩
set_option maxHeartbeats 1000000 in
theorem c_DrawParseInt (A : Option Addr) (n cap : Nat) (w : World) (hB : BytesAt w w.heap.size A n) (hn : n ≤ 100000) :
    Calls Tryd.prog 29 #[.slice A n cap] w (DrawnT (fun s => s.size ≤ 100) w) := by
  have H0 := Lib.hid (cur_new w A n cap hB hn)
  have b0 := Lib.hid ((Below.refl w.heap.size w).alloc (Nat.le_refl _) (.cells #[.slice A n cap, .int .i64 0, .int .u64 0] 84))
  clear hB
  go_enter Tryd.func29, Tryd.ntmps29
  go_wp2_with fail
  refine (c_one w.heap.size 0 2 _ H0.out (by omega) (by omega) (by omega)).mono ?_
  rintro e w1 ⟨y, rfl, k1, g1⟩
  have H1 := Lib.hid k1
  have B1 := Lib.hid (below_cur b0.out (Nat.le_refl _) g1)
  clear k1 g1
  cases y
  · go_wp2_with fail
    refine (c_pick w.heap.size 2 2000 _ H1.out (by omega) (by omega) (by omega)).mono ?_
    rintro e w2 ⟨y, rfl, ⟨hy0, hy1⟩, k2, g2⟩
    have hy2 : y < 2000 := by omega
    have B2 := Lib.hid (below_cur B1.out (Nat.le_refl _) g2)
    clear k2 g2 hy1
    have hw : wrap64 (y - 1000) = y - 1000 := IntWalk.wrap64_in _ ⟨by omega, by omega⟩
    have HL := Lib.hid (show (str (itoa (y - 1000))).size ≤ 100 from by
      have := (itoa_len (n := y - 1000) (by simp [numOk]; omega)).2
      rw [str_size]; omega)
    go_wp2_with fail
    refine (c_l1Num (y - 1000) _ (by omega) (by omega)).mono ?_
    rintro e _ ⟨rfl, q, rfl⟩
    have B3 := Lib.hid (below_drewN B2.out q)
    go_wp2
    go_ret
    exact ⟨_, rfl, HL.out, B3.out⟩
  · go_wp2_with fail
    refine (c_of w.heap.size 2 (w1.heap.size + 1) 11 (fun s => s.size ≤ 100) _ _ _ _ (H1.out.push _) (by omega) (lies_lit w1 _ _) (by simp) (ne_new H1.out.inside) (by rfl) (by decide) (by decide) ?_).mono ?_
    · intro v hv
      simp only [List.mem_cons, List.not_mem_nil, or_false] at hv
      rcases hv with rfl | rfl | rfl | rfl | rfl | rfl | rfl | rfl | rfl | rfl | rfl
      all_goals exact ⟨_, rfl, by decide⟩
    rintro e w2 ⟨t, rfl, ht, k2, g2⟩
    have B2 := Lib.hid (below_cur (B1.out.alloc B1.out.size _) (Nat.le_refl _) g2)
    clear k2 g2
    go_wp2
    go_ret
    exact ⟨_, rfl, ht, B2.out⟩
theorem u8_info : (Tryd.prog.info? 5).map (fun i => (i.zero, i.size, i.bytes)) = some (some (.int .u8 0), 1, 1) := by kernel_rfl
theorem conv_zeros {B : Nat} (w w3 : World) (n : Nat) (h : w3.ownsRow B 5 1 (.slice (some ⟨w.heap.size, 0, none⟩) n n) n (madeCells (Value.int .u8 0).cells (n * 1)).toList) :
    (convert 35 9 (.slice (some ⟨w.heap.size, 0, none⟩) n n)).run Tryd.prog w3 = .ok (.string (str (List.replicate n 0))) w3 := by
  rw [Nat.mul_one] at h
  have h0 : (madeCells (Value.int .u8 0).cells n).toList = List.replicate n (Value.int .u8 0) := toList_madeCells_one _ _
  rw [h0] at h
  have hcv := run_convert_bytes_back (P := Tryd.prog) w3 35 9 5 ⟨w.heap.size, 0, none⟩ n (List.replicate n 0) Tryd.underlying35 Tryd.underlying5 Tryd.underlying9 (fun j hj => by
    have hj' : j < n := by simpa using hj
    have e := h.cellAt j (by omega)
    rw [add_lit, e]
    simp [hj'])
  rw [List.length_replicate] at hcv
  exact hcv
set_option maxHeartbeats 1000000 in
theorem c_DrawAppendChecksum (A : Option Addr) (n cap : Nat) (w : World) (hB : BytesAt w w.heap.size A n) (hn : n ≤ 100000) :
    Calls Tryd.prog 30 #[.slice A n cap] w (DrawnT (fun s => s.size ≤ 5000) w) := by
  have H0 := Lib.hid (cur_new w A n cap hB hn)
  have b0 := Lib.hid ((Below.refl w.heap.size w).alloc (Nat.le_refl _) (.cells #[.slice A n cap, .int .i64 0, .int .u64 0] 84))
  clear hB
  go_enter Tryd.func30, Tryd.ntmps30
  go_wp2_with fail
  refine (c_one w.heap.size 0 20 _ H0.out (by omega) (by omega) (by omega)).mono ?_
  rintro e w1 ⟨y, rfl, k1, g1⟩
  have H1 := Lib.hid k1
  have B1 := Lib.hid (below_cur b0.out (Nat.le_refl _) g1)
  clear k1 g1
  cases y
  · go_wp2_with fail
    refine (c_any1 w.heap.size 2 _ H1.out (by omega)).mono ?_
    rintro e w2 ⟨s, rfl, hs, k2, g2⟩
    have B2 := Lib.hid (below_cur B1.out (Nat.le_refl _) g2)
    clear k2 g2
    have hs2 : s.size ≤ 5000 := by omega
    clear hs
    go_wp2
    go_ret
    exact ⟨_, rfl, hs2, B2.out⟩
  · go_wp2_with fail
    refine (c_pick w.heap.size 2 10 _ H1.out (by omega) (by omega) (by omega)).mono ?_
    rintro e w2 ⟨y, rfl, ⟨hy0, hy1⟩, k2, g2⟩
    obtain ⟨m, rfl⟩ : ∃ m : Nat, y = (m : Int) := ⟨y.toNat, by omega⟩
    have hm : m < 10 := by omega
    have B2 := Lib.hid (below_cur B1.out (Nat.le_refl _) g2)
    clear k2 g2 hy0 hy1
    obtain ⟨i0, hi, hz0, hz1, hz2⟩ := info_parts u8_info
    have HBB := Lib.hid (show i0.bytes * (3990 + m) ≤ 281474976710656 by rw [hz2]; omega)
    clear hz2
    go_wp2_with (at_make; refine wpList_make_full _ rfl _ _ _ rfl w.heap.size 5 i0 (.int .u8 0) 1 Tryd.underlying35 hi hz0 hz1 _ _ _ _ (3990 + m) rfl rfl (by omega) (by omega) HBB.out (by unfold maxLen; omega) B2.out.size ?_; intro w3 hown hgrow; have hcv := conv_zeros w2 w3 (3990 + m) hown; have B3 := Lib.hid (B2.out.grown hgrow B2.out.size (fun k hk => by cases hk)); clear hown hgrow)
    have hsz : (str (List.replicate (3990 + m) (0 : UInt8))).size ≤ 5000 := by rw [str_size, List.length_replicate]; omega
    go_wp2
    go_ret
    exact ⟨_, rfl, hsz, B3.out⟩
theorem OwnS.cur {w w' : World} {B cap b : Nat} {A : Option Addr} {xs : List (List UInt8)} (h : OwnS w B A cap xs) (g : w.grownBy w' (some b)) (hb : b < B) : OwnS w' B A cap xs :=
  h.far g (T := B) (fun k hk => by injection hk with hk; omega) (Nat.le_refl _)
def SmallS (xs : List (List UInt8)) : Prop := ∀ x ∈ xs, x.length ≤ 5000
theorem SmallS.snoc {xs : List (List UInt8)} {z : List UInt8} (h : SmallS xs) (hz : z.length ≤ 5000) : SmallS (xs ++ [z]) := fun x hx => by
  rcases List.mem_append.1 hx with hx | hx
  · exact h x hx
  · simp at hx
    rw [hx]
    exact hz
theorem snewcell (w : World) (z : List UInt8) : (w.alloc (.cells #[.string (str z)] 9)).cell? ((⟨w.heap.size, 0, none⟩ : Addr).add 0) = some (.string (str z)) := by
  rw [add_zero']
  exact new1_cell _ _ _
set_option maxHeartbeats 4000000 in
theorem c_DrawJoinStrings (A : Option Addr) (n cap : Nat) (w : World) (hB : BytesAt w w.heap.size A n) (hn : n ≤ 100000) :
    Calls Tryd.prog 33 #[.slice A n cap] w fun e w' => ∃ (A' : Option Addr) (cap' : Nat) (xs : List (List UInt8)) (s : ByteArray), e = .returned (.tuple #[.slice A' xs.length cap', .string s]) ∧ xs.length ≤ 5 ∧ SmallS xs ∧ s.size ≤ 10 ∧ OwnS w' w.heap.size A' cap' xs ∧ Below w.heap.size w w' := by
  have H0 := Lib.hid (cur_new w A n cap hB hn)
  have b0 := Lib.hid ((Below.refl w.heap.size w).alloc (Nat.le_refl _) (.cells #[.slice A n cap, .int .i64 0, .int .u64 0] 84))
  have E0 : Hid (OwnS ((w.alloc (.cells #[.slice A n cap, .int .i64 0, .int .u64 0] 84)).alloc (.cells #[] 9)) (w.heap.size + 1) (some ⟨w.heap.size + 1, 0, none⟩) 0 []) := Lib.hid (by have := OwnS.empty (w.alloc (.cells #[.slice A n cap, .int .i64 0, .int .u64 0] 84)) (w.heap.size + 1) (by simp); simpa using this)
  have E1 := Lib.hid (H0.out.push (.cells #[] 9))
  have b1 := Lib.hid (b0.out.alloc b0.out.size (.cells #[] 9))
  clear hB
  go_enter Tryd.func33, Tryd.ntmps33
  go_wp2_with fail
  refine (c_pick w.heap.size 0 4 _ E1.out (by omega) (by omega) (by omega)).mono ?_
  rintro e w1 ⟨y, rfl, ⟨hy0, hy1⟩, k1, g1⟩
  obtain ⟨n0, rfl⟩ : ∃ n : Nat, y = (n : Int) := ⟨y.toNat, by omega⟩
  have hn0 : n0 ≤ 3 := by omega
  have H1 := Lib.hid k1
  have B1 := Lib.hid (below_cur b1.out (Nat.le_refl _) g1)
  have O1 := Lib.hid (E0.out.cur g1 (Nat.lt_succ_self _))
  clear k1 g1 hy0 hy1 H0 b0 E0 E1 b1
  go_wp2_with fail
  go_loopw [5, 7] (fun v i wr => ∃ (k : Nat) (A : Option Addr) (cap : Nat) (xs : List (List UInt8)), k ≤ n0 ∧ i = .int .i64 k ∧ v = .slice A k cap ∧ Hid (xs.length = k) ∧ Hid (SmallS xs) ∧ Hid (Cur wr w.heap.size (2 + 2 * k)) ∧ Hid (OwnS wr (w.heap.size + 1) A cap xs) ∧ Hid (Below w.heap.size w wr)) (fun _ i _ => n0 - (intOf i).toNat)
  case atStart => exact ⟨0, _, _, [], Nat.zero_le _, rfl, rfl, Lib.hid rfl, Lib.hid (fun x hx => by cases hx), H1, O1, B1⟩
  case round =>
    clear H1 O1 B1
    obtain ⟨k, A, cap, xs, hk, rfl, rfl, HL, HS, HC, HO, HB⟩ := hrel
    by_cases hlt : k < n0
    · go_wp2_with fail
      refine (c_any1 w.heap.size (2 + 2 * k) _ HC.out (by omega)).mono ?_
      rintro e w2 ⟨s, rfl, hs, k2, g2⟩
      obtain ⟨z, rfl⟩ : ∃ z, s = str z := ⟨s.data.toList, (str_list s).symm⟩
      have HZ := Lib.hid (HS.out.snoc (z := z) (by rw [str_size] at hs; omega))
      have H2 := Lib.hid k2
      have B2 := Lib.hid (below_cur HB.out (Nat.le_refl _) g2)
      have O2 := Lib.hid (HO.out.cur g2 (Nat.lt_succ_self _))
      have S2 := Lib.hid (show w.heap.size + 1 ≤ w2.heap.size from H2.out.inside)
      clear k2 g2 HC HO HB HS hs
      go_wp2_with (at_builtin; refine wpList_appS _ rfl _ _ rfl (w.heap.size + 1) A cap xs (by rw [HL.out]; rfl) (O2.out.push _) z _ rfl (snewcell w2 z) (by rw [HL.out]; omega) (by have := S2.out; simp; omega) ?_; intro A' cap' w3 o3 b3)
      have O3 := Lib.hid o3
      have B3 := Lib.hid ((B2.out.alloc B2.out.size _).trans (b3.mono (Nat.le_succ _)))
      have H3 := Lib.hid ((H2.out.push _).keep b3 (Nat.lt_succ_self _))
      clear o3 b3 H2 B2 O2 S2
      go_wp2
      go_roundw
      case rel => exact ⟨k + 1, A', cap', xs ++ [z], by omega, by go_num, by rw [HL.out], Lib.hid (by simp [HL.out]), HZ, Lib.hid (H3.out.more (by omega)), O3, B3⟩
      case measure => simp [intOf]; omega
    · obtain rfl : k = n0 := by omega
      go_wp2_with fail
      refine (c_one w.heap.size (2 + 2 * k) 20 _ HC.out (by omega) (by omega) (by omega)).mono ?_
      rintro e w2 ⟨y, rfl, k2, g2⟩
      have H2 := Lib.hid k2
      have B2 := Lib.hid (below_cur HB.out (Nat.le_refl _) g2)
      have O2 := Lib.hid (HO.out.cur g2 (Nat.lt_succ_self _))
      clear k2 g2 HC HO HB
      cases y
      · go_wp2_with fail
        refine (c_of w.heap.size (2 + 2 * k + 2) (w2.heap.size + 1) 5 (fun s => s.size ≤ 10) _ _ _ _ (H2.out.push _) (by omega) (lies_lit w2 _ _) (by simp) (ne_new H2.out.inside) (by rfl) (by decide) (by decide) ?_).mono ?_
        · intro v hv
          simp only [List.mem_cons, List.not_mem_nil, or_false] at hv
          rcases hv with rfl | rfl | rfl | rfl | rfl
          all_goals exact ⟨_, rfl, by decide⟩
        rintro e w3 ⟨t, rfl, ht, k3, g3⟩
        have B3 := Lib.hid (below_cur (B2.out.alloc B2.out.size _) (Nat.le_refl _) g3)
        have O3 := Lib.hid ((O2.out.push _).cur g3 (Nat.lt_succ_self _))
        clear k3 g3 O2 B2 H2
        go_wp2
        go_ret2
        exact ⟨A, cap, xs, t, by rw [HL.out]; rfl, by rw [HL.out]; omega, HS.out, ht, O3.out.base (by omega), B3.out⟩
      · go_wp2_with fail
        refine (c_pick w.heap.size (2 + 2 * k + 2) 20 _ H2.out (by omega) (by omega) (by omega)).mono ?_
        rintro e w3 ⟨y, rfl, ⟨hy0, hy1⟩, k3, g3⟩
        obtain ⟨m, rfl⟩ : ∃ m : Nat, y = (m : Int) := ⟨y.toNat, by omega⟩
        have hm : m < 20 := by omega
        have H3 := Lib.hid k3
        have B3 := Lib.hid (below_cur B2.out (Nat.le_refl _) g3)
        have O3 := Lib.hid (O2.out.cur g3 (Nat.lt_succ_self _))
        have S3 := Lib.hid (show w.heap.size + 1 ≤ w3.heap.size from H3.out.inside)
        clear k3 g3 hy0 hy1 H2 B2 O2
        obtain ⟨i0, hi, hz0, hz1, hz2⟩ := info_parts u8_info
        have HBB := Lib.hid (show i0.bytes * (3990 + m) ≤ 281474976710656 by rw [hz2]; omega)
        clear hz2
        have HZ := Lib.hid (HS.out.snoc (z := List.replicate (3990 + m) 0) (by rw [List.length_replicate]; omega))
        generalize hz : List.replicate (3990 + m) (0 : UInt8) = z at HZ
        go_wp2_with (first
          | (at_make; refine wpList_make_full _ rfl _ _ _ rfl (w.heap.size + 1) 5 i0 (.int .u8 0) 1 Tryd.underlying35 hi hz0 hz1 _ _ _ _ (3990 + m) rfl rfl (by omega) (by omega) HBB.out (by unfold maxLen; omega) S3.out ?_; intro w4 hown hgrow; have hcv := conv_zeros w3 w4 (3990 + m) hown; rw [hz] at hcv; have B4 := Lib.hid (B3.out.grown hgrow B3.out.size (fun k hk => by cases hk)); have O4 := Lib.hid (O3.out.far hgrow (T := w.heap.size + 1) (fun k hk => by cases hk) (Nat.le_refl _)); have S4 := Lib.hid (Nat.le_trans S3.out hgrow.size); have H4 := Lib.hid (H3.out.keep ((Below.refl (w.heap.size + 1) w3).grown hgrow S3.out (fun k hk => by cases hk)) (Nat.lt_succ_self _)); clear hown hgrow)
          | (at_builtin; refine wpList_appS _ rfl _ _ rfl (w.heap.size + 1) A cap xs (by rw [HL.out]; rfl) (O4.out.push _) z _ rfl (snewcell w4 z) (by rw [HL.out]; omega) (by have := S4.out; simp; omega) ?_; intro A' cap' w5 o5 b5))
        have O5 := Lib.hid o5
        have B5 := Lib.hid ((B4.out.alloc B4.out.size _).trans (b5.mono (Nat.le_succ _)))
        have H5 := Lib.hid ((H4.out.push _).keep b5 (Nat.lt_succ_self _))
        clear o5 b5 H4 B4 O4 S4 H3 B3 O3 S3
        go_wp2_with fail
        refine (c_of w.heap.size (2 + 2 * k + 2 + 2) (w5.heap.size + 1) 5 (fun s => s.size ≤ 10) _ _ _ _ (H5.out.push _) (by omega) (lies_lit w5 _ _) (by simp) (ne_new H5.out.inside) (by rfl) (by decide) (by decide) ?_).mono ?_
        · intro v hv
          simp only [List.mem_cons, List.not_mem_nil, or_false] at hv
          rcases hv with rfl | rfl | rfl | rfl | rfl
          all_goals exact ⟨_, rfl, by decide⟩
        rintro e w6 ⟨t, rfl, ht, k6, g6⟩
        have B6 := Lib.hid (below_cur (B5.out.alloc B5.out.size _) (Nat.le_refl _) g6)
        have O6 := Lib.hid ((O5.out.push _).cur g6 (Nat.lt_succ_self _))
        clear k6 g6 O5 B5 H5
        go_wp2
        go_ret2
        exact ⟨A', cap', xs ++ [z], t, by rw [List.length_append, HL.out]; rfl, by rw [List.length_append, HL.out]; simp; omega, HZ.out, ht, O6.out.base (by omega), B6.out⟩
set_option maxHeartbeats 1000000 in
/-- The i-th byte of the law's argument, or a number made up. -/
theorem c_vAt (A : Option Addr) (n cap i : Nat) (w : World) (hB : BytesAt w w.heap.size A n) (hn : n ≤ 100000) (hi : i ≤ 1000) :
    ∃ x : Nat, x ≤ 255 ∧ Calls Tryd.prog 31 #[.slice A n cap, .int .i64 (i : Int)] w fun e w' => e = .returned (.int .i64 (x : Int)) ∧ w' = w := by
  by_cases hlt : (i : Int) < (n : Int)
  · obtain ⟨ad, x, rfl, hadb, hc, hx0, hx1⟩ := hB i (by omega)
    obtain ⟨m, rfl⟩ : ∃ m : Nat, x = (m : Int) := ⟨x.toNat, by omega⟩
    have hm : m ≤ 255 := by omega
    clear hB
    refine ⟨m, hm, ?_⟩
    go_enter Tryd.func31, Tryd.ntmps31
    go_wp2
    go_ret
    exact ⟨rfl, rfl⟩
  · clear hB
    have hz : ((i : Int) * 7 + (n : Int)) % 256 = ((i * 7 + n) % 256 : Nat) := by omega
    have hb : (i * 7 + n) % 256 ≤ 255 := by omega
    refine ⟨_, hb, ?_⟩
    go_enter Tryd.func31, Tryd.ntmps31
    go_wp2
    go_ret
    exact ⟨by rw [← hz]; rfl, rfl⟩
end Go.Proofs.YtnbgjkblhbpjlaaDoor
