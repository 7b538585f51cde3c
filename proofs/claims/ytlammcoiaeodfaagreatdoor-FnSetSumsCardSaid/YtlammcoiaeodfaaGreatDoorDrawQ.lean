/- The draws of the law on sets' sums and texts: a set, a set's text, texts spoilt in one place. -/
import Derived.Test.YtlammcoiaeodfaaGreatDoorDrawR
import Derived.Test.YtlammcoiaeodfaaGreatDoorDrawT
import Derived.Test.YtlammcoiaeodfaaGreatDoorSetS
import Derived.Laws.IdiomStrings
namespace Go.Proofs.YtlammcoiaeodfaaGreatDoor
open Go.RowKit
set_option linter.unusedVariables false
set_option maxRecDepth 100000

theorem str_tl (l : List UInt8) : (str l).toList = l := Lib.toList_data _
theorem run_pre (l : List UInt8) (i : Nat) (hi : i ≤ l.length) (W : World) : (Instr.slice 9 (.string (str l)) none (some (.int .i64 (i : Int))) none).run Tryz.prog W = .ok (.string (str (l.take i))) W := by
  rw [run_slice_string_h W 9 (str l) Tryz.underlying9 .i64 (i : Int) (by omega) (by rw [str_size]; omega), extract_str]
  simp [list_str]
theorem run_suf (l : List UInt8) (i : Nat) (hi : i ≤ l.length) (W : World) : (Instr.slice 9 (.string (str l)) (some (.int .i64 (i : Int))) none none).run Tryz.prog W = .ok (.string (str (l.drop i))) W := by
  rw [run_slice_string_l W 9 (str l) Tryz.underlying9 .i64 (i : Int) (by omega) (by rw [str_size]; omega), Int.toNat_natCast, extract_end, list_str]
set_option maxHeartbeats 4000000 in
theorem c_spoilt (b N : Nat) (l tt : List UInt8) (w : World) (h : Cur w b N) (hN : N ≤ 900000) (hl2 : l.length ≤ 1000) (ht : 0 < tt.length) (ht2 : tt.length ≤ 100) :
    Calls Tryz.prog 39 #[.pointer (some ⟨b, 0, none⟩), .string (str l), .string (str tt)] w (DrawsT b (N + 10) (fun s => s.size ≤ l.length + 1) w) := by
  have H := Lib.hid h
  have hsz := str_size l
  have hst := str_size tt
  have t1 := str_tl l
  clear h
  by_cases hl0 : l = []
  · subst hl0
    have hne : (([] : List UInt8) == []) = true := rfl
    have q2 := fun W => run_pre tt 1 (by omega) W
    have q2 : ∀ W, (Instr.slice 9 (.string (str tt)) none (some (.int .i64 1)) none).run Tryz.prog W = .ok (.string (str (tt.take 1))) W := q2
    have hl1 : (tt.take 1).length ≤ 1 := by rw [List.length_take]; omega
    have s2 : (str (tt.take 1)).size ≤ ([] : List UInt8).length + 1 := by rw [str_size]; simpa using hl1
    have S2 := Lib.hid s2
    generalize tt.take 1 = d at *
    clear s2
    go_enter Tryz.func39, Tryz.ntmps39
    go_wp2_with fail
    go_ret
    exact ⟨_, rfl, S2.out, H.out.more (by omega), World.grownBy.refl _ _⟩
  have hl : 0 < l.length := by cases l with | nil => exact absurd rfl hl0 | cons _ _ => simp
  have hne : (l == []) = false := beq_eq_false_iff_ne.2 hl0
  go_enter Tryz.func39, Tryz.ntmps39
  go_wp2_with fail
  refine (c_pick b N (l.length : Int) _ H.out (by omega) (by omega) (by omega)).mono ?_
  rintro e w1 ⟨x, rfl, ⟨hx0, hx1⟩, k1, g1⟩
  obtain ⟨i, rfl⟩ : ∃ n : Nat, x = (n : Int) := ⟨x.toNat, by omega⟩
  have hi : i < l.length := by omega
  have H1 := Lib.hid k1
  have G1 := Lib.hid g1
  clear k1 g1 hx0 hx1 H
  go_wp2_with fail
  refine (c_pick b (N + 2) (tt.length : Int) _ H1.out (by omega) (by omega) (by omega)).mono ?_
  rintro e w2 ⟨x, rfl, ⟨hx0, hx1⟩, k1, g1⟩
  obtain ⟨j, rfl⟩ : ∃ n : Nat, x = (n : Int) := ⟨x.toNat, by omega⟩
  have hj : j < tt.length := by omega
  have H2 := Lib.hid k1
  have G2 := Lib.hid (grown_trans G1.out g1)
  have q1 := fun W => run_suf tt j (by omega) W
  have hlj : (tt.drop j).length = tt.length - j := List.length_drop
  generalize tt.drop j = tj at *
  have q2 := fun W => run_pre tj 1 (by omega) W
  have q2 : ∀ W, (Instr.slice 9 (.string (str tj)) none (some (.int .i64 1)) none).run Tryz.prog W = .ok (.string (str (tj.take 1))) W := q2
  have hl1 : (tj.take 1).length ≤ 1 := by rw [List.length_take]; omega
  generalize tj.take 1 = d at *
  clear k1 g1 hx0 hx1 H1 G1 hlj
  go_wp2_with fail
  refine (c_pick b (N + 2 + 2) 3 _ H2.out (by omega) (by omega) (by omega)).mono ?_
  rintro e w3 ⟨x, rfl, ⟨hx0, hx1⟩, k1, g1⟩
  have H3 := Lib.hid (fun q => (k1.drewN q).more (show N + 2 + 2 + 2 ≤ N + 10 by omega))
  have G3 := Lib.hid (fun q => grown_drewN (grown_trans G2.out g1) q)
  have r1 := fun W => run_pre l i (by omega) W
  have r2 := fun W => run_suf l i (by omega) W
  have r3 := fun W => run_suf l (i + 1) (by omega) W
  have wi : IntKind.i64.wrap ((i : Int) + 1) = (i : Int) + 1 := IntWalk.i64_in _ (by omega)
  have r3 : ∀ W, (Instr.slice 9 (.string (str l)) (some (.int .i64 ((i : Int) + 1))) none none).run Tryz.prog W = .ok (.string (str (l.drop (i + 1)))) W := r3
  have hla : (l.take i).length = i := by rw [List.length_take]; omega
  have hlb : (l.drop i).length = l.length - i := List.length_drop
  have hlc : (l.drop (i + 1)).length = l.length - (i + 1) := List.length_drop
  generalize l.take i = A at *
  generalize l.drop i = B at *
  generalize l.drop (i + 1) = C at *
  have a1 := fun W => run_add_str A d (A ++ d) rfl (by simp; omega) W
  have a2 := fun W => run_add_str (A ++ d) B (A ++ d ++ B) rfl (by simp; omega) W
  have a3 := fun W => run_add_str (A ++ d) C (A ++ d ++ C) rfl (by simp; omega) W
  have a4 := fun W => run_add_str A C (A ++ C) rfl (by simp; omega) W
  have s2 : (str (A ++ d ++ B)).size ≤ l.length + 1 := by rw [str_size]; simp; omega
  have s3 : (str (A ++ d ++ C)).size ≤ l.length + 1 := by rw [str_size]; simp; omega
  have s4 : (str (A ++ C)).size ≤ l.length + 1 := by rw [str_size]; simp; omega
  have S2 := Lib.hid s2
  have S3 := Lib.hid s3
  have S4 := Lib.hid s4
  clear k1 g1 H2 G2 s2 s3 s4
  by_cases h0 : x = 0
  · subst h0
    go_wp2_with fail
    go_quiet (fail)
    go_wp2
    go_ret
    exact ⟨_, rfl, by have := S2.out; rwa [List.append_assoc] at this, H3.out _, G3.out _⟩
  have b0 : (x == 0) = false := beq_eq_false_iff_ne.2 h0
  by_cases h1 : x = 1
  · subst h1
    go_wp2_with fail
    go_quiet (fail)
    go_wp2
    go_ret
    exact ⟨_, rfl, by have := S3.out; rwa [List.append_assoc] at this, H3.out _, G3.out _⟩
  have b1 : (x == 1) = false := beq_eq_false_iff_ne.2 h1
  go_wp2_with fail
  go_quiet (fail)
  go_wp2
  go_ret
  exact ⟨_, rfl, S4.out, H3.out _, G3.out _⟩
/-- A list of ranges that a call drew. -/
def DrawnQ (w : World) (e : Ending) (w' : World) : Prop := ∃ (A : Option Addr) (cap : Nat) (rs : List (Int × Int)), e = .returned (.slice A rs.length cap) ∧ rs.length ≤ 30 ∧ Rngs w' w'.heap.size A rs ∧ Below w.heap.size w w'
set_option maxHeartbeats 2000000 in
theorem c_DrawIsRangeSet (A : Option Addr) (n cap : Nat) (w : World) (hB : BytesAt w w.heap.size A n) (hn : n ≤ 100000) :
    Calls Tryz.prog 31 #[.slice A n cap] w (DrawnQ w) := by
  have H0 := Lib.hid (cur_new w A n cap hB hn)
  have b0 := Lib.hid ((Below.refl w.heap.size w).alloc (Nat.le_refl _) (.cells #[.slice A n cap, .int .i64 0, .int .u64 0] 41))
  clear hB
  go_enter Tryz.func31, Tryz.ntmps31
  go_wp2_with fail
  refine (c_rangeSet w.heap.size 0 _ H0.out (by omega)).mono ?_
  rintro e w1 ⟨A1, c1, rs, rfl, hlen, hP, k1, o1, g1⟩
  have O1 := Lib.hid o1.rngs
  have BE := Lib.hid (below_cur b0.out (Nat.le_refl _) g1)
  clear k1 g1 o1 hP H0
  go_wp2
  go_ret
  exact ⟨A1, c1, rs, rfl, hlen, O1.out, BE.out⟩
set_option maxHeartbeats 2000000 in
theorem c_DrawSetText (A : Option Addr) (n cap : Nat) (w : World) (hB : BytesAt w w.heap.size A n) (hn : n ≤ 100000) :
    Calls Tryz.prog 14 #[.slice A n cap] w (DrawnQ w) := by
  have C := Lib.hid (c_DrawIsRangeSet A n cap w hB hn)
  clear hB
  go_enter Tryz.func14, Tryz.ntmps14
  go_wp2_with fail
  refine C.out.mono ?_
  rintro e w1 ⟨A1, c1, rs, rfl, hlen, o1, b1⟩
  have O1 := Lib.hid o1
  have BE := Lib.hid b1
  clear o1 b1 C
  go_wp2
  go_ret
  exact ⟨A1, c1, rs, rfl, hlen, O1.out, BE.out⟩
theorem setTT_len (rs : List (Int × Int)) : (setTT rs).length ≤ 120 := by
  unfold setTT
  split
  · next h =>
    have g := setB_good.1 h
    exact setT_len (goodR_word g) g.2
  · simp
set_option maxHeartbeats 4000000 in
theorem c_DrawParseSet (A : Option Addr) (n cap : Nat) (w : World) (hB : BytesAt w w.heap.size A n) (hn : n ≤ 100000) :
    Calls Tryz.prog 19 #[.slice A n cap] w (DrawnT (fun s => s.size ≤ 200) w) := by
  have H0 := Lib.hid (cur_new w A n cap hB hn)
  have b0 := Lib.hid ((Below.refl w.heap.size w).alloc (Nat.le_refl _) (.cells #[.slice A n cap, .int .i64 0, .int .u64 0] 41))
  clear hB
  go_enter Tryz.func19, Tryz.ntmps19
  go_wp2_with fail
  refine (c_rangeSet w.heap.size 0 _ H0.out (by omega)).mono ?_
  rintro e w1 ⟨A1, c1, rs, rfl, hlen, hP, k1, o1, g1⟩
  have H1 := Lib.hid k1
  have B1 := Lib.hid (below_cur b0.out (Nat.le_refl _) g1)
  have C := Lib.hid (c_specSetText A1 c1 rs w1 o1.rngs (Nat.le_refl _) (by omega))
  have hl1 := setTT_len rs
  generalize setTT rs = l at *
  generalize setB rs = gs at *
  clear k1 g1 o1 hP H0 b0
  go_wp2_with fail
  refine C.out.mono ?_
  rintro e w2 ⟨rfl, b2⟩
  have H2 := Lib.hid (H1.out.keep b2 H1.out.inside)
  have B2 := Lib.hid (B1.out.trans (b2.mono B1.out.size))
  clear b2 C H1 B1
  go_wp2_with fail
  refine (c_one w.heap.size _ 3 _ H2.out (by omega) (by omega) (by omega)).mono ?_
  rintro e w3 ⟨y, rfl, k3, g3⟩
  have H3 := Lib.hid k3
  have B3 := Lib.hid (below_cur B2.out (Nat.le_refl _) g3)
  have hsz := str_size l
  clear k3 g3 H2 B2
  cases y
  · go_wp2
    go_ret
    exact ⟨_, rfl, by show (str l).size ≤ 200; omega, B3.out⟩
  · have CS := Lib.hid (c_spoilt w.heap.size _ l [44, 45, 48, 110] w3 H3.out (by omega) (by omega) (by simp) (by simp))
    go_wp2_with fail
    refine CS.out.mono ?_
    rintro e w4 ⟨s, rfl, hs, k4, g4⟩
    have B4 := Lib.hid (below_cur B3.out (Nat.le_refl _) g4)
    clear k4 g4 CS
    go_wp2
    go_ret
    exact ⟨_, rfl, by show s.size ≤ 200; omega, B4.out⟩
end Go.Proofs.YtlammcoiaeodfaaGreatDoor
