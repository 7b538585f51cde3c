/- Texts spoilt in one place; packets' texts drawn. -/
import Derived.Test.YtpmfaiocmgkmpaaGreatDoorDrawK
import Derived.Test.YtpmfaiocmgkmpaaGreatDoorSplit
import Derived.Test.YtpmfaiocmgkmpaaGreatDoorEnc
namespace Go.Proofs.YtpmfaiocmgkmpaaGreatDoor
open Go.RowKit
set_option linter.unusedVariables false
set_option maxRecDepth 100000

theorem run_pre (l : List UInt8) (i : Nat) (hi : i ≤ l.length) (W : World) : (Instr.slice 9 (.string (str l)) none (some (.int .i64 (i : Int))) none).run Tryz.prog W = .ok (.string (str (l.take i))) W := by
  rw [run_slice_string_h W 9 (str l) Tryz.underlying9 .i64 (i : Int) (by omega) (by rw [str_size]; omega), extract_str]
  simp [list_str]
theorem run_suf (l : List UInt8) (i : Nat) (hi : i ≤ l.length) (W : World) : (Instr.slice 9 (.string (str l)) (some (.int .i64 (i : Int))) none none).run Tryz.prog W = .ok (.string (str (l.drop i))) W := by
  rw [run_slice_string_l W 9 (str l) Tryz.underlying9 .i64 (i : Int) (by omega) (by rw [str_size]; omega), Int.toNat_natCast, extract_end, list_str]
set_option maxHeartbeats 4000000 in
theorem c_spoilt (b N : Nat) (l tt : List UInt8) (w : World) (h : Cur w b N) (hN : N ≤ 900000) (hl : 0 < l.length) (hl2 : l.length ≤ 1000) (ht : 0 < tt.length) (ht2 : tt.length ≤ 100) :
    Calls Tryz.prog 29 #[.pointer (some ⟨b, 0, none⟩), .string (str l), .string (str tt)] w (DrawsT b (N + 10) (fun s => s.size ≤ l.length + 1) w) := by
  have H := Lib.hid h
  have hsz := str_size l
  have hst := str_size tt
  have t1 := str_tl l
  have hne : (l == []) = false := beq_eq_false_iff_ne.2 (by intro e; rw [e] at hl; simp at hl)
  clear h
  go_enter Tryz.func29, Tryz.ntmps29
  go_wp2_with fail
  refine (c_pick b N (l.length : Int) _ H.out (by omega) (by omega) (by omega)).mono ?_
  rintro e w1 ⟨x, rfl, ⟨hx0, hx1⟩, k1, g1⟩
  obtain ⟨i, rfl⟩ : ∃ n : Nat, x = (n : Int) := ⟨x.toNat, by omega⟩
  have hi : i < l.length := by omega
  have H1 := Lib.hid k1
  have G1 := Lib.hid g1
  clear k1 g1 hx0 hx1 H
  go_wp2_with fail
  refine (c_pick b (N + 2) (tt.length : Int) _ H1.out (by omega) (by omega) (by omega)).mono ?_
  rintro e w2 ⟨x, rfl, ⟨hx0, hx1⟩, k1, g1⟩
  obtain ⟨j, rfl⟩ : ∃ n : Nat, x = (n : Int) := ⟨x.toNat, by omega⟩
  have hj : j < tt.length := by omega
  have H2 := Lib.hid k1
  have G2 := Lib.hid (grown_trans G1.out g1)
  have q1 := fun W => run_suf tt j (by omega) W
  have hlj : (tt.drop j).length = tt.length - j := List.length_drop
  generalize tt.drop j = tj at *
  have q2 := fun W => run_pre tj 1 (by omega) W
  have q2 : ∀ W, (Instr.slice 9 (.string (str tj)) none (some (.int .i64 1)) none).run Tryz.prog W = .ok (.string (str (tj.take 1))) W := q2
  have hl1 : (tj.take 1).length ≤ 1 := by rw [List.length_take]; omega
  generalize tj.take 1 = d at *
  clear k1 g1 hx0 hx1 H1 G1 hlj
  go_wp2_with fail
  refine (c_pick b (N + 2 + 2) 3 _ H2.out (by omega) (by omega) (by omega)).mono ?_
  rintro e w3 ⟨x, rfl, ⟨hx0, hx1⟩, k1, g1⟩
  have H3 := Lib.hid (fun q => (k1.drewN q).more (show N + 2 + 2 + 2 ≤ N + 10 by omega))
  have G3 := Lib.hid (fun q => grown_drewN (grown_trans G2.out g1) q)
  have r1 := fun W => run_pre l i (by omega) W
  have r2 := fun W => run_suf l i (by omega) W
  have r3 := fun W => run_suf l (i + 1) (by omega) W
  have wi : IntKind.i64.wrap ((i : Int) + 1) = (i : Int) + 1 := IntWalk.i64_in _ (by omega)
  have r3 : ∀ W, (Instr.slice 9 (.string (str l)) (some (.int .i64 ((i : Int) + 1))) none none).run Tryz.prog W = .ok (.string (str (l.drop (i + 1)))) W := r3
  have hla : (l.take i).length = i := by rw [List.length_take]; omega
  have hlb : (l.drop i).length = l.length - i := List.length_drop
  have hlc : (l.drop (i + 1)).length = l.length - (i + 1) := List.length_drop
  generalize l.take i = A at *
  generalize l.drop i = B at *
  generalize l.drop (i + 1) = C at *
  have a1 := fun W => run_add_str A d (A ++ d) rfl (by simp; omega) W
  have a2 := fun W => run_add_str (A ++ d) B (A ++ d ++ B) rfl (by simp; omega) W
  have a3 := fun W => run_add_str (A ++ d) C (A ++ d ++ C) rfl (by simp; omega) W
  have a4 := fun W => run_add_str A C (A ++ C) rfl (by simp; omega) W
  have s2 : (str (A ++ d ++ B)).size ≤ l.length + 1 := by rw [str_size]; simp; omega
  have s3 : (str (A ++ d ++ C)).size ≤ l.length + 1 := by rw [str_size]; simp; omega
  have s4 : (str (A ++ C)).size ≤ l.length + 1 := by rw [str_size]; simp; omega
  have S2 := Lib.hid s2
  have S3 := Lib.hid s3
  have S4 := Lib.hid s4
  clear k1 g1 H2 G2 s2 s3 s4
  by_cases h0 : x = 0
  · subst h0
    go_wp2_with fail
    go_quiet (fail)
    go_wp2
    go_ret
    exact ⟨_, rfl, by have := S2.out; rwa [List.append_assoc] at this, H3.out _, G3.out _⟩
  have b0 : (x == 0) = false := beq_eq_false_iff_ne.2 h0
  by_cases h1 : x = 1
  · subst h1
    go_wp2_with fail
    go_quiet (fail)
    go_wp2
    go_ret
    exact ⟨_, rfl, by have := S3.out; rwa [List.append_assoc] at this, H3.out _, G3.out _⟩
  have b1 : (x == 1) = false := beq_eq_false_iff_ne.2 h1
  go_wp2_with fail
  go_quiet (fail)
  go_wp2
  go_ret
  exact ⟨_, rfl, S4.out, H3.out _, G3.out _⟩
end Go.Proofs.YtpmfaiocmgkmpaaGreatDoor
