/- Packets: copied, compared, valid or not: by the program and by the reference. -/
import Derived.Test.YtpmfaiocmgkmpaaGreatDoorSplit
import Derived.Handy
namespace Go.Proofs.YtpmfaiocmgkmpaaGreatDoor
open Go.RowKit
set_option linter.unusedVariables false
set_option maxRecDepth 100000

/-- A packet's value. -/
def pkC (k n t l : Int) (d : List UInt8) : Array Value := #[.int .i64 k, .int .i64 n, .int .i64 t, .int .i64 l, .string (str d)]
def letB (l : List UInt8) : Bool := l.all fun c => decide (97 ≤ c.toNat ∧ c.toNat ≤ 122)
def itemB (l : List UInt8) : Bool := letB l && decide (l.length ≤ 8)
def goodP (k n t l : Int) (d : List UInt8) : Bool :=
  inR k 1 5 && inR n 0 65535 && inR t 0 65535 && inR l 0 65535 && itemB d && decide (gapV t l ≤ 32767) && (d.isEmpty || decide (k = 1) || decide (k = 2))
theorem goodP_t {k n t l : Int} {d : List UInt8} (h : goodP k n t l d = true) : (1 ≤ k ∧ k ≤ 5) ∧ (0 ≤ n ∧ n ≤ 65535) ∧ (0 ≤ t ∧ t ≤ 65535) ∧ (0 ≤ l ∧ l ≤ 65535) ∧ itemB d = true ∧ d.length ≤ 8 := by
  simp only [goodP, Bool.and_eq_true] at h
  obtain ⟨⟨⟨⟨⟨⟨h1, h2⟩, h3⟩, h4⟩, h5⟩, _⟩, _⟩ := h
  refine ⟨inR_t h1, inR_t h2, inR_t h3, inR_t h4, h5, ?_⟩
  simp only [itemB, Bool.and_eq_true, decide_eq_true_eq] at h5
  exact h5.2
theorem letB_bad {l : List UInt8} {k : Nat} {c : UInt8} (h : l[k]? = some c) (hc : ¬ (97 ≤ c.toNat ∧ c.toNat ≤ 122)) : letB l = false := by
  unfold letB
  rw [List.all_eq_false]
  exact ⟨c, List.mem_of_getElem? h, by simpa using hc⟩
theorem letB_snoc {l : List UInt8} {k : Nat} {c : UInt8} (h : letB (l.take k) = true) (hk : l[k]? = some c) (h1 : 97 ≤ c.toNat) (h2 : c.toNat ≤ 122) : letB (l.take (k + 1)) = true := by
  unfold letB at h ⊢
  rw [List.take_add_one, hk, List.all_append, h]
  simp [h1, h2]
set_option maxHeartbeats 400000 in
theorem c_l4Letters (l : List UInt8) (m : Nat) (w : World) (hl : l.length ≤ 1000000000) :
    Calls Tryz.prog 49 #[.string (str l), .int .i64 (m : Int)] w fun e w' => e = .returned (.bool (letB l && decide (l.length ≤ m))) ∧ w = w' := by
  obtain ⟨s, hs⟩ : ∃ s, s = str l := ⟨_, rfl⟩
  have HS : Hid (l = s.data.toList) := Lib.hid (by rw [hs, list_str])
  rw [← hs, HS.out, size_list]
  have hs9 : s.size ≤ 1000000000 := by rw [← size_list, ← HS.out]; exact hl
  clear hs HS hl
  go_enter Tryz.func49, Tryz.ntmps49
  go_wp2
  go_loop [5] (fun i => ∃ k : Nat, k ≤ s.size ∧ i = .int .i64 k ∧ Hid (letB (s.data.toList.take k) = true)) (fun i => s.size - (intOf i).toNat)
  case atStart => exact ⟨0, Nat.zero_le _, rfl, Lib.hid rfl⟩
  case round =>
    obtain ⟨k, hk, rfl, HN⟩ := hrel
    by_cases hlt : k < s.size
    · have hg := get_list s k hlt
      by_cases hc : 97 ≤ s[k].toNat ∧ s[k].toNat ≤ 122
      · have HM := Lib.hid (letB_snoc HN.out hg hc.1 hc.2)
        obtain ⟨d1, d2⟩ := hc
        have d3 : ¬ (s[k].toNat : Int) < 97 := by omega
        have d4 : ¬ (122 : Int) < (s[k].toNat : Int) := by omega
        clear hg
        go_wp2
        go_round
        case rel => exact ⟨k + 1, by omega, by go_num, HM⟩
        case measure => simp [intOf]; omega
      · have HY := Lib.hid (show (letB s.data.toList && decide (s.size ≤ m)) = false from by rw [letB_bad hg hc]; rfl)
        clear hg
        by_cases h97 : s[k].toNat < 97
        · have d3 : (s[k].toNat : Int) < 97 := by omega
          go_wp2
          go_ret
          exact ⟨ret_b HY.out.symm, rfl⟩
        · have d3 : ¬ (s[k].toNat : Int) < 97 := by omega
          have d4 : (122 : Int) < (s[k].toNat : Int) := by omega
          go_wp2
          go_ret
          exact ⟨ret_b HY.out.symm, rfl⟩
    · have HY := Lib.hid (show (letB s.data.toList && decide (s.size ≤ m)) = decide (s.size ≤ m) from by
        have := HN.out
        rw [List.take_of_length_le (by rw [size_list]; omega)] at this
        rw [this, Bool.true_and])
      go_wp2
      go_ret
      exact ⟨ret_b HY.out.symm, rfl⟩
def azL : List UInt8 := [97, 98, 99, 100, 101, 102, 103, 104, 105, 106, 107, 108, 109, 110, 111, 112, 113, 114, 115, 116, 117, 118, 119, 120, 121, 122]
theorem az_mem (c : UInt8) : c ∈ azL ↔ 97 ≤ c.toNat ∧ c.toNat ≤ 122 := by
  have : ∀ n : Fin 256, UInt8.ofNat n.val ∈ azL ↔ 97 ≤ n.val ∧ n.val ≤ 122 := by decide +kernel
  have h := this ⟨c.toNat, c.toNat_lt⟩
  simpa using h
theorem trim_az (l : List UInt8) : (Lib.trimS l azL).isEmpty = letB l := by
  rw [Bool.eq_iff_iff, List.isEmpty_iff, trim_all]
  unfold letB
  rw [List.all_eq_true]
  simp only [az_mem, decide_eq_true_eq]
set_option maxHeartbeats 400000 in
theorem c_isItem (l : List UInt8) (w : World) (hl : l.length ≤ 1000000000) :
    Calls Tryz.prog 41 #[.string (str l)] w fun e w' => e = .returned (.bool (itemB l)) ∧ Below w.heap.size w w' := by
  have hs : (str l).size = l.length := str_size l
  by_cases h8 : l.length ≤ 8
  · have C := fun W => Tryz.strings_Trim_laid (str l) (str azL) W (by omega) (by rw [str_size]; decide) (Go.Proofs.ascii_of_all (by decide))
    simp only [list_str] at C
    have HT := trim_az l
    obtain ⟨t, ht⟩ : ∃ t, Lib.trimS l azL = t := ⟨_, rfl⟩
    rw [ht] at HT
    simp only [ht] at C
    have HT := Lib.hid HT
    have HC : Hid (∀ W : World, Calls Tryz.prog 61 #[.string (str l), .string (str azL)] W fun e w' => e = .returned (.string (str t)) ∧ Below W.heap.size W w') := Lib.hid C
    have e1 := Lib.toList_data (str t)
    rw [list_str] at e1
    clear ht
    have h8' : (l.length : Int) ≤ 8 := by omega
    have HI : Hid (itemB l = letB l) := Lib.hid (by simp [itemB, h8])
    clear C h8
    go_enter Tryz.func41, Tryz.ntmps41
    go_wp2_with fail
    refine (HC.out _).mono ?_
    rintro e w1 ⟨rfl, b1⟩
    go_wp2
    go_ret
    exact ⟨ret_b (by rw [HI.out, ← HT.out]), b1⟩
  · have h8' : (8 : Int) < (l.length : Int) := by omega
    rw [show itemB l = false from by simp [itemB, h8]]
    go_enter Tryz.func41, Tryz.ntmps41
    go_wp2
    go_ret
    exact ⟨rfl, Below.refl _ _⟩
set_option maxHeartbeats 400000 in
theorem c_l4Good (k n t l : Int) (d : List UInt8) (w : World) (hd : d.length ≤ 1000000000) :
    Calls Tryz.prog 25 #[.agg (pkC k n t l d)] w fun e w' => e = .returned (.bool (goodP k n t l d)) ∧ Below w.heap.size w w' := by
  have hsz : (str d).size = d.length := str_size d
  have e1 := Lib.toList_data (str d)
  rw [list_str] at e1
  have CK := fun W => Lib.hid (c_l1In k 1 5 W)
  have CN := fun W => Lib.hid (c_l2Good n W)
  have CT := fun W => Lib.hid (c_l2Good t W)
  have CL := fun W => Lib.hid (c_l2Good l W)
  have CI := fun W => Lib.hid (c_l4Letters d 8 W hd)
  cases g1 : inR k 1 5
  · rw [g1] at CK
    rw [show goodP k n t l d = false from by rw [goodP, g1]; rfl]
    unfold pkC
    go_enter Tryz.func25, Tryz.ntmps25
    go_wp2_with fail
    refine (CK _).out.mono ?_
    rintro e _ ⟨rfl, rfl⟩
    go_wp2
    go_ret
    exact ⟨rfl, (Below.refl _ _).alloc (Nat.le_refl _) _⟩
  rw [g1] at CK
  cases g2 : inR n 0 65535
  · rw [g2] at CN
    rw [show goodP k n t l d = false from by rw [goodP, g1, g2]; rfl]
    unfold pkC
    go_enter Tryz.func25, Tryz.ntmps25
    go_wp2_with fail
    refine (CK _).out.mono ?_
    rintro e _ ⟨rfl, rfl⟩
    go_wp2_with fail
    refine (CN _).out.mono ?_
    rintro e _ ⟨rfl, rfl⟩
    go_wp2
    go_ret
    exact ⟨rfl, (Below.refl _ _).alloc (Nat.le_refl _) _⟩
  rw [g2] at CN
  cases g3 : inR t 0 65535
  · rw [g3] at CT
    rw [show goodP k n t l d = false from by rw [goodP, g1, g2, g3]; rfl]
    unfold pkC
    go_enter Tryz.func25, Tryz.ntmps25
    go_wp2_with fail
    refine (CK _).out.mono ?_
    rintro e _ ⟨rfl, rfl⟩
    go_wp2_with fail
    refine (CN _).out.mono ?_
    rintro e _ ⟨rfl, rfl⟩
    go_wp2_with fail
    refine (CT _).out.mono ?_
    rintro e _ ⟨rfl, rfl⟩
    go_wp2
    go_ret
    exact ⟨rfl, (Below.refl _ _).alloc (Nat.le_refl _) _⟩
  rw [g3] at CT
  cases g4 : inR l 0 65535
  · rw [g4] at CL
    rw [show goodP k n t l d = false from by rw [goodP, g1, g2, g3, g4]; rfl]
    unfold pkC
    go_enter Tryz.func25, Tryz.ntmps25
    go_wp2_with fail
    refine (CK _).out.mono ?_
    rintro e _ ⟨rfl, rfl⟩
    go_wp2_with fail
    refine (CN _).out.mono ?_
    rintro e _ ⟨rfl, rfl⟩
    go_wp2_with fail
    refine (CT _).out.mono ?_
    rintro e _ ⟨rfl, rfl⟩
    go_wp2_with fail
    refine (CL _).out.mono ?_
    rintro e _ ⟨rfl, rfl⟩
    go_wp2
    go_ret
    exact ⟨rfl, (Below.refl _ _).alloc (Nat.le_refl _) _⟩
  rw [g4] at CL
  have CG := fun W => Lib.hid (c_l2Gap t l W (inR_t g3).1 (inR_t g3).2 (inR_t g4).1 (inR_t g4).2)
  by_cases g5 : gapV t l ≤ 32767
  rotate_left
  · have g6 : (32767 : Int) < gapV t l := by omega
    have gd : decide (gapV t l ≤ 32767) = false := decide_eq_false g5
    rw [show goodP k n t l d = false from by simp [goodP, gd]]
    unfold pkC
    go_enter Tryz.func25, Tryz.ntmps25
    go_wp2_with fail
    refine (CK _).out.mono ?_
    rintro e _ ⟨rfl, rfl⟩
    go_wp2_with fail
    refine (CN _).out.mono ?_
    rintro e _ ⟨rfl, rfl⟩
    go_wp2_with fail
    refine (CT _).out.mono ?_
    rintro e _ ⟨rfl, rfl⟩
    go_wp2_with fail
    refine (CL _).out.mono ?_
    rintro e _ ⟨rfl, rfl⟩
    go_wp2_with fail
    refine (CG _).out.mono ?_
    rintro e _ ⟨rfl, rfl⟩
    go_wp2
    go_ret
    exact ⟨rfl, (Below.refl _ _).alloc (Nat.le_refl _) _⟩
  have gd : decide (gapV t l ≤ 32767) = true := decide_eq_true g5
  have g6 : ¬ (32767 : Int) < gapV t l := by omega
  have CI := fun W => Lib.hid (show Calls Tryz.prog 49 #[.string (str d), .int .i64 8] W fun e w' => e = .returned (.bool (itemB d)) ∧ W = w' from (CI W).out)
  cases g7 : itemB d
  · rw [g7] at CI
    rw [show goodP k n t l d = false from by rw [goodP, g1, g2, g3, g4, g7]; rfl]
    unfold pkC
    go_enter Tryz.func25, Tryz.ntmps25
    go_wp2_with fail
    refine (CK _).out.mono ?_
    rintro e _ ⟨rfl, rfl⟩
    go_wp2_with fail
    refine (CN _).out.mono ?_
    rintro e _ ⟨rfl, rfl⟩
    go_wp2_with fail
    refine (CT _).out.mono ?_
    rintro e _ ⟨rfl, rfl⟩
    go_wp2_with fail
    refine (CL _).out.mono ?_
    rintro e _ ⟨rfl, rfl⟩
    go_wp2_with fail
    refine (CG _).out.mono ?_
    rintro e _ ⟨rfl, rfl⟩
    go_wp2_with fail
    refine (CI _).out.mono ?_
    rintro e _ ⟨rfl, rfl⟩
    go_wp2
    go_ret
    exact ⟨rfl, (Below.refl _ _).alloc (Nat.le_refl _) _⟩
  rw [g7] at CI
  cases g8 : d.isEmpty
  rotate_left
  · rw [show goodP k n t l d = true from by rw [goodP, g1, g2, g3, g4, g7, gd, g8]; rfl]
    unfold pkC
    go_enter Tryz.func25, Tryz.ntmps25
    go_wp2_with fail
    refine (CK _).out.mono ?_
    rintro e _ ⟨rfl, rfl⟩
    go_wp2_with fail
    refine (CN _).out.mono ?_
    rintro e _ ⟨rfl, rfl⟩
    go_wp2_with fail
    refine (CT _).out.mono ?_
    rintro e _ ⟨rfl, rfl⟩
    go_wp2_with fail
    refine (CL _).out.mono ?_
    rintro e _ ⟨rfl, rfl⟩
    go_wp2_with fail
    refine (CG _).out.mono ?_
    rintro e _ ⟨rfl, rfl⟩
    go_wp2_with fail
    refine (CI _).out.mono ?_
    rintro e _ ⟨rfl, rfl⟩
    go_wp2
    go_ret
    exact ⟨rfl, (Below.refl _ _).alloc (Nat.le_refl _) _⟩
  cases g9 : decide (k = 1)
  rotate_left
  · have ga : (k == 1) = true := beq_iff_eq.2 (of_decide_eq_true g9)
    rw [show goodP k n t l d = true from by rw [goodP, g1, g2, g3, g4, g7, gd, g8, g9]; rfl]
    clear g9
    unfold pkC
    go_enter Tryz.func25, Tryz.ntmps25
    go_wp2_with fail
    refine (CK _).out.mono ?_
    rintro e _ ⟨rfl, rfl⟩
    go_wp2_with fail
    refine (CN _).out.mono ?_
    rintro e _ ⟨rfl, rfl⟩
    go_wp2_with fail
    refine (CT _).out.mono ?_
    rintro e _ ⟨rfl, rfl⟩
    go_wp2_with fail
    refine (CL _).out.mono ?_
    rintro e _ ⟨rfl, rfl⟩
    go_wp2_with fail
    refine (CG _).out.mono ?_
    rintro e _ ⟨rfl, rfl⟩
    go_wp2_with fail
    refine (CI _).out.mono ?_
    rintro e _ ⟨rfl, rfl⟩
    go_wp2
    go_ret
    exact ⟨rfl, (Below.refl _ _).alloc (Nat.le_refl _) _⟩
  have ga : (k == 1) = false := beq_eq_false_iff_ne.2 (of_decide_eq_false g9)
  cases gb : decide (k = 2)
  rotate_left
  · have gc : (k == 2) = true := beq_iff_eq.2 (of_decide_eq_true gb)
    rw [show goodP k n t l d = true from by rw [goodP, g1, g2, g3, g4, g7, gd, g8, g9, gb]; rfl]
    clear g9 gb
    unfold pkC
    go_enter Tryz.func25, Tryz.ntmps25
    go_wp2_with fail
    refine (CK _).out.mono ?_
    rintro e _ ⟨rfl, rfl⟩
    go_wp2_with fail
    refine (CN _).out.mono ?_
    rintro e _ ⟨rfl, rfl⟩
    go_wp2_with fail
    refine (CT _).out.mono ?_
    rintro e _ ⟨rfl, rfl⟩
    go_wp2_with fail
    refine (CL _).out.mono ?_
    rintro e _ ⟨rfl, rfl⟩
    go_wp2_with fail
    refine (CG _).out.mono ?_
    rintro e _ ⟨rfl, rfl⟩
    go_wp2_with fail
    refine (CI _).out.mono ?_
    rintro e _ ⟨rfl, rfl⟩
    go_wp2
    go_ret
    exact ⟨rfl, (Below.refl _ _).alloc (Nat.le_refl _) _⟩
  · have gc : (k == 2) = false := beq_eq_false_iff_ne.2 (of_decide_eq_false gb)
    rw [show goodP k n t l d = false from by rw [goodP, g1, g2, g3, g4, g7, gd, g8, g9, gb]; rfl]
    clear g9 gb
    unfold pkC
    go_enter Tryz.func25, Tryz.ntmps25
    go_wp2_with fail
    refine (CK _).out.mono ?_
    rintro e _ ⟨rfl, rfl⟩
    go_wp2_with fail
    refine (CN _).out.mono ?_
    rintro e _ ⟨rfl, rfl⟩
    go_wp2_with fail
    refine (CT _).out.mono ?_
    rintro e _ ⟨rfl, rfl⟩
    go_wp2_with fail
    refine (CL _).out.mono ?_
    rintro e _ ⟨rfl, rfl⟩
    go_wp2_with fail
    refine (CG _).out.mono ?_
    rintro e _ ⟨rfl, rfl⟩
    go_wp2_with fail
    refine (CI _).out.mono ?_
    rintro e _ ⟨rfl, rfl⟩
    go_wp2
    go_ret
    exact ⟨rfl, (Below.refl _ _).alloc (Nat.le_refl _) _⟩
/-- A packet's box, as far as it is read again behind a call. -/
def PkCells (k t l : Int) (d : List UInt8) (b : Nat) (w : World) : Prop := w.cell? ⟨b, 0, none⟩ = some (.int .i64 k) ∧ w.cell? ⟨b, 2, none⟩ = some (.int .i64 t) ∧ w.cell? ⟨b, 3, none⟩ = some (.int .i64 l) ∧ w.cell? ⟨b, 4, none⟩ = some (.string (str d))
theorem pk_cells (k n t l : Int) (d : List UInt8) (w : World) : PkCells k t l d w.heap.size (w.alloc (.cells (pkC k n t l d) 25)) := by
  unfold PkCells pkC
  refine ⟨?_, ?_, ?_, ?_⟩ <;> simp [go_sem]
theorem PkCells.keep {k n t l : Int} {d : List UInt8} {w w1 : World} (h : PkCells k t l d w.heap.size (w.alloc (.cells (pkC k n t l d) 25))) (b1 : Below (w.alloc (.cells (pkC k n t l d) 25)).heap.size (w.alloc (.cells (pkC k n t l d) 25)) w1) : PkCells k t l d w.heap.size w1 :=
  ⟨(b1.cell (p := ⟨w.heap.size, 0, none⟩) (by simp)).trans h.1, (b1.cell (p := ⟨w.heap.size, 2, none⟩) (by simp)).trans h.2.1, (b1.cell (p := ⟨w.heap.size, 3, none⟩) (by simp)).trans h.2.2.1, (b1.cell (p := ⟨w.heap.size, 4, none⟩) (by simp)).trans h.2.2.2⟩
theorem pk_below {k n t l : Int} {d : List UInt8} (w : World) {w1 : World} (b1 : Below (w.alloc (.cells (pkC k n t l d) 25)).heap.size (w.alloc (.cells (pkC k n t l d) 25)) w1) : Below w.heap.size w w1 := ((Below.refl w.heap.size w).alloc (Nat.le_refl _) _).trans (b1.mono (by simp))
set_option maxHeartbeats 400000 in
theorem c_implIsValidPacket (k n t l : Int) (d : List UInt8) (w : World) (hd : d.length ≤ 1000000000) :
    Calls Tryz.prog 18 #[.agg (pkC k n t l d)] w fun e w' => e = .returned (.bool (goodP k n t l d)) ∧ Below w.heap.size w w' := by
  have hsz : (str d).size = d.length := str_size d
  have e1 := Lib.toList_data (str d)
  rw [list_str] at e1
  have CK := fun W => Lib.hid (c_within k 1 5 W)
  have CN := fun W => Lib.hid (c_isSerial n W)
  have CT := fun W => Lib.hid (c_isSerial t W)
  have CL := fun W => Lib.hid (c_isSerial l W)
  have CI := fun W => Lib.hid (c_isItem d W hd)
  have K := Lib.hid (pk_cells k n t l d w)
  cases g1 : inR k 1 5
  · rw [g1] at CK
    rw [show goodP k n t l d = false from by rw [goodP, g1]; rfl]
    unfold pkC
    go_enter Tryz.func18, Tryz.ntmps18
    go_wp2_with fail
    refine (CK _).out.mono ?_
    rintro e _ ⟨rfl, rfl⟩
    go_wp2
    go_ret
    exact ⟨rfl, (Below.refl _ _).alloc (Nat.le_refl _) _⟩
  rw [g1] at CK
  cases g2 : inR n 0 65535
  · rw [g2] at CN
    rw [show goodP k n t l d = false from by rw [goodP, g1, g2]; rfl]
    unfold pkC
    go_enter Tryz.func18, Tryz.ntmps18
    go_wp2_with fail
    refine (CK _).out.mono ?_
    rintro e _ ⟨rfl, rfl⟩
    go_wp2_with fail
    refine (CN _).out.mono ?_
    rintro e _ ⟨rfl, rfl⟩
    go_wp2
    go_ret
    exact ⟨rfl, (Below.refl _ _).alloc (Nat.le_refl _) _⟩
  rw [g2] at CN
  cases g3 : inR t 0 65535
  · rw [g3] at CT
    rw [show goodP k n t l d = false from by rw [goodP, g1, g2, g3]; rfl]
    unfold pkC
    go_enter Tryz.func18, Tryz.ntmps18
    go_wp2_with fail
    refine (CK _).out.mono ?_
    rintro e _ ⟨rfl, rfl⟩
    go_wp2_with fail
    refine (CN _).out.mono ?_
    rintro e _ ⟨rfl, rfl⟩
    go_wp2_with fail
    refine (CT _).out.mono ?_
    rintro e _ ⟨rfl, rfl⟩
    go_wp2
    go_ret
    exact ⟨rfl, (Below.refl _ _).alloc (Nat.le_refl _) _⟩
  rw [g3] at CT
  cases g4 : inR l 0 65535
  · rw [g4] at CL
    rw [show goodP k n t l d = false from by rw [goodP, g1, g2, g3, g4]; rfl]
    unfold pkC
    go_enter Tryz.func18, Tryz.ntmps18
    go_wp2_with fail
    refine (CK _).out.mono ?_
    rintro e _ ⟨rfl, rfl⟩
    go_wp2_with fail
    refine (CN _).out.mono ?_
    rintro e _ ⟨rfl, rfl⟩
    go_wp2_with fail
    refine (CT _).out.mono ?_
    rintro e _ ⟨rfl, rfl⟩
    go_wp2_with fail
    refine (CL _).out.mono ?_
    rintro e _ ⟨rfl, rfl⟩
    go_wp2
    go_ret
    exact ⟨rfl, (Below.refl _ _).alloc (Nat.le_refl _) _⟩
  rw [g4] at CL
  cases g5 : itemB d
  · rw [g5] at CI
    rw [show goodP k n t l d = false from by rw [goodP, g1, g2, g3, g4, g5]; rfl]
    unfold pkC
    go_enter Tryz.func18, Tryz.ntmps18
    go_wp2_with fail
    refine (CK _).out.mono ?_
    rintro e _ ⟨rfl, rfl⟩
    go_wp2_with fail
    refine (CN _).out.mono ?_
    rintro e _ ⟨rfl, rfl⟩
    go_wp2_with fail
    refine (CT _).out.mono ?_
    rintro e _ ⟨rfl, rfl⟩
    go_wp2_with fail
    refine (CL _).out.mono ?_
    rintro e _ ⟨rfl, rfl⟩
    go_wp2_with fail
    refine (CI _).out.mono ?_
    rintro e w1 ⟨rfl, b1⟩
    obtain ⟨q0, q2, q3, q4⟩ := K.out.keep b1
    have HB := Lib.hid (pk_below w b1)
    clear b1
    go_wp2
    go_ret
    exact ⟨rfl, HB.out⟩
  rw [g5] at CI
  have CG := fun W => Lib.hid (c_gap t l W (by have := inR_t g3; omega) (by have := inR_t g3; omega) (by have := inR_t g4; omega) (by have := inR_t g4; omega))
  by_cases g6 : gapV t l ≤ 32767
  rotate_left
  · have g7 : decide (gapV t l ≤ 32767) = false := decide_eq_false g6
    rw [show goodP k n t l d = false from by rw [goodP, g1, g2, g3, g4, g5, g7]; rfl]
    unfold pkC
    go_enter Tryz.func18, Tryz.ntmps18
    go_wp2_with fail
    refine (CK _).out.mono ?_
    rintro e _ ⟨rfl, rfl⟩
    go_wp2_with fail
    refine (CN _).out.mono ?_
    rintro e _ ⟨rfl, rfl⟩
    go_wp2_with fail
    refine (CT _).out.mono ?_
    rintro e _ ⟨rfl, rfl⟩
    go_wp2_with fail
    refine (CL _).out.mono ?_
    rintro e _ ⟨rfl, rfl⟩
    go_wp2_with fail
    refine (CI _).out.mono ?_
    rintro e w1 ⟨rfl, b1⟩
    obtain ⟨q0, q2, q3, q4⟩ := K.out.keep b1
    have HB := Lib.hid (pk_below w b1)
    clear b1
    go_wp2_with fail
    refine (CG _).out.mono ?_
    rintro e _ ⟨rfl, rfl⟩
    go_wp2
    go_ret
    exact ⟨rfl, HB.out⟩
  have g7 : decide (gapV t l ≤ 32767) = true := decide_eq_true g6
  cases g8 : d.isEmpty
  rotate_left
  · rw [show goodP k n t l d = true from by rw [goodP, g1, g2, g3, g4, g5, g7, g8]; rfl]
    unfold pkC
    go_enter Tryz.func18, Tryz.ntmps18
    go_wp2_with fail
    refine (CK _).out.mono ?_
    rintro e _ ⟨rfl, rfl⟩
    go_wp2_with fail
    refine (CN _).out.mono ?_
    rintro e _ ⟨rfl, rfl⟩
    go_wp2_with fail
    refine (CT _).out.mono ?_
    rintro e _ ⟨rfl, rfl⟩
    go_wp2_with fail
    refine (CL _).out.mono ?_
    rintro e _ ⟨rfl, rfl⟩
    go_wp2_with fail
    refine (CI _).out.mono ?_
    rintro e w1 ⟨rfl, b1⟩
    obtain ⟨q0, q2, q3, q4⟩ := K.out.keep b1
    have HB := Lib.hid (pk_below w b1)
    clear b1
    go_wp2_with fail
    refine (CG _).out.mono ?_
    rintro e _ ⟨rfl, rfl⟩
    go_wp2
    go_ret
    exact ⟨rfl, HB.out⟩
  cases g9 : decide (k = 1)
  rotate_left
  · have ga : (k == 1) = true := beq_iff_eq.2 (of_decide_eq_true g9)
    rw [show goodP k n t l d = true from by rw [goodP, g1, g2, g3, g4, g5, g7, g8, g9]; rfl]
    clear g9
    unfold pkC
    go_enter Tryz.func18, Tryz.ntmps18
    go_wp2_with fail
    refine (CK _).out.mono ?_
    rintro e _ ⟨rfl, rfl⟩
    go_wp2_with fail
    refine (CN _).out.mono ?_
    rintro e _ ⟨rfl, rfl⟩
    go_wp2_with fail
    refine (CT _).out.mono ?_
    rintro e _ ⟨rfl, rfl⟩
    go_wp2_with fail
    refine (CL _).out.mono ?_
    rintro e _ ⟨rfl, rfl⟩
    go_wp2_with fail
    refine (CI _).out.mono ?_
    rintro e w1 ⟨rfl, b1⟩
    obtain ⟨q0, q2, q3, q4⟩ := K.out.keep b1
    have HB := Lib.hid (pk_below w b1)
    clear b1
    go_wp2_with fail
    refine (CG _).out.mono ?_
    rintro e _ ⟨rfl, rfl⟩
    go_wp2
    go_ret
    exact ⟨rfl, HB.out⟩
  have ga : (k == 1) = false := beq_eq_false_iff_ne.2 (of_decide_eq_false g9)
  cases gb : decide (k = 2)
  rotate_left
  · have gc : (k == 2) = true := beq_iff_eq.2 (of_decide_eq_true gb)
    rw [show goodP k n t l d = true from by rw [goodP, g1, g2, g3, g4, g5, g7, g8, g9, gb]; rfl]
    clear g9 gb
    unfold pkC
    go_enter Tryz.func18, Tryz.ntmps18
    go_wp2_with fail
    refine (CK _).out.mono ?_
    rintro e _ ⟨rfl, rfl⟩
    go_wp2_with fail
    refine (CN _).out.mono ?_
    rintro e _ ⟨rfl, rfl⟩
    go_wp2_with fail
    refine (CT _).out.mono ?_
    rintro e _ ⟨rfl, rfl⟩
    go_wp2_with fail
    refine (CL _).out.mono ?_
    rintro e _ ⟨rfl, rfl⟩
    go_wp2_with fail
    refine (CI _).out.mono ?_
    rintro e w1 ⟨rfl, b1⟩
    obtain ⟨q0, q2, q3, q4⟩ := K.out.keep b1
    have HB := Lib.hid (pk_below w b1)
    clear b1
    go_wp2_with fail
    refine (CG _).out.mono ?_
    rintro e _ ⟨rfl, rfl⟩
    go_wp2
    go_ret
    exact ⟨rfl, HB.out⟩
  · have gc : (k == 2) = false := beq_eq_false_iff_ne.2 (of_decide_eq_false gb)
    rw [show goodP k n t l d = false from by rw [goodP, g1, g2, g3, g4, g5, g7, g8, g9, gb]; rfl]
    clear g9 gb
    unfold pkC
    go_enter Tryz.func18, Tryz.ntmps18
    go_wp2_with fail
    refine (CK _).out.mono ?_
    rintro e _ ⟨rfl, rfl⟩
    go_wp2_with fail
    refine (CN _).out.mono ?_
    rintro e _ ⟨rfl, rfl⟩
    go_wp2_with fail
    refine (CT _).out.mono ?_
    rintro e _ ⟨rfl, rfl⟩
    go_wp2_with fail
    refine (CL _).out.mono ?_
    rintro e _ ⟨rfl, rfl⟩
    go_wp2_with fail
    refine (CI _).out.mono ?_
    rintro e w1 ⟨rfl, b1⟩
    obtain ⟨q0, q2, q3, q4⟩ := K.out.keep b1
    have HB := Lib.hid (pk_below w b1)
    clear b1
    go_wp2_with fail
    refine (CG _).out.mono ?_
    rintro e _ ⟨rfl, rfl⟩
    go_wp2
    go_ret
    exact ⟨rfl, HB.out⟩
end Go.Proofs.YtpmfaiocmgkmpaaGreatDoor
