/- Numbers read: the reference's own reader, the program's through the library's. -/
import Derived.Test.YtlammcoiaeodfaaGreatDoorSplit
import Derived.Test.YtlammcoiaeodfaaGreatDoorFmtI
namespace Go.Proofs.YtlammcoiaeodfaaGreatDoor
open Go.RowKit
open Go.Lib (itoa decDigits decFrom digitVal)
set_option linter.unusedVariables false
set_option maxRecDepth 100000

def rdV (l : List UInt8) : Int := (readI l).getD 0
def rdOk (l : List UInt8) : Bool := (readI l).isSome
theorem rd_none {l : List UInt8} (h : readI l = none) : rdV l = 0 ∧ rdOk l = false := by simp [rdV, rdOk, h]
theorem rd_some {l : List UInt8} {n : Int} (h : readI l = some n) : rdV l = n ∧ rdOk l = true := by simp [rdV, rdOk, h]
theorem rdV_rng (l : List UInt8) : -999999 ≤ rdV l ∧ rdV l ≤ 999999 := by
  cases h : readI l with
  | none => rw [(rd_none h).1]; omega
  | some n => rw [(rd_some h).1]; exact numOk_t (readI_some h).1
theorem ret_ibb {a b : Int} {c d : Bool} (h : b = a) (k : d = c) : Ending.returned (.tuple #[.int .i64 a, .bool c]) = .returned (.tuple #[.int .i64 b, .bool d]) := by rw [h, k]
/-- The digits' loop: k bytes of t read, n their number. -/
theorem dec_next {t : List UInt8} {k m : Nat} {b : UInt8} (h : decFrom 0 (t.take k) = some m) (hb : t[k]? = some b) (h1 : 48 ≤ b.toNat) (h2 : b.toNat ≤ 57) : decFrom 0 (t.take (k + 1)) = some (m * 10 + (b.toNat - 48)) :=
  Lib.decFrom_take t k 0 m b _ h hb (by unfold digitVal; rw [if_pos ⟨h1, h2⟩])
theorem dec_bad {b : UInt8} (h : ¬ (48 ≤ b.toNat ∧ b.toNat ≤ 57)) : digitVal b = none := by unfold digitVal; rw [if_neg h]
theorem body_str (s : ByteArray) (h1 : 1 < s.size) (h2 : s[0]'(by omega) = 45) : bodyOf s.data.toList = s.data.toList.drop 1 := by
  unfold bodyOf
  rw [if_pos]
  refine ⟨by rw [size_list]; exact h1, ?_⟩
  have := get_list s 0 (by omega)
  rw [List.head?_eq_getElem?, this, h2]
theorem body_str' (s : ByteArray) (h : ¬ (1 < s.size ∧ ∃ h0 : 0 < s.size, s[0] = 45)) : bodyOf s.data.toList = s.data.toList := by
  unfold bodyOf
  rw [if_neg]
  rintro ⟨h1, h2⟩
  rw [size_list] at h1
  refine h ⟨h1, by omega, ?_⟩
  have := get_list s 0 (by omega)
  rw [List.head?_eq_getElem?, this] at h2
  exact Option.some.inj h2
set_option maxHeartbeats 4000000 in
theorem l1Read_sign (s : ByteArray) (w : World) (hl : s.size ≤ 100000000) (h1 : 1 < s.size) (h2 : s[0]'(by omega) = 45) :
    Calls Tryz.prog 41 #[.string s] w fun e w' => e = .returned (.tuple #[.int .i64 (rdV s.data.toList), .bool (rdOk s.data.toList)]) ∧ ∃ q, w' = w.drewN q := by
  obtain ⟨t, hx⟩ : ∃ t, s.extract 1 s.size = t := ⟨_, rfl⟩
  have HT : Hid (t.data.toList = bodyOf s.data.toList) := Lib.hid (by rw [body_str s h1 h2, ← hx, Lib.extract_to_end])
  have hsz : t.size + 1 = s.size := by rw [← size_list t, HT.out, body_str s h1 h2, List.length_drop, size_list]; omega
  have hbe := byte_eq (s[0]'(by omega)) 45
  rw [decide_eq_true h2] at hbe
  have hbe : (((s[0]'(by omega)).toNat : Int) == 45) = true := hbe
  have hs0 : 0 < s.size := by omega
  have e1 := Lib.toList_data s
  clear h2
  by_cases hlen : 1 ≤ t.size ∧ t.size ≤ 6
  rotate_left
  · have HR := Lib.hid (rd_none (read_short (l := s.data.toList) (by rw [← HT.out, size_list]; exact hlen)))
    have C := fun W => Lib.hid (c_l1In (t.size : Int) 1 6 W)
    rw [show inR (t.size : Int) 1 6 = false from inR_n (by omega)] at C
    clear hlen HT
    go_enter Tryz.func41, Tryz.ntmps41
    go_wp2_with fail
    refine (C _).out.mono ?_
    rintro e _ ⟨rfl, rfl⟩
    go_wp2
    go_ret2
    exact ⟨ret_ibb HR.out.1 HR.out.2, 0, rfl⟩
  obtain ⟨hl1, hl6⟩ := hlen
  have C := fun W => Lib.hid (c_l1In (t.size : Int) 1 6 W)
  rw [show inR (t.size : Int) 1 6 = true from inR_y (by omega)] at C
  go_enter Tryz.func41, Tryz.ntmps41
  go_wp2_with fail
  refine (C _).out.mono ?_
  rintro e _ ⟨rfl, rfl⟩
  go_wp2
  go_loop [5, 6] (fun n i => ∃ k m : Nat, k ≤ t.size ∧ i = .int .i64 k ∧ n = .int .i64 m ∧ m ≤ 999999 ∧ Hid (decFrom 0 (t.data.toList.take k) = some m)) (fun _ i => t.size - (intOf i).toNat)
  case atStart => exact ⟨0, 0, Nat.zero_le _, rfl, rfl, by omega, Lib.hid rfl⟩
  case round =>
    obtain ⟨k, m, hk, rfl, rfl, hm6, HD⟩ := hrel
    by_cases hlt : k < t.size
    · have hg := get_list t k hlt
      by_cases hd : 48 ≤ t[k].toNat ∧ t[k].toNat ≤ 57
      · have HN := Lib.hid (dec_next HD.out hg hd.1 hd.2)
        have hn6 := decFrom_le _ (by rw [List.length_take, size_list]; omega) HN.out
        obtain ⟨d1, d2⟩ := hd
        have d3 : (48 : Int) ≤ (t[k].toNat : Int) := by omega
        have d4 : (t[k].toNat : Int) ≤ 57 := by omega
        clear HD hg
        go_wp2
        go_round
        case rel => exact ⟨k + 1, _, by omega, by go_num, by rw [show 10 * (m : Int) + ((t[k].toNat : Int) - 48) = ((m * 10 + (t[k].toNat - 48) : Nat) : Int) from by omega], hn6, HN⟩
        case measure => simp [intOf]; omega
      · have HR := Lib.hid (rd_none (read_bad (l := s.data.toList) (k := k) (by rw [← HT.out]; exact hg) (dec_bad hd)))
        have hby := t[k].toNat_lt
        clear HD HT hg
        by_cases h48 : t[k].toNat < 48
        · have d3 : (t[k].toNat : Int) < 48 := by omega
          go_wp2
          go_ret2
          exact ⟨ret_ibb HR.out.1 HR.out.2, 0, rfl⟩
        · have d3 : ¬ (t[k].toNat : Int) < 48 := by omega
          have d4 : (57 : Int) < (t[k].toNat : Int) := by omega
          go_wp2
          go_ret2
          exact ⟨ret_ibb HR.out.1 HR.out.2, 0, rfl⟩
    · have HE := Lib.hid (read_end (l := s.data.toList) (m := m) (by rw [← HT.out, size_list]; exact hl6) (by rw [← HT.out, ← HD.out, List.take_of_length_le (by rw [size_list]; omega)]) (-(m : Int)) (by rw [← HT.out]; simp only [size_list]; rw [if_pos (by omega)]))
      have C2 := fun W => Lib.hid (c_l1Num (-(m : Int)) W (by omega) (by omega))
      have e2 := Lib.toList_data (str (itoa (-(m : Int))))
      rw [list_str] at e2
      clear HD HT
      go_wp2_with fail
      refine (C2 _).out.mono ?_
      rintro e _ ⟨rfl, q, rfl⟩
      by_cases c : itoa (-(m : Int)) = s.data.toList
      · have HR := HE.out
        rw [if_pos c] at HR
        have HR2 := Lib.hid (rd_some HR)
        have hbe : (itoa (-(m : Int)) == s.data.toList) = true := beq_iff_eq.2 c
        clear c HR HE
        go_wp2
        go_ret2
        exact ⟨ret_ibb HR2.out.1 HR2.out.2, _, rfl⟩
      · have HR := HE.out
        rw [if_neg c] at HR
        have HR2 := Lib.hid (rd_none HR)
        have hbe : (itoa (-(m : Int)) == s.data.toList) = false := beq_eq_false_iff_ne.2 c
        clear c HR HE
        go_wp2
        go_ret2
        exact ⟨ret_ibb HR2.out.1 HR2.out.2, _, rfl⟩
set_option maxHeartbeats 4000000 in
theorem l1Read_long (s : ByteArray) (w : World) (hl : s.size ≤ 100000000) (h1 : 1 < s.size) (h2 : ¬ s[0]'(by omega) = 45) :
    Calls Tryz.prog 41 #[.string s] w fun e w' => e = .returned (.tuple #[.int .i64 (rdV s.data.toList), .bool (rdOk s.data.toList)]) ∧ ∃ q, w' = w.drewN q := by
  have HT : Hid (s.data.toList = bodyOf s.data.toList) := Lib.hid (body_str' s (by rintro ⟨_, h0, e⟩; exact h2 e)).symm
  have hbe := byte_eq (s[0]'(by omega)) 45
  rw [decide_eq_false h2] at hbe
  have hbe : (((s[0]'(by omega)).toNat : Int) == 45) = false := hbe
  have hs0 : 0 < s.size := by omega
  have e1 := Lib.toList_data s
  clear h2
  by_cases hlen : 1 ≤ s.size ∧ s.size ≤ 6
  rotate_left
  · have HR := Lib.hid (rd_none (read_short (l := s.data.toList) (by rw [← HT.out, size_list]; exact hlen)))
    have C := fun W => Lib.hid (c_l1In (s.size : Int) 1 6 W)
    rw [show inR (s.size : Int) 1 6 = false from inR_n (by omega)] at C
    clear hlen HT
    go_enter Tryz.func41, Tryz.ntmps41
    go_wp2_with fail
    refine (C _).out.mono ?_
    rintro e _ ⟨rfl, rfl⟩
    go_wp2
    go_ret2
    exact ⟨ret_ibb HR.out.1 HR.out.2, 0, rfl⟩
  obtain ⟨hl1, hl6⟩ := hlen
  have C := fun W => Lib.hid (c_l1In (s.size : Int) 1 6 W)
  rw [show inR (s.size : Int) 1 6 = true from inR_y (by omega)] at C
  go_enter Tryz.func41, Tryz.ntmps41
  go_wp2_with fail
  refine (C _).out.mono ?_
  rintro e _ ⟨rfl, rfl⟩
  go_wp2
  go_loop [5, 6] (fun n i => ∃ k m : Nat, k ≤ s.size ∧ i = .int .i64 k ∧ n = .int .i64 m ∧ m ≤ 999999 ∧ Hid (decFrom 0 (s.data.toList.take k) = some m)) (fun _ i => s.size - (intOf i).toNat)
  case atStart => exact ⟨0, 0, Nat.zero_le _, rfl, rfl, by omega, Lib.hid rfl⟩
  case round =>
    obtain ⟨k, m, hk, rfl, rfl, hm6, HD⟩ := hrel
    by_cases hlt : k < s.size
    · have hg := get_list s k hlt
      by_cases hd : 48 ≤ s[k].toNat ∧ s[k].toNat ≤ 57
      · have HN := Lib.hid (dec_next HD.out hg hd.1 hd.2)
        have hn6 := decFrom_le _ (by rw [List.length_take, size_list]; omega) HN.out
        obtain ⟨d1, d2⟩ := hd
        have d3 : (48 : Int) ≤ (s[k].toNat : Int) := by omega
        have d4 : (s[k].toNat : Int) ≤ 57 := by omega
        clear HD hg
        go_wp2
        go_round
        case rel => exact ⟨k + 1, _, by omega, by go_num, by rw [show 10 * (m : Int) + ((s[k].toNat : Int) - 48) = ((m * 10 + (s[k].toNat - 48) : Nat) : Int) from by omega], hn6, HN⟩
        case measure => simp [intOf]; omega
      · have HR := Lib.hid (rd_none (read_bad (l := s.data.toList) (k := k) (by rw [← HT.out]; exact hg) (dec_bad hd)))
        have hby := s[k].toNat_lt
        clear HD HT hg
        by_cases h48 : s[k].toNat < 48
        · have d3 : (s[k].toNat : Int) < 48 := by omega
          go_wp2
          go_ret2
          exact ⟨ret_ibb HR.out.1 HR.out.2, 0, rfl⟩
        · have d3 : ¬ (s[k].toNat : Int) < 48 := by omega
          have d4 : (57 : Int) < (s[k].toNat : Int) := by omega
          go_wp2
          go_ret2
          exact ⟨ret_ibb HR.out.1 HR.out.2, 0, rfl⟩
    · have HE := Lib.hid (read_end (l := s.data.toList) (m := m) (by rw [← HT.out, size_list]; exact hl6) (by rw [← HT.out, ← HD.out, List.take_of_length_le (by rw [size_list]; omega)]) (m : Int) (by rw [← HT.out]; simp only [size_list]; rw [if_neg (by omega)]))
      have C2 := fun W => Lib.hid (c_l1Num (m : Int) W (by omega) (by omega))
      have e2 := Lib.toList_data (str (itoa (m : Int)))
      rw [list_str] at e2
      clear HD HT
      go_wp2_with fail
      refine (C2 _).out.mono ?_
      rintro e _ ⟨rfl, q, rfl⟩
      by_cases c : itoa (m : Int) = s.data.toList
      · have HR := HE.out
        rw [if_pos c] at HR
        have HR2 := Lib.hid (rd_some HR)
        have hbe : (itoa (m : Int) == s.data.toList) = true := beq_iff_eq.2 c
        clear c HR HE
        go_wp2
        go_ret2
        exact ⟨ret_ibb HR2.out.1 HR2.out.2, _, rfl⟩
      · have HR := HE.out
        rw [if_neg c] at HR
        have HR2 := Lib.hid (rd_none HR)
        have hbe : (itoa (m : Int) == s.data.toList) = false := beq_eq_false_iff_ne.2 c
        clear c HR HE
        go_wp2
        go_ret2
        exact ⟨ret_ibb HR2.out.1 HR2.out.2, _, rfl⟩
set_option maxHeartbeats 4000000 in
theorem l1Read_short (s : ByteArray) (w : World) (h1 : ¬ 1 < s.size) :
    Calls Tryz.prog 41 #[.string s] w fun e w' => e = .returned (.tuple #[.int .i64 (rdV s.data.toList), .bool (rdOk s.data.toList)]) ∧ ∃ q, w' = w.drewN q := by
  have HT : Hid (s.data.toList = bodyOf s.data.toList) := Lib.hid (body_str' s (by rintro ⟨h, _⟩; exact h1 h)).symm
  have e1 := Lib.toList_data s
  by_cases hlen : 1 ≤ s.size ∧ s.size ≤ 6
  rotate_left
  · have HR := Lib.hid (rd_none (read_short (l := s.data.toList) (by rw [← HT.out, size_list]; exact hlen)))
    have C := fun W => Lib.hid (c_l1In (s.size : Int) 1 6 W)
    rw [show inR (s.size : Int) 1 6 = false from inR_n (by omega)] at C
    clear hlen HT
    go_enter Tryz.func41, Tryz.ntmps41
    go_wp2_with fail
    refine (C _).out.mono ?_
    rintro e _ ⟨rfl, rfl⟩
    go_wp2
    go_ret2
    exact ⟨ret_ibb HR.out.1 HR.out.2, 0, rfl⟩
  obtain ⟨hl1, hl6⟩ := hlen
  have C := fun W => Lib.hid (c_l1In (s.size : Int) 1 6 W)
  rw [show inR (s.size : Int) 1 6 = true from inR_y (by omega)] at C
  go_enter Tryz.func41, Tryz.ntmps41
  go_wp2_with fail
  refine (C _).out.mono ?_
  rintro e _ ⟨rfl, rfl⟩
  go_wp2
  go_loop [5, 6] (fun n i => ∃ k m : Nat, k ≤ s.size ∧ i = .int .i64 k ∧ n = .int .i64 m ∧ m ≤ 999999 ∧ Hid (decFrom 0 (s.data.toList.take k) = some m)) (fun _ i => s.size - (intOf i).toNat)
  case atStart => exact ⟨0, 0, Nat.zero_le _, rfl, rfl, by omega, Lib.hid rfl⟩
  case round =>
    obtain ⟨k, m, hk, rfl, rfl, hm6, HD⟩ := hrel
    by_cases hlt : k < s.size
    · have hg := get_list s k hlt
      by_cases hd : 48 ≤ s[k].toNat ∧ s[k].toNat ≤ 57
      · have HN := Lib.hid (dec_next HD.out hg hd.1 hd.2)
        have hn6 := decFrom_le _ (by rw [List.length_take, size_list]; omega) HN.out
        obtain ⟨d1, d2⟩ := hd
        have d3 : (48 : Int) ≤ (s[k].toNat : Int) := by omega
        have d4 : (s[k].toNat : Int) ≤ 57 := by omega
        clear HD hg
        go_wp2
        go_round
        case rel => exact ⟨k + 1, _, by omega, by go_num, by rw [show 10 * (m : Int) + ((s[k].toNat : Int) - 48) = ((m * 10 + (s[k].toNat - 48) : Nat) : Int) from by omega], hn6, HN⟩
        case measure => simp [intOf]; omega
      · have HR := Lib.hid (rd_none (read_bad (l := s.data.toList) (k := k) (by rw [← HT.out]; exact hg) (dec_bad hd)))
        have hby := s[k].toNat_lt
        clear HD HT hg
        by_cases h48 : s[k].toNat < 48
        · have d3 : (s[k].toNat : Int) < 48 := by omega
          go_wp2
          go_ret2
          exact ⟨ret_ibb HR.out.1 HR.out.2, 0, rfl⟩
        · have d3 : ¬ (s[k].toNat : Int) < 48 := by omega
          have d4 : (57 : Int) < (s[k].toNat : Int) := by omega
          go_wp2
          go_ret2
          exact ⟨ret_ibb HR.out.1 HR.out.2, 0, rfl⟩
    · have HE := Lib.hid (read_end (l := s.data.toList) (m := m) (by rw [← HT.out, size_list]; exact hl6) (by rw [← HT.out, ← HD.out, List.take_of_length_le (by rw [size_list]; omega)]) (m : Int) (by rw [← HT.out]; simp only [size_list]; rw [if_neg (by omega)]))
      have C2 := fun W => Lib.hid (c_l1Num (m : Int) W (by omega) (by omega))
      have e2 := Lib.toList_data (str (itoa (m : Int)))
      rw [list_str] at e2
      clear HD HT
      go_wp2_with fail
      refine (C2 _).out.mono ?_
      rintro e _ ⟨rfl, q, rfl⟩
      by_cases c : itoa (m : Int) = s.data.toList
      · have HR := HE.out
        rw [if_pos c] at HR
        have HR2 := Lib.hid (rd_some HR)
        have hbe : (itoa (m : Int) == s.data.toList) = true := beq_iff_eq.2 c
        clear c HR HE
        go_wp2
        go_ret2
        exact ⟨ret_ibb HR2.out.1 HR2.out.2, _, rfl⟩
      · have HR := HE.out
        rw [if_neg c] at HR
        have HR2 := Lib.hid (rd_none HR)
        have hbe : (itoa (m : Int) == s.data.toList) = false := beq_eq_false_iff_ne.2 c
        clear c HR HE
        go_wp2
        go_ret2
        exact ⟨ret_ibb HR2.out.1 HR2.out.2, _, rfl⟩
theorem c_l1Read (s : ByteArray) (w : World) (hl : s.size ≤ 100000000) :
    Calls Tryz.prog 41 #[.string s] w fun e w' => e = .returned (.tuple #[.int .i64 (rdV s.data.toList), .bool (rdOk s.data.toList)]) ∧ ∃ q, w' = w.drewN q := by
  by_cases h1 : 1 < s.size
  · by_cases h2 : s[0]'(by omega) = 45
    · exact l1Read_sign s w hl h1 h2
    · exact l1Read_long s w hl h1 h2
  · exact l1Read_short s w h1
theorem read_of_bad {l : List UInt8} (h : ∀ v, Lib.atoiAll l ≠ .ok v) : readI l = none := by
  cases e : readI l with
  | none => rfl
  | some n =>
    obtain ⟨h1, h2⟩ := readI_some e
    exact absurd (h2 ▸ atoiAll_itoa h1) (h n)
theorem read_of_ok {l : List UInt8} {v : Int} (h : Lib.atoiAll l = .ok v) : readI l = if numOk v && decide (itoa v = l) then some v else none := by
  cases e : readI l with
  | none =>
    cases k : (numOk v && decide (itoa v = l))
    · rfl
    · simp only [Bool.and_eq_true, decide_eq_true_eq] at k
      rw [readI_mk k.1 k.2] at e
      cases e
  | some n =>
    obtain ⟨h1, h2⟩ := readI_some e
    have := atoiAll_itoa h1
    rw [h2, h] at this
    injection this with this
    subst this
    simp [h1, h2]
set_option maxHeartbeats 1000000 in
theorem c_implParseInt {B : Nat} (s : ByteArray) (w : World) (hp : PowW w B) (hE : ErrW w B) (hB : B ≤ w.heap.size) (hl : s.size ≤ 10000000) :
    Calls Tryz.prog 58 #[.string s] w fun e w' => e = .returned (.tuple #[.int .i64 (rdV s.data.toList), .bool (rdOk s.data.toList)]) ∧ Below w.heap.size w w' := by
  have e1 := Lib.toList_data s
  by_cases hv : ∃ v, Lib.atoiAll s.data.toList = .ok v
  rotate_left
  · have HR := Lib.hid (rd_none (read_of_bad (fun v h => hv ⟨v, h⟩)))
    have C := Lib.hid (c_atoi_bad s w hE (by omega) (fun v h => hv ⟨v, h⟩))
    clear hv hp hE
    go_enter Tryz.func58, Tryz.ntmps58
    go_wp2_with fail
    refine C.out.mono ?_
    rintro e w1 ⟨v, t, p, rfl, b1⟩
    go_wp2
    go_ret2
    exact ⟨ret_ibb HR.out.1 HR.out.2, b1⟩
  obtain ⟨v, hv⟩ := hv
  have HR := Lib.hid (read_of_ok hv)
  have C := Lib.hid (c_atoi_ok s v w (by omega) hv)
  have hvb := Lib.atoiAll_bounds hv
  have C2 := fun W => Lib.hid (numOk_in v ▸ c_within v (-999999) 999999 W)
  have HP := Lib.hid hp
  clear hv hp hE
  cases g : numOk v
  · have hr := HR.out
    rw [g] at hr
    have HR2 := Lib.hid (rd_none hr)
    rw [g] at C2
    clear hr
    go_enter Tryz.func58, Tryz.ntmps58
    go_wp2_with fail
    refine C.out.mono ?_
    rintro e w1 ⟨rfl, b1⟩
    go_wp2_with fail
    refine (C2 _).out.mono ?_
    rintro e _ ⟨rfl, rfl⟩
    go_wp2
    go_ret2
    exact ⟨ret_ibb HR2.out.1 HR2.out.2, b1⟩
  have hn := numOk_t g
  have e2 := Lib.toList_data (str (itoa v))
  rw [list_str] at e2
  rw [g] at C2
  by_cases c : itoa v = s.data.toList
  · have hr := HR.out
    rw [g, decide_eq_true c] at hr
    have HR2 := Lib.hid (rd_some hr)
    have hbe : (itoa v == s.data.toList) = true := beq_iff_eq.2 c
    clear hr c
    go_enter Tryz.func58, Tryz.ntmps58
    go_wp2_with fail
    refine C.out.mono ?_
    rintro e w1 ⟨rfl, b1⟩
    have C3 := Lib.hid (c_itoa v w1 (HP.out.keep b1 hB) (by omega) (by omega))
    have HB := Lib.hid b1
    clear b1
    go_wp2_with fail
    refine (C2 _).out.mono ?_
    rintro e _ ⟨rfl, rfl⟩
    go_wp2_with fail
    refine C3.out.mono ?_
    rintro e w2 ⟨rfl, b2⟩
    have HB2 := Lib.hid (HB.out.trans (b2.mono HB.out.size))
    clear b2
    go_wp2
    go_ret2
    exact ⟨ret_ibb HR2.out.1 HR2.out.2, HB2.out⟩
  · have hr := HR.out
    rw [g, decide_eq_false c] at hr
    have HR2 := Lib.hid (rd_none hr)
    have hbe : (itoa v == s.data.toList) = false := beq_eq_false_iff_ne.2 c
    clear hr c
    go_enter Tryz.func58, Tryz.ntmps58
    go_wp2_with fail
    refine C.out.mono ?_
    rintro e w1 ⟨rfl, b1⟩
    have C3 := Lib.hid (c_itoa v w1 (HP.out.keep b1 hB) (by omega) (by omega))
    have HB := Lib.hid b1
    clear b1
    go_wp2_with fail
    refine (C2 _).out.mono ?_
    rintro e _ ⟨rfl, rfl⟩
    go_wp2_with fail
    refine C3.out.mono ?_
    rintro e w2 ⟨rfl, b2⟩
    have HB2 := Lib.hid (HB.out.trans (b2.mono HB.out.size))
    clear b2
    go_wp2
    go_ret2
    exact ⟨ret_ibb HR2.out.1 HR2.out.2, HB2.out⟩
end Go.Proofs.YtlammcoiaeodfaaGreatDoor
