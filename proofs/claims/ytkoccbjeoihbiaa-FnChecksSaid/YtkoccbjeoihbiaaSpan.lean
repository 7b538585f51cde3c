/- Spans of serials; the words of a text: lists that the program and the reference make alike. -/
import Derived.Test.YtkoccbjeoihbiaaSerF
import Derived.Test.YtkoccbjeoihbiaaLists
import Derived.Test.YtkoccbjeoihbiaaBits
import Derived.StillTailTactics
namespace Go.Proofs.Ytkoccbjeoihbiaa
open Go.RowKit
set_option linter.unusedVariables false
set_option maxRecDepth 100000

/-- n serials from a on. -/
def spanL (a : Int) (n : Nat) : List Int := (List.range n).map fun (i : Nat) => aftV a i
theorem spanL_snoc (a : Int) (n : Nat) : spanL a (n + 1) = spanL a n ++ [aftV a n] := by simp [spanL, List.range_succ]
theorem spanL_length (a : Int) (n : Nat) : (spanL a n).length = n := by simp [spanL]
set_option maxHeartbeats 400000 in
theorem c_span (a : Int) (n : Nat) (w : World) (h1 : 0 ≤ a ∧ a ≤ 65535) (hn : n ≤ 100000) :
    Calls Try.prog 145 #[.int .i64 a, .int .i64 (n : Int)] w fun e w' => ∃ A cap, e = .returned (.slice A (spanL a n).length cap) ∧ OwnI w' w.heap.size A cap (spanL a n) ∧ Below w.heap.size w w' := by
  go_enter Try.func145, Try.ntmps145
  go_wp2
  go_loopw [5, 8] (fun v i wr => ∃ k : Nat, k ≤ n ∧ i = .int .i64 k ∧ (∃ A cap, v = .slice A k cap ∧ Hid (OwnI wr w.heap.size A cap (spanL a k))) ∧ Below w.heap.size w wr) (fun _ i _ => n - (intOf i).toNat)
  case atStart => exact ⟨0, Nat.zero_le _, rfl, ⟨none, 0, rfl, OwnI.nil _ _⟩, Below.refl _ _⟩
  case round =>
    obtain ⟨k, hk, rfl, ⟨A, cap, rfl, HO⟩, hbel⟩ := hrel
    have HB := Lib.hid hbel
    clear hbel
    have HL := Lib.hid (spanL_length a k)
    by_cases hlt : k < n
    · go_wp2_with fail
      refine (c_after _ _ _ (by omega) (by omega) (by omega) (by omega)).mono ?_
      rintro e _ ⟨rfl, rfl⟩
      go_wp2_with (at_builtin; refine wpList_appI _ rfl _ _ rfl w.heap.size A cap (spanL a k) (by rw [HL.out]; rfl) (HO.out.push _) (aftV a k) _ rfl (new1_cell _ _ _) (by have := HL.out; omega) (by have := HB.out.size; simp; omega) ?_; intro A' cap' w' hown' hb')
      have HS := Lib.hid hown'
      have HB' := Lib.hid ((HB.out.alloc HB.out.size _).trans hb')
      clear hown' hb' HO HB
      go_wp2
      go_roundw
      case rel => exact ⟨k + 1, by omega, by go_num, ⟨A', cap', by rw [HL.out], by have := HS.out; rwa [← spanL_snoc] at this⟩, HB'.out⟩
      case measure => simp [intOf]; omega
    · obtain rfl : k = n := by omega
      go_wp2
      go_ret
      exact ⟨A, cap, by rw [HL.out]; rfl, HO.out, HB.out⟩
def sspanOk (a b : Int) : Bool := inR a 0 65535 && inR b 0 65535 && decide (gapV a b ≤ 20)
def sspanL (a b : Int) : List Int := if sspanOk a b then spanL a (gapV a b).toNat else []
theorem aft_ne {a b : Int} {k : Nat} (ha : 0 ≤ a ∧ a ≤ 65535) (hb : 0 ≤ b ∧ b ≤ 65535) (hk : k < (gapV a b).toNat) : aftV a k ≠ b := by unfold aftV; unfold gapV at hk; omega
theorem aft_eq {a b : Int} (ha : 0 ≤ a ∧ a ≤ 65535) (hb : 0 ≤ b ∧ b ≤ 65535) : aftV a ((gapV a b).toNat : Int) = b := by unfold aftV gapV; omega
theorem aft_one (a : Int) (k : Nat) : aftV (aftV a k) 1 = aftV a ((k : Int) + 1) := by unfold aftV; omega
set_option maxHeartbeats 1000000 in
theorem c_specSerialSpan (a b : Int) (w : World) :
    Calls Try.prog 86 #[.int .i64 a, .int .i64 b] w fun e w' => ∃ A cap, e = .returned (.tuple #[.slice A (sspanL a b).length cap, .bool (sspanOk a b)]) ∧ OwnI w' w.heap.size A cap (sspanL a b) ∧ Below w.heap.size w w' := by
  have HE := Lib.hid (OwnI.empty w w.heap.size (Nat.le_refl _))
  have bel : Below w.heap.size w (w.alloc (.cells #[] 3)) := (Below.refl _ _).alloc (Nat.le_refl _) _
  cases g0 : inR a 0 65535
  · rw [show sspanOk a b = false from by simp [sspanOk, g0], show sspanL a b = [] from by simp [sspanL, sspanOk, g0]]
    go_enter Try.func86, Try.ntmps86
    go_wp2_with (go_at_call 111; refine (c_l2Good _ _).mono ?_; rintro e w' ⟨rfl, rfl⟩)
    go_ret2
    exact ⟨_, _, rfl, HE.out, bel⟩
  cases g1 : inR b 0 65535
  · rw [show sspanOk a b = false from by simp [sspanOk, g0, g1], show sspanL a b = [] from by simp [sspanL, sspanOk, g0, g1]]
    go_enter Try.func86, Try.ntmps86
    go_wp2_with (go_at_call 111; refine (c_l2Good _ _).mono ?_; rintro e w' ⟨rfl, rfl⟩)
    go_ret2
    exact ⟨_, _, rfl, HE.out, bel⟩
  have b0 := inR_t g0
  have b1 := inR_t g1
  have br := gapV_rng a b
  by_cases g2 : gapV a b ≤ 20
  rotate_left
  · rw [show sspanOk a b = false from by simp [sspanOk, g0, g1]; omega, show sspanL a b = [] from by simp [sspanL, sspanOk, g0, g1]; omega]
    go_enter Try.func86, Try.ntmps86
    go_wp2_with (first | (go_at_call 111; refine (c_l2Good _ _).mono ?_; rintro e w' ⟨rfl, rfl⟩) | (go_at_call 120; refine (c_l2Gap _ _ _ (by omega) (by omega) (by omega) (by omega)).mono ?_; rintro e w' ⟨rfl, rfl⟩))
    go_ret2
    exact ⟨_, _, rfl, HE.out, bel⟩
  · obtain ⟨n, hn⟩ : ∃ n : Nat, n = (gapV a b).toNat := ⟨_, rfl⟩
    have HN : ∀ k : Nat, Hid (k < n → aftV a k ≠ b) := fun k => Lib.hid (by rw [hn]; exact aft_ne b0 b1)
    have HQ := Lib.hid (show aftV a (n : Int) = b from by rw [hn]; exact aft_eq b0 b1)
    have hn20 : n ≤ 20 := by omega
    rw [show sspanOk a b = true from by simp [sspanOk, g0, g1, g2], show sspanL a b = spanL a n from by simp [sspanL, sspanOk, g0, g1, g2, hn]]
    clear hn
    go_enter Try.func86, Try.ntmps86
    go_wp2_with (first | (go_at_call 111; refine (c_l2Good _ _).mono ?_; rintro e w' ⟨rfl, rfl⟩) | (go_at_call 120; refine (c_l2Gap _ _ _ (by omega) (by omega) (by omega) (by omega)).mono ?_; rintro e w' ⟨rfl, rfl⟩))
    clear g2 br g0 g1
    go_loopw [0, 6] (fun q v wr => ∃ k : Nat, k ≤ n ∧ q = .int .i64 (aftV a k) ∧ (∃ A cap, v = .slice A k cap ∧ Hid (OwnI wr w.heap.size A cap (spanL a k))) ∧ Below w.heap.size w wr) (fun q _ _ => (n : Nat) - (gapV a (intOf q)).toNat)
    case atStart => exact ⟨0, Nat.zero_le _, by unfold aftV; congr 1; omega, ⟨_, _, rfl, HE⟩, bel⟩
    case round =>
      clear HE bel
      obtain ⟨k, hk, rfl, ⟨A, cap, rfl, HO⟩, hbel⟩ := hrel
      have HB := Lib.hid hbel
      clear hbel
      have HL := Lib.hid (spanL_length a k)
      have hr := aftV_rng a k
      have HK := Lib.hid (aft_one a k)
      by_cases hlt : k < n
      · have hne := (HN k).out hlt
        have e1 : (aftV a k == b) = false := by simpa using hne
        have e2 : (aftV a k != b) = true := by simpa using hne
        clear hne
        have HM : Hid (n - (gapV a (aftV a ((k : Int) + 1))).toNat < n - (gapV a (aftV a k)).toNat) := Lib.hid (by unfold gapV aftV; omega)
        generalize hc : aftV a (k : Int) = c at *
        have HC := Lib.hid hc.symm
        clear hc
        go_wp2_with (at_builtin; refine wpList_appI _ rfl _ _ rfl w.heap.size A cap (spanL a k) (by rw [HL.out]; rfl) (HO.out.push _) c _ rfl (new1_cell _ _ _) (by have := HL.out; omega) (by have := HB.out.size; simp; omega) ?_; intro A' cap' w' hown' hb')
        have HS := Lib.hid hown'
        have HB' := Lib.hid ((HB.out.alloc HB.out.size _).trans hb')
        clear hown' hb' HO HB
        go_wp2_with fail
        refine (c_l2After _ _ _ (by omega) (by omega) (by omega) (by omega)).mono ?_
        rintro e _ ⟨rfl, rfl⟩
        go_wp2
        go_roundw
        case rel => exact ⟨k + 1, by omega, by rw [HK.out]; rfl, ⟨A', cap', by rw [HL.out], by have := HS.out; rw [HC.out, ← spanL_snoc] at this; exact this⟩, HB'.out⟩
        case measure => rw [HK.out]; exact HM.out
      · obtain rfl : k = n := by omega
        have e1 : (aftV a k == b) = true := by rw [HQ.out]; simp
        have e2 : (aftV a k != b) = false := by rw [HQ.out]; simp
        generalize aftV a (k : Int) = c at *
        go_wp2
        go_ret2
        exact ⟨A, cap, by rw [HL.out]; rfl, HO.out, HB.out⟩
set_option maxHeartbeats 400000 in
theorem c_implSerialSpan (a b : Int) (w : World) :
    Calls Try.prog 85 #[.int .i64 a, .int .i64 b] w fun e w' => ∃ A cap, e = .returned (.tuple #[.slice A (sspanL a b).length cap, .bool (sspanOk a b)]) ∧ OwnI w' w.heap.size A cap (sspanL a b) ∧ Below w.heap.size w w' := by
  have HE := Lib.hid (OwnI.nil w w.heap.size)
  cases g0 : inR a 0 65535
  · rw [show sspanOk a b = false from by simp [sspanOk, g0], show sspanL a b = [] from by simp [sspanL, sspanOk, g0]]
    go_enter Try.func85, Try.ntmps85
    go_wp2_with (go_at_call 31; refine (c_isSerial _ _).mono ?_; rintro e w' ⟨rfl, rfl⟩)
    go_ret2
    exact ⟨_, _, rfl, HE.out, Below.refl _ _⟩
  cases g1 : inR b 0 65535
  · rw [show sspanOk a b = false from by simp [sspanOk, g0, g1], show sspanL a b = [] from by simp [sspanL, sspanOk, g0, g1]]
    go_enter Try.func85, Try.ntmps85
    go_wp2_with (go_at_call 31; refine (c_isSerial _ _).mono ?_; rintro e w' ⟨rfl, rfl⟩)
    go_ret2
    exact ⟨_, _, rfl, HE.out, Below.refl _ _⟩
  have b0 := inR_t g0
  have b1 := inR_t g1
  have br := gapV_rng a b
  by_cases g2 : gapV a b ≤ 20
  rotate_left
  · rw [show sspanOk a b = false from by simp [sspanOk, g0, g1]; omega, show sspanL a b = [] from by simp [sspanL, sspanOk, g0, g1]; omega]
    go_enter Try.func85, Try.ntmps85
    go_wp2_with (first | (go_at_call 31; refine (c_isSerial _ _).mono ?_; rintro e w' ⟨rfl, rfl⟩) | (go_at_call 114; refine (c_gap _ _ _ (by omega) (by omega) (by omega) (by omega)).mono ?_; rintro e w' ⟨rfl, rfl⟩))
    go_ret2
    exact ⟨_, _, rfl, HE.out, Below.refl _ _⟩
  · have hn : gapV a b = ((gapV a b).toNat : Int) := by omega
    have hn20 : (gapV a b).toNat ≤ 20 := by omega
    have C := Lib.hid (c_span a (gapV a b).toNat w b0 (by omega))
    rw [← hn] at C
    rw [show sspanOk a b = true from by simp [sspanOk, g0, g1, g2], show sspanL a b = spanL a (gapV a b).toNat from by simp [sspanL, sspanOk, g0, g1, g2]]
    clear hn
    go_enter Try.func85, Try.ntmps85
    go_wp2_with (first | (go_at_call 31; refine (c_isSerial _ _).mono ?_; rintro e w' ⟨rfl, rfl⟩) | (go_at_call 114; refine (c_gap _ _ _ (by omega) (by omega) (by omega) (by omega)).mono ?_; rintro e w' ⟨rfl, rfl⟩))
    refine C.out.mono ?_
    rintro e w1 ⟨A, cap, rfl, hown, hbel⟩
    have HO := Lib.hid hown
    clear hown
    go_wp2
    go_ret2
    exact ⟨A, cap, rfl, HO.out, hbel⟩
/-- The j-th word of a text, as far as its first k bytes tell. -/
def wAt (s : ByteArray) (k j : Nat) : Int :=
  (if 2 * j < k then 256 * ((s.data.toList.getD (2 * j) 0).toNat : Int) else 0) + (if 2 * j + 1 < k then ((s.data.toList.getD (2 * j + 1) 0).toNat : Int) else 0)
def wordsK (s : ByteArray) (n k : Nat) : List Int := (List.range n).map fun (j : Nat) => wAt s k j
def wordsL (s : ByteArray) : List Int := wordsK s ((s.size + 1) / 2) s.size
theorem wordsK_length (s : ByteArray) (n k : Nat) : (wordsK s n k).length = n := by simp [wordsK]
theorem wordsK_snoc (s : ByteArray) (n k : Nat) : wordsK s (n + 1) k = wordsK s n k ++ [wAt s k n] := by simp [wordsK, List.range_succ]
theorem getD_byte (s : ByteArray) (k : Nat) (h : k < s.size) : s.data.toList.getD k 0 = s[k] := by
  rw [List.getD_eq_getElem?_getD, List.getElem?_eq_getElem (by simpa using h)]
  rfl
theorem wAt_two (s : ByteArray) (j : Nat) (h : 2 * j + 1 < s.size) : wAt s s.size j = 256 * (s[2 * j].toNat : Int) + (s[2 * j + 1].toNat : Int) := by
  unfold wAt
  rw [if_pos (by omega), if_pos h, getD_byte s _ (by omega), getD_byte s _ h]
theorem wAt_one (s : ByteArray) (j : Nat) (h : 2 * j < s.size) (h' : ¬ 2 * j + 1 < s.size) : wAt s s.size j = 256 * (s[2 * j].toNat : Int) := by
  unfold wAt
  rw [if_pos h, if_neg h', getD_byte s _ h]
  omega
theorem byte_rng (b : UInt8) : (b.toNat : Int) ≤ 255 := by have := b.toNat_lt; omega
set_option maxHeartbeats 1000000 in
theorem c_l3Words (s : ByteArray) (w : World) (hl : s.size ≤ 1000000) :
    Calls Try.prog 138 #[.string s] w fun e w' => ∃ A cap, e = .returned (.slice A (wordsL s).length cap) ∧ OwnI w' w.heap.size A cap (wordsL s) ∧ Below w.heap.size w w' := by
  have HE := Lib.hid (OwnI.empty w w.heap.size (Nat.le_refl _))
  have bel : Below w.heap.size w (w.alloc (.cells #[] 3)) := (Below.refl _ _).alloc (Nat.le_refl _) _
  go_enter Try.func138, Try.ntmps138
  go_wp2
  go_loopw [3, 4] (fun v i wr => ∃ k : Nat, k ≤ (s.size + 1) / 2 ∧ i = .int .i64 ((2 * k : Nat) : Int) ∧ (∃ A cap, v = .slice A k cap ∧ Hid (OwnI wr w.heap.size A cap (wordsK s k s.size))) ∧ Below w.heap.size w wr) (fun _ i _ => s.size + 2 - (intOf i).toNat)
  case atStart => exact ⟨0, Nat.zero_le _, rfl, ⟨_, _, rfl, HE⟩, bel⟩
  case round =>
    clear HE bel
    obtain ⟨k, hk, rfl, ⟨A, cap, rfl, HO⟩, hbel⟩ := hrel
    have HB := Lib.hid hbel
    clear hbel
    have HL := Lib.hid (wordsK_length s k s.size)
    by_cases hlt : 2 * k < s.size
    · have hb0 := byte_rng s[2 * k]
      by_cases hlt2 : 2 * k + 1 < s.size
      · have hb1 := byte_rng s[2 * k + 1]
        have HW := Lib.hid (wAt_two s k hlt2)
        go_wp2_with (at_builtin; refine wpList_appI _ rfl _ _ rfl w.heap.size A cap (wordsK s k s.size) (by rw [HL.out]; rfl) (HO.out.push _) _ _ rfl (new1_cell _ _ _) (by have := HL.out; omega) (by have := HB.out.size; simp; omega) ?_; intro A' cap' w' hown' hb')
        rw [← HW.out, ← wordsK_snoc] at hown'
        have HS := Lib.hid hown'
        have HB' := Lib.hid ((HB.out.alloc HB.out.size _).trans hb')
        clear hown' hb' HO HB HW
        go_wp2
        go_roundw
        case rel => exact ⟨k + 1, by omega, by go_num, ⟨A', cap', by rw [HL.out], HS⟩, HB'.out⟩
        case measure => simp [intOf]; omega
      · have HW := Lib.hid (wAt_one s k hlt hlt2)
        go_wp2_with (at_builtin; refine wpList_appI _ rfl _ _ rfl w.heap.size A cap (wordsK s k s.size) (by rw [HL.out]; rfl) (HO.out.push _) _ _ rfl (new1_cell _ _ _) (by have := HL.out; omega) (by have := HB.out.size; simp; omega) ?_; intro A' cap' w' hown' hb')
        rw [← HW.out, ← wordsK_snoc] at hown'
        have HS := Lib.hid hown'
        have HB' := Lib.hid ((HB.out.alloc HB.out.size _).trans hb')
        clear hown' hb' HO HB HW
        go_wp2
        go_roundw
        case rel => exact ⟨k + 1, by omega, by go_num, ⟨A', cap', by rw [HL.out], HS⟩, HB'.out⟩
        case measure => simp [intOf]; omega
    · obtain rfl : k = (s.size + 1) / 2 := by omega
      go_wp2
      go_ret
      exact ⟨A, cap, by unfold wordsL; rw [HL.out]; rfl, HO.out, HB.out⟩
theorem wAt_even (s : ByteArray) (k : Nat) (h : k < s.size) (hm : k % 2 = 0) : wAt s k (k / 2) = 0 ∧ wAt s (k + 1) (k / 2) = 256 * (s[k].toNat : Int) := by
  have e : 2 * (k / 2) = k := by omega
  unfold wAt
  rw [e, if_neg (by omega), if_neg (by omega), if_pos (by omega), if_neg (by omega), getD_byte s _ h]
  omega
theorem wAt_odd (s : ByteArray) (k : Nat) (h : k < s.size) (hm : k % 2 = 1) : ∃ x : Int, 0 ≤ x ∧ x ≤ 255 ∧ wAt s k (k / 2) = 256 * x ∧ wAt s (k + 1) (k / 2) = 256 * x + (s[k].toNat : Int) := by
  have e : 2 * (k / 2) + 1 = k := by omega
  refine ⟨((s.data.toList.getD (2 * (k / 2)) 0).toNat : Int), by omega, byte_rng _, ?_, ?_⟩
  · unfold wAt
    rw [e, if_pos (by omega), if_neg (by omega)]
    omega
  · unfold wAt
    rw [e, if_pos (by omega), if_pos (by omega), getD_byte s _ h]
theorem words_set (s : ByteArray) (n k : Nat) (hk : k / 2 < n) : ((wordsK s n k).map (Value.int .i64)).set (k / 2) (.int .i64 (wAt s (k + 1) (k / 2))) = (wordsK s n (k + 1)).map (Value.int .i64) := by
  apply List.ext_getElem
  · simp [wordsK]
  · intro i h1 h2
    simp only [List.getElem_set, wordsK, List.getElem_map, List.getElem_range]
    split
    · rename_i h; subst h; rfl
    · congr 1
      unfold wAt
      congr 1
      · by_cases e : 2 * i < k
        · rw [if_pos e, if_pos (by omega)]
        · rw [if_neg e, if_neg (by omega)]
      · by_cases e : 2 * i + 1 < k
        · rw [if_pos e, if_pos (by omega)]
        · rw [if_neg e, if_neg (by omega)]
theorem or_zero (b : Int) (h1 : 0 ≤ b) (h2 : b ≤ 255) : bits .or .i64 0 (b * 256) = 256 * b := by
  obtain ⟨n, rfl⟩ := Int.eq_ofNat_of_zero_le h1
  have h := i64_or_nat 0 (n * 256) (by omega) (by omega)
  rw [Nat.zero_or] at h
  rw [show (n : Int) * 256 = ((n * 256 : Nat) : Int) from by omega, show (0 : Int) = ((0 : Nat) : Int) from rfl, h]
  omega
theorem or_low (a b : Int) (h1 : 0 ≤ a) (h2 : a ≤ 255) (h3 : 0 ≤ b) (h4 : b ≤ 255) : bits .or .i64 (256 * a) b = 256 * a + b := by
  rw [show (256 : Int) * a = a * 256 from by omega]
  exact or256 a b h1 (by omega) h3 (by omega)
set_option maxHeartbeats 1000000 in
theorem c_wordsOf_yes (s : ByteArray) (w : World) (hl : s.size ≤ 80) :
    Calls Try.prog 76 #[.string s] w fun e w' => ∃ A cap, e = .returned (.tuple #[.slice A (wordsL s).length cap, .bool true]) ∧ OwnI w' w.heap.size A cap (wordsL s) ∧ Below w.heap.size w w' := by
  obtain ⟨i0, hi, hz0, hz1, hz2⟩ := info_parts int_info
  have hb : i0.bytes * ((s.size + 1) / 2) ≤ 281474976710656 := by rw [hz2]; omega
  clear hz2
  have HB := Lib.hid hb
  clear hb
  go_enter Try.func76, Try.ntmps76
  go_wp2_with (at_make; refine wpList_make_full _ rfl _ _ _ rfl w.heap.size 3 i0 (.int .i64 0) 1 Try.underlying30 hi hz0 hz1 _ _ _ _ ((s.size + 1) / 2) rfl rfl (by omega) (by omega) HB.out (by unfold maxLen; omega) (Nat.le_refl _) ?_; intro w1 hown hgrow)
  rw [show (madeCells (Value.int IntKind.i64 0).cells ((s.size + 1) / 2 * 1)).toList = (wordsK s ((s.size + 1) / 2) 0).map (Value.int .i64) from by
    rw [Nat.mul_one]
    refine (toList_madeCells_one _ _).trans ?_
    apply List.ext_getElem
    · simp [wordsK]
    · intro i h1 h2
      simp [wordsK, wAt]] at hown
  have hbel : Below w.heap.size w w1 := (Below.refl _ _).grown hgrow (Nat.le_refl _) (fun k hk => by cases hk)
  clear hgrow HB hi hz0 hz1
  obtain ⟨n, hn⟩ : ∃ n, n = (s.size + 1) / 2 := ⟨_, rfl⟩
  rw [← hn] at hown ⊢
  have HN := Lib.hid hn
  have hns : n ≤ 40 := by omega
  clear hn
  go_loopw [16] (fun i wr => ∃ k : Nat, k ≤ s.size ∧ i = .int .i64 k ∧ wr.ownsRow w.heap.size 3 1 (.slice (some ⟨w.heap.size, 0, none⟩) n n) n ((wordsK s n k).map (Value.int .i64)) ∧ Below w.heap.size w wr) (fun i _ => s.size - (intOf i).toNat)
  case atStart => exact ⟨0, Nat.zero_le _, rfl, hown, hbel⟩
  case round =>
    clear hown hbel
    obtain ⟨k, hk, rfl, hown, hbel⟩ := hrel
    by_cases hlt : k < s.size
    · have hj : k / 2 < n := by have := HN.out; omega
      have hc : wr.cell? ⟨w.heap.size, k / 2, none⟩ = some (.int .i64 (wAt s k (k / 2))) := by
        rw [hown.cellAt (k / 2) (by omega), List.getElem?_map, show (wordsK s n k)[k / 2]? = some (wAt s k (k / 2)) from by simp [wordsK, hj]]
        rfl
      have hf := hown.frozenAt (k / 2)
      have hst := (hown.stored (k / 2) (.int .i64 (wAt s (k + 1) (k / 2)))).1
      rw [words_set s n k hj] at hst
      have HST := Lib.hid hst
      have HB := Lib.hid hbel
      clear hst hown hbel
      rcases Nat.mod_two_eq_zero_or_one k with hm | hm
      · have hv := wAt_even s k hlt hm
        rw [hv.1] at hc
        have HV := Lib.hid hv.2
        clear hv
        have q1 : (k : Int) < (s.size : Int) := by omega
        have q2 : (k : Int) / 2 < (n : Int) := by omega
        have q3 : (k : Int).tmod 2 = 0 := by rw [Int.tmod_eq_emod_of_nonneg (by omega)]; omega
        have q4 := IntWalk.i64_in ((k : Int) / 2) (by omega)
        have q6 : 0 ≤ (k : Int) / 2 := by omega
        have q7 : ((k : Int) / 2).toNat = k / 2 := by omega
        have hby := byte_rng s[k]
        have p0 : IntKind.i64.wrap 0 = 0 := IntWalk.i64_in 0 (by omega)
        have p8 : IntKind.i64.wrap 8 = 8 := IntWalk.i64_in 8 (by omega)
        have pb := IntWalk.i64_in (s[k].toNat : Int) (by omega)
        have pv : bits .or .i64 0 (IntKind.i64.wrap ((s[k].toNat : Int) * 256)) = 256 * (s[k].toNat : Int) := by rw [IntWalk.i64_in _ (by omega)]; exact or_zero _ (by omega) hby
        have q5 : IntKind.i64.wrap ((k : Int).tdiv 2) = (k : Int) / 2 := by rw [Int.tdiv_eq_ediv_of_nonneg (by omega)]; exact q4
        clear hm
        go_wp2
        go_still_tail 16, (by kernel_rfl)
        change wpList _ _ _ _ _ wr.drew
        clear q2 q3 q4 q5 q6 q7 p0 p8 pb
        go_wp2
        go_roundw
        case rel => exact ⟨k + 1, by omega, by go_num, by rw [HV.out] at HST; exact HST.out, (HB.out.drew).setCell (Nat.le_refl _) _⟩
        case measure => simp [intOf]; omega
      · obtain ⟨x, hx0, hx1, hv1, hv2⟩ := wAt_odd s k hlt hm
        rw [hv1] at hc
        have HV := Lib.hid hv2
        clear hv1 hv2
        have q1 : (k : Int) < (s.size : Int) := by omega
        have q2 : (k : Int) / 2 < (n : Int) := by omega
        have q3 : (k : Int).tmod 2 = 1 := by rw [Int.tmod_eq_emod_of_nonneg (by omega)]; omega
        have q4 := IntWalk.i64_in ((k : Int) / 2) (by omega)
        have q6 : 0 ≤ (k : Int) / 2 := by omega
        have q7 : ((k : Int) / 2).toNat = k / 2 := by omega
        have hby := byte_rng s[k]
        have p0 : IntKind.i64.wrap 0 = 0 := IntWalk.i64_in 0 (by omega)
        have p8 : IntKind.i64.wrap 8 = 8 := IntWalk.i64_in 8 (by omega)
        have pb := IntWalk.i64_in (s[k].toNat : Int) (by omega)
        have pv : bits .or .i64 (256 * x) (s[k].toNat : Int) = 256 * x + (s[k].toNat : Int) := or_low _ _ hx0 hx1 (by omega) hby
        have q5 : IntKind.i64.wrap ((k : Int).tdiv 2) = (k : Int) / 2 := by rw [Int.tdiv_eq_ediv_of_nonneg (by omega)]; exact q4
        clear hm
        go_wp2
        go_still_tail 16, (by kernel_rfl)
        change wpList _ _ _ _ _ wr.drew
        clear q2 q3 q4 q5 q6 q7 p0 p8 pb
        go_wp2
        go_roundw
        case rel => exact ⟨k + 1, by omega, by go_num, by rw [HV.out] at HST; exact HST.out, (HB.out.drew).setCell (Nat.le_refl _) _⟩
        case measure => simp [intOf]; omega
    · obtain rfl : k = s.size := by omega
      have hl2 := wordsK_length s n s.size
      have e : wordsL s = wordsK s n s.size := by unfold wordsL; rw [← HN.out]
      have HE := Lib.hid e
      have HL := Lib.hid hl2
      clear e hl2
      go_wp2
      go_ret2
      exact ⟨some ⟨w.heap.size, 0, none⟩, n, by rw [HE.out, HL.out]; rfl, by rw [HE.out]; unfold OwnI; rw [HL.out]; exact hown, hbel⟩
def wordsOk (s : ByteArray) : Bool := decide (s.size ≤ 80)
def wordsR (s : ByteArray) : List Int := if wordsOk s then wordsL s else []
theorem c_implWordsOf (s : ByteArray) (w : World) :
    Calls Try.prog 76 #[.string s] w fun e w' => ∃ A cap, e = .returned (.tuple #[.slice A (wordsR s).length cap, .bool (wordsOk s)]) ∧ OwnI w' w.heap.size A cap (wordsR s) ∧ Below w.heap.size w w' := by
  by_cases hl : s.size ≤ 80
  · rw [show wordsOk s = true from by simp [wordsOk, hl], show wordsR s = wordsL s from by simp [wordsR, wordsOk, hl]]
    exact c_wordsOf_yes s w hl
  · rw [show wordsOk s = false from by simp [wordsOk]; omega, show wordsR s = [] from by simp [wordsR, wordsOk]; omega]
    have HE := Lib.hid (OwnI.nil w w.heap.size)
    go_enter Try.func76, Try.ntmps76
    go_wp2
    go_ret2
    exact ⟨_, _, rfl, HE.out, Below.refl _ _⟩
theorem c_specWordsOf (s : ByteArray) (w : World) :
    Calls Try.prog 77 #[.string s] w fun e w' => ∃ A cap, e = .returned (.tuple #[.slice A (wordsR s).length cap, .bool (wordsOk s)]) ∧ OwnI w' w.heap.size A cap (wordsR s) ∧ Below w.heap.size w w' := by
  by_cases hl : s.size ≤ 80
  · rw [show wordsOk s = true from by simp [wordsOk, hl], show wordsR s = wordsL s from by simp [wordsR, wordsOk, hl]]
    have C := Lib.hid (c_l3Words s w (by omega))
    go_enter Try.func77, Try.ntmps77
    go_wp2_with fail
    refine C.out.mono ?_
    rintro e w1 ⟨A, cap, rfl, hown, hbel⟩
    have HO := Lib.hid hown
    clear hown
    go_wp2
    go_ret2
    exact ⟨A, cap, rfl, HO.out, hbel⟩
  · rw [show wordsOk s = false from by simp [wordsOk]; omega, show wordsR s = [] from by simp [wordsR, wordsOk]; omega]
    have HE := Lib.hid (OwnI.empty w w.heap.size (Nat.le_refl _))
    have bel : Below w.heap.size w (w.alloc (.cells #[] 3)) := (Below.refl _ _).alloc (Nat.le_refl _) _
    go_enter Try.func77, Try.ntmps77
    go_wp2
    go_ret2
    exact ⟨_, _, rfl, HE.out, bel⟩
theorem sspanL_len (a b : Int) : (sspanL a b).length ≤ 100000 := by
  have := gapV_rng a b
  unfold sspanL
  split
  · rw [spanL_length]; omega
  · simp
theorem wordsR_len (s : ByteArray) : (wordsR s).length ≤ 100000 := by
  unfold wordsR
  split
  · rename_i h
    have : s.size ≤ 80 := by simpa [wordsOk] using h
    unfold wordsL
    rw [wordsK_length]
    omega
  · simp
end Go.Proofs.Ytkoccbjeoihbiaa
