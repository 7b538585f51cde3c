/- Texts joined by a separator: by the program and by the reference; slices.ContainsFunc over texts with a captured text. -/
import Derived.Test.YtnbgjkblhbpjlaaStrs
import Derived.Test.YtnbgjkblhbpjlaaSplitL
import Derived.Test.YtnbgjkblhbpjlaaLib
import Derived.Test.YtnbgjkblhbpjlaaChk
import Derived.Test.YtnbgjkblhbpjlaaSplit
namespace Go.Proofs.Ytnbgjkblhbpjlaa
open Go.RowKit
set_option linter.unusedVariables false
set_option maxRecDepth 100000

def FoundS (p : List UInt8 → Bool) (xs : List (List UInt8)) (r : Int) : Prop :=
  (r = -1 ∧ ∀ j, j < xs.length → p (xs.getD j []) = false) ∨ ∃ k : Nat, r = k ∧ k < xs.length ∧ p (xs.getD k []) = true ∧ ∀ j, j < k → p (xs.getD j []) = false
theorem FoundS.any {p : List UInt8 → Bool} {xs : List (List UInt8)} {r : Int} (h : FoundS p xs r) : decide (0 ≤ r) = xs.any p := by
  rcases h with ⟨rfl, h⟩ | ⟨k, rfl, hk, hp, _⟩
  · symm
    rw [show decide ((0 : Int) ≤ -1) = false from by decide, List.any_eq_false]
    intro x hx
    obtain ⟨j, hj, rfl⟩ := List.getElem_of_mem hx
    have := h j hj
    simpa [hj] using this
  · rw [decide_eq_true (by omega)]
    symm
    rw [List.any_eq_true]
    exact ⟨xs[k], List.getElem_mem hk, by simpa [hk] using hp⟩
set_option maxHeartbeats 400000 in
theorem c_indexFuncSC {H : Nat} (N : Nat) (cp : Value) (p : List UInt8 → Bool) (A : Option Addr) (cap : Nat) (xs : List (List UInt8)) (w : World)
    (hN : ∀ x w, Sem.run Try.prog (callFunc N #[.string (str x), cp]) w = .ok (Next.enter N #[.string (str x), cp]) w)
    (hp : ∀ x W, x ∈ xs → Below w.heap.size w W → Calls Try.prog N #[.string (str x), cp] W fun e w' => e = .returned (.bool (p x)) ∧ Below W.heap.size W w')
    (h : Strs w H A xs) (hH : H ≤ w.heap.size) (hl : xs.length ≤ 100000000) :
    Calls Try.prog 14 #[.slice A xs.length cap, .func (Fn.func N) #[] #[cp]] w fun e w' => ∃ r, e = .returned (.int .i64 r) ∧ FoundS p xs r ∧ Below w.heap.size w w' := by
  have HP := Lib.hid hp
  clear hp
  go_enter Try.func14, Try.ntmps14
  go_wp2
  go_loopw [8] (fun i wr => ∃ k : Nat, k ≤ xs.length ∧ i = .int .i64 k ∧ Hid (∀ j, j < k → p (xs.getD j []) = false) ∧ Below w.heap.size w wr) (fun i _ => xs.length - (intOf i).toNat)
  case atStart => exact ⟨0, Nat.zero_le _, rfl, Lib.hid (fun j hj => absurd hj (by omega)), Below.refl _ _⟩
  case round =>
    obtain ⟨k, hk, rfl, HJ, hbel⟩ := hrel
    by_cases hlt : k < xs.length
    · obtain ⟨ad, rfl, hadb, hc⟩ := ((h.more hH).keep hbel).at_ hlt
      have HB := Lib.hid hbel
      clear h hbel
      have HM := Lib.hid (show xs.getD k [] ∈ xs by rw [show xs.getD k [] = xs[k] from by simp [hlt]]; exact List.getElem_mem _)
      obtain ⟨x, hx⟩ : ∃ x, x = xs.getD k [] := ⟨_, rfl⟩
      rw [← hx] at hc HM
      have HX := Lib.hid hx
      clear hx
      cases hpx : p x
      · go_wp2_with fail
        refine (HP.out x _ HM.out HB.out).mono ?_
        rintro e w1 ⟨rfl, b1⟩
        have HB1 := Lib.hid (HB.out.trans (b1.mono HB.out.size))
        clear b1 HB hc
        go_wp2
        go_roundw
        case rel => exact ⟨k + 1, by omega, by go_num, Lib.hid (fun j hj => by
          by_cases hjk : j = k
          · subst hjk; rw [← HX.out]; exact hpx
          · exact HJ.out j (by omega)), HB1.out⟩
        case measure => simp [intOf]; omega
      · go_wp2_with fail
        refine (HP.out x _ HM.out HB.out).mono ?_
        rintro e w1 ⟨rfl, b1⟩
        have HB1 := Lib.hid (HB.out.trans (b1.mono HB.out.size))
        clear b1 HB hc
        go_wp2
        go_ret
        exact ⟨_, rfl, .inr ⟨k, rfl, hlt, by rw [← HX.out]; exact hpx, HJ.out⟩, HB1.out⟩
    · obtain rfl : k = xs.length := by omega
      go_wp2
      go_ret
      exact ⟨_, rfl, .inl ⟨rfl, HJ.out⟩, hbel⟩
theorem c_containsFuncSC {H : Nat} (N : Nat) (cp : Value) (p : List UInt8 → Bool) (A : Option Addr) (cap : Nat) (xs : List (List UInt8)) (w : World)
    (hN : ∀ x w, Sem.run Try.prog (callFunc N #[.string (str x), cp]) w = .ok (Next.enter N #[.string (str x), cp]) w)
    (hp : ∀ x W, x ∈ xs → Below w.heap.size w W → Calls Try.prog N #[.string (str x), cp] W fun e w' => e = .returned (.bool (p x)) ∧ Below W.heap.size W w')
    (h : Strs w H A xs) (hH : H ≤ w.heap.size) (hl : xs.length ≤ 100000000) :
    Calls Try.prog 10 #[.slice A xs.length cap, .func (Fn.func N) #[] #[cp]] w fun e w' => e = .returned (.bool (xs.any p)) ∧ Below w.heap.size w w' := by
  have HC := Lib.hid (c_indexFuncSC N cp p A cap xs w hN hp h hH hl)
  clear hp hN h
  go_enter Try.func10, Try.ntmps10
  go_wp2_with fail
  refine HC.out.mono ?_
  rintro e w' ⟨r, rfl, hr, hb⟩
  have HR := Lib.hid hr.any
  clear hr
  go_wp2
  go_ret
  exact ⟨ret_b HR.out, hb⟩
def anyB (b : UInt8) (xs : List (List UInt8)) : Bool := xs.any (hasB b)
def sepB (sep : ByteArray) : UInt8 := sep.data.toList.headD 0
def joinOk (xs : List (List UInt8)) (sep : ByteArray) : Bool := decide (xs ≠ []) && decide (sep.size = 1) && !anyB (sepB sep) xs && decide ((jn (sepB sep) xs).length ≤ 4000)
def joinT (xs : List (List UInt8)) (sep : ByteArray) : List UInt8 := if joinOk xs sep then jn (sepB sep) xs else []
theorem joinT_n {xs : List (List UInt8)} {sep : ByteArray} (h : joinOk xs sep = false) : joinT xs sep = [] := by simp [joinT, h]
theorem joinT_y {xs : List (List UInt8)} {b : UInt8} (h0 : xs ≠ []) (h1 : anyB b xs = false) (h2 : (jn b xs).length ≤ 4000) : joinOk xs (str [b]) = true ∧ joinT xs (str [b]) = jn b xs := by
  have e : sepB (str [b]) = b := by simp [sepB, list_str]
  have h : joinOk xs (str [b]) = true := by simp [joinOk, h0, e, h1, h2, str_size]
  exact ⟨h, by simp [joinT, h, e]⟩
theorem joinOk_any {xs : List (List UInt8)} {b : UInt8} (h1 : anyB b xs = true) : joinOk xs (str [b]) = false := by
  have e : sepB (str [b]) = b := by simp [sepB, list_str]
  simp [joinOk, e, h1]
theorem joinOk_long {xs : List (List UInt8)} {b : UInt8} (h1 : ¬ (jn b xs).length ≤ 4000) : joinOk xs (str [b]) = false := by
  have e : sepB (str [b]) = b := by simp [sepB, list_str]
  simp [joinOk, e, h1]
theorem jn_step (b : UInt8) (xs : List (List UInt8)) (k : Nat) (h : k < xs.length) (h0 : 0 < k) : (jn b (xs.take k) ++ [b]) ++ xs.getD k [] = jn b (xs.take (k + 1)) := by
  rw [take_snoc_l xs k h, jn_snoc b _ _ (by
    intro e
    have h1 : (xs.take k).length = 0 := by rw [e]; rfl
    rw [List.length_take] at h1
    omega)]
  simp
theorem jn_first (b : UInt8) (xs : List (List UInt8)) (h : 0 < xs.length) : [] ++ xs.getD 0 [] = jn b (xs.take 1) := by
  rw [take_snoc_l xs 0 h]
  simp [jn]
theorem anyB_at {b : UInt8} {xs : List (List UInt8)} {k : Nat} (h : k < xs.length) (e : hasB b (xs.getD k []) = true) : anyB b xs = true := by
  unfold anyB
  rw [List.any_eq_true]
  exact ⟨xs[k], List.getElem_mem h, by simpa [h] using e⟩
theorem anyB_no {b : UInt8} {xs : List (List UInt8)} (h : ∀ j, j < xs.length → hasB b (xs.getD j []) = false) : anyB b xs = false := by
  unfold anyB
  rw [List.any_eq_false]
  intro x hx
  obtain ⟨j, hj, rfl⟩ := List.getElem_of_mem hx
  have := h j hj
  simpa [hj] using this
theorem ret_j {a b : List UInt8} {c d : Bool} (h : b = a) (k : d = c) : Ending.returned (.tuple #[.string (str a), .bool c]) = .returned (.tuple #[.string (str b), .bool d]) := by rw [h, k]
set_option maxHeartbeats 4000000 in
theorem c_specJoinStrings {H : Nat} (A : Option Addr) (cap : Nat) (xs : List (List UInt8)) (sep : ByteArray) (w : World) (h : Strs w H A xs) (hH : H ≤ w.heap.size) (hl : xs.length ≤ 100000000) (hx : ∀ x ∈ xs, x.length ≤ 100000000) (hs : sep.size ≤ 100000000) :
    Calls Try.prog 5 #[.slice A xs.length cap, .string sep] w fun e w' => e = .returned (.tuple #[.string (str (joinT xs sep)), .bool (joinOk xs sep)]) ∧ Below w.heap.size w w' := by
  by_cases g1 : sep.size = 1
  rotate_left
  · have g0 : joinOk xs sep = false := by simp [joinOk, g1]
    rw [joinT_n g0, g0]
    have g2 : ((sep.size : Int) == 1) = false := by simp; omega
    have g3 : ((sep.size : Int) != 1) = true := by simp; omega
    clear h hx
    go_enter Try.func5, Try.ntmps5
    go_wp2
    go_ret2
    exact ⟨rfl, Below.refl _ _⟩
  by_cases g4 : xs.length = 0
  · obtain rfl : xs = [] := List.length_eq_zero_iff.1 g4
    have g0 : joinOk [] sep = false := by simp [joinOk]
    rw [joinT_n g0, g0]
    have g2 : ((sep.size : Int) != 1) = false := by simp; omega
    clear h hx g4
    go_enter Try.func5, Try.ntmps5
    go_wp2
    go_ret2
    exact ⟨rfl, Below.refl _ _⟩
  obtain ⟨b, rfl⟩ := one_byte sep g1
  have g6 : ((xs.length : Int) == 0) = false := beq_eq_false_iff_ne.2 (by omega)
  have HX := Lib.hid (fun k (hk : k < xs.length) => hx (xs.getD k []) (by rw [show xs.getD k [] = xs[k] from by simp [hk]]; exact List.getElem_mem _))
  clear hx g1
  have hn0 : 0 < xs.length := by omega
  clear g4
  have H0 := Lib.hid h
  clear h
  go_enter Try.func5, Try.ntmps5
  go_wp2_with fail
  go_loopw [6, 7] (fun o i wr => ∃ k : Nat, k ≤ xs.length ∧ i = .int .i64 k ∧ o = .string (str (jn b (xs.take k))) ∧ Hid (∀ j, j < k → hasB b (xs.getD j []) = false) ∧ Hid ((jn b (xs.take k)).length ≤ 4000) ∧ Below w.heap.size w wr) (fun _ i _ => xs.length - (intOf i).toNat)
  case atStart => exact ⟨0, Nat.zero_le _, rfl, rfl, Lib.hid (fun j hj => absurd hj (by omega)), Lib.hid (by simp [jn]), Below.refl _ _⟩
  case round =>
    obtain ⟨k, hk, rfl, rfl, HJ, HL, hbel⟩ := hrel
    by_cases hlt : k < xs.length
    · obtain ⟨ad, rfl, hadb, hc⟩ := ((H0.out.more hH).keep hbel).at_ hlt
      have HB := Lib.hid hbel
      clear hbel
      obtain ⟨x, hx⟩ : ∃ x, x = xs.getD k [] := ⟨_, rfl⟩
      have hxl : x.length ≤ 100000000 := by rw [hx]; exact HX.out k hlt
      have C1 := fun W => Lib.hid (c_l1Stands (str x) b W (by rw [str_size]; omega))
      simp only [list_str] at C1
      rw [← hx] at hc
      have HX0 := Lib.hid hx
      clear hx
      cases hbx : hasB b x
      · rw [hbx] at C1
        have HJ2 : Hid (∀ j, j < k + 1 → hasB b (xs.getD j []) = false) := Lib.hid (fun j hj => by
          by_cases hjk : j = k
          · subst hjk; rw [← HX0.out]; exact hbx
          · exact HJ.out j (by omega))
        clear HJ hbx
        by_cases hk0 : k = 0
        · -- the first
          have hz : jn b (xs.take k) = [] := by rw [hk0]; rfl
          have hk1 : ¬ (0 : Int) < (k : Int) := by omega
          have ha1 := fun W => run_add_str (jn b (xs.take k)) x (jn b (xs.take (k + 1))) (by rw [hz, HX0.out, hk0]; exact jn_first b xs hn0) (by rw [hk0, ← jn_first b xs hn0]; have := HX.out 0 hn0; simp only [List.nil_append]; omega) W
          have hlen : (jn b (xs.take (k + 1))).length ≤ 200000000 := by rw [hk0, ← jn_first b xs hn0]; have := HX.out 0 hn0; simp only [List.nil_append]; omega
          clear hz hk0
          have hsz3 : (str (jn b (xs.take (k + 1)))).size = (jn b (xs.take (k + 1))).length := str_size _
          clear HL hlen
          generalize hP : jn b (xs.take k) = P at *
          clear hP
          by_cases hlong : (jn b (xs.take (k + 1))).length ≤ 4000
          · have hl2 : ¬ (4000 : Int) < ((jn b (xs.take (k + 1))).length : Int) := by omega
            have HL2 := Lib.hid hlong
            clear hlong
            have HZ0 := Lib.hid (show jn b (xs.take (k + 1)) = jn b (xs.take (k + 1)) from rfl)
            generalize hZ : jn b (xs.take (k + 1)) = Z at *
            have HZ := Lib.hid hZ
            clear hZ HZ0
            go_wp2_with fail
            go_quiet ((go_at_call 9; exact quiet_left (C1 _).out))
            go_wp2
            go_roundw
            case rel => exact ⟨k + 1, by omega, by go_num, by rw [HZ.out], HJ2, Lib.hid (by rw [HZ.out]; exact HL2.out), below_dr HB.out _⟩
            case measure => simp [intOf]; omega
          · have hl2 : (4000 : Int) < ((jn b (xs.take (k + 1))).length : Int) := by omega
            have HY2 : Hid (joinOk xs (str [b]) = false) := Lib.hid (joinOk_long (by have := jn_take_le b xs (k + 1); omega))
            have HY1 := Lib.hid (joinT_n HY2.out)
            clear hlong
            generalize hZ : jn b (xs.take (k + 1)) = Z at *
            clear hZ
            go_wp2_with fail
            go_quiet ((go_at_call 9; exact quiet_left (C1 _).out))
            go_wp2
            go_ret2
            exact ⟨ret_j HY1.out HY2.out, below_dr HB.out _⟩
        · -- a later one
          have hk1 : (0 : Int) < (k : Int) := by omega
          have hlen : (jn b (xs.take (k + 1))).length ≤ 200000000 := by
            rw [← jn_step b xs k hlt (by omega), List.length_append, List.length_append]
            have h1 := HX.out k hlt
            have h2 := HL.out
            simp only [List.length_singleton]
            omega
          have ha1 := fun W => run_add_str (jn b (xs.take k)) [b] (jn b (xs.take k) ++ [b]) rfl (by rw [List.length_append]; have h2 := HL.out; simp only [List.length_singleton]; omega) W
          have ha2 := fun W => run_add_str (jn b (xs.take k) ++ [b]) x (jn b (xs.take (k + 1))) (by rw [HX0.out]; exact jn_step b xs k hlt (by omega)) (by omega) W
          generalize jn b (xs.take k) ++ [b] = P2 at *
          clear hk0
          have hsz3 : (str (jn b (xs.take (k + 1)))).size = (jn b (xs.take (k + 1))).length := str_size _
          clear HL hlen
          generalize hP : jn b (xs.take k) = P at *
          clear hP
          by_cases hlong : (jn b (xs.take (k + 1))).length ≤ 4000
          · have hl2 : ¬ (4000 : Int) < ((jn b (xs.take (k + 1))).length : Int) := by omega
            have HL2 := Lib.hid hlong
            clear hlong
            have HZ0 := Lib.hid (show jn b (xs.take (k + 1)) = jn b (xs.take (k + 1)) from rfl)
            generalize hZ : jn b (xs.take (k + 1)) = Z at *
            have HZ := Lib.hid hZ
            clear hZ HZ0
            go_wp2_with fail
            go_quiet ((go_at_call 9; exact quiet_left (C1 _).out))
            go_wp2
            go_roundw
            case rel => exact ⟨k + 1, by omega, by go_num, by rw [HZ.out], HJ2, Lib.hid (by rw [HZ.out]; exact HL2.out), below_dr HB.out _⟩
            case measure => simp [intOf]; omega
          · have hl2 : (4000 : Int) < ((jn b (xs.take (k + 1))).length : Int) := by omega
            have HY2 : Hid (joinOk xs (str [b]) = false) := Lib.hid (joinOk_long (by have := jn_take_le b xs (k + 1); omega))
            have HY1 := Lib.hid (joinT_n HY2.out)
            clear hlong
            generalize hZ : jn b (xs.take (k + 1)) = Z at *
            clear hZ
            go_wp2_with fail
            go_quiet ((go_at_call 9; exact quiet_left (C1 _).out))
            go_wp2
            go_ret2
            exact ⟨ret_j HY1.out HY2.out, below_dr HB.out _⟩
      · rw [hbx] at C1
        have HY2 : Hid (joinOk xs (str [b]) = false) := Lib.hid (joinOk_any (anyB_at hlt (by rw [← HX0.out]; exact hbx)))
        have HY1 := Lib.hid (joinT_n HY2.out)
        clear hbx HJ HL
        generalize jn b (xs.take k) = P at *
        go_wp2_with fail
        go_quiet ((go_at_call 9; exact quiet_left (C1 _).out))
        go_wp2
        go_ret2
        exact ⟨ret_j HY1.out HY2.out, below_dr HB.out _⟩
    · obtain rfl : k = xs.length := by omega
      obtain ⟨e1, e2⟩ := joinT_y (b := b) (List.length_pos_iff.1 hn0) (anyB_no HJ.out) (by have := HL.out; rwa [List.take_length] at this)
      have HY1 := Lib.hid e1
      have HY2 : Hid (joinT xs (str [b]) = jn b (xs.take xs.length)) := Lib.hid (by rw [List.take_length]; exact e2)
      clear e1 e2 HJ HL
      generalize jn b (xs.take xs.length) = P at *
      go_wp2
      go_ret2
      exact ⟨ret_j HY2.out HY1.out, hbel⟩
theorem c_joinHas {B sb : Nat} (b : UInt8) (x : List UInt8) (w : World) (h : MaxW w B) (hc : w.cell? ⟨sb, 0, none⟩ = some (.string (str [b]))) (hx : x.length ≤ 100000000) :
    Calls Try.prog 11 #[.string (str x), .pointer (some ⟨sb, 0, none⟩)] w fun e w' => e = .returned (.bool (hasB b x)) ∧ Below w.heap.size w w' := by
  have C := Lib.hid (c_contains (str x) b w h (by rw [str_size]; omega))
  simp only [list_str] at C
  go_enter Try.func11, Try.ntmps11
  go_wp2_with fail
  refine C.out.mono ?_
  rintro e _ ⟨rfl, rfl⟩
  go_wp2
  go_ret
  exact ⟨rfl, Below.refl _ _⟩
set_option maxHeartbeats 4000000 in
theorem c_implJoinStrings {B B2 : Nat} (A : Option Addr) (cap : Nat) (xs : List (List UInt8)) (sep : ByteArray) (w : World) (hm : MaxW w B2) (hB2 : B2 ≤ w.heap.size) (h : OwnS w B A cap xs) (hl : xs.length ≤ 100000000) (hx : ∀ x ∈ xs, x.length ≤ 100000000) (hj : ∀ b, (jn b xs).length ≤ 1000000000) (hs : sep.size ≤ 100000000) :
    Calls Try.prog 7 #[.slice A xs.length cap, .string sep] w fun e w' => e = .returned (.tuple #[.string (str (joinT xs sep)), .bool (joinOk xs sep)]) ∧ Below w.heap.size w w' := by
  have B0 := Lib.hid ((Below.refl w.heap.size w).alloc (Nat.le_refl _) (.cells #[.string sep] 9))
  by_cases g4 : xs.length = 0
  · obtain rfl : xs = [] := List.length_eq_zero_iff.1 g4
    have g0 : joinOk [] sep = false := by simp [joinOk]
    rw [joinT_n g0, g0]
    clear h hx g4 hj hm
    go_enter Try.func7, Try.ntmps7
    go_wp2
    go_ret2
    exact ⟨rfl, B0.out⟩
  have g6 : ((xs.length : Int) == 0) = false := beq_eq_false_iff_ne.2 (by omega)
  by_cases g1 : sep.size = 1
  rotate_left
  · have g0 : joinOk xs sep = false := by simp [joinOk, g1]
    rw [joinT_n g0, g0]
    have g2 : ((sep.size : Int) == 1) = false := by simp; omega
    have g3 : ((sep.size : Int) != 1) = true := by simp; omega
    clear h hx hm hj g4
    go_enter Try.func7, Try.ntmps7
    go_wp2
    go_ret2
    exact ⟨rfl, B0.out⟩
  obtain ⟨b, rfl⟩ := one_byte sep g1
  have hn0 : 0 < xs.length := by omega
  have CF := Lib.hid (c_containsFuncSC 11 (.pointer (some ⟨w.heap.size, 0, none⟩)) (hasB b) A cap xs (w.alloc (.cells #[.string (str [b])] 9)) (fun x w => by kernel_rfl)
    (fun x W hxm hW => c_joinHas b x W ((hm.keep B0.out hB2).keep hW (Nat.le_trans hB2 B0.out.size)) ((hW.cell (p := ⟨w.heap.size, 0, none⟩) (by simp)).trans (new1_cell _ _ _)) (hx x hxm))
    (h.push _).strs (Nat.le_refl _) hl)
  have HO := Lib.hid (h.push (.cells #[.string (str [b])] 9))
  have HJ := Lib.hid (hj b)
  have hce := new1_cell w (.string (str [b])) 9
  clear hm hx hj h g4 g1
  go_enter Try.func7, Try.ntmps7
  go_wp2_with fail
  refine CF.out.mono ?_
  rintro e w1 ⟨rfl, b1⟩
  have HB := Lib.hid (B0.out.trans (b1.mono B0.out.size))
  have HO1 := Lib.hid (HO.out.keep b1)
  have hce1 := (b1.cell (p := ⟨w.heap.size, 0, none⟩) (by simp)).trans hce
  clear b1 HO hce CF B0
  have HAB := Lib.hid (show anyB b xs = xs.any (hasB b) from rfl)
  cases hab : xs.any (hasB b)
  rotate_left
  · have HY2 : Hid (joinOk xs (str [b]) = false) := Lib.hid (joinOk_any (HAB.out.trans hab))
    have HY1 := Lib.hid (joinT_n HY2.out)
    clear HJ hab HAB
    go_wp2
    go_ret2
    exact ⟨ret_j HY1.out HY2.out, HB.out⟩
  have C2 := Lib.hid (c_join xs b w1 HO1.out HJ.out hl)
  have hsz : (str (jn b xs)).size = (jn b xs).length := str_size _
  by_cases hlong : (jn b xs).length ≤ 4000
  · have hl2 : ¬ (4000 : Int) < ((jn b xs).length : Int) := by omega
    obtain ⟨e1, e2⟩ := joinT_y (b := b) (List.length_pos_iff.1 hn0) (HAB.out.trans hab) hlong
    have HY1 := Lib.hid e1
    have HY2 := Lib.hid e2
    clear e1 e2 HJ hab HAB hlong
    generalize jn b xs = P at *
    go_wp2_with fail
    refine C2.out.mono ?_
    rintro e w2 ⟨rfl, b2⟩
    have HB2 := Lib.hid (HB.out.trans (b2.mono HB.out.size))
    clear b2
    go_wp2
    go_ret2
    exact ⟨ret_j HY2.out HY1.out, HB2.out⟩
  · have hl2 : (4000 : Int) < ((jn b xs).length : Int) := by omega
    have HY2 : Hid (joinOk xs (str [b]) = false) := Lib.hid (joinOk_long hlong)
    have HY1 := Lib.hid (joinT_n HY2.out)
    clear HJ hab HAB hlong
    generalize jn b xs = P at *
    go_wp2_with fail
    refine C2.out.mono ?_
    rintro e w2 ⟨rfl, b2⟩
    have HB2 := Lib.hid (HB.out.trans (b2.mono HB.out.size))
    clear b2
    go_wp2
    go_ret2
    exact ⟨ret_j HY1.out HY2.out, HB2.out⟩
end Go.Proofs.Ytnbgjkblhbpjlaa
