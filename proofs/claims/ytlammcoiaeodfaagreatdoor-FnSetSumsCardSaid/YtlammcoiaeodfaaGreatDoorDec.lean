/- Decimal numerals of at most six digits: written and read back. No program's text. -/
import Derived.WalkKit
import Derived.Lib.ItoaNum
import Derived.Lib.ItoaMem
import Derived.Lib.AtoiTie
import Derived.Lib.AtoiAllCases
namespace Go.Proofs.YtlammcoiaeodfaaGreatDoor
open Go.Lib

def numOk (n : Int) : Bool := decide (-999999 ≤ n) && decide (n ≤ 999999)
theorem numOk_t {n : Int} (h : numOk n = true) : -999999 ≤ n ∧ n ≤ 999999 := by simpa [numOk] using h
theorem numOk_mk {n : Int} (h1 : -999999 ≤ n) (h2 : n ≤ 999999) : numOk n = true := by simp [numOk, h1, h2]
/-- The number whose numeral a text is, if it has six digits at most. -/
def readI (l : List UInt8) : Option Int :=
  match atoi l with
  | some n => if numOk n && decide (itoa n = l) then some n else none
  | none => none

theorem decFrom_append : ∀ (a b : List UInt8) (acc : Nat), decFrom acc (a ++ b) = (decFrom acc a).bind fun m => decFrom m b
  | [], b, acc => rfl
  | c :: a, b, acc => by
    simp only [List.cons_append, decFrom]
    cases digitVal c with
    | none => rfl
    | some d => exact decFrom_append a b _
theorem digit_of (d : Nat) (h : d < 10) : digitVal (UInt8.ofNat (48 + d)) = some d := by
  have e : (UInt8.ofNat (48 + d)).toNat = 48 + d := by simp; omega
  unfold digitVal
  rw [e, if_pos (by omega)]
  simp
theorem decDigits_small {u : Nat} (h : u < 10) : decDigits u = [UInt8.ofNat (48 + u)] := by rw [decDigits, dif_pos h]
theorem decDigits_big {u : Nat} (h : ¬ u < 10) : decDigits u = decDigits (u / 10) ++ [UInt8.ofNat (48 + u % 10)] := by rw [decDigits, dif_neg h]
theorem decFrom_digits (u : Nat) : decFrom 0 (decDigits u) = some u := by
  induction u using Nat.strongRecOn with
  | ind u ih =>
    by_cases h : u < 10
    · rw [decDigits_small h]
      simp only [decFrom, digit_of u h]
      simp
    · rw [decDigits_big h, decFrom_append, ih (u / 10) (by omega)]
      simp only [Option.bind_some, decFrom, digit_of (u % 10) (by omega)]
      simp
      omega
theorem decDigits_ne (u : Nat) : decDigits u ≠ [] := by
  by_cases h : u < 10
  · rw [decDigits_small h]; simp
  · rw [decDigits_big h]; simp
theorem decDigits_len (k : Nat) : ∀ u, u < 10 ^ (k + 1) → (decDigits u).length ≤ k + 1 := by
  induction k with
  | zero =>
    intro u h
    rw [decDigits_small (by simpa using h)]
    simp
  | succ k ih =>
    intro u h
    by_cases c : u < 10
    · rw [decDigits_small c]; simp
    · rw [decDigits_big c, List.length_append]
      have := ih (u / 10) (by rw [Nat.pow_succ] at h; omega)
      simp
      omega
theorem decDigits_six {u : Nat} (h : u ≤ 999999) : (decDigits u).length ≤ 6 := decDigits_len 5 u (by omega)
theorem decDigits_pos (u : Nat) : 1 ≤ (decDigits u).length := by
  rcases h : decDigits u with _ | ⟨a, t⟩
  · exact absurd h (decDigits_ne u)
  · simp
theorem decDigits_head {u : Nat} {b : UInt8} {r : List UInt8} (h : decDigits u = b :: r) : b ≠ 45 ∧ b ≠ 43 := by
  have hf := decFrom_digits u
  rw [h] at hf
  obtain ⟨d, hd⟩ := digit_of_decFrom _ _ _ hf 0 b rfl
  have := digitVal_eq hd
  constructor
  · rintro rfl
    simp at this
  · rintro rfl
    simp at this
theorem decNat_digits (u : Nat) : decNat (decDigits u) = some u := by
  unfold decNat
  rw [if_neg (by simpa using decDigits_ne u), decFrom_digits]
theorem itoa_neg' {n : Int} (h : n < 0) : itoa n = 45 :: decDigits n.natAbs := by unfold itoa; rw [if_pos h]
theorem itoa_pos' {n : Int} (h : 0 ≤ n) : itoa n = decDigits n.natAbs := by
  unfold itoa
  rw [if_neg (by omega)]
  congr 1
  omega
theorem atoi_cons (b : UInt8) (r : List UInt8) : atoi (b :: r) = if b == 45 then (decNat r).map fun (m : Nat) => -(m : Int) else if b == 43 then (decNat r).map fun (m : Nat) => (m : Int) else (decNat (b :: r)).map fun (m : Nat) => (m : Int) := rfl
theorem atoi_itoa (n : Int) : atoi (itoa n) = some n := by
  by_cases h : n < 0
  · rw [itoa_neg' h, atoi_cons, if_pos (by decide), decNat_digits]
    simp
    omega
  · rw [itoa_pos' (by omega)]
    rcases e : decDigits n.natAbs with _ | ⟨b, r⟩
    · exact absurd e (decDigits_ne _)
    · have hb := decDigits_head e
      rw [atoi_cons, if_neg (by simpa using hb.1), if_neg (by simpa using hb.2), ← e, decNat_digits]
      simp
      omega
theorem itoa_inj {a b : Int} (h : itoa a = itoa b) : a = b := by
  have := atoi_itoa a
  rw [h, atoi_itoa] at this
  exact (Option.some.inj this).symm
theorem readI_some {l : List UInt8} {n : Int} (h : readI l = some n) : numOk n = true ∧ itoa n = l := by
  unfold readI at h
  split at h
  · rename_i m _
    split at h
    · rename_i k
      injection h with h
      subst h
      simpa using k
    · cases h
  · cases h
theorem readI_itoa {n : Int} (h : numOk n = true) : readI (itoa n) = some n := by
  unfold readI
  rw [atoi_itoa]
  simp [h]
theorem readI_mk {l : List UInt8} {n : Int} (h : numOk n = true) (e : itoa n = l) : readI l = some n := e ▸ readI_itoa h
theorem readI_none {l : List UInt8} (h : ∀ n, numOk n = true → itoa n ≠ l) : readI l = none := by
  cases e : readI l with
  | none => rfl
  | some n => exact absurd (readI_some e).2 (h n (readI_some e).1)
theorem itoa_len {n : Int} (h : numOk n = true) : 1 ≤ (itoa n).length ∧ (itoa n).length ≤ 7 := by
  have := numOk_t h
  by_cases c : n < 0
  · rw [itoa_neg' c]
    have := decDigits_six (u := n.natAbs) (by omega)
    simp
    omega
  · rw [itoa_pos' (by omega)]
    have := decDigits_six (u := n.natAbs) (by omega)
    have := decDigits_pos n.natAbs
    omega
/-- What the library's reader makes of the numeral of a small number. -/
theorem atoiAll_itoa {n : Int} (h : numOk n = true) : atoiAll (itoa n) = .ok n := by
  rw [atoiAll_short _ (by have := itoa_len h; omega), atoi_itoa]
  rfl
/-- A text without its sign. -/
def bodyOf (l : List UInt8) : List UInt8 := if 1 < l.length ∧ l.head? = some 45 then l.drop 1 else l
theorem body_of_itoa (n : Int) : bodyOf (itoa n) = decDigits n.natAbs := by
  by_cases c : n < 0
  · rw [itoa_neg' c]
    unfold bodyOf
    rw [if_pos ⟨by have := decDigits_pos n.natAbs; simp; omega, rfl⟩]
    rfl
  · rw [itoa_pos' (by omega)]
    unfold bodyOf
    rw [if_neg]
    rintro ⟨_, h⟩
    rcases e : decDigits n.natAbs with _ | ⟨b, r⟩
    · exact decDigits_ne _ e
    · rw [e] at h
      simp at h
      exact (decDigits_head e).1 h
theorem read_body {l : List UInt8} {n : Int} (h : readI l = some n) : 1 ≤ (bodyOf l).length ∧ (bodyOf l).length ≤ 6 ∧ decFrom 0 (bodyOf l) = some n.natAbs := by
  obtain ⟨h1, rfl⟩ := readI_some h
  rw [body_of_itoa]
  have := numOk_t h1
  exact ⟨decDigits_pos _, decDigits_six (by omega), decFrom_digits _⟩
theorem read_short {l : List UInt8} (h : ¬ (1 ≤ (bodyOf l).length ∧ (bodyOf l).length ≤ 6)) : readI l = none := by
  cases e : readI l with
  | none => rfl
  | some n => exact absurd ⟨(read_body e).1, (read_body e).2.1⟩ h
theorem read_bad {l : List UInt8} {k : Nat} {b : UInt8} (hb : (bodyOf l)[k]? = some b) (h : digitVal b = none) : readI l = none := by
  cases e : readI l with
  | none => rfl
  | some n =>
    obtain ⟨d, hd⟩ := digit_of_decFrom _ _ _ (read_body e).2.2 k b hb
    rw [h] at hd
    cases hd
/-- The end of the reference's reader: the digits' number, the sign put to it, written again. -/
theorem read_end {l : List UInt8} {m : Nat} (h1 : (bodyOf l).length ≤ 6) (h2 : decFrom 0 (bodyOf l) = some m) (v : Int) (hv : v = if (bodyOf l).length < l.length then -(m : Int) else m) :
    readI l = if itoa v = l then some v else none := by
  have hm := decFrom_lt _ _ _ h2
  have hm' : m < 1000000 := by
    have : 10 ^ (bodyOf l).length ≤ 10 ^ 6 := Nat.pow_le_pow_right (by omega) h1
    omega
  have hn : numOk v = true := by
    refine numOk_mk ?_ ?_ <;> (rw [hv]; split <;> omega)
  by_cases c : itoa v = l
  · rw [if_pos c]
    exact readI_mk hn c
  · rw [if_neg c]
    refine readI_none fun n h3 h4 => c ?_
    subst h4
    rw [body_of_itoa] at h2 hv
    rw [decFrom_digits] at h2
    injection h2 with h2
    rw [← h2] at hv
    have : v = n := by
      by_cases k : n < 0
      · rw [itoa_neg' k, List.length_cons, if_pos (by omega)] at hv
        omega
      · rw [itoa_pos' (by omega), if_neg (by omega)] at hv
        omega
    rw [this]
theorem decFrom_le (l : List UInt8) (h : l.length ≤ 6) {m : Nat} (e : decFrom 0 l = some m) : m ≤ 999999 := by
  have hm := decFrom_lt _ _ _ e
  have : 10 ^ l.length ≤ 10 ^ 6 := Nat.pow_le_pow_right (by omega) h
  omega
end Go.Proofs.YtlammcoiaeodfaaGreatDoor
