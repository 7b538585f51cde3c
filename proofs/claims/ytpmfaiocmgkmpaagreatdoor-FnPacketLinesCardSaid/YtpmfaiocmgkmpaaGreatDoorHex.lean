/- Octets as digits and back: plain laws. No program's text. -/
import Derived.WalkKit
namespace Go.Proofs.YtpmfaiocmgkmpaaGreatDoor

/-- The sixteen digits. -/
def H16 : List UInt8 := [48, 49, 50, 51, 52, 53, 54, 55, 56, 57, 65, 66, 67, 68, 69, 70]
def hx (n : Nat) : UInt8 := H16.getD n 0
/-- The value of a digit, or -1. -/
def digI (b : UInt8) : Int := if 48 ≤ b.toNat ∧ b.toNat ≤ 57 then (b.toNat : Int) - 48 else if 65 ≤ b.toNat ∧ b.toNat ≤ 70 then (b.toNat : Int) - 55 else -1
theorem digI_rng (b : UInt8) : -1 ≤ digI b ∧ digI b ≤ 15 := by unfold digI; split <;> (try split) <;> omega
theorem digI_hx (n : Nat) (h : n < 16) : digI (hx n) = n := by
  have : ∀ m : Fin 16, digI (hx m.val) = (m.val : Int) := by decide
  exact this ⟨n, h⟩
theorem hx_digI (b : UInt8) (h : 0 ≤ digI b) : hx (digI b).toNat = b := by
  have : ∀ m : Fin 256, 0 ≤ digI (UInt8.ofNat m.val) → hx (digI (UInt8.ofNat m.val)).toNat = UInt8.ofNat m.val := by decide +kernel
  have h2 := this ⟨b.toNat, b.toNat_lt⟩
  simp only [UInt8.ofNat_toNat] at h2
  exact h2 h
theorem digI_at (b : UInt8) (k : Nat) (hk : k < 16) : hx k = b ↔ digI b = k := by
  constructor
  · rintro rfl
    exact digI_hx k hk
  · intro h
    have := hx_digI b (by omega)
    rw [h] at this
    simpa using this
/-- Two digits of an octet. -/
def hexO (x : Int) : List UInt8 := [hx (x / 16).toNat, hx (x % 16).toNat]
def hexL (zs : List Int) : List UInt8 := zs.flatMap hexO
theorem hexL_cons (x : Int) (zs : List Int) : hexL (x :: zs) = hx (x / 16).toNat :: hx (x % 16).toNat :: hexL zs := rfl
theorem hexL_append (a b : List Int) : hexL (a ++ b) = hexL a ++ hexL b := by simp [hexL]
theorem hexL_length : ∀ zs : List Int, (hexL zs).length = 2 * zs.length
  | [] => rfl
  | x :: zs => by rw [hexL_cons]; simp only [List.length_cons]; rw [hexL_length zs]; omega
def IsO (zs : List Int) : Prop := ∀ z ∈ zs, 0 ≤ z ∧ z ≤ 255
/-- The octets of a text of digits, two each. -/
def unhex : List UInt8 → Option (List Int)
  | [] => some []
  | [_] => none
  | a :: b :: t => if digI a < 0 ∨ digI b < 0 then none else match unhex t with | some zs => some ((16 * digI a + digI b) :: zs) | none => none
theorem unhex_hexL : ∀ zs : List Int, IsO zs → unhex (hexL zs) = some zs
  | [], _ => rfl
  | x :: zs, h => by
    have hx0 := h x (by simp)
    have e1 := digI_hx (x / 16).toNat (by omega)
    have e2 := digI_hx (x % 16).toNat (by omega)
    rw [hexL_cons, unhex, e1, e2, if_neg (by omega), unhex_hexL zs (fun z hz => h z (by simp [hz]))]
    simp only [Option.some.injEq, List.cons.injEq, and_true]
    omega
theorem hexL_unhex : ∀ (n : Nat) (s : List UInt8) (zs : List Int), s.length ≤ n → unhex s = some zs → IsO zs ∧ hexL zs = s ∧ s.length = 2 * zs.length
  | _, [], zs, _, h => by
    simp only [unhex, Option.some.injEq] at h
    subst h
    exact ⟨fun z hz => by simp at hz, rfl, rfl⟩
  | _, [a], zs, _, h => by simp [unhex] at h
  | 0, a :: b :: t, zs, hn, h => by simp at hn
  | n + 1, a :: b :: t, zs, hn, h => by
    rw [unhex] at h
    split at h
    · cases h
    · next hd =>
      split at h
      · next ys hy =>
        simp only [Option.some.injEq] at h
        subst h
        obtain ⟨h1, h2, h3⟩ := hexL_unhex n t ys (by simp only [List.length_cons] at hn; omega) hy
        have ra := digI_rng a
        have rb := digI_rng b
        have ea := hx_digI a (by omega)
        have eb := hx_digI b (by omega)
        refine ⟨fun z hz => ?_, ?_, by simp only [List.length_cons]; omega⟩
        · rcases List.mem_cons.1 hz with rfl | hz
          · omega
          · exact h1 z hz
        · rw [hexL_cons, h2, show (16 * digI a + digI b) / 16 = digI a from by omega, show (16 * digI a + digI b) % 16 = digI b from by omega, ea, eb]
      · cases h
theorem hexL_inj {a b : List Int} (ha : IsO a) (hb : IsO b) (h : hexL a = hexL b) : a = b := by
  have h1 := unhex_hexL a ha
  rw [h, unhex_hexL b hb] at h1
  exact (Option.some.inj h1).symm
/-- Digit by digit from the front. -/
theorem unhex_bad : ∀ (k : Nat) (s : List UInt8), 2 * k + 1 < s.length → digI (s.getD (2 * k) 0) < 0 ∨ digI (s.getD (2 * k + 1) 0) < 0 → unhex s = none
  | _, [], h, _ => by simp at h
  | _, [a], h, _ => by simp at h
  | 0, a :: b :: t, _, h => by rw [unhex, if_pos (by simpa using h)]
  | k + 1, a :: b :: t, hk, h => by
    have ih := unhex_bad k t (by simp only [List.length_cons] at hk; omega) (by
      rw [show 2 * (k + 1) = 2 * k + 1 + 1 from by omega] at h
      simpa using h)
    rw [unhex, ih]
    split <;> rfl
theorem unhex_odd : ∀ (n : Nat) (s : List UInt8), s.length ≤ n → s.length % 2 = 1 → unhex s = none
  | _, [], _, h => by simp at h
  | _, [a], _, _ => rfl
  | 0, a :: b :: t, hn, _ => by simp at hn
  | n + 1, a :: b :: t, hn, h => by
    rw [unhex, unhex_odd n t (by simp only [List.length_cons] at hn; omega) (by simp only [List.length_cons] at h; omega)]
    split <;> rfl
/-- The octet at place k. -/
def octAt (s : List UInt8) (k : Nat) : Int := 16 * digI (s.getD (2 * k) 0) + digI (s.getD (2 * k + 1) 0)
theorem unhex_all : ∀ (n : Nat) (s : List UInt8), s.length = 2 * n → (∀ k, k < n → ¬ (digI (s.getD (2 * k) 0) < 0 ∨ digI (s.getD (2 * k + 1) 0) < 0)) → unhex s = some ((List.range n).map (octAt s))
  | 0, s, h, _ => by
    obtain rfl := List.length_eq_zero_iff.1 h
    rfl
  | n + 1, [], h, _ => by simp at h
  | n + 1, [a], h, _ => by simp at h; omega
  | n + 1, a :: b :: t, h, hk => by
    have h0 := hk 0 (by omega)
    have ih := unhex_all n t (by simp only [List.length_cons] at h; omega) (fun k hkn => by
      have := hk (k + 1) (by omega)
      rw [show 2 * (k + 1) = 2 * k + 1 + 1 from by omega] at this
      simpa using this)
    rw [unhex, if_neg (by simpa using h0), ih]
    simp only [Option.some.injEq]
    rw [List.range_succ_eq_map, List.map_cons, List.map_map]
    rfl
end Go.Proofs.YtpmfaiocmgkmpaaGreatDoor
