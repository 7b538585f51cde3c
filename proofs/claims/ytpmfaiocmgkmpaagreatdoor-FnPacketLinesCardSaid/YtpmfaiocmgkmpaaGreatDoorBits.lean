/- Plain laws of bits on numbers that are not below 0: and, or, shifts as remainders, sums, quotients. No program. -/
import Derived.WalkKit
namespace Go.Proofs.YtpmfaiocmgkmpaaGreatDoor
open Go.RowKit

theorem ofInt_i64 (a : Nat) (ha : a < 9223372036854775808) : (BitVec.ofInt 64 (a : Int)).toNat = a := by
  rw [BitVec.ofInt_natCast, BitVec.toNat_ofNat]; exact Nat.mod_eq_of_lt (by omega)
theorem i64_and_nat (a b : Nat) (ha : a < 9223372036854775808) (hb : b < 9223372036854775808) : bits .and .i64 (a : Int) (b : Int) = ((a &&& b : Nat) : Int) := by
  have hx : a &&& b < 2 ^ 63 := Nat.and_lt_two_pow _ (by omega)
  show IntKind.i64.wrap ((BitVec.ofInt 64 (a : Int) &&& BitVec.ofInt 64 (b : Int)).toNat : Int) = _
  rw [BitVec.toNat_and, ofInt_i64 a ha, ofInt_i64 b hb, IntKind.wrap_i64]
  omega
theorem i64_or_nat (a b : Nat) (ha : a < 9223372036854775808) (hb : b < 9223372036854775808) : bits .or .i64 (a : Int) (b : Int) = ((a ||| b : Nat) : Int) := by
  have hx : a ||| b < 2 ^ 63 := Nat.or_lt_two_pow (by omega) (by omega)
  show IntKind.i64.wrap ((BitVec.ofInt 64 (a : Int) ||| BitVec.ofInt 64 (b : Int)).toNat : Int) = _
  rw [BitVec.toNat_or, ofInt_i64 a ha, ofInt_i64 b hb, IntKind.wrap_i64]
  omega
theorem and255 (x : Int) (h1 : 0 ≤ x) (h2 : x ≤ 1000000) : bits .and .i64 x 255 = x % 256 := by
  obtain ⟨n, rfl⟩ := Int.eq_ofNat_of_zero_le h1
  have h := i64_and_nat n 255 (by omega) (by omega)
  have e : n &&& 255 = n % 256 := Nat.and_two_pow_sub_one_eq_mod n 8
  rw [e] at h
  rw [show (255 : Int) = ((255 : Nat) : Int) from rfl, h]
  omega
theorem and15 (x : Int) (h1 : 0 ≤ x) (h2 : x ≤ 1000000) : bits .and .i64 x 15 = x % 16 := by
  obtain ⟨n, rfl⟩ := Int.eq_ofNat_of_zero_le h1
  have h := i64_and_nat n 15 (by omega) (by omega)
  have e : n &&& 15 = n % 16 := Nat.and_two_pow_sub_one_eq_mod n 4
  rw [e] at h
  rw [show (15 : Int) = ((15 : Nat) : Int) from rfl, h]
  omega
theorem or256 (a b : Int) (h1 : 0 ≤ a) (h2 : a ≤ 1000000) (h3 : 0 ≤ b) (h4 : b < 256) : bits .or .i64 (a * 256) b = a * 256 + b := by
  obtain ⟨n, rfl⟩ := Int.eq_ofNat_of_zero_le h1
  obtain ⟨m, rfl⟩ := Int.eq_ofNat_of_zero_le h3
  have h := i64_or_nat (n * 256) m (by omega) (by omega)
  have e : n * 256 ||| m = n * 256 + m := by
    have := Nat.shiftLeft_add_eq_or_of_lt (i := 8) (b := m) (by omega) n
    rw [Nat.shiftLeft_eq, show 2 ^ 8 = 256 from rfl] at this
    omega
  rw [e] at h
  rw [show (n : Int) * 256 = ((n * 256 : Nat) : Int) from by omega, h]
  omega
theorem swap_bits (x : Int) (h1 : 0 ≤ x) (h2 : x ≤ 65535) : bits .or .i64 (wrap64 (bits .and .i64 x 255 * 256)) (x / 256) = x % 256 * 256 + x / 256 := by
  rw [and255 x h1 (by omega), IntWalk.wrap64_in _ ⟨by omega, by omega⟩]
  exact or256 _ _ (by omega) (by omega) (by omega) (by omega)
end Go.Proofs.YtpmfaiocmgkmpaaGreatDoor
