/-
  Chapter 03: what the bit operations of a number's reading reckon.
-/
import Derived.Test.YtnknefchpepegaaPackBits
namespace Go.Proofs.Ytnknefchpepegaa
set_option linter.unusedVariables false
set_option linter.unusedSimpArgs false
open Go.RowKit
/-- One byte more. -/
theorem step_bits (u b i : Nat) (hu : u < 128 ^ i) (hb : b < 256) (hi : i ≤ 9) (h9 : i = 9 → b ≤ 1) :
    bits .or .u64 (u : Int) (IntKind.u64.wrap (IntKind.u64.wrap (bits .and .u8 (b : Int) 127) * 2 ^ (7 * i))) = ((u + b % 128 * 128 ^ i : Nat) : Int) ∧ u + b % 128 * 128 ^ i < 18446744073709551616 := by
  have hp : (2 : Nat) ^ (7 * i) = 128 ^ i := by rw [Nat.pow_mul]
  have hlt : u + b % 128 * 128 ^ i < 18446744073709551616 := by
    rcases (by omega : i = 9 ∨ i ≤ 8) with rfl | h8
    · have := h9 rfl
      have h128 : (128 : Nat) ^ 9 = 9223372036854775808 := by decide
      rw [h128] at *
      omega
    · have h1 : (b % 128 + 1) * 128 ^ i ≤ 128 * 128 ^ i := Nat.mul_le_mul_right _ (by omega)
      have h2 : (128 : Nat) ^ i ≤ 128 ^ 8 := Nat.pow_le_pow_right (by omega) h8
      have h3 : (128 : Nat) ^ 8 = 72057594037927936 := by decide
      rw [Nat.add_mul] at h1
      omega
  refine ⟨?_, hlt⟩
  rw [show (127 : Int) = ((127 : Nat) : Int) from rfl, u8_and_nat b 127 hb (by omega), nat_mask7, IntKind.wrap_u64, IntKind.wrap_u64,
    show ((b % 128 : Nat) : Int) % 18446744073709551616 = ((b % 128 : Nat) : Int) by omega,
    show ((b % 128 : Nat) : Int) * 2 ^ (7 * i) = ((b % 128 * 128 ^ i : Nat) : Int) by rw [← hp]; simp,
    show ((b % 128 * 128 ^ i : Nat) : Int) % 18446744073709551616 = ((b % 128 * 128 ^ i : Nat) : Int) by omega,
    u64_or_nat u _ (by omega) (by omega)]
  rw [Nat.or_comm, nat_join (7 * i) _ u (by rw [hp]; exact Nat.mul_mod_left _ _) (by rw [hp]; exact hu), Nat.add_comm]
theorem i64_xor_m1 (a : Nat) (ha : a < 9223372036854775808) : bits .xor .i64 (a : Int) (-1) = -1 - (a : Int) := by
  show IntKind.i64.wrap ((BitVec.ofInt 64 (a : Int) ^^^ BitVec.ofInt 64 (-1)).toNat : Int) = _
  have : BitVec.ofInt 64 (-1) = BitVec.allOnes 64 := by decide
  rw [this, BitVec.xor_allOnes, BitVec.toNat_not, ofInt_u64 a (by omega)]
  simp [IntKind.wrap, IntKind.bits, IntKind.signed]
  omega
theorem i64_xor_0 (a : Nat) (ha : a < 9223372036854775808) : bits .xor .i64 (a : Int) 0 = (a : Int) := by
  show IntKind.i64.wrap ((BitVec.ofInt 64 (a : Int) ^^^ BitVec.ofInt 64 0).toNat : Int) = _
  have : BitVec.ofInt 64 0 = 0#64 := by decide
  rw [this, BitVec.xor_zero, ofInt_u64 a (by omega)]
  simp [IntKind.wrap, IntKind.bits, IntKind.signed]
  omega
/-- The sign goes back. -/
theorem zag_bits (v : Nat) (hv : v < 18446744073709551616) :
    bits .xor .i64 (wrap64 ((v : Int) / 2)) (wrap64 (-wrap64 (bits .and .u64 (v : Int) 1))) = zag v := by
  rw [show (1 : Int) = ((1 : Nat) : Int) from rfl, u64_and_nat v 1 hv (by omega), nat_mask1]
  unfold zag wrap64
  rw [show ((v : Int) / 2 + 9223372036854775808) % 18446744073709551616 - 9223372036854775808 = ((v / 2 : Nat) : Int) by omega]
  by_cases h : v % 2 = 0
  · rw [if_pos h, h]
    exact i64_xor_0 _ (by omega)
  · rw [if_neg h, show v % 2 = 1 by omega, show (-((((1 : Nat) : Int) + 9223372036854775808) % 18446744073709551616 - 9223372036854775808) + 9223372036854775808) % 18446744073709551616 - 9223372036854775808 = -1 by decide, i64_xor_m1 _ (by omega)]
    omega
end Go.Proofs.Ytnknefchpepegaa
