/-
  Chapter 03: what the bit operations of a number's form reckon.
-/
import Derived.Laws.BitsAllLaws
import Derived.Laws.Bits64
import Derived.Test.YtnknefchpepegaaPackPlain
namespace Go.Proofs.Ytnknefchpepegaa
set_option linter.unusedVariables false
set_option linter.unusedSimpArgs false
theorem not_xor64 (a : Nat) (h : a < 18446744073709551616) : 18446744073709551615 - a = a ^^^ 18446744073709551615 := by
  have h1 := BitVec.toNat_not (x := BitVec.ofNat 64 a)
  have h2 : ~~~(BitVec.ofNat 64 a) = BitVec.ofNat 64 a ^^^ BitVec.allOnes 64 := by rw [BitVec.xor_allOnes]
  rw [h2, BitVec.toNat_xor, BitVec.toNat_allOnes, BitVec.toNat_ofNat, Nat.mod_eq_of_lt (by omega)] at h1
  exact h1.symm
/-- The sign goes into the lowest place. -/
theorem zig_bits (x : Int) (h1 : -9223372036854775808 ≤ x) (h2 : x ≤ 9223372036854775807) :
    bits .xor .u64 (IntKind.u64.wrap (IntKind.u64.wrap x * 2)) (IntKind.u64.wrap (x / 9223372036854775808)) = ((zig x : Nat) : Int) := by
  rw [IntKind.wrap_u64, IntKind.wrap_u64, IntKind.wrap_u64]
  unfold zig
  by_cases h : 0 ≤ x
  · rw [if_pos h, show x % 18446744073709551616 * 2 % 18446744073709551616 = (((2 * x).toNat : Nat) : Int) by omega, show x / 9223372036854775808 % 18446744073709551616 = ((0 : Nat) : Int) by omega,
      u64_xor_nat _ _ (by omega) (by omega), Nat.xor_zero]
  · rw [if_neg h, show x % 18446744073709551616 * 2 % 18446744073709551616 = (((18446744073709551616 + 2 * x).toNat : Nat) : Int) by omega, show x / 9223372036854775808 % 18446744073709551616 = ((18446744073709551615 : Nat) : Int) by omega,
      u64_xor_nat _ _ (by omega) (by omega), ← not_xor64 _ (by omega)]
    omega
/-- A byte with more behind it. -/
theorem more_bits (v : Nat) : bits .or .u8 (IntKind.u8.wrap (v : Int)) 128 = ((v % 128 + 128 : Nat) : Int) := by
  rw [IntKind.wrap_u8', show (v : Int) % 256 = ((v % 256 : Nat) : Int) by omega, show (128 : Int) = ((128 : Nat) : Int) from rfl, u8_or_nat _ _ (by omega) (by omega)]
  have := Nat.two_pow_add_eq_or_of_lt (i := 7) (b := v % 128) (by omega) 1
  have e : v % 256 ||| 128 = v % 128 + 128 := by
    rcases (by omega : v % 256 = v % 128 ∨ v % 256 = 2 ^ 7 * 1 + v % 128) with h | h
    · rw [h, Nat.or_comm]; simp at this; omega
    · rw [h, this, Nat.or_comm (2 ^ 7 * 1), Nat.or_assoc, show (2 ^ 7 * 1 ||| 128) = 128 from rfl, Nat.or_comm]; simp at this; omega
  rw [e]
/-- The sign goes back. -/
theorem zag_even (k : Nat) (h : k < 9223372036854775808) : (k : Int) = zag (2 * k) := by unfold zag; rw [if_pos (by omega)]; omega
end Go.Proofs.Ytnknefchpepegaa
