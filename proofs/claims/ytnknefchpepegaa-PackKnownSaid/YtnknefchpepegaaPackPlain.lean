/-
  Chapter 03 in plain Lean: a number's form, and how it is read.
-/
import Derived.RowKit3
namespace Go.Proofs.Ytnknefchpepegaa
set_option linter.unusedVariables false
set_option linter.unusedSimpArgs false
/-- A number as a natural number: the sign in the lowest place. -/
def zig (n : Int) : Nat := if 0 ≤ n then (2 * n).toNat else (-2 * n - 1).toNat
def zag (u : Nat) : Int := if u % 2 = 0 then ((u / 2 : Nat) : Int) else -((u / 2 : Nat) : Int) - 1
theorem zag_zig (n : Int) : zag (zig n) = n := by
  unfold zig zag
  split <;> split <;> omega
theorem zig_zag (u : Nat) : zig (zag u) = u := by
  unfold zag zig
  split <;> split <;> omega
theorem zig_lt (n : Int) (h1 : -9223372036854775808 ≤ n) (h2 : n ≤ 9223372036854775807) : zig n < 18446744073709551616 := by
  unfold zig; split <;> omega
theorem zag_in (u : Nat) (h : u < 18446744073709551616) : -9223372036854775808 ≤ zag u ∧ zag u ≤ 9223372036854775807 := by
  unfold zag; split <;> omega
/-- The form of a natural number: seven bits a byte, the lowest first. -/
def vint (v : Nat) : List UInt8 := if v ≤ 127 then [UInt8.ofNat v] else UInt8.ofNat (v % 128 + 128) :: vint (v / 128)
termination_by v
decreasing_by omega
theorem vint_small {v : Nat} (h : v ≤ 127) : vint v = [UInt8.ofNat v] := by rw [vint, if_pos h]
theorem vint_big {v : Nat} (h : 127 < v) : vint v = UInt8.ofNat (v % 128 + 128) :: vint (v / 128) := by rw [vint, if_neg (by omega)]
/-- Reading: the bytes, the index of the first, what the earlier ones gave (g: the weight of the first). Errors: 4 short, 5 long. -/
def rd : List UInt8 → Nat → Nat → Nat ⊕ (Nat × List UInt8)
  | [], _, _ => .inl 4
  | c :: l, i, u =>
    if (i = 9 ∧ 1 < c.toNat) ∨ (c.toNat = 0 ∧ 0 < i) then .inl 5
    else if c.toNat < 128 then .inr (u + c.toNat * 128 ^ i, l)
    else rd l (i + 1) (u + (c.toNat - 128) * 128 ^ i)
theorem toNat_of {n : Nat} (h : n < 256) : (UInt8.ofNat n).toNat = n := by
  simp [UInt8.toNat_ofNat', Nat.mod_eq_of_lt h]
/-- How large a number may be whose first byte has index i. -/
def top (i : Nat) : Nat := (2 ^ 64 - 1) / 128 ^ i
theorem top_succ (i : Nat) : top (i + 1) = top i / 128 := by
  unfold top; generalize 2 ^ 64 - 1 = t; rw [Nat.pow_succ, Nat.div_div_eq_div_mul]
/-- What was laid is read, and the rest is left. -/
theorem rd_vint (l : List UInt8) : ∀ (v i u : Nat), v ≤ top i → (i = 0 ∨ 0 < v) → rd (vint v ++ l) i u = .inr (u + v * 128 ^ i, l) := by
  intro v
  induction v using Nat.strongRecOn with
  | ind v ih =>
    intro i u ht hz
    by_cases hs : v ≤ 127
    · rw [vint_small hs]
      have e : (UInt8.ofNat v).toNat = v := toNat_of (by omega)
      show rd (UInt8.ofNat v :: l) i u = _
      rw [rd, e, if_neg, if_pos (by omega)]
      rintro (⟨rfl, h⟩ | ⟨h, h'⟩)
      · have : top 9 = 1 := by decide
        omega
      · omega
    · have hb : 127 < v := by omega
      rw [vint_big hb]
      have e : (UInt8.ofNat (v % 128 + 128)).toNat = v % 128 + 128 := toNat_of (by omega)
      show rd (UInt8.ofNat (v % 128 + 128) :: (vint (v / 128) ++ l)) i u = _
      rw [rd, e, if_neg, if_neg (by omega), ih (v / 128) (by omega) (i + 1) _ (by rw [top_succ]; omega) (.inr (by omega))]
      · have : v = 128 * (v / 128) + v % 128 := by omega
        congr 2
        rw [Nat.pow_succ, show v % 128 + 128 - 128 = v % 128 by omega]
        conv => rhs; rw [this, Nat.add_mul]
        rw [show v / 128 * (128 ^ i * 128) = 128 * (v / 128) * 128 ^ i by ac_rfl]
        omega
      · rintro (⟨rfl, h⟩ | ⟨h, h'⟩)
        · have : top 9 = 1 := by decide
          omega
        · omega
/-- What is read has one form alone: the bytes taken are the form of the number read. -/
theorem vint_rd (l' : List UInt8) : ∀ (l : List UInt8) (i u w : Nat), i ≤ 9 → rd l i u = .inr (w, l') → ∃ v, w = u + v * 128 ^ i ∧ l = vint v ++ l' ∧ v ≤ top i ∧ (i = 0 ∨ 0 < v) := by
  intro l
  induction l with
  | nil => intro i u w _ h; simp [rd] at h
  | cons c l ih =>
    intro i u w hi h
    rw [rd] at h
    split at h
    · cases h
    · rename_i hbad
      have hc : c.toNat < 256 := c.toNat_lt
      split at h
      · rename_i hlt
        simp only [Sum.inr.injEq, Prod.mk.injEq] at h
        obtain ⟨rfl, rfl⟩ := h
        refine ⟨c.toNat, rfl, ?_, ?_, ?_⟩
        · rw [vint_small (by omega)]; simp
        · rcases (by omega : i = 0 ∨ i = 1 ∨ i = 2 ∨ i = 3 ∨ i = 4 ∨ i = 5 ∨ i = 6 ∨ i = 7 ∨ i = 8 ∨ i = 9) with rfl | rfl | rfl | rfl | rfl | rfl | rfl | rfl | rfl | rfl <;> simp [top] <;> omega
        · omega
      · rename_i hge
        have hi9 : i ≠ 9 := by omega
        obtain ⟨v, rfl, rfl, ht, hz⟩ := ih (i + 1) _ w (by omega) h
        have hv : 0 < v := by omega
        have hbig : 127 < 128 * v + (c.toNat - 128) := by omega
        refine ⟨128 * v + (c.toNat - 128), ?_, ?_, ?_, .inr (by omega)⟩
        · rw [Nat.pow_succ, Nat.add_mul, show v * (128 ^ i * 128) = 128 * v * 128 ^ i by ac_rfl]; omega
        · rw [vint_big hbig, show (128 * v + (c.toNat - 128)) % 128 + 128 = c.toNat by omega, show (128 * v + (c.toNat - 128)) / 128 = v by omega]
          simp
        · have : top i % 128 = 127 := by
            rcases (by omega : i = 0 ∨ i = 1 ∨ i = 2 ∨ i = 3 ∨ i = 4 ∨ i = 5 ∨ i = 6 ∨ i = 7 ∨ i = 8) with rfl | rfl | rfl | rfl | rfl | rfl | rfl | rfl | rfl <;> rfl
          rw [top_succ] at ht; omega
theorem vint_length_pos (v : Nat) : 0 < (vint v).length := by rw [vint]; split <;> simp
end Go.Proofs.Ytnknefchpepegaa
