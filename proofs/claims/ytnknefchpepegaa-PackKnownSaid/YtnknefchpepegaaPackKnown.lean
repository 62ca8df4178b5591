/-
  PackKnown: numbers about their ends. The walk.
-/
import Derived.Test.YtnknefchpepegaaPackOpen
import Derived.Deep.RegionHeld3
import Derived.BigQuiet
namespace Go.Proofs.Ytnknefchpepegaa
set_option linter.unusedVariables false
set_option linter.unusedSimpArgs false
open Go.RowKit
def vintF : Nat → Nat → List UInt8
  | 0, _ => []
  | k + 1, v => if v ≤ 127 then [UInt8.ofNat v] else UInt8.ofNat (v % 128 + 128) :: vintF k (v / 128)
theorem vintF_eq : ∀ (k v : Nat), v < 128 ^ k → 0 < k → vint v = vintF k v := by
  intro k
  induction k with
  | zero => intro v _ h; omega
  | succ k ih =>
    intro v hv _
    by_cases hs : v ≤ 127
    · rw [vint_small hs, vintF, if_pos hs]
    · rw [vint_big (by omega), vintF, if_neg hs]
      have hk : 0 < k := by
        rcases Nat.eq_zero_or_pos k with rfl | h
        · simp at hv; omega
        · exact h
      rw [ih (v / 128) (by rw [Nat.pow_succ] at hv; omega) hk]
theorem vint10 (v : Nat) (h : v < 18446744073709551616) : vint v = vintF 10 v := vintF_eq 10 v (Nat.lt_of_lt_of_le h (by decide)) (by omega)
theorem vint_ne (v : Nat) : vint v ≠ [] := fun h => by have := vint_length_pos v; rw [h] at this; simp at this
/-- A number's form without its last byte is short. -/
theorem rd_cut : ∀ (v i u : Nat), v ≤ top i → (i = 0 ∨ 0 < v) → rd (vint v).dropLast i u = .inl 4 := by
  intro v
  induction v using Nat.strongRecOn with
  | ind v ih =>
    intro i u ht hz
    by_cases hs : v ≤ 127
    · rw [vint_small hs]; simp [rd]
    · have hb : 127 < v := by omega
      rw [vint_big hb, List.dropLast_cons_of_ne_nil (vint_ne _), rd, if_neg, if_neg (by rw [toNat_of (by omega)]; omega), ih (v / 128) (by omega) (i + 1) _ (by rw [top_succ]; omega) (.inr (by omega))]
      rw [toNat_of (by omega)]
      rintro (⟨rfl, h⟩ | ⟨h, h'⟩)
      · have : top 9 = 1 := by decide
        omega
      · omega
def numsL : List Int := [0, -1, 63, 64, -64, -65, 8191, 8192, 4611686018427387903, 4611686018427387904, 9223372036854775807, -9223372036854775808]
def lensL : List Int := [1, 1, 1, 2, 1, 2, 2, 3, 9, 10, 10, 10]
theorem nums_bd (z : Int) (h : z ∈ numsL) : -9223372036854775808 ≤ z ∧ z ≤ 9223372036854775807 := by
  simp [numsL] at h
  omega
theorem lens_of : ∀ i, i < 12 → lensL.getD i 0 = ((vintF 10 (zig (numsL.getD i 0))).length : Int) := by decide +kernel
def badL : Nat → List UInt8
  | 0 => [128, 0]
  | 1 => [255, 255, 255, 255, 255, 255, 255, 255, 255, 2]
  | 2 => [255, 255, 255, 255, 255, 255, 255, 255, 255, 255]
  | _ => [128, 128, 0]
theorem bad_of : ∀ i, i < 4 → rd (badL i) 0 0 = .inl 5 := by decide +kernel
theorem full_of : vint (zig (-9223372036854775808)) = [255, 255, 255, 255, 255, 255, 255, 255, 255, 1] := by
  rw [vint10 _ (by decide)]; decide +kernel
theorem blb_45 : rdBytes (blb ([4, 5] : List UInt8)) [4, 5] 0 = ([], [4, 5], 4) := by rfl
theorem getD_at (l : List Int) (a : Nat) (h : a < l.length) : l.getD a 0 = l[a] := by simp [h]
theorem RdOf.own_ne2 {W : World} {g B : Nat} {bs : List UInt8} {er : Int} (h : RdOf W g B bs er) {base size n : Nat} {v : Value} {xs : List Value} (ho : W.ownsRow base 5 size v n xs) : ∀ i, v.ownBlock = some i → ¬ (i = g) := by
  obtain ⟨A, m, c, h⟩ := h
  rintro i hi rfl
  exact own_blk_ne ho h.blk (by decide) hi
theorem bad_len (i : Nat) : (badL i).length ≤ 10 := by unfold badL; split <;> simp
theorem bad_world (wo : World) : Below wo.heap.size wo ((((((wo.alloc (.cells #[.int .u8 255, .int .u8 255, .int .u8 255, .int .u8 255, .int .u8 255, .int .u8 255, .int .u8 255, .int .u8 255, .int .u8 255, .int .u8 1] 5)).alloc (.cells #[.int .u8 128, .int .u8 0] 5)).alloc (.cells #[.int .u8 255, .int .u8 255, .int .u8 255, .int .u8 255, .int .u8 255, .int .u8 255, .int .u8 255, .int .u8 255, .int .u8 255, .int .u8 2] 5)).alloc (.cells #[.int .u8 255, .int .u8 255, .int .u8 255, .int .u8 255, .int .u8 255, .int .u8 255, .int .u8 255, .int .u8 255, .int .u8 255, .int .u8 255] 5)).alloc (.cells #[.int .u8 128, .int .u8 128, .int .u8 0] 5)).alloc (.cells #[.slice (some ⟨wo.heap.size + 1, 0, none⟩) 2 2, .slice (some ⟨wo.heap.size + 1 + 1, 0, none⟩) 10 10, .slice (some ⟨wo.heap.size + 1 + 1 + 1, 0, none⟩) 10 10, .slice (some ⟨wo.heap.size + 1 + 1 + 1 + 1, 0, none⟩) 3 3] 24)) ∧ Reads ((((((wo.alloc (.cells #[.int .u8 255, .int .u8 255, .int .u8 255, .int .u8 255, .int .u8 255, .int .u8 255, .int .u8 255, .int .u8 255, .int .u8 255, .int .u8 1] 5)).alloc (.cells #[.int .u8 128, .int .u8 0] 5)).alloc (.cells #[.int .u8 255, .int .u8 255, .int .u8 255, .int .u8 255, .int .u8 255, .int .u8 255, .int .u8 255, .int .u8 255, .int .u8 255, .int .u8 2] 5)).alloc (.cells #[.int .u8 255, .int .u8 255, .int .u8 255, .int .u8 255, .int .u8 255, .int .u8 255, .int .u8 255, .int .u8 255, .int .u8 255, .int .u8 255] 5)).alloc (.cells #[.int .u8 128, .int .u8 128, .int .u8 0] 5)).alloc (.cells #[.slice (some ⟨wo.heap.size + 1, 0, none⟩) 2 2, .slice (some ⟨wo.heap.size + 1 + 1, 0, none⟩) 10 10, .slice (some ⟨wo.heap.size + 1 + 1 + 1, 0, none⟩) 10 10, .slice (some ⟨wo.heap.size + 1 + 1 + 1 + 1, 0, none⟩) 3 3] 24)) ((((((wo.alloc (.cells #[.int .u8 255, .int .u8 255, .int .u8 255, .int .u8 255, .int .u8 255, .int .u8 255, .int .u8 255, .int .u8 255, .int .u8 255, .int .u8 1] 5)).alloc (.cells #[.int .u8 128, .int .u8 0] 5)).alloc (.cells #[.int .u8 255, .int .u8 255, .int .u8 255, .int .u8 255, .int .u8 255, .int .u8 255, .int .u8 255, .int .u8 255, .int .u8 255, .int .u8 2] 5)).alloc (.cells #[.int .u8 255, .int .u8 255, .int .u8 255, .int .u8 255, .int .u8 255, .int .u8 255, .int .u8 255, .int .u8 255, .int .u8 255, .int .u8 255] 5)).alloc (.cells #[.int .u8 128, .int .u8 128, .int .u8 0] 5)).alloc (.cells #[.slice (some ⟨wo.heap.size + 1, 0, none⟩) 2 2, .slice (some ⟨wo.heap.size + 1 + 1, 0, none⟩) 10 10, .slice (some ⟨wo.heap.size + 1 + 1 + 1, 0, none⟩) 10 10, .slice (some ⟨wo.heap.size + 1 + 1 + 1 + 1, 0, none⟩) 3 3] 24)).heap.size 1 (some ⟨wo.heap.size, 0, none⟩) 10 (([255, 255, 255, 255, 255, 255, 255, 255, 255, 1] : List UInt8).map bval) ∧
    ∀ i, i < 4 → ∃ A n, wo.heap.size + 1 + 1 + 1 + 1 + 1 < ((((((wo.alloc (.cells #[.int .u8 255, .int .u8 255, .int .u8 255, .int .u8 255, .int .u8 255, .int .u8 255, .int .u8 255, .int .u8 255, .int .u8 255, .int .u8 1] 5)).alloc (.cells #[.int .u8 128, .int .u8 0] 5)).alloc (.cells #[.int .u8 255, .int .u8 255, .int .u8 255, .int .u8 255, .int .u8 255, .int .u8 255, .int .u8 255, .int .u8 255, .int .u8 255, .int .u8 2] 5)).alloc (.cells #[.int .u8 255, .int .u8 255, .int .u8 255, .int .u8 255, .int .u8 255, .int .u8 255, .int .u8 255, .int .u8 255, .int .u8 255, .int .u8 255] 5)).alloc (.cells #[.int .u8 128, .int .u8 128, .int .u8 0] 5)).alloc (.cells #[.slice (some ⟨wo.heap.size + 1, 0, none⟩) 2 2, .slice (some ⟨wo.heap.size + 1 + 1, 0, none⟩) 10 10, .slice (some ⟨wo.heap.size + 1 + 1 + 1, 0, none⟩) 10 10, .slice (some ⟨wo.heap.size + 1 + 1 + 1 + 1, 0, none⟩) 3 3] 24)).heap.size ∧ ((((((wo.alloc (.cells #[.int .u8 255, .int .u8 255, .int .u8 255, .int .u8 255, .int .u8 255, .int .u8 255, .int .u8 255, .int .u8 255, .int .u8 255, .int .u8 1] 5)).alloc (.cells #[.int .u8 128, .int .u8 0] 5)).alloc (.cells #[.int .u8 255, .int .u8 255, .int .u8 255, .int .u8 255, .int .u8 255, .int .u8 255, .int .u8 255, .int .u8 255, .int .u8 255, .int .u8 2] 5)).alloc (.cells #[.int .u8 255, .int .u8 255, .int .u8 255, .int .u8 255, .int .u8 255, .int .u8 255, .int .u8 255, .int .u8 255, .int .u8 255, .int .u8 255] 5)).alloc (.cells #[.int .u8 128, .int .u8 128, .int .u8 0] 5)).alloc (.cells #[.slice (some ⟨wo.heap.size + 1, 0, none⟩) 2 2, .slice (some ⟨wo.heap.size + 1 + 1, 0, none⟩) 10 10, .slice (some ⟨wo.heap.size + 1 + 1 + 1, 0, none⟩) 10 10, .slice (some ⟨wo.heap.size + 1 + 1 + 1 + 1, 0, none⟩) 3 3] 24)).cell? ⟨wo.heap.size + 1 + 1 + 1 + 1 + 1, i, none⟩ = some (.slice A n n) ∧ n = (badL i).length ∧ Reads ((((((wo.alloc (.cells #[.int .u8 255, .int .u8 255, .int .u8 255, .int .u8 255, .int .u8 255, .int .u8 255, .int .u8 255, .int .u8 255, .int .u8 255, .int .u8 1] 5)).alloc (.cells #[.int .u8 128, .int .u8 0] 5)).alloc (.cells #[.int .u8 255, .int .u8 255, .int .u8 255, .int .u8 255, .int .u8 255, .int .u8 255, .int .u8 255, .int .u8 255, .int .u8 255, .int .u8 2] 5)).alloc (.cells #[.int .u8 255, .int .u8 255, .int .u8 255, .int .u8 255, .int .u8 255, .int .u8 255, .int .u8 255, .int .u8 255, .int .u8 255, .int .u8 255] 5)).alloc (.cells #[.int .u8 128, .int .u8 128, .int .u8 0] 5)).alloc (.cells #[.slice (some ⟨wo.heap.size + 1, 0, none⟩) 2 2, .slice (some ⟨wo.heap.size + 1 + 1, 0, none⟩) 10 10, .slice (some ⟨wo.heap.size + 1 + 1 + 1, 0, none⟩) 10 10, .slice (some ⟨wo.heap.size + 1 + 1 + 1 + 1, 0, none⟩) 3 3] 24)) ((((((wo.alloc (.cells #[.int .u8 255, .int .u8 255, .int .u8 255, .int .u8 255, .int .u8 255, .int .u8 255, .int .u8 255, .int .u8 255, .int .u8 255, .int .u8 1] 5)).alloc (.cells #[.int .u8 128, .int .u8 0] 5)).alloc (.cells #[.int .u8 255, .int .u8 255, .int .u8 255, .int .u8 255, .int .u8 255, .int .u8 255, .int .u8 255, .int .u8 255, .int .u8 255, .int .u8 2] 5)).alloc (.cells #[.int .u8 255, .int .u8 255, .int .u8 255, .int .u8 255, .int .u8 255, .int .u8 255, .int .u8 255, .int .u8 255, .int .u8 255, .int .u8 255] 5)).alloc (.cells #[.int .u8 128, .int .u8 128, .int .u8 0] 5)).alloc (.cells #[.slice (some ⟨wo.heap.size + 1, 0, none⟩) 2 2, .slice (some ⟨wo.heap.size + 1 + 1, 0, none⟩) 10 10, .slice (some ⟨wo.heap.size + 1 + 1 + 1, 0, none⟩) 10 10, .slice (some ⟨wo.heap.size + 1 + 1 + 1 + 1, 0, none⟩) 3 3] 24)).heap.size 1 A n ((badL i).map bval) := by
  have h0 := Reads.new wo #[.int .u8 255, .int .u8 255, .int .u8 255, .int .u8 255, .int .u8 255, .int .u8 255, .int .u8 255, .int .u8 255, .int .u8 255, .int .u8 1] 5 (0, 0)
  have hb0 := (Below.refl wo.heap.size wo).alloc (Nat.le_refl _) (.cells #[.int .u8 255, .int .u8 255, .int .u8 255, .int .u8 255, .int .u8 255, .int .u8 255, .int .u8 255, .int .u8 255, .int .u8 255, .int .u8 1] 5)
  have z0 : (wo.alloc (.cells #[.int .u8 255, .int .u8 255, .int .u8 255, .int .u8 255, .int .u8 255, .int .u8 255, .int .u8 255, .int .u8 255, .int .u8 255, .int .u8 1] 5)).heap.size = wo.heap.size + 1 := by simp
  generalize wo.alloc (.cells #[.int .u8 255, .int .u8 255, .int .u8 255, .int .u8 255, .int .u8 255, .int .u8 255, .int .u8 255, .int .u8 255, .int .u8 255, .int .u8 1] 5) = x0 at *
  have h1 := Reads.new x0 #[.int .u8 128, .int .u8 0] 5 (0, 0)
  have hb1 := hb0.alloc (by omega) (.cells #[.int .u8 128, .int .u8 0] 5)
  have z1 : (x0.alloc (.cells #[.int .u8 128, .int .u8 0] 5)).heap.size = wo.heap.size + 1 + 1 := by simp [z0]
  rw [z0] at h1
  have h0 := h0.alloc (by omega) (.cells #[.int .u8 128, .int .u8 0] 5)
  generalize x0.alloc (.cells #[.int .u8 128, .int .u8 0] 5) = x1 at *
  have h2 := Reads.new x1 #[.int .u8 255, .int .u8 255, .int .u8 255, .int .u8 255, .int .u8 255, .int .u8 255, .int .u8 255, .int .u8 255, .int .u8 255, .int .u8 2] 5 (0, 0)
  have hb2 := hb1.alloc (by omega) (.cells #[.int .u8 255, .int .u8 255, .int .u8 255, .int .u8 255, .int .u8 255, .int .u8 255, .int .u8 255, .int .u8 255, .int .u8 255, .int .u8 2] 5)
  have z2 : (x1.alloc (.cells #[.int .u8 255, .int .u8 255, .int .u8 255, .int .u8 255, .int .u8 255, .int .u8 255, .int .u8 255, .int .u8 255, .int .u8 255, .int .u8 2] 5)).heap.size = wo.heap.size + 1 + 1 + 1 := by simp [z1]
  rw [z1] at h2
  have h0 := h0.alloc (by omega) (.cells #[.int .u8 255, .int .u8 255, .int .u8 255, .int .u8 255, .int .u8 255, .int .u8 255, .int .u8 255, .int .u8 255, .int .u8 255, .int .u8 2] 5)
  have h1 := h1.alloc (by omega) (.cells #[.int .u8 255, .int .u8 255, .int .u8 255, .int .u8 255, .int .u8 255, .int .u8 255, .int .u8 255, .int .u8 255, .int .u8 255, .int .u8 2] 5)
  generalize x1.alloc (.cells #[.int .u8 255, .int .u8 255, .int .u8 255, .int .u8 255, .int .u8 255, .int .u8 255, .int .u8 255, .int .u8 255, .int .u8 255, .int .u8 2] 5) = x2 at *
  have h3 := Reads.new x2 #[.int .u8 255, .int .u8 255, .int .u8 255, .int .u8 255, .int .u8 255, .int .u8 255, .int .u8 255, .int .u8 255, .int .u8 255, .int .u8 255] 5 (0, 0)
  have hb3 := hb2.alloc (by omega) (.cells #[.int .u8 255, .int .u8 255, .int .u8 255, .int .u8 255, .int .u8 255, .int .u8 255, .int .u8 255, .int .u8 255, .int .u8 255, .int .u8 255] 5)
  have z3 : (x2.alloc (.cells #[.int .u8 255, .int .u8 255, .int .u8 255, .int .u8 255, .int .u8 255, .int .u8 255, .int .u8 255, .int .u8 255, .int .u8 255, .int .u8 255] 5)).heap.size = wo.heap.size + 1 + 1 + 1 + 1 := by simp [z2]
  rw [z2] at h3
  have h0 := h0.alloc (by omega) (.cells #[.int .u8 255, .int .u8 255, .int .u8 255, .int .u8 255, .int .u8 255, .int .u8 255, .int .u8 255, .int .u8 255, .int .u8 255, .int .u8 255] 5)
  have h1 := h1.alloc (by omega) (.cells #[.int .u8 255, .int .u8 255, .int .u8 255, .int .u8 255, .int .u8 255, .int .u8 255, .int .u8 255, .int .u8 255, .int .u8 255, .int .u8 255] 5)
  have h2 := h2.alloc (by omega) (.cells #[.int .u8 255, .int .u8 255, .int .u8 255, .int .u8 255, .int .u8 255, .int .u8 255, .int .u8 255, .int .u8 255, .int .u8 255, .int .u8 255] 5)
  generalize x2.alloc (.cells #[.int .u8 255, .int .u8 255, .int .u8 255, .int .u8 255, .int .u8 255, .int .u8 255, .int .u8 255, .int .u8 255, .int .u8 255, .int .u8 255] 5) = x3 at *
  have h4 := Reads.new x3 #[.int .u8 128, .int .u8 128, .int .u8 0] 5 (0, 0)
  have hb4 := hb3.alloc (by omega) (.cells #[.int .u8 128, .int .u8 128, .int .u8 0] 5)
  have z4 : (x3.alloc (.cells #[.int .u8 128, .int .u8 128, .int .u8 0] 5)).heap.size = wo.heap.size + 1 + 1 + 1 + 1 + 1 := by simp [z3]
  rw [z3] at h4
  have h0 := h0.alloc (by omega) (.cells #[.int .u8 128, .int .u8 128, .int .u8 0] 5)
  have h1 := h1.alloc (by omega) (.cells #[.int .u8 128, .int .u8 128, .int .u8 0] 5)
  have h2 := h2.alloc (by omega) (.cells #[.int .u8 128, .int .u8 128, .int .u8 0] 5)
  have h3 := h3.alloc (by omega) (.cells #[.int .u8 128, .int .u8 128, .int .u8 0] 5)
  generalize x3.alloc (.cells #[.int .u8 128, .int .u8 128, .int .u8 0] 5) = x4 at *
  have hc : ∀ j, (x4.alloc (.cells #[.slice (some ⟨wo.heap.size + 1, 0, none⟩) 2 2, .slice (some ⟨wo.heap.size + 1 + 1, 0, none⟩) 10 10, .slice (some ⟨wo.heap.size + 1 + 1 + 1, 0, none⟩) 10 10, .slice (some ⟨wo.heap.size + 1 + 1 + 1 + 1, 0, none⟩) 3 3] 24)).cell? ⟨wo.heap.size + 1 + 1 + 1 + 1 + 1, j, none⟩ = (#[.slice (some ⟨wo.heap.size + 1, 0, none⟩) 2 2, .slice (some ⟨wo.heap.size + 1 + 1, 0, none⟩) 10 10, .slice (some ⟨wo.heap.size + 1 + 1 + 1, 0, none⟩) 10 10, .slice (some ⟨wo.heap.size + 1 + 1 + 1 + 1, 0, none⟩) 3 3] : Array Value)[j]? := fun j => cell_at _ _ _ _ _ j (by rw [z4])
  have hs : (x4.alloc (.cells #[.slice (some ⟨wo.heap.size + 1, 0, none⟩) 2 2, .slice (some ⟨wo.heap.size + 1 + 1, 0, none⟩) 10 10, .slice (some ⟨wo.heap.size + 1 + 1 + 1, 0, none⟩) 10 10, .slice (some ⟨wo.heap.size + 1 + 1 + 1 + 1, 0, none⟩) 3 3] 24)).heap.size = wo.heap.size + 1 + 1 + 1 + 1 + 1 + 1 := by simp [z4]
  have hb5 := hb4.alloc (by omega) (.cells #[.slice (some ⟨wo.heap.size + 1, 0, none⟩) 2 2, .slice (some ⟨wo.heap.size + 1 + 1, 0, none⟩) 10 10, .slice (some ⟨wo.heap.size + 1 + 1 + 1, 0, none⟩) 10 10, .slice (some ⟨wo.heap.size + 1 + 1 + 1 + 1, 0, none⟩) 3 3] 24)
  have h0 := (h0.alloc (by omega) (.cells #[.slice (some ⟨wo.heap.size + 1, 0, none⟩) 2 2, .slice (some ⟨wo.heap.size + 1 + 1, 0, none⟩) 10 10, .slice (some ⟨wo.heap.size + 1 + 1 + 1, 0, none⟩) 10 10, .slice (some ⟨wo.heap.size + 1 + 1 + 1 + 1, 0, none⟩) 3 3] 24)).more (B' := (x4.alloc (.cells #[.slice (some ⟨wo.heap.size + 1, 0, none⟩) 2 2, .slice (some ⟨wo.heap.size + 1 + 1, 0, none⟩) 10 10, .slice (some ⟨wo.heap.size + 1 + 1 + 1, 0, none⟩) 10 10, .slice (some ⟨wo.heap.size + 1 + 1 + 1 + 1, 0, none⟩) 3 3] 24)).heap.size) (by omega)
  have h1 := (h1.alloc (by omega) (.cells #[.slice (some ⟨wo.heap.size + 1, 0, none⟩) 2 2, .slice (some ⟨wo.heap.size + 1 + 1, 0, none⟩) 10 10, .slice (some ⟨wo.heap.size + 1 + 1 + 1, 0, none⟩) 10 10, .slice (some ⟨wo.heap.size + 1 + 1 + 1 + 1, 0, none⟩) 3 3] 24)).more (B' := (x4.alloc (.cells #[.slice (some ⟨wo.heap.size + 1, 0, none⟩) 2 2, .slice (some ⟨wo.heap.size + 1 + 1, 0, none⟩) 10 10, .slice (some ⟨wo.heap.size + 1 + 1 + 1, 0, none⟩) 10 10, .slice (some ⟨wo.heap.size + 1 + 1 + 1 + 1, 0, none⟩) 3 3] 24)).heap.size) (by omega)
  have h2 := (h2.alloc (by omega) (.cells #[.slice (some ⟨wo.heap.size + 1, 0, none⟩) 2 2, .slice (some ⟨wo.heap.size + 1 + 1, 0, none⟩) 10 10, .slice (some ⟨wo.heap.size + 1 + 1 + 1, 0, none⟩) 10 10, .slice (some ⟨wo.heap.size + 1 + 1 + 1 + 1, 0, none⟩) 3 3] 24)).more (B' := (x4.alloc (.cells #[.slice (some ⟨wo.heap.size + 1, 0, none⟩) 2 2, .slice (some ⟨wo.heap.size + 1 + 1, 0, none⟩) 10 10, .slice (some ⟨wo.heap.size + 1 + 1 + 1, 0, none⟩) 10 10, .slice (some ⟨wo.heap.size + 1 + 1 + 1 + 1, 0, none⟩) 3 3] 24)).heap.size) (by omega)
  have h3 := (h3.alloc (by omega) (.cells #[.slice (some ⟨wo.heap.size + 1, 0, none⟩) 2 2, .slice (some ⟨wo.heap.size + 1 + 1, 0, none⟩) 10 10, .slice (some ⟨wo.heap.size + 1 + 1 + 1, 0, none⟩) 10 10, .slice (some ⟨wo.heap.size + 1 + 1 + 1 + 1, 0, none⟩) 3 3] 24)).more (B' := (x4.alloc (.cells #[.slice (some ⟨wo.heap.size + 1, 0, none⟩) 2 2, .slice (some ⟨wo.heap.size + 1 + 1, 0, none⟩) 10 10, .slice (some ⟨wo.heap.size + 1 + 1 + 1, 0, none⟩) 10 10, .slice (some ⟨wo.heap.size + 1 + 1 + 1 + 1, 0, none⟩) 3 3] 24)).heap.size) (by omega)
  have h4 := (h4.alloc (by omega) (.cells #[.slice (some ⟨wo.heap.size + 1, 0, none⟩) 2 2, .slice (some ⟨wo.heap.size + 1 + 1, 0, none⟩) 10 10, .slice (some ⟨wo.heap.size + 1 + 1 + 1, 0, none⟩) 10 10, .slice (some ⟨wo.heap.size + 1 + 1 + 1 + 1, 0, none⟩) 3 3] 24)).more (B' := (x4.alloc (.cells #[.slice (some ⟨wo.heap.size + 1, 0, none⟩) 2 2, .slice (some ⟨wo.heap.size + 1 + 1, 0, none⟩) 10 10, .slice (some ⟨wo.heap.size + 1 + 1 + 1, 0, none⟩) 10 10, .slice (some ⟨wo.heap.size + 1 + 1 + 1 + 1, 0, none⟩) 3 3] 24)).heap.size) (by omega)
  generalize x4.alloc (.cells #[.slice (some ⟨wo.heap.size + 1, 0, none⟩) 2 2, .slice (some ⟨wo.heap.size + 1 + 1, 0, none⟩) 10 10, .slice (some ⟨wo.heap.size + 1 + 1 + 1, 0, none⟩) 10 10, .slice (some ⟨wo.heap.size + 1 + 1 + 1 + 1, 0, none⟩) 3 3] 24) = W at *
  refine ⟨hb5, h0, fun i hi => ?_⟩
  rcases (by omega : i = 0 ∨ i = 1 ∨ i = 2 ∨ i = 3) with rfl | rfl | rfl | rfl
  · exact ⟨_, _, by omega, hc 0, rfl, h1⟩
  · exact ⟨_, _, by omega, hc 1, rfl, h2⟩
  · exact ⟨_, _, by omega, hc 2, rfl, h3⟩
  · exact ⟨_, _, by omega, hc 3, rfl, h4⟩
set_option maxRecDepth 100000 in
set_option maxHeartbeats 8000000 in
theorem packKnown_any (w : World) : Calls Try.prog 5 #[] w fun e w' => e = .returned (.bool true) ∧ Below w.heap.size w w' := by
  have HN : Hid (Reads ((w.alloc (.cells #[.int .i64 0, .int .i64 (-1), .int .i64 63, .int .i64 64, .int .i64 (-64), .int .i64 (-65), .int .i64 8191, .int .i64 8192, .int .i64 4611686018427387903, .int .i64 4611686018427387904, .int .i64 9223372036854775807, .int .i64 (-9223372036854775808)] 3)).alloc (.cells #[.int .i64 1, .int .i64 1, .int .i64 1, .int .i64 2, .int .i64 1, .int .i64 2, .int .i64 2, .int .i64 3, .int .i64 9, .int .i64 10, .int .i64 10, .int .i64 10] 3)) (w.heap.size + 1) 1 (some ⟨w.heap.size, 0, none⟩) 12 (numsL.map ival)) := (Reads.new w _ 3 (0, 0)).alloc (by simp) _
  have HL : Hid (Reads ((w.alloc (.cells #[.int .i64 0, .int .i64 (-1), .int .i64 63, .int .i64 64, .int .i64 (-64), .int .i64 (-65), .int .i64 8191, .int .i64 8192, .int .i64 4611686018427387903, .int .i64 4611686018427387904, .int .i64 9223372036854775807, .int .i64 (-9223372036854775808)] 3)).alloc (.cells #[.int .i64 1, .int .i64 1, .int .i64 1, .int .i64 2, .int .i64 1, .int .i64 2, .int .i64 2, .int .i64 3, .int .i64 9, .int .i64 10, .int .i64 10, .int .i64 10] 3)) (w.heap.size + 2) 1 (some ⟨w.heap.size + 1, 0, none⟩) 12 (lensL.map ival)) := by
    have h := Reads.new (w.alloc (.cells #[.int .i64 0, .int .i64 (-1), .int .i64 63, .int .i64 64, .int .i64 (-64), .int .i64 (-65), .int .i64 8191, .int .i64 8192, .int .i64 4611686018427387903, .int .i64 4611686018427387904, .int .i64 9223372036854775807, .int .i64 (-9223372036854775808)] 3)) #[.int .i64 1, .int .i64 1, .int .i64 1, .int .i64 2, .int .i64 1, .int .i64 2, .int .i64 2, .int .i64 3, .int .i64 9, .int .i64 10, .int .i64 10, .int .i64 10] 3 (0, 0)
    have e : (w.alloc (.cells #[.int .i64 0, .int .i64 (-1), .int .i64 63, .int .i64 64, .int .i64 (-64), .int .i64 (-65), .int .i64 8191, .int .i64 8192, .int .i64 4611686018427387903, .int .i64 4611686018427387904, .int .i64 9223372036854775807, .int .i64 (-9223372036854775808)] 3)).heap.size = w.heap.size + 1 := by simp
    rw [e] at h
    exact h
  have HB : Hid (Below w.heap.size w ((w.alloc (.cells #[.int .i64 0, .int .i64 (-1), .int .i64 63, .int .i64 64, .int .i64 (-64), .int .i64 (-65), .int .i64 8191, .int .i64 8192, .int .i64 4611686018427387903, .int .i64 4611686018427387904, .int .i64 9223372036854775807, .int .i64 (-9223372036854775808)] 3)).alloc (.cells #[.int .i64 1, .int .i64 1, .int .i64 1, .int .i64 2, .int .i64 1, .int .i64 2, .int .i64 2, .int .i64 3, .int .i64 9, .int .i64 10, .int .i64 10, .int .i64 10] 3))) := ((Below.refl _ _).alloc (Nat.le_refl _) _).alloc (by simp) _
  have HS : Hid (((w.alloc (.cells #[.int .i64 0, .int .i64 (-1), .int .i64 63, .int .i64 64, .int .i64 (-64), .int .i64 (-65), .int .i64 8191, .int .i64 8192, .int .i64 4611686018427387903, .int .i64 4611686018427387904, .int .i64 9223372036854775807, .int .i64 (-9223372036854775808)] 3)).alloc (.cells #[.int .i64 1, .int .i64 1, .int .i64 1, .int .i64 2, .int .i64 1, .int .i64 2, .int .i64 2, .int .i64 3, .int .i64 9, .int .i64 10, .int .i64 10, .int .i64 10] 3)).heap.size = w.heap.size + 2) := by show _ = _; simp
  go_enter Try.func5, Try.ntmps5
  go_wp2_with fail
  generalize (w.alloc (.cells #[.int .i64 0, .int .i64 (-1), .int .i64 63, .int .i64 64, .int .i64 (-64), .int .i64 (-65), .int .i64 8191, .int .i64 8192, .int .i64 4611686018427387903, .int .i64 4611686018427387904, .int .i64 9223372036854775807, .int .i64 (-9223372036854775808)] 3)).alloc (.cells #[.int .i64 1, .int .i64 1, .int .i64 1, .int .i64 2, .int .i64 1, .int .i64 2, .int .i64 2, .int .i64 3, .int .i64 9, .int .i64 10, .int .i64 10, .int .i64 10] 3) = w1 at *
  go_loopw [3] (fun i wr => ∃ a : Nat, a ≤ 12 ∧ i = .int .i64 a ∧ Below w1.heap.size w1 wr) (fun i _ => 12 - (intOf i).toNat)
  case atStart => exact ⟨0, by omega, rfl, Below.refl _ _⟩
  case round =>
    obtain ⟨a, ha, rfl, hbel⟩ := hrel
    have HBE := Lib.hid hbel
    clear hbel
    by_cases hlt : a < 12
    · have hda : decide ((a : Int) < 12) = true := by simp; omega
      have ha12 : (a : Int) < 12 := by omega
      have HD : Hid (∀ W, Below w1.heap.size w1 W → W.cell? ⟨w.heap.size, a, none⟩ = some (.int .i64 (numsL.getD a 0)) ∧ W.cell? ⟨w.heap.size + 1, a, none⟩ = some (.int .i64 (lensL.getD a 0))) := by
        intro W hW
        have hs := HS.out
        obtain ⟨ad, e, _, hc⟩ := (HN.out.below (hW.mono (by omega))).int (k := a) (by show a < 12; omega)
        injection e with e
        subst e
        obtain ⟨ad, e, _, hc2⟩ := (HL.out.below (hW.mono (by omega))).int (k := a) (by show a < 12; omega)
        injection e with e
        subst e
        rw [add_zero_block] at hc hc2
        have e1 : numsL.getD a 0 = numsL[a] := getD_at _ _ _
        have e2 : lensL.getD a 0 = lensL[a] := getD_at _ _ _
        rw [e1, e2]
        exact ⟨hc, hc2⟩
      have hbd : -9223372036854775808 ≤ numsL.getD a 0 ∧ numsL.getD a 0 ≤ 9223372036854775807 := by
        have e1 : numsL.getD a 0 = numsL[a] := getD_at _ _ _
        rw [e1]
        exact nums_bd _ (List.getElem_mem _)
      have hle := lens_of a hlt
      rw [← vint10 _ (zig_lt _ hbd.1 hbd.2)] at hle
      rw [hle] at HD
      clear hle
      generalize numsL.getD a 0 = z at *
      have hzl := zig_lt z hbd.1 hbd.2
      have hvl := vint_le (zig z) hzl
      have hvp := vint_length_pos (zig z)
      have D1 := packInt_any none 0 0 0 [] z wr Reads.none_ (Nat.zero_le _) (by omega) hbd.1 hbd.2
      rw [Nat.zero_add, List.nil_append] at D1
      have D1 := Lib.hid D1
      have RI := rd_int z hbd.1 hbd.2 []
      rw [List.append_nil] at RI
      have RI := Lib.hid RI
      have RC := rd_cut (zig z) 0 0 (by show zig z ≤ 18446744073709551615; omega) (.inl rfl)
      have RC := Lib.hid RC
      have HZL : Hid (vint (zig z) = vint (zig z)) := rfl
      clear HZL
      generalize hV : vint (zig z) = V at *
      clear hV
      generalize hq : V.length = q at *
      have HQ := Lib.hid hq
      clear hq
      obtain ⟨x0, x1⟩ := HD.out wr HBE.out
      go_wp2_with fail
      go_must (refine D1.out.mono ?_)
      rintro e w3 ⟨v3, rfl, hown3, hb3⟩
      obtain ⟨A3, c3, rfl, hc3, hcm3, _⟩ := own_slice hown3
      unfold maxLen at hcm3
      have HO3 := Lib.hid hown3
      have HB3 : Hid (Below w1.heap.size w1 w3) := HBE.out.trans (hb3.mono HBE.out.size)
      have hsw := HBE.out.size
      have C3 := Lib.hid (from_any A3 q c3 w3.heap.size V w3 (Reads.of_own HO3.out) (Nat.le_refl _) (by omega))
      clear hown3 hb3 D1 x0 x1 HBE
      go_wp2_with fail
      go_must (refine C3.out.mono ?_)
      rintro e w4 ⟨g, rfl, hrd4, hg4, hb4⟩
      have HR4 := Lib.hid hrd4
      have HB4 : Hid (Below w1.heap.size w1 w4) := HB3.out.trans (hb4.mono HB3.out.size)
      have HO4 := Lib.hid (own_below HO3.out hb4)
      have hs3 := HB3.out.size
      clear hrd4 hb4 C3 HB3 HO3
      have D4 := readInt_any g g V 0 w4.drew (HR4.out.drewN 1)
      rw [RI.out] at D4
      have D4 := Lib.hid D4
      have hgl := HR4.out.lt
      have q4 : Below w1.heap.size w1 w4.drew := HB4.out.drew
      have HNE := Lib.hid (HR4.out.own_ne2 HO4.out)
      obtain ⟨y0, y1⟩ := HD.out w4 HB4.out
      have hzz : (z != z) = false := by simp
      have hqq : ((q : Int) != (q : Int)) = false := by simp
      go_wp2_with fail
      go_region_held3 (fun w' => w'.cell? ⟨w.heap.size, a, none⟩ = some (.int .i64 z) ∧ w'.cell? ⟨w.heap.size + 1, a, none⟩ = some (.int .i64 (q : Int))) (first | exact HD.out _ q4 | exact HD.out _ q5) ((first | (go_at_call 10; refine D4.out.mono ?_; rintro e w5 ⟨rfl, hr5, ho5⟩; have q5 : Below w1.heap.size w1 w5 := q4.trans (ho5.at_ (by omega) hgl)) | (go_at_call 13; refine (done_any g g [] 0 w5 hr5).mono ?_; rintro e w6 ⟨rfl, rfl⟩) | fail))
      all_goals
        have HB6 := Lib.hid q5
        have HO6 := Lib.hid (own_only (own_below HO4.out (Below.refl w4.heap.size w4).drew) ho5 HNE.out)
        have hs6 := q5.size
        clear hr5 ho5 q5 q4 D4 HR4 HB4 HO4 HNE y0 y1
        have hqi : (q : Int) - 1 = ((q - 1 : Nat) : Int) := by omega
        have hcut : ∀ W, (Instr.slice 24 (.slice A3 q c3) none (some (.int .i64 ((q : Int) - 1))) none).run Try.prog W = .ok (.slice A3 (q - 1) c3) W := fun W => by rw [hqi]; exact run_cut_h Try.el24 A3 q c3 (h := q - 1) (by omega) W
        have hrt := (Reads.of_own HO6.out).take (k := q - 1) (by omega)
        rw [Nat.mul_one, ← List.map_take, ← HQ.out, ← List.dropLast_eq_take, HQ.out] at hrt
        have C7 := Lib.hid (from_any A3 (q - 1) c3 w6.heap.size V.dropLast w6 hrt (Nat.le_refl _) (by omega))
        clear hrt hqi
        go_wp2_with fail
        go_must (refine C7.out.mono ?_)
        rintro e w7 ⟨g7, rfl, hrd7, hg7, hb7⟩
        have HR7 := Lib.hid hrd7
        have HB7 : Hid (Below w1.heap.size w1 w7) := HB6.out.trans (hb7.mono HB6.out.size)
        clear hrd7 hb7 C7 HB6 HO6 hcut
        have D7 := readInt_any g7 g7 V.dropLast 0 w7 HR7.out
        rw [RC.out, rdNum_inl] at D7
        have D7 := Lib.hid D7
        have hgl7 := HR7.out.lt
        go_wp2_with fail
        go_must (refine D7.out.mono ?_)
        rintro e w8 ⟨rfl, hr8, ho8⟩
        have HB8 : Hid (Below w1.heap.size w1 w8) := HB7.out.trans (ho8.at_ (by omega) hgl7)
        have D8 := done_any g7 g7 V.dropLast 4 w8 hr8
        rw [show doneE 4 V.dropLast.length = 4 from by unfold doneE; rw [if_neg (by decide)]] at D8
        have D8 := Lib.hid D8
        clear hr8 ho8 D7 HR7 HB7
        go_wp2_with fail
        go_must (refine D8.out.mono ?_)
        rintro e w9 ⟨rfl, rfl⟩
        clear D8
        go_wp2_with fail
        go_roundw
        case rel => exact ⟨a + 1, by omega, by go_num, HB8.out⟩
        case measure => simp [intOf]; omega
    · obtain rfl : a = 12 := by omega
      have hda : decide ((12 : Int) < 12) = false := by decide
      have hs := HBE.out.size
      have HWR : Hid (Below w.heap.size w wr) := HB.out.trans (HBE.out.mono HB.out.size)
      rw [show ((12 : Nat) : Int) = 12 from rfl]
      have HWD := Lib.hid (bad_world wr)
      clear HBE HN HL HB HS
      obtain ⟨wo, rfl⟩ : ∃ wo : World, wo = wr := ⟨_, rfl⟩
      go_wp2_with fail
      generalize (((((wo.alloc (.cells #[.int .u8 255, .int .u8 255, .int .u8 255, .int .u8 255, .int .u8 255, .int .u8 255, .int .u8 255, .int .u8 255, .int .u8 255, .int .u8 1] 5)).alloc (.cells #[.int .u8 128, .int .u8 0] 5)).alloc (.cells #[.int .u8 255, .int .u8 255, .int .u8 255, .int .u8 255, .int .u8 255, .int .u8 255, .int .u8 255, .int .u8 255, .int .u8 255, .int .u8 2] 5)).alloc (.cells #[.int .u8 255, .int .u8 255, .int .u8 255, .int .u8 255, .int .u8 255, .int .u8 255, .int .u8 255, .int .u8 255, .int .u8 255, .int .u8 255] 5)).alloc (.cells #[.int .u8 128, .int .u8 128, .int .u8 0] 5)).alloc (.cells #[.slice (some ⟨wo.heap.size + 1, 0, none⟩) 2 2, .slice (some ⟨wo.heap.size + 1 + 1, 0, none⟩) 10 10, .slice (some ⟨wo.heap.size + 1 + 1 + 1, 0, none⟩) 10 10, .slice (some ⟨wo.heap.size + 1 + 1 + 1 + 1, 0, none⟩) 3 3] 24) = W at *
      obtain ⟨hbw, hfull, hbad⟩ := HWD.out
      have HBW : Hid (Below w.heap.size w W) := HWR.out.trans (hbw.mono HWR.out.size)
      have HFU := Lib.hid hfull
      have HBA := Lib.hid hbad
      clear hbw hfull hbad HWD HWR hs
      generalize wo.heap.size = b0 at *
      go_loopw [9] (fun i wr => ∃ a : Nat, a ≤ 4 ∧ i = .int .i64 a ∧ Below W.heap.size W wr) (fun i _ => 4 - (intOf i).toNat)
      case atStart => exact ⟨0, by omega, rfl, Below.refl _ _⟩
      case round =>
        obtain ⟨j, hj, rfl, hbj⟩ := hrel
        have HBJ := Lib.hid hbj
        clear hbj
        by_cases hlj : j < 4
        · have hdj : decide ((j : Int) < 4) = true := by simp; omega
          have hj4 : (j : Int) < 4 := by omega
          obtain ⟨A, n, hblk, hc, hn, hrr⟩ := HBA.out j hlj
          have x0 := (HBJ.out.cell (p := ⟨b0 + 1 + 1 + 1 + 1 + 1, j, none⟩) hblk).trans hc
          have hsj := HBJ.out.size
          have hbd := bad_of j hlj
          have hnl : n ≤ 10 := by rw [hn]; exact bad_len j
          have D1 := Lib.hid (from_any A n n W.heap.size (badL j) wr (hrr.below HBJ.out) (by omega) (by omega))
          clear hc hrr hn
          go_wp2_with fail
          go_must (refine D1.out.mono ?_)
          rintro e w7 ⟨g7, rfl, hrd7, hg7, hb7⟩
          have HB7 : Hid (Below W.heap.size W w7) := HBJ.out.trans (hb7.mono HBJ.out.size)
          have D7 := readInt_any g7 g7 (badL j) 0 w7 hrd7
          rw [hbd, rdNum_inl] at D7
          have D7 := Lib.hid D7
          have hgl7 := hrd7.lt
          clear hrd7 hb7 D1 HBJ x0
          go_wp2_with fail
          go_must (refine D7.out.mono ?_)
          rintro e w8 ⟨rfl, hr8, ho8⟩
          have HB8 : Hid (Below W.heap.size W w8) := HB7.out.trans (ho8.at_ (by omega) hgl7)
          have D8 := done_any g7 g7 (badL j) 5 w8 hr8
          rw [show doneE 5 (badL j).length = 5 from by unfold doneE; rw [if_neg (by decide)]] at D8
          have D8 := Lib.hid D8
          clear hr8 ho8 D7 HB7
          go_wp2_with fail
          go_must (refine D8.out.mono ?_)
          rintro e w9 ⟨rfl, rfl⟩
          clear D8
          go_wp2_with fail
          go_roundw
          case rel => exact ⟨j + 1, by omega, by go_num, HB8.out⟩
          case measure => simp [intOf]; omega
        · obtain rfl : j = 4 := by omega
          have hdj : decide ((4 : Int) < 4) = false := by decide
          rw [show ((4 : Nat) : Int) = 4 from rfl]
          have hsj := HBJ.out.size
          have RL : Reads (wr.alloc (.cells #[.int .u8 4, .int .u8 5] 5)) (wr.heap.size + 1) 1 (some ⟨wr.heap.size, 0, none⟩) 2 (([4, 5] : List UInt8).map bval) := Reads.new wr #[.int .u8 4, .int .u8 5] _ _
          have C1 := Lib.hid (from_any (some ⟨wr.heap.size, 0, none⟩) 2 2 (wr.heap.size + 1) [4, 5] _ RL (by simp) (by omega))
          have HB1 : Hid (Below W.heap.size W (wr.alloc (.cells #[.int .u8 4, .int .u8 5] 5))) := HBJ.out.alloc hsj _
          clear RL HBJ HBA
          go_wp2_with fail
          generalize wr.alloc (.cells #[.int .u8 4, .int .u8 5] 5) = w2 at *
          go_must (refine C1.out.mono ?_)
          rintro e w3 ⟨g, rfl, hrd3, hg3, hb3⟩
          have HR3 := Lib.hid hrd3
          have HB3 : Hid (Below W.heap.size W w3) := HB1.out.trans (hb3.mono HB1.out.size)
          have hs3 := HB1.out.size
          clear C1 HB1 hrd3 hb3
          have C4 := packInt_any none 0 0 0 [] (-9223372036854775808) w3 Reads.none_ (Nat.zero_le _) (by omega) (by omega) (by omega)
          rw [full_of] at C4
          have C4 := Lib.hid C4
          go_wp2_with fail
          go_must (refine C4.out.mono ?_)
          rintro e w4 ⟨v4, rfl, hown4, hb4⟩
          obtain ⟨A4, c4, rfl, hc4, _, _⟩ := own_slice hown4
          have hown4 : w4.ownsRow w3.heap.size 5 1 (.slice A4 10 c4) 10 (([255, 255, 255, 255, 255, 255, 255, 255, 255, 1] : List UInt8).map bval) := hown4
          have HR4 : Hid (RdOf w4 g g [4, 5] 0) := HR3.out.keep hb4 HR3.out.lt
          have HB4 : Hid (Below W.heap.size W w4) := HB3.out.trans (hb4.mono HB3.out.size)
          have C5 := sameBytes_any A4 (some ⟨b0, 0, none⟩) 10 c4 10 10 _ _ _ _ w4 (Reads.of_own hown4) (HFU.out.below HB4.out) (by decide) (by decide)
          rw [show decide (([255, 255, 255, 255, 255, 255, 255, 255, 255, 1] : List UInt8) = [255, 255, 255, 255, 255, 255, 255, 255, 255, 1]) = true from by decide] at C5
          have C5 := Lib.hid C5
          clear C4 HR3 HB3 hown4 hb4
          go_wp2_with fail
          go_must (refine C5.out.mono ?_)
          rintro e w5 ⟨rfl, k5, rfl⟩
          have HR5 : Hid (RdOf (w4.drewN k5) g g [4, 5] 0) := HR4.out.drewN k5
          have HB5 : Hid (Below W.heap.size W (w4.drewN k5)) := below_drewN HB4.out k5
          clear C5 HR4 HB4
          generalize w4.drewN k5 = w5 at *
          have C6 := readBlob_any g g [4, 5] 0 w5 HR5.out
          rw [blb_45] at C6
          have C6 := Lib.hid C6
          have hgl5 := HR5.out.lt
          go_wp2_with fail
          go_must (refine C6.out.mono ?_)
          rintro e w6 ⟨v6, rfl, hown6, hr6, ho6⟩
          obtain ⟨A6, c6, rfl, _, _, _⟩ := own_slice hown6
          have HR6 : Hid (RdOf w6 g g [4, 5] 4) := hr6
          have HB6 : Hid (Below W.heap.size W w6) := HB5.out.trans (ho6.at_ (by omega) hgl5)
          clear C6 HR5 HB5 hown6 hr6 ho6
          have C7 := readInt_any g g [4, 5] 4 w6 HR6.out
          rw [rdNum_failed (by decide)] at C7
          have C7 := Lib.hid C7
          have hgl6 := HR6.out.lt
          go_wp2_with fail
          go_must (refine C7.out.mono ?_)
          rintro e w7 ⟨rfl, hr7, ho7⟩
          have HR7 : Hid (RdOf w7 g g [4, 5] 4) := hr7
          have HB7 : Hid (Below W.heap.size W w7) := HB6.out.trans (ho7.at_ (by omega) hgl6)
          clear C7 HR6 HB6 hr7 ho7
          have C8 := done_any g g [4, 5] 4 w7 HR7.out
          rw [show doneE 4 ([4, 5] : List UInt8).length = 4 from rfl] at C8
          have C8 := Lib.hid C8
          have KN := Lib.hid (known_any w7)
          go_wp2_with fail
          go_must (refine C8.out.mono ?_)
          rintro e w8 ⟨rfl, rfl⟩
          clear C8
          go_wp2_with fail
          go_must (refine KN.out.mono ?_)
          rintro e w9 ⟨rfl, hb9⟩
          have HB9 : Hid (Below w.heap.size w w9) := HBW.out.trans ((HB7.out.trans (hb9.mono HB7.out.size)).mono HBW.out.size)
          clear hb9 KN
          go_wp2_with fail
          go_ret
          exact ⟨rfl, HB9.out⟩
end Go.Proofs.Ytnknefchpepegaa
