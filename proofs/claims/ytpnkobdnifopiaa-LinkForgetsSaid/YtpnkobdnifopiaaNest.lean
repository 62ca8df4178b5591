/-
  Structs of ints, of structs of ints, and so on: every cell an int.
-/
import Derived.Test.YtpnkobdnifopiaaStructs
namespace Go.Proofs.Ytpnkobdnifopiaa
set_option linter.unusedVariables false
set_option linter.unusedSimpArgs false
open Go.ChangeShapes Go.WideShapes Go.Deep Go.RowKit
section
variable {H : Type} (enc : TypeId × Value → H) (P : Program) (w : World) (base : Nat) (spare : Nat → Bool) (held : Bool)
def AllInts (t : TypeId) : Prop := ∀ (fuel : Nat) (cs : List Value) (x : DataW H × List MemPlace), DataW.trod enc P w base spare held fuel t cs = some x → ∀ j, j < P.cellsOf t → ∃ z : Int, cs[j]? = some (ival z) ∧ -9223372036854775808 ≤ z ∧ z ≤ 9223372036854775807
variable {enc P w base spare held}
theorem allInts_int {t : TypeId} (hu : P.underlying t = some (.int .i64)) (hc : P.cellsOf t = 1) : AllInts enc P w base spare held t := fun fuel cs x h j hj => by
  obtain ⟨z, rfl, _, hwf⟩ := DataW.trod_int hu h
  obtain rfl : j = 0 := by omega
  exact ⟨z, rfl, bounds_i64 hwf⟩
theorem allInts_struct {t : TypeId} {fs : Array Field} (ht : P.underlying t = some (.struct fs)) (hf : ∀ (i : Nat) (f : Field), fs[i]? = some f → AllInts enc P w base spare held f.type)
    (cover : ∀ j, j < P.cellsOf t → ∃ (i : Nat) (f : Field), fs[i]? = some f ∧ f.offset ≤ j ∧ j < f.offset + P.cellsOf f.type) : AllInts enc P w base spare held t := fun fuel cs x h j hj => by
  obtain ⟨xs, n, _, _, hlen, hxl, hd⟩ := DataW.trod_struct ht h
  obtain ⟨i, f, hi, h1, h2⟩ := cover j hj
  have hil : i < fs.size := (Array.getElem?_eq_some_iff.1 hi).1
  have hx := hd i f hi
  rw [List.getElem?_eq_getElem (by omega : i < xs.length)] at hx
  obtain ⟨z, hz, hb⟩ := hf i f hi _ _ _ hx (j - f.offset) (by omega)
  rw [List.getElem?_take_of_lt (by omega), List.getElem?_drop, show f.offset + (j - f.offset) = j by omega] at hz
  exact ⟨z, hz, hb⟩
end
section
variable {H : Type} {enc : TypeId × Value → H} {P : Program} {W : World}
theorem cover_of {fs : Array Field} {t : TypeId} {n : Nat} (hc : P.cellsOf t = n) (h : (List.range n).all (fun j => (List.range fs.size).any fun i => match fs[i]? with | some f => decide (f.offset ≤ j) && decide (j < f.offset + P.cellsOf f.type) | none => false) = true) :
    ∀ j, j < P.cellsOf t → ∃ (i : Nat) (f : Field), fs[i]? = some f ∧ f.offset ≤ j ∧ j < f.offset + P.cellsOf f.type := fun j hj => by
  have h1 := List.all_eq_true.1 h j (by simp; omega)
  obtain ⟨i, _, hi⟩ := List.any_eq_true.1 h1
  split at hi
  · next f hf =>
    simp only [Bool.and_eq_true, decide_eq_true_eq] at hi
    exact ⟨i, f, hf, hi.1, hi.2⟩
  · cases hi
/-- A slice of such elements that came in, m cells each. -/
theorem open_rows {t e : TypeId} {v : Value} {d : DataW H} {p : List MemPlace} {b0 m : Nat} (ht : P.underlying t = some (.slice e)) (hC : P.cellsOf e = m) (h0 : 0 < m) (ha : AllInts enc P W 0 (fun _ => true) true e)
    (hok : Value.okWide P W .any b0 t v) (h : DataW.Trod enc P W 0 (fun _ => true) true t v d p) :
    ∃ (A : Option Addr) (n c : Nat) (Z : Nat → Nat → Int), v = .slice A n c ∧ n ≤ c ∧ c ≤ maxLen ∧ Tab W W.heap.size m A n Z := by
  obtain ⟨a, n, c, rfl⟩ := okWide_slice ht hok
  obtain ⟨fuel, hf⟩ := h
  rcases open_slice ht hf with ⟨hcs, _⟩ | ⟨x, len, cap, mm, k, D, Pl, hcs, _, hl, hmx, hmm, _, hi⟩
  · simp [Value.cells] at hcs
    obtain ⟨rfl, rfl, rfl⟩ := hcs
    exact ⟨none, 0, 0, fun _ _ => 0, rfl, Nat.le_refl _, by simp [maxLen], fun i hi => absurd hi (by omega)⟩
  · simp [Value.cells] at hcs
    obtain ⟨rfl, rfl, rfl⟩ := hcs
    have hcell : ∀ i j, i < n → j < m → ∃ z : Int, W.cell? (x.add (i * m + j)) = some (ival z) ∧ -9223372036854775808 ≤ z ∧ z ≤ 9223372036854775807 := by
      intro i j hin hj
      obtain ⟨cs, hc, ht'⟩ := hi i (by simp at hmm; omega)
      rw [hC] at hc
      obtain ⟨_, _, hat⟩ := World.cells?_some hc
      obtain ⟨z, hz, hb⟩ := ha _ _ _ ht' j (by omega)
      exact ⟨z, by rw [← Go.Deep.add_add, hat j hj, hz], hb⟩
    refine ⟨some x, n, c, fun i j => cellInt (W.cell? (x.add (i * m + j))), rfl, hl, hmx, fun i hin => ⟨x, rfl, ?_, fun j hj => ?_⟩⟩
    · obtain ⟨z, hz, _⟩ := hcell i 0 hin h0
      have := World.block_lt_of_cell? W _ hz
      rw [block_of_add] at this
      exact this
    · obtain ⟨z, hz, hb⟩ := hcell i j hin hj
      simp only [hz]
      exact ⟨rfl, hb⟩
/-- A slice of bools that came in. -/
theorem open_bools {t e : TypeId} {v : Value} {d : DataW H} {p : List MemPlace} {b0 : Nat} (ht : P.underlying t = some (.slice e)) (he : P.underlying e = some .bool) (hC : P.cellsOf e = 1)
    (hok : Value.okWide P W .any b0 t v) (h : DataW.Trod enc P W 0 (fun _ => true) true t v d p) :
    ∃ (A : Option Addr) (n c : Nat) (bs : List Bool), v = .slice A n c ∧ n ≤ c ∧ c ≤ maxLen ∧ Reads W W.heap.size 1 A n (bs.map (fun b => Value.bool b)) := by
  obtain ⟨a, n, c, rfl⟩ := okWide_slice ht hok
  obtain ⟨fuel, hf⟩ := h
  rcases open_slice ht hf with ⟨hcs, _⟩ | ⟨x, len, cap, mm, k, D, Pl, hcs, _, hl, hmx, hmm, _, hi⟩
  · simp [Value.cells] at hcs
    obtain ⟨rfl, rfl, rfl⟩ := hcs
    exact ⟨none, 0, 0, [], rfl, Nat.le_refl _, by simp [maxLen], Reads.none_⟩
  · simp [Value.cells] at hcs
    obtain ⟨rfl, rfl, rfl⟩ := hcs
    have hcell : ∀ i, i < n → ∃ b : Bool, W.cell? (x.add i) = some (.bool b) := by
      intro i hin
      obtain ⟨cs, hc, ht'⟩ := hi i (by simp at hmm; omega)
      rw [hC] at hc
      obtain ⟨_, _, hat⟩ := World.cells?_some hc
      obtain ⟨b, hz, _⟩ := DataW.trod_bool he ht'
      have h1 := hat 0 (by omega)
      rw [hz, Go.Deep.add_add, Nat.mul_one, Nat.add_zero] at h1
      exact ⟨b, h1⟩
    have hcell' : ∀ i, ∃ b : Bool, i < n → W.cell? (x.add i) = some (.bool b) := fun i => by
      by_cases h : i < n
      · obtain ⟨b, hb⟩ := hcell i h
        exact ⟨b, fun _ => hb⟩
      · exact ⟨false, fun h' => absurd h' h⟩
    obtain ⟨f, hf⟩ := Classical.axiomOfChoice hcell'
    refine ⟨some x, n, c, (List.range n).map f, rfl, hl, hmx, by simp, fun hn => ⟨x, rfl, ?_, fun j u hu => ?_⟩⟩
    · have := World.block_lt_of_cell? W _ (hf 0 hn)
      rw [block_of_add] at this
      exact this
    · have hj : j < n := by
        rcases Nat.lt_or_ge j n with h | h
        · exact h
        · rw [List.getElem?_eq_none (by simp; omega)] at hu; cases hu
      simp [hj] at hu
      rw [hf j hj, ← hu]
end
end Go.Proofs.Ytpnkobdnifopiaa
