/-
  What the form's reach says of a slice of bytes that came in.
-/
import Derived.Test.YtiococglmjjagaaDoorFrame
import Derived.SizedLaws
namespace Go.Proofs.YtiococglmjjagaaDoor
set_option linter.unusedVariables false
set_option linter.unusedSimpArgs false
open Go.ChangeShapes Go.WideShapes Go.ChangeAt Go.RowKit
section
variable {H : Type} {enc : TypeId × Value → H} {P : Program} {W : World}
theorem bytes_weight {t e : TypeId} {v : Value} {d : DataW H} {p : List MemPlace} (ht : P.underlying t = some (.slice e)) (he : P.underlying e = some (.int .u8)) (hc : P.cellsOf e = 1)
    (h : DataW.Trod enc P W 0 (fun _ => true) true t v d p) : ∀ A n c, v = .slice A n c → n = 0 ∨ ∃ el sp, d = .slice el sp ∧ n ≤ el.length := by
  rintro A n c rfl
  obtain ⟨fuel, hf⟩ := h
  rcases open_ints ht he hc hf with ⟨hcs, _⟩ | ⟨x, l, c', zs, hcs, _, hl, hm, hz, hx, _, _⟩
  · simp [Value.cells] at hcs
    obtain ⟨rfl, rfl, rfl⟩ := hcs
    exact Or.inl rfl
  · simp [Value.cells] at hcs
    obtain ⟨rfl, rfl, rfl⟩ := hcs
    injection hx with hd _
    subst hd
    refine Or.inr ⟨_, _, rfl, ?_⟩
    simp only [if_true] at hz
    simp [lits]; omega
theorem bytes_reach {ts : List TypeId} {ds : List (DataW H)} (hw : (DataW.weightsEach P ts ds).all (· ≤ reachBytes) = true) {j : Nat} {t e : TypeId} {v : Value} {d : DataW H} {p : List MemPlace} (hj : ts[j]? = some t) (hd : ds[j]? = some d)
    (ht : P.underlying t = some (.slice e)) (he : P.underlying e = some (.int .u8)) (hc : P.cellsOf e = 1) (h1 : P.bytesOf e = 1)
    (h : DataW.Trod enc P W 0 (fun _ => true) true t v d p) : ∀ A n c, v = .slice A n c → n ≤ 140737488351232 := by
  intro A n c hv
  rcases bytes_weight ht he hc h A n c hv with h0 | ⟨el, sp, rfl, hn⟩
  · omega
  · have := sized_slice hw hj hd ht
    rw [h1, Nat.mul_one] at this
    have hr : reachBytes = 140737488351232 := rfl
    omega
end
end Go.Proofs.YtiococglmjjagaaDoor
