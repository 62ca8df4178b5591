/-
  A slice of structs of ints that came in: every element's every field.
-/
import Derived.Test.YtnknefchpepegaaFrame
namespace Go.Proofs.Ytnknefchpepegaa
set_option linter.unusedVariables false
set_option linter.unusedSimpArgs false
open Go.ChangeShapes Go.WideShapes Go.Deep Go.RowKit
section
variable {H : Type} {enc : TypeId × Value → H} {P : Program} {w : World} {base : Nat} {spare : Nat → Bool} {held : Bool}
theorem open_slice_fields {t e : TypeId} {fs : Array Field} {fuel : Nat} {cs : List Value} {x : DataW H × List MemPlace} (ht : P.underlying t = some (.slice e)) (he : P.underlying e = some (.struct fs))
    (hone : oneCellFields P fs = true) (hC : P.cellsOf e = fs.size) (h : DataW.trod enc P w base spare held fuel t cs = some x) :
    (cs = [.slice none 0 0] ∧ x = (.nil, [])) ∨
    ∃ (a : Addr) (len cap m : Nat) (D : Nat → DataW H) (Pl : Nat → List MemPlace), cs = [.slice (some a) len cap] ∧ base ≤ a.block ∧ len ≤ cap ∧ cap ≤ maxLen ∧ m = (if spare a.block then cap else len) ∧
      x = (.slice ((List.range len).map D) ((List.range (m - len)).map fun j => D (len + j)), MemPlace.row a (m * fs.size) ++ (List.range m).flatMap Pl) ∧
      ∀ i, i < m → ∃ (ys : List (DataW H × List MemPlace)) (n : Nat), D i = .agg (ys.map (·.1)) ∧ Pl i = ys.flatMap (·.2) ∧ ys.length = fs.size ∧
        ∀ (j : Nat) (f : Field), fs[j]? = some f → ∃ (v : Value) (y : DataW H × List MemPlace), w.cell? (a.add (i * fs.size + j)) = some v ∧ ys[j]? = some y ∧ DataW.trod enc P w base spare held n f.type [v] = some y := by
  rcases open_slice ht h with h0 | ⟨a, len, cap, m, n, D, Pl, hcs, hb, hl, hm, hmm, hx, hi⟩
  · exact .inl h0
  · refine .inr ⟨a, len, cap, m, D, Pl, hcs, hb, hl, hm, hmm, by rw [hC] at hx; exact hx, fun i him => ?_⟩
    obtain ⟨cs', hc, ht'⟩ := hi i him
    rw [hC] at hc
    obtain ⟨ys, n', hn', hy, hlen, hyl, hf⟩ := DataW.trod_struct he ht'
    obtain ⟨_, hcl, hat⟩ := World.cells?_some hc
    simp only [Prod.mk.injEq] at hy
    refine ⟨ys, n', hy.1, hy.2, hyl, fun j f hj => ?_⟩
    obtain ⟨ho, hk⟩ := hone_of hone j f hj
    have hjl : j < fs.size := (Array.getElem?_eq_some_iff.1 hj).1
    have hcell := hat j hjl
    have hv : cs'[j]? = some (cs'[j]'(by omega)) := List.getElem?_eq_getElem (by omega)
    have h1 := hf j f hj
    rw [ho, hk] at h1
    have hone' : (cs'.drop j).take 1 = [cs'[j]'(by omega)] := by
      rw [List.drop_eq_getElem_cons (by omega)]
      rfl
    rw [hone'] at h1
    have hys : ys[j]? = some (ys[j]'(by omega)) := List.getElem?_eq_getElem (by omega)
    refine ⟨_, _, ?_, hys, h1.trans hys⟩
    rw [← Go.Deep.add_add, hcell, hv]

/-- The cells of a slice of structs of m ints. -/
def Tab (W : World) (B m : Nat) (A : Option Addr) (n : Nat) (Z : Nat → Nat → Int) : Prop :=
  ∀ i, i < n → ∃ ad, A = some ad ∧ ad.block < B ∧ ∀ j, j < m → W.cell? (ad.add (i * m + j)) = some (ival (Z i j)) ∧ -9223372036854775808 ≤ Z i j ∧ Z i j ≤ 9223372036854775807
theorem Tab.below {W W' : World} {B m : Nat} {A : Option Addr} {n : Nat} {Z : Nat → Nat → Int} (h : Tab W B m A n Z) (hb : Below B W W') : Tab W' B m A n Z := fun i hi => by
  obtain ⟨ad, hA, hB, hc⟩ := h i hi
  exact ⟨ad, hA, hB, fun j hj => ⟨(hb.cell (p := ad.add (i * m + j)) (by rw [block_of_add]; exact hB)).trans (hc j hj).1, (hc j hj).2⟩⟩
def cellInt : Option Value → Int
  | some (.int _ q) => q
  | _ => 0
def isI64 : Option TypeDesc → Bool
  | some (.int .i64) => true
  | _ => false
theorem isI64_of {o : Option TypeDesc} (h : isI64 o = true) : o = some (.int .i64) := by
  unfold isI64 at h
  split at h
  · rfl
  · cases h
theorem open_tab {W : World} {t e : TypeId} {fs : Array Field} {v : Value} {d : DataW H} {p : List MemPlace} {b0 m : Nat} (ht : P.underlying t = some (.slice e)) (he : P.underlying e = some (.struct fs)) (hm : fs.size = m) (h0 : 0 < m)
    (hone : oneCellFields P fs = true) (hC : P.cellsOf e = m) (hint : fs.toList.all (fun f => isI64 (P.underlying f.type)) = true)
    (hok : Value.okWide P W .any b0 t v) (h : DataW.Trod enc P W 0 (fun _ => true) true t v d p) :
    ∃ (A : Option Addr) (n c : Nat) (Z : Nat → Nat → Int), v = .slice A n c ∧ n ≤ c ∧ c ≤ maxLen ∧ Tab W W.heap.size m A n Z := by
  obtain ⟨a, n, c, rfl⟩ := okWide_slice ht hok
  obtain ⟨fuel, hf⟩ := h
  rcases open_slice_fields ht he hone (by rw [hm]; exact hC) hf with ⟨hcs, _⟩ | ⟨x, len, cap, mm, D, Pl, hcs, _, hl, hmx, hmm, _, hi⟩
  · simp [Value.cells] at hcs
    obtain ⟨rfl, rfl, rfl⟩ := hcs
    exact ⟨none, 0, 0, fun _ _ => 0, rfl, Nat.le_refl _, by simp [maxLen], fun i hi => absurd hi (by omega)⟩
  · simp [Value.cells] at hcs
    obtain ⟨rfl, rfl, rfl⟩ := hcs
    have hcell : ∀ i j, i < n → j < m → ∃ z : Int, W.cell? (x.add (i * m + j)) = some (ival z) ∧ -9223372036854775808 ≤ z ∧ z ≤ 9223372036854775807 := by
      intro i j hin hj
      obtain ⟨ys, k, _, _, _, hfj⟩ := hi i (by simp at hmm; omega)
      obtain ⟨v, y, hc, _, hy⟩ := hfj j fs[j] (Array.getElem?_eq_getElem (by omega))
      have hu : P.underlying fs[j].type = some (.int .i64) := by
        have := List.all_eq_true.1 hint fs[j] (by simp)
        exact isI64_of this
      obtain ⟨z, hcz, _, hwf⟩ := DataW.trod_int hu hy
      injection hcz with hcz
      subst hcz
      rw [hm] at hc
      exact ⟨z, hc, bounds_i64 hwf⟩
    refine ⟨some x, n, c, fun i j => cellInt (W.cell? (x.add (i * m + j))), rfl, hl, hmx, fun i hin => ⟨x, rfl, ?_, fun j hj => ?_⟩⟩
    · obtain ⟨z, hz, _⟩ := hcell i 0 hin h0
      have := World.block_lt_of_cell? W _ hz
      rw [block_of_add] at this
      exact this
    · obtain ⟨z, hz, hb⟩ := hcell i j hin hj
      simp only [hz]
      exact ⟨rfl, hb⟩
end
end Go.Proofs.Ytnknefchpepegaa
