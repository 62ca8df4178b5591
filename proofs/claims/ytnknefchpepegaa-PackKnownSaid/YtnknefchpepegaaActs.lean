/-
  A slice of acts that came in: each act's three numbers, and its bytes.
-/
import Derived.Test.YtnknefchpepegaaStructs
namespace Go.Proofs.Ytnknefchpepegaa
set_option linter.unusedVariables false
set_option linter.unusedSimpArgs false
open Go.ChangeShapes Go.WideShapes Go.Deep Go.RowKit
/-- An act's bytes: where they lie, how many, of what room, and what they are. -/
structure ActB where
  A : Option Addr
  m : Nat
  c : Nat
  bs : List UInt8
abbrev ActB.val (x : ActB) : Value := .slice x.A x.m x.c
def Acts (W : World) (B : Nat) (A : Option Addr) (n : Nat) (Z : Nat → Nat → Int) (V : Nat → ActB) : Prop :=
  ∀ i, i < n → ∃ ad, A = some ad ∧ ad.block < B ∧ (∀ j, j < 3 → W.cell? (ad.add (i * 4 + j)) = some (ival (Z i j)) ∧ -9223372036854775808 ≤ Z i j ∧ Z i j ≤ 9223372036854775807) ∧
    W.cell? (ad.add (i * 4 + 3)) = some (V i).val ∧ (V i).m ≤ (V i).c ∧ (V i).c ≤ maxLen ∧ Reads W B 1 (V i).A (V i).m ((V i).bs.map bval)
theorem Acts.below {W W' : World} {B n : Nat} {A : Option Addr} {Z : Nat → Nat → Int} {V : Nat → ActB} (h : Acts W B A n Z V) (hb : Below B W W') : Acts W' B A n Z V := fun i hi => by
  obtain ⟨ad, hA, hB, hc, hv, h1, h2, hr⟩ := h i hi
  exact ⟨ad, hA, hB, fun j hj => ⟨(hb.cell (p := ad.add (i * 4 + j)) (by rw [block_of_add]; exact hB)).trans (hc j hj).1, (hc j hj).2⟩, (hb.cell (p := ad.add (i * 4 + 3)) (by rw [block_of_add]; exact hB)).trans hv, h1, h2, hr.below hb⟩
section
variable {H : Type} {enc : TypeId × Value → H} {P : Program} {W : World}
theorem bytes_trod {t e : TypeId} {v : Value} {n0 : Nat} {y : DataW H × List MemPlace} (ht : P.underlying t = some (.slice e)) (he : P.underlying e = some (.int .u8)) (hc : P.cellsOf e = 1) (hf : DataW.trod enc P W 0 (fun _ => true) true n0 t [v] = some y) :
    ∃ x : ActB, v = x.val ∧ x.m ≤ x.c ∧ x.c ≤ maxLen ∧ Reads W W.heap.size 1 x.A x.m (x.bs.map bval) := by
  rcases open_ints ht he hc hf with ⟨hcs, _⟩ | ⟨x, l, c', zs, hcs, _, hl, hm, hz, _, hcell, hwz⟩
  · simp at hcs
    subst hcs
    exact ⟨⟨none, 0, 0, []⟩, rfl, Nat.le_refl _, by simp [maxLen], Reads.none_⟩
  · simp at hcs
    subst hcs
    have hz' : zs.length = c' := by simpa using hz
    refine ⟨⟨some x, l, c', (zs.take l).map (fun z => UInt8.ofNat z.toNat)⟩, rfl, hl, hm, by simp; omega, fun hn => ?_⟩
    refine ⟨x, rfl, ?_, fun j u hu => ?_⟩
    · have h0 := hcell 0 (by simp at hn; omega)
      have := World.block_lt_of_cell? W _ h0
      rw [block_of_add] at this
      exact this
    · have hj : j < l := by
        rcases Nat.lt_or_ge j l with h | h
        · exact h
        · rw [List.getElem?_eq_none (by simp; omega)] at hu; cases hu
      have hjz : j < zs.length := by omega
      have hwj := hwz zs[j] (List.getElem_mem hjz)
      have hb := bounds_u8 hwj
      rw [hcell j hjz]
      simp only [List.getElem?_map, List.getElem?_take, hj, if_true, List.getElem?_eq_getElem hjz, Option.map_some, Option.some.injEq] at hu
      rw [← hu]
      simp only [List.getD_eq_getElem?_getD, List.getElem?_eq_getElem hjz, Option.getD_some, bval]
      congr 1
      congr 1
      simp
      omega
theorem open_acts {t e tb te : TypeId} {fs : Array Field} {v : Value} {d : DataW H} {p : List MemPlace} {b0 : Nat} (ht : P.underlying t = some (.slice e)) (he : P.underlying e = some (.struct fs)) (hm : fs.size = 4)
    (hone : oneCellFields P fs = true) (hC : P.cellsOf e = 4) (hint : (fs.toList.take 3).all (fun f => isI64 (P.underlying f.type)) = true) (h3 : (fs[3]?).map (·.type) = some tb) (hb : P.underlying tb = some (.slice te)) (hte : P.underlying te = some (.int .u8)) (hc1 : P.cellsOf te = 1)
    (hok : Value.okWide P W .any b0 t v) (h : DataW.Trod enc P W 0 (fun _ => true) true t v d p) :
    ∃ (A : Option Addr) (n c : Nat) (Z : Nat → Nat → Int) (V : Nat → ActB), v = .slice A n c ∧ n ≤ c ∧ c ≤ maxLen ∧ Acts W W.heap.size A n Z V := by
  obtain ⟨a, n, c, rfl⟩ := okWide_slice ht hok
  obtain ⟨fuel, hf⟩ := h
  rcases open_slice_fields ht he hone (by rw [hm]; exact hC) hf with ⟨hcs, _⟩ | ⟨x, len, cap, mm, D, Pl, hcs, _, hl, hmx, hmm, _, hi⟩
  · simp [Value.cells] at hcs
    obtain ⟨rfl, rfl, rfl⟩ := hcs
    exact ⟨none, 0, 0, fun _ _ => 0, fun _ => ⟨none, 0, 0, []⟩, rfl, Nat.le_refl _, by simp [maxLen], fun i hi => absurd hi (by omega)⟩
  · simp [Value.cells] at hcs
    obtain ⟨rfl, rfl, rfl⟩ := hcs
    have hcell : ∀ i j, i < n → j < 3 → ∃ z : Int, W.cell? (x.add (i * 4 + j)) = some (ival z) ∧ -9223372036854775808 ≤ z ∧ z ≤ 9223372036854775807 := by
      intro i j hin hj
      obtain ⟨ys, k, _, _, _, hfj⟩ := hi i (by simp at hmm; omega)
      have hjs : j < fs.size := by omega
      obtain ⟨v, y, hc, _, hy⟩ := hfj j fs[j] (Array.getElem?_eq_getElem hjs)
      have hu : P.underlying fs[j].type = some (.int .i64) := by
        have hmem : fs[j] ∈ fs.toList.take 3 := by
          rw [List.mem_take_iff_getElem]
          exact ⟨j, by simp; omega, by simp⟩
        exact isI64_of (List.all_eq_true.1 hint fs[j] hmem)
      obtain ⟨z, hcz, _, hwf⟩ := DataW.trod_int hu hy
      injection hcz with hcz
      subst hcz
      rw [hm] at hc
      exact ⟨z, hc, bounds_i64 hwf⟩
    have hby : ∀ i, i < n → ∃ q : ActB, W.cell? (x.add (i * 4 + 3)) = some q.val ∧ q.m ≤ q.c ∧ q.c ≤ maxLen ∧ Reads W W.heap.size 1 q.A q.m (q.bs.map bval) := by
      intro i hin
      obtain ⟨ys, k, _, _, _, hfj⟩ := hi i (by simp at hmm; omega)
      have hjs : 3 < fs.size := by omega
      obtain ⟨v, y, hc, _, hy⟩ := hfj 3 fs[3] (Array.getElem?_eq_getElem hjs)
      have ht3 : fs[3].type = tb := by rw [Array.getElem?_eq_getElem hjs] at h3; simpa using h3
      rw [ht3] at hy
      obtain ⟨q, rfl, h1, h2, hr⟩ := bytes_trod hb hte hc1 hy
      rw [hm] at hc
      exact ⟨q, hc, h1, h2, hr⟩
    have hby' : ∀ i, ∃ q : ActB, i < n → W.cell? (x.add (i * 4 + 3)) = some q.val ∧ q.m ≤ q.c ∧ q.c ≤ maxLen ∧ Reads W W.heap.size 1 q.A q.m (q.bs.map bval) := fun i => by
      by_cases h : i < n
      · obtain ⟨q, hq⟩ := hby i h
        exact ⟨q, fun _ => hq⟩
      · exact ⟨⟨none, 0, 0, []⟩, fun h' => absurd h' h⟩
    obtain ⟨V, hV⟩ := Classical.axiomOfChoice hby'
    refine ⟨some x, n, c, fun i j => cellInt (W.cell? (x.add (i * 4 + j))), V, rfl, hl, hmx, fun i hin => ⟨x, rfl, ?_, fun j hj => ?_, (hV i hin).1, (hV i hin).2.1, (hV i hin).2.2.1, (hV i hin).2.2.2⟩⟩
    · obtain ⟨z, hz, _⟩ := hcell i 0 hin (by omega)
      have := World.block_lt_of_cell? W _ hz
      rw [block_of_add] at this
      exact this
    · obtain ⟨z, hz, hb⟩ := hcell i j hin hj
      simp only [hz]
      exact ⟨rfl, hb⟩
end
end Go.Proofs.Ytnknefchpepegaa
