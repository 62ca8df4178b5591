/-
  Frames that came in: one by value, a list of them.
-/
import Derived.Test.YtalkglmneicpoaaDoorActs
import Derived.Test.YtalkglmneicpoaaDoorWalRight
import Derived.Lib.SmallJoins
namespace Go.Proofs.YtalkglmneicpoaaDoor
set_option linter.unusedVariables false
set_option linter.unusedSimpArgs false
open Go.ChangeShapes Go.WideShapes Go.Deep Go.RowKit Go.Joins
section
variable {H : Type} {enc : TypeId × Value → H} {P : Program} {W : World}
theorem open_frame {t tb te : TypeId} {f0 f1 : Field} {v : Value} {d : DataW H} {p : List MemPlace} {b0 : Nat} (hs : P.underlying t = some (.struct #[f0, f1])) (hone : oneCellFields P #[f0, f1] = true) (hC : P.cellsOf t = 2)
    (u0 : P.underlying f0.type = some (.int .i64)) (ht1 : f1.type = tb) (hb : P.underlying tb = some (.slice te)) (hte : P.underlying te = some (.int .u8)) (hc1 : P.cellsOf te = 1)
    (hok : Value.okWide P W .any b0 t v) (h : DataW.Trod enc P W 0 (fun _ => true) true t v d p) :
    ∃ (k : Int) (x : ActB), v = .agg #[.int .i64 k, x.val] ∧ (-9223372036854775808 ≤ k ∧ k ≤ 9223372036854775807) ∧ x.m ≤ x.c ∧ x.c ≤ maxLen ∧ Reads W W.heap.size 1 x.A x.m (x.bs.map bval) := by
  obtain ⟨c0, c1, y0, y1, m, rfl, rfl, rfl, hy0, hy1⟩ := open_agg2 hs hone hC hok h
  obtain ⟨x, e0, rfl, wx⟩ := DataW.trod_int u0 hy0
  simp at e0
  subst e0
  rw [ht1] at hy1
  obtain ⟨q, rfl, h1, h2, hr⟩ := bytes_trod hb hte hc1 hy1
  exact ⟨x, q, rfl, bounds_i64 wx, h1, h2, hr⟩
theorem open_frames {t e tb te : TypeId} {fs : Array Field} {v : Value} {d : DataW H} {p : List MemPlace} {b0 : Nat} (ht : P.underlying t = some (.slice e)) (he : P.underlying e = some (.struct fs)) (hm : fs.size = 2)
    (hone : oneCellFields P fs = true) (hC : P.cellsOf e = 2) (hint : (fs[0]?).map (fun f => isI64 (P.underlying f.type)) = some true) (h3 : (fs[1]?).map (·.type) = some tb) (hb : P.underlying tb = some (.slice te)) (hte : P.underlying te = some (.int .u8)) (hc1 : P.cellsOf te = 1)
    (hok : Value.okWide P W .any b0 t v) (h : DataW.Trod enc P W 0 (fun _ => true) true t v d p) :
    ∃ (A : Option Addr) (n c : Nat) (G : List FrV), v = .slice A n c ∧ n ≤ c ∧ c ≤ maxLen ∧ G.length = n ∧ FrsR W W.heap.size A G ∧ ∀ x ∈ G, -9223372036854775808 ≤ x.1.k ∧ x.1.k ≤ 9223372036854775807 := by
  obtain ⟨a, n, c, rfl⟩ := okWide_slice ht hok
  obtain ⟨fuel, hf⟩ := h
  rcases open_slice_fields ht he hone (by rw [hm]; exact hC) hf with ⟨hcs, _⟩ | ⟨x, len, cap, mm, D, Pl, hcs, _, hl, hmx, hmm, _, hi⟩
  · simp [Value.cells] at hcs
    obtain ⟨rfl, rfl, rfl⟩ := hcs
    exact ⟨none, 0, 0, [], rfl, Nat.le_refl _, by simp [maxLen], rfl, ⟨Reads.none_, by simp⟩, by simp⟩
  · simp [Value.cells] at hcs
    obtain ⟨rfl, rfl, rfl⟩ := hcs
    have hcell : ∀ i, i < n → ∃ (z : Int) (q : ActB), (W.cell? (x.add (i * 2)) = some (ival z) ∧ -9223372036854775808 ≤ z ∧ z ≤ 9223372036854775807) ∧ W.cell? (x.add (i * 2 + 1)) = some q.val ∧ q.m ≤ q.c ∧ q.c ≤ maxLen ∧ Reads W W.heap.size 1 q.A q.m (q.bs.map bval) := by
      intro i hin
      obtain ⟨ys, k, _, _, _, hfj⟩ := hi i (by simp at hmm; omega)
      have h0s : 0 < fs.size := by omega
      have h1s : 1 < fs.size := by omega
      obtain ⟨v0, y0, hc0, _, hy0⟩ := hfj 0 fs[0] (Array.getElem?_eq_getElem h0s)
      obtain ⟨v1, y1, hcc1, _, hy1⟩ := hfj 1 fs[1] (Array.getElem?_eq_getElem h1s)
      have hu : P.underlying fs[0].type = some (.int .i64) := by
        rw [Array.getElem?_eq_getElem h0s] at hint
        exact isI64_of (by simpa using hint)
      obtain ⟨z, hcz, _, hwf⟩ := DataW.trod_int hu hy0
      injection hcz with hcz
      subst hcz
      have ht1 : fs[1].type = tb := by rw [Array.getElem?_eq_getElem h1s] at h3; simpa using h3
      rw [ht1] at hy1
      obtain ⟨q, rfl, g1, g2, hr⟩ := bytes_trod hb hte hc1 hy1
      rw [hm] at hc0 hcc1
      exact ⟨z, q, ⟨hc0, bounds_i64 hwf⟩, hcc1, g1, g2, hr⟩
    have hcell' : ∀ i, ∃ zq : Int × ActB, i < n → (W.cell? (x.add (i * 2)) = some (ival zq.1) ∧ -9223372036854775808 ≤ zq.1 ∧ zq.1 ≤ 9223372036854775807) ∧ W.cell? (x.add (i * 2 + 1)) = some zq.2.val ∧ zq.2.m ≤ zq.2.c ∧ zq.2.c ≤ maxLen ∧ Reads W W.heap.size 1 zq.2.A zq.2.m (zq.2.bs.map bval) := fun i => by
      by_cases h : i < n
      · obtain ⟨z, q, hq⟩ := hcell i h
        exact ⟨(z, q), fun _ => hq⟩
      · exact ⟨(0, ⟨none, 0, 0, []⟩), fun h' => absurd h' h⟩
    obtain ⟨V, hV⟩ := Classical.axiomOfChoice hcell'
    let g : Nat → FrV := fun i => (⟨(V i).1, (V i).2.bs⟩, (V i).2.val)
    have hg : ∀ i, i < n → ((List.range n).map g)[i]? = some (g i) := fun i h => by simp [h]
    refine ⟨some x, n, c, (List.range n).map g, rfl, hl, hmx, by simp, ⟨⟨by rw [cellsG_len], fun hn => ⟨x, rfl, ?_, fun j u hu => ?_⟩⟩, fun y hy => ?_⟩, fun y hy => ?_⟩
    · have h0 := (hV 0 (by simpa using hn)).1.1
      have := World.block_lt_of_cell? W _ h0
      rw [block_of_add] at this
      exact this
    · have hj : j < n * 2 := by
        rcases Nat.lt_or_ge j (n * 2) with h | h
        · exact h
        · rw [List.getElem?_eq_none (by rw [cellsG_len]; simp; omega)] at hu; cases hu
      obtain ⟨i, r, rfl, hr⟩ : ∃ i r, j = i * 2 + r ∧ r < 2 := ⟨j / 2, j % 2, by omega, by omega⟩
      have hin : i < n := by omega
      rw [cellsG_at _ i r hr _ (hg i hin)] at hu
      have hv := hV i hin
      rcases (by omega : r = 0 ∨ r = 1) with rfl | rfl
      · simp only [frC, List.getElem?_cons_zero, Option.some.injEq] at hu
        rw [← hu]; exact hv.1.1
      · simp only [frC, List.getElem?_cons_succ, List.getElem?_cons_zero, Option.some.injEq] at hu
        rw [← hu]; exact hv.2.1
    · obtain ⟨i, hir, rfl⟩ := List.mem_map.1 hy
      have hv := hV i (by simpa using hir)
      exact ⟨⟨(V i).2.A, (V i).2.m, (V i).2.c⟩, rfl, hv.2.2.1, hv.2.2.2.1, hv.2.2.2.2⟩
    · obtain ⟨i, hir, rfl⟩ := List.mem_map.1 hy
      exact (hV i (by simpa using hir)).1.2
end
end Go.Proofs.YtalkglmneicpoaaDoor
