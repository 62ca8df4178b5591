/-
  calc.Fold and calc.Window.
-/
import Derived.Test.YtpokbdchbceenaaCalcMap
namespace Go.Proofs.Ytpokbdchbceenaa
set_option linter.unusedVariables false
set_option linter.unusedSimpArgs false
open Go.RowKit
abbrev cellV (acc n : Int) : Value := .agg #[ival acc, ival n]
theorem below3 (w : World) (a b c : Obj) : Below w.heap.size w (((w.alloc a).alloc b).alloc c) := by
  refine (((Below.refl _ _).alloc (Nat.le_refl _) _).alloc ?_ _).alloc ?_ _ <;> simp <;> omega
theorem end_cell {fn : Func} {R : Ending → World → Prop} {a : Act} {W : World} {g : Nat} {cs : Array Value} (hf : fn.results = #[.cell 6 31]) (hd : a.defers = []) (hp : a.tmps.getD 6 undef = .pointer (some ⟨g, 0, none⟩))
    (hg : W.heap[g]? = some (.cells cs 31 (0, 0))) (hs : cs.size = 2) (hR : R (.returned (.agg cs)) W) : bodyPost Try.prog fn R .ret a W :=
  bodyPost_ret_by (results_cell_row hf _ _ g 31 cs (0, 0) _ hp hg Try.underlying31 rfl (by
    have h2 : (Try.prog.info? 31).map (·.size) = some 2 := by kernel_rfl
    rw [h2, hs])) hd hR
theorem third (w : World) (a b : Obj) (cs : Array Value) (t : TypeId) : ((((w.alloc a).alloc b).alloc (.cells cs t))).heap[w.heap.size + 1 + 1]? = some (.cells cs t (0, 0)) := by
  have h := heap_alloc_new ((w.alloc a).alloc b) (.cells cs t)
  rwa [show ((w.alloc a).alloc b).heap.size = w.heap.size + 1 + 1 by simp] at h
set_option maxRecDepth 100000 in
set_option maxHeartbeats 1000000 in
theorem fold_count (a b acc n v : Int) (w : World) (l : 0 ≤ n) (h : n ≤ 100000) :
    Calls Try.prog 11 #[fnV 4 a b, cellV acc n, .int .i64 v] w fun e w' => e = .returned (cellV (n + 1) (n + 1)) ∧ Below w.heap.size w w' := by
  go_enter Try.func11, Try.ntmps11
  go_wp2_with fail
  refine end_cell rfl rfl rfl (third _ _ _ _ _) rfl ?_
  exact ⟨rfl, below3 _ _ _ _⟩
set_option maxRecDepth 100000 in
set_option maxHeartbeats 1000000 in
theorem fold_first (op : Nat) (a b acc v : Int) (w : World) (hop : op = 1 ∨ op = 2 ∨ op = 3) :
    Calls Try.prog 11 #[fnV (op : Int) a b, cellV acc 0, .int .i64 v] w fun e w' => e = .returned (cellV v 1) ∧ Below w.heap.size w w' := by
  rcases hop with rfl | rfl | rfl <;>
  ( go_enter Try.func11, Try.ntmps11
    go_wp2_with fail
    refine end_cell rfl rfl rfl (third _ _ _ _ _) rfl ?_
    exact ⟨rfl, below3 _ _ _ _⟩ )
set_option maxRecDepth 100000 in
set_option maxHeartbeats 1000000 in
theorem fold_sum (a b acc n v : Int) (w : World) (l : 1 ≤ n) (h : n ≤ 100000) :
    Calls Try.prog 11 #[fnV 1 a b, cellV acc n, .int .i64 v] w fun e w' => e = .returned (cellV (wrap64 (acc + v)) (n + 1)) ∧ Below w.heap.size w w' := by
  have hn : (n == 0) = false := by simp; omega
  go_enter Try.func11, Try.ntmps11
  go_wp2_with fail
  refine end_cell rfl rfl rfl (third _ _ _ _ _) rfl ?_
  exact ⟨rfl, below3 _ _ _ _⟩
set_option maxRecDepth 100000 in
set_option maxHeartbeats 1000000 in
theorem fold_least (a b acc n v : Int) (w : World) (l : 1 ≤ n) (h : n ≤ 100000) :
    Calls Try.prog 11 #[fnV 2 a b, cellV acc n, .int .i64 v] w fun e w' => e = .returned (cellV (min acc v) (n + 1)) ∧ Below w.heap.size w w' := by
  have hn : (n == 0) = false := by simp; omega
  by_cases hv : acc ≤ v
  · have hd : decide (v < acc) = false := by simp; omega
    rw [show min acc v = acc by omega]
    go_enter Try.func11, Try.ntmps11
    go_wp2_with fail
    refine end_cell rfl rfl rfl (third _ _ _ _ _) rfl ?_
    exact ⟨rfl, below3 _ _ _ _⟩
  · have hd : v < acc := by omega
    rw [show min acc v = v by omega]
    clear hv
    go_enter Try.func11, Try.ntmps11
    go_wp2_with fail
    refine end_cell rfl rfl rfl (third _ _ _ _ _) rfl ?_
    exact ⟨rfl, below3 _ _ _ _⟩
set_option maxRecDepth 100000 in
set_option maxHeartbeats 1000000 in
theorem fold_most (a b acc n v : Int) (w : World) (l : 1 ≤ n) (h : n ≤ 100000) :
    Calls Try.prog 11 #[fnV 3 a b, cellV acc n, .int .i64 v] w fun e w' => e = .returned (cellV (max acc v) (n + 1)) ∧ Below w.heap.size w w' := by
  have hn : (n == 0) = false := by simp; omega
  by_cases hv : v ≤ acc
  · have hd : decide (acc < v) = false := by simp; omega
    rw [show max acc v = acc by omega]
    go_enter Try.func11, Try.ntmps11
    go_wp2_with fail
    refine end_cell rfl rfl rfl (third _ _ _ _ _) rfl ?_
    exact ⟨rfl, below3 _ _ _ _⟩
  · have hd : acc < v := by omega
    rw [show max acc v = v by omega]
    clear hv
    go_enter Try.func11, Try.ntmps11
    go_wp2_with fail
    refine end_cell rfl rfl rfl (third _ _ _ _ _) rfl ?_
    exact ⟨rfl, below3 _ _ _ _⟩
/-- Fold, of the Ops 1 to 4, from a state of n values on. -/
def foldV (op : Nat) (acc : Int) (n : Nat) (v : Int) : Int :=
  if op = 4 then n + 1 else if n = 0 then v else if op = 1 then wrap64 (acc + v) else if op = 2 then min acc v else max acc v
theorem fold_any (op n : Nat) (a b acc v : Int) (w : World) (h1 : 1 ≤ op) (h4 : op ≤ 4) (h : n ≤ 100000) :
    Calls Try.prog 11 #[fnV (op : Int) a b, cellV acc (n : Int), .int .i64 v] w fun e w' => e = .returned (cellV (foldV op acc n v) ((n : Int) + 1)) ∧ Below w.heap.size w w' := by
  unfold foldV
  by_cases ho : op = 4
  · subst ho
    exact fold_count a b acc n v w (by omega) (by omega)
  · rw [if_neg ho]
    by_cases hn : n = 0
    · subst hn
      exact fold_first op a b acc v w (by omega)
    · rw [if_neg hn]
      rcases (by omega : op = 1 ∨ op = 2 ∨ op = 3) with rfl | rfl | rfl
      · exact fold_sum a b acc n v w (by omega) (by omega)
      · exact fold_least a b acc n v w (by omega) (by omega)
      · exact fold_most a b acc n v w (by omega) (by omega)
end Go.Proofs.Ytpokbdchbceenaa
