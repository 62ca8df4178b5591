/-
  calc.Window.
-/
import Derived.Test.YtpokbdchbceenaaCalcFold
import Derived.BigRegion
namespace Go.Proofs.Ytpokbdchbceenaa
set_option linter.unusedVariables false
set_option linter.unusedSimpArgs false
open Go.RowKit
def winV (a acc n : Int) : Value := if n < a then .tuple #[cellV acc n, ival 0, .bool false] else .tuple #[cellV 0 0, ival acc, .bool true]
theorem end_cell3 {fn : Func} {R : Ending → World → Prop} {a : Act} {W : World} {g : Nat} {cs : Array Value} {p q : Value} (hf : fn.results = #[.cell 6 31, .tmp 7, .tmp 8]) (hd : a.defers = []) (hp : a.tmps.getD 6 undef = .pointer (some ⟨g, 0, none⟩))
    (hg : W.heap[g]? = some (.cells cs 31 (0, 0))) (hs : cs.size = 2) (h7 : a.tmps.getD 7 undef = p) (h8 : a.tmps.getD 8 undef = q) (hR : R (.returned (.tuple #[.agg cs, p, q])) W) : bodyPost Try.prog fn R .ret a W := by
  refine bodyPost_ret_by ?_ hd hR
  have h2 : (Try.prog.info? 31).map (·.size) = some 2 := by kernel_rfl
  have hr := run_loadVar_row (P := Try.prog) W g 31 31 cs (0, 0) _ hg Try.underlying31 rfl (by rw [h2, hs])
  have hp' : a.tmps[6]?.getD undef = .pointer (some ⟨g, 0, none⟩) := by simpa using hp
  have h7' : a.tmps[7]?.getD undef = p := by simpa using h7
  have h8' : a.tmps[8]?.getD undef = q := by simpa using h8
  simp [results, hf, hp', h7', h8', asAddr, hr, Sem.run_bind, Result.andThen]
theorem below_set1 {B : Nat} {a W : World} (h : Below B a W) {g : Nat} (hg : B ≤ g) (k : Nat) (u : Value) : Below B a (W.setCell ⟨g, k, none⟩ u) :=
  ⟨h.os, h.tape, h.output, by simpa [World.setCell] using h.size, fun i hi => (Below.heap_setCell W ⟨g, k, none⟩ u i (by simp; omega)).trans (h.block i hi)⟩
set_option maxRecDepth 100000 in
set_option maxHeartbeats 1000000 in
theorem window_any (op n : Nat) (a b acc v : Int) (w : World) (h1 : 1 ≤ op) (h4 : op ≤ 4) (h : n ≤ 100000) :
    Calls Try.prog 13 #[fnV (op : Int) a b, cellV acc (n : Int), .int .i64 v] w fun e w' =>
      e = .returned (winV a (foldV op acc n v) ((n : Int) + 1)) ∧ Below w.heap.size w w' := by
  have C := Lib.hid (fun W => fold_any op n a b acc v W h1 h4 h)
  generalize foldV op acc n v = F at *
  by_cases ha : (n : Int) + 1 < a
  · have HW : Hid (winV a F ((n : Int) + 1) = .tuple #[cellV F ((n : Int) + 1), ival 0, .bool false]) := by show _ = _; unfold winV; rw [if_pos ha]
    go_enter Try.func13, Try.ntmps13
    go_wp2_with fail
    go_must (refine (C.out _).mono ?_)
    rintro e w1 ⟨rfl, hb1⟩
    have k1 : Blk w1 w.heap.size 23 #[ival (op : Int), ival a, ival b] := (((Blk.new w _ _).alloc _).alloc _).below hb1 (by simp; omega)
    have k2 : Blk w1 (w.heap.size + 1 + 1) 31 #[ival 0, ival 0] := (show Blk _ _ _ _ from third w _ _ _ _).below hb1 (by simp)
    have x1 : ∀ O, (w1.alloc O).cell? ⟨w.heap.size, 1, none⟩ = some (ival a) := fun O => (k1.alloc O).cell 1
    have x2 : ∀ O, (w1.alloc O).cell? ⟨w.heap.size + 1 + 1, 0, none⟩ = some (ival 0) := fun O => (k2.alloc O).cell 0
    have x3 : ∀ O, (w1.alloc O).cell? ⟨w.heap.size + 1 + 1, 1, none⟩ = some (ival 0) := fun O => (k2.alloc O).cell 1
    have x4 : ∀ O, (w1.alloc O).frozen? ⟨w.heap.size + 1 + 1, 0, none⟩ = false := fun O => (k2.alloc O).frozen 0
    have x5 : ∀ O, (w1.alloc O).frozen? ⟨w.heap.size + 1 + 1, 1, none⟩ = false := fun O => (k2.alloc O).frozen 1
    have hsz := hb1.size
    simp only [World.size_alloc] at hsz
    have hne1 : ¬ (w1.heap.size = w.heap.size + 1 + 1) := by omega
    have hne2 : ¬ (w.heap.size + 1 + 1 = w1.heap.size) := by omega
    have HBW := Lib.hid (((below3 w _ _ _).trans (hb1.mono (by simp; omega))).alloc (show w.heap.size ≤ w1.heap.size by omega) (.cells #[Value.int IntKind.i64 F, Value.int IntKind.i64 ((n : Int) + 1)] 31))
    have K2 := Lib.hid k2
    have HB := Lib.hid hb1
    clear k1 k2 hb1
    go_wp2_with fail
    refine end_cell3 rfl rfl rfl (((K2.out.alloc _).set_ 0 _).set_ 1 _) rfl rfl rfl ?_
    refine ⟨?_, below_set1 (below_set1 HBW.out (by omega) 0 _) (by omega) 1 _⟩
    rw [HW.out]
    rfl
  · have HW : Hid (winV a F ((n : Int) + 1) = .tuple #[cellV 0 0, ival F, .bool true]) := by show _ = _; unfold winV; rw [if_neg ha]
    have hd : decide ((n : Int) + 1 < a) = false := by simpa using ha
    go_enter Try.func13, Try.ntmps13
    go_wp2_with fail
    go_must (refine (C.out _).mono ?_)
    rintro e w1 ⟨rfl, hb1⟩
    have k1 : Blk w1 w.heap.size 23 #[ival (op : Int), ival a, ival b] := (((Blk.new w _ _).alloc _).alloc _).below hb1 (by simp; omega)
    have k2 : Blk w1 (w.heap.size + 1 + 1) 31 #[ival 0, ival 0] := (show Blk _ _ _ _ from third w _ _ _ _).below hb1 (by simp)
    have x1 : ∀ O, (w1.alloc O).cell? ⟨w.heap.size, 1, none⟩ = some (ival a) := fun O => (k1.alloc O).cell 1
    have x2 : ∀ O, (w1.alloc O).cell? ⟨w.heap.size + 1 + 1, 0, none⟩ = some (ival 0) := fun O => (k2.alloc O).cell 0
    have x3 : ∀ O, (w1.alloc O).cell? ⟨w.heap.size + 1 + 1, 1, none⟩ = some (ival 0) := fun O => (k2.alloc O).cell 1
    have x4 : ∀ O, (w1.alloc O).frozen? ⟨w.heap.size + 1 + 1, 0, none⟩ = false := fun O => (k2.alloc O).frozen 0
    have x5 : ∀ O, (w1.alloc O).frozen? ⟨w.heap.size + 1 + 1, 1, none⟩ = false := fun O => (k2.alloc O).frozen 1
    have hsz := hb1.size
    simp only [World.size_alloc] at hsz
    have hne1 : ¬ (w1.heap.size = w.heap.size + 1 + 1) := by omega
    have hne2 : ¬ (w.heap.size + 1 + 1 = w1.heap.size) := by omega
    have HBW := Lib.hid (((below3 w _ _ _).trans (hb1.mono (by simp; omega))).alloc (show w.heap.size ≤ w1.heap.size by omega) (.cells #[Value.int IntKind.i64 F, Value.int IntKind.i64 ((n : Int) + 1)] 31))
    have K2 := Lib.hid k2
    have HB := Lib.hid hb1
    clear k1 k2 hb1
    go_wp2_with fail
    go_region
    go_wp2_with fail
    refine end_cell3 rfl rfl rfl ((((K2.out.alloc _).set_ 0 _).set_ 1 _).drewN 1) rfl rfl rfl ?_
    refine ⟨?_, below_drewN (below_set1 (below_set1 HBW.out (by omega) 0 _) (by omega) 1 _) 1⟩
    rw [HW.out]
    rfl
end Go.Proofs.Ytpokbdchbceenaa
