/-
  What the chapter's rows list of the package variables, and a world that holds it.
-/
import Derived.Test.YtalkglmneicpoaaDoorFrame
import Derived.Test.YtalkglmneicpoaaDoorFrmRead
import Derived.Stop.LaidErr
import Derived.LaidHandle
import Derived.LaidLaws
import Derived.Lib.LaidTab
import Derived.Deep.DeepWitnessRowRef
namespace Go.Proofs.YtalkglmneicpoaaDoor
set_option linter.unusedVariables false
set_option linter.unusedSimpArgs false
open Go.ChangeShapes Go.WideShapes Go.ChangeAt Go.RowKit
def frmLaid : List (String × DataW Unit) := [("oxbow/crc.table", Rows.laid_oxbow_crc_table), ("errors.errorType", Rows.laid_errors_errorType), ("oxbow/frame.errShort", Rows.laid_oxbow_frame_errShort)]
theorem laid_tail {P : Program} {x : String × DataW Unit} {r : List (String × DataW Unit)} {W : World} (h : laidMet P (x :: r) W) : laidMet P r W := by
  obtain ⟨ps, ⟨g, t, cs, fuel, p, q, _, _, _, _, hq, e⟩, hnd, hrows⟩ := h
  subst e
  exact ⟨q, hq, (List.nodup_append.1 hnd).2.1, fun b off hp => hrows b off (List.mem_append_right _ hp)⟩
theorem gTab : Tryd.prog.globalNamed "oxbow/crc.table" = some 2 := by kernel_rfl
theorem gTabType : (Tryd.prog.globals[2]?).map (·.type) = some 145 := by kernel_rfl
theorem cellsT : Tryd.prog.cellsOf 145 = 16 := by kernel_rfl
theorem cellsE : Tryd.prog.cellsOf 103 = 1 := by kernel_rfl
theorem gHand : Tryd.prog.globalNamed "errors.errorType" = some 1 := by kernel_rfl
theorem gShort : Tryd.prog.globalNamed "oxbow/frame.errShort" = some 0 := by kernel_rfl
theorem gShortType : (Tryd.prog.globals[0]?).map (·.type) = some 76 := by kernel_rfl
theorem rtT : (Tryd.prog.cutTypes.find? (·.1 == "internal/reflectlite.rtype")).map (·.2) = some 130 := by kernel_rfl
theorem oneRow : ((List.range Tryd.prog.types.size).filter fun t => Tryd.prog.rowNamed t [101, 114, 114, 111, 114]) = [76] := by kernel_rfl
theorem var_lt {P : Program} {W : World} {n : String} {g : Nat} {cs : Array Value} (hg : P.globalNamed n = some g) (h : W.var? P n = some cs) : g < W.heap.size := by
  unfold World.var? at h
  simp only [hg, Option.bind_some] at h
  rcases Nat.lt_or_ge g W.heap.size with h' | h'
  · exact h'
  · simp [Array.getElem?_eq_none h'] at h
theorem glob_of_laid {W : World} (h : laidMetH Tryd.prog frmLaid W) : ∃ p, Glob p W := by
  have h' : laidMet Tryd.prog [("oxbow/crc.table", Rows.laid_oxbow_crc_table), ("oxbow/frame.errShort", Rows.laid_oxbow_frame_errShort)] W ∧ handlesMet Tryd.prog [("errors.errorType", Rows.laid_errors_errorType)] W := h
  obtain ⟨hl, hh⟩ := h'
  have hT : TabOk W := fun i hi => by
    have ht : Lib.TabIs Tryd.prog W "oxbow/crc.table" .u32 (tab.map fun n : Nat => (Int.ofNat n)) := Lib.tabIs_of_head gTab gTabType Tryd.underlying145 Tryd.underlying103 cellsE cellsT hl
    have hc := ht.cell gTab i (by simpa [tab] using hi)
    rw [hc]
    rcases (by omega : i = 0 ∨ i = 1 ∨ i = 2 ∨ i = 3 ∨ i = 4 ∨ i = 5 ∨ i = 6 ∨ i = 7 ∨ i = 8 ∨ i = 9 ∨ i = 10 ∨ i = 11 ∨ i = 12 ∨ i = 13 ∨ i = 14 ∨ i = 15) with h | h | h | h | h | h | h | h | h | h | h | h | h | h | h | h <;> subst h <;> rfl
  obtain ⟨name, u, ty, e1, e2, e3, e4, e5⟩ := hh _ (List.mem_singleton.2 rfl)
  have en : name = [101, 114, 114, 111, 114] := (Option.some.inj e1).symm
  subst en
  obtain rfl := Option.some.inj (rtT.symm.trans e2)
  have hm : ty ∈ (List.range Tryd.prog.types.size).filter fun t => Tryd.prog.rowNamed t [101, 114, 114, 111, 114] := List.mem_filter.2 ⟨List.mem_range.2 e3, e4⟩
  rw [oneRow] at hm
  obtain rfl := List.mem_singleton.1 hm
  have hhd : typeHandle Tryd.prog 76 = hand 76 := by kernel_rfl
  rw [hhd] at e5
  have hH : HandOk W := by
    show W.cell? _ = _
    simpa using World.var?_cell gHand e5 0
  obtain ⟨a, s, v1, _, _, _⟩ := laid_sentinel (ts := 9) (laid_tail hl) gShort gShortType Tryd.underlying76 (typeName_ptr_named (nm := "errors.errorString") (tp := 148) (by kernel_rfl) (by kernel_rfl) (by decide)) Tryd.underlying148 Tryd.underlying168 rfl rfl Tryd.underlying9 (by kernel_rfl) (by kernel_rfl)
  have hS : W.cell? ⟨0, 0, none⟩ = some (sentV a) := by simpa using World.var?_cell gShort v1 0
  exact ⟨a, hT, hH, hS, by have := hT.pos; have := hH.pos; have := var_lt gShort v1; omega⟩
/-- A world for the witness: the settled one, the variables holding what their initialisers lay. -/
noncomputable def laidWorld (os : Os) : World :=
  let w0 := World.holding Tryd.prog os ⟨#[.cells #[.string ⟨#[98, 121, 116, 101, 115, 32, 101, 110, 100, 32, 116, 111, 111, 32, 101, 97, 114, 108, 121]⟩] 168 (0, 0)], #[], []⟩
  { w0 with heap := ((w0.heap.modify 2 fun
      | .cells _ t frozen => .cells #[.int .u32 0, .int .u32 498536548, .int .u32 997073096, .int .u32 651767980, .int .u32 1994146192, .int .u32 1802195444, .int .u32 1303535960, .int .u32 1342533948, .int .u32 3988292384, .int .u32 4027552580, .int .u32 3604390888, .int .u32 3412177804, .int .u32 2607071920, .int .u32 2262029012, .int .u32 2685067896, .int .u32 3183342108] t frozen
      | o => o).modify 1 fun
      | .cells _ t frozen => .cells #[.iface 130 (.agg #[hand 76])] t frozen
      | o => o).modify 0 fun
      | .cells _ t frozen => .cells #[sentV ⟨(World.settled Tryd.prog os).heap.size, 0, none⟩] t frozen
      | o => o }
theorem laid_met (os : Os) : laidMetH Tryd.prog frmLaid (((laidWorld os).forCall (fun _ _ => 0) ⟨#[], #[], []⟩).memory) :=
  laidMetH_of_parts (laidMet_of_run' 8 (by kernel_rfl) (by kernel_rfl)) (by kernel_rfl)
theorem laid_vars (os : Os) : ((laidWorld os).forCall (fun _ _ => 0) ⟨#[], #[], []⟩).variablesRefB Tryd.checked.prog = true := by kernel_rfl
end Go.Proofs.YtalkglmneicpoaaDoor
