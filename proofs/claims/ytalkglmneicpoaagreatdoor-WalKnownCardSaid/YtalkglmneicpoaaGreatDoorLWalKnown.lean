/-
  WalKnown: for every input the call returns true, and each argument reads afterwards as it read before: the frame round the walk. The table that it reads is the one that the text lays (the tie is given).
-/
import Derived.Test.YtalkglmneicpoaaGreatDoorFrame
import Derived.Test.YtalkglmneicpoaaGreatDoorWalKnown
import Derived.Test.YtalkglmneicpoaaGreatDoorCards
import Derived.Test.YtalkglmneicpoaaGreatDoorTie
import Derived.Test.YtalkglmneicpoaaGreatDoorFrmRead
import Derived.Stop.LaidErr
import Derived.LaidHandle
import Derived.LaidLaws
import Derived.Lib.LaidTab
import Derived.Deep.DeepWitnessRowRef
namespace Go.Proofs.YtalkglmneicpoaaGreatDoor
set_option linter.unusedVariables false
set_option linter.unusedSimpArgs false
open Go.ChangeShapes Go.WideShapes Go.ChangeAt Go.RowKit
def frmLaid : List (String × DataW Unit) := [("oxbow/crc.table", Rows.laid_oxbow_crc_table), ("errors.errorType", Rows.laid_errors_errorType), ("oxbow/frame.errShort", Rows.laid_oxbow_frame_errShort)]
theorem laid_tail {P : Program} {x : String × DataW Unit} {r : List (String × DataW Unit)} {W : World} (h : laidMet P (x :: r) W) : laidMet P r W := by
  obtain ⟨ps, ⟨g, t, cs, fuel, p, q, _, _, _, _, hq, e⟩, hnd, hrows⟩ := h
  subst e
  exact ⟨q, hq, (List.nodup_append.1 hnd).2.1, fun b off hp => hrows b off (List.mem_append_right _ hp)⟩
theorem gTab : Tryz.prog.globalNamed "oxbow/crc.table" = some 2 := by kernel_rfl
theorem gTabType : (Tryz.prog.globals[2]?).map (·.type) = some 144 := by kernel_rfl
theorem cellsT : Tryz.prog.cellsOf 144 = 16 := by kernel_rfl
theorem cellsE : Tryz.prog.cellsOf 102 = 1 := by kernel_rfl
theorem gHand : Tryz.prog.globalNamed "errors.errorType" = some 1 := by kernel_rfl
theorem gShort : Tryz.prog.globalNamed "oxbow/frame.errShort" = some 0 := by kernel_rfl
theorem gShortType : (Tryz.prog.globals[0]?).map (·.type) = some 75 := by kernel_rfl
theorem rtT : (Tryz.prog.cutTypes.find? (·.1 == "internal/reflectlite.rtype")).map (·.2) = some 129 := by kernel_rfl
theorem oneRow : ((List.range Tryz.prog.types.size).filter fun t => Tryz.prog.rowNamed t [101, 114, 114, 111, 114]) = [75] := by kernel_rfl
theorem var_lt {P : Program} {W : World} {n : String} {g : Nat} {cs : Array Value} (hg : P.globalNamed n = some g) (h : W.var? P n = some cs) : g < W.heap.size := by
  unfold World.var? at h
  simp only [hg, Option.bind_some] at h
  rcases Nat.lt_or_ge g W.heap.size with h' | h'
  · exact h'
  · simp [Array.getElem?_eq_none h'] at h
theorem glob_of_laid {W : World} (h : laidMetH Tryz.prog frmLaid W) : ∃ p, Glob p W := by
  have h' : laidMet Tryz.prog [("oxbow/crc.table", Rows.laid_oxbow_crc_table), ("oxbow/frame.errShort", Rows.laid_oxbow_frame_errShort)] W ∧ handlesMet Tryz.prog [("errors.errorType", Rows.laid_errors_errorType)] W := h
  obtain ⟨hl, hh⟩ := h'
  have hT : TabOk W := fun i hi => by
    have ht : Lib.TabIs Tryz.prog W "oxbow/crc.table" .u32 (tab.map fun n : Nat => (Int.ofNat n)) := Lib.tabIs_of_head gTab gTabType Tryz.underlying144 Tryz.underlying102 cellsE cellsT hl
    have hc := ht.cell gTab i (by simpa [tab] using hi)
    rw [hc]
    rcases (by omega : i = 0 ∨ i = 1 ∨ i = 2 ∨ i = 3 ∨ i = 4 ∨ i = 5 ∨ i = 6 ∨ i = 7 ∨ i = 8 ∨ i = 9 ∨ i = 10 ∨ i = 11 ∨ i = 12 ∨ i = 13 ∨ i = 14 ∨ i = 15) with h | h | h | h | h | h | h | h | h | h | h | h | h | h | h | h <;> subst h <;> rfl
  obtain ⟨name, u, ty, e1, e2, e3, e4, e5⟩ := hh _ (List.mem_singleton.2 rfl)
  have en : name = [101, 114, 114, 111, 114] := (Option.some.inj e1).symm
  subst en
  obtain rfl := Option.some.inj (rtT.symm.trans e2)
  have hm : ty ∈ (List.range Tryz.prog.types.size).filter fun t => Tryz.prog.rowNamed t [101, 114, 114, 111, 114] := List.mem_filter.2 ⟨List.mem_range.2 e3, e4⟩
  rw [oneRow] at hm
  obtain rfl := List.mem_singleton.1 hm
  have hhd : typeHandle Tryz.prog 75 = hand 75 := by kernel_rfl
  rw [hhd] at e5
  have hH : HandOk W := by
    show W.cell? _ = _
    simpa using World.var?_cell gHand e5 0
  obtain ⟨a, s, v1, _, _, _⟩ := laid_sentinel (ts := 9) (laid_tail hl) gShort gShortType Tryz.underlying75 (typeName_ptr_named (nm := "errors.errorString") (tp := 147) (by kernel_rfl) (by kernel_rfl) (by decide)) Tryz.underlying147 Tryz.underlying167 rfl rfl Tryz.underlying9 (by kernel_rfl) (by kernel_rfl)
  have hS : W.cell? ⟨0, 0, none⟩ = some (sentV a) := by simpa using World.var?_cell gShort v1 0
  exact ⟨a, hT, hH, hS, by have := hT.pos; have := hH.pos; have := var_lt gShort v1; omega⟩
/-- A world for the witness: the settled one, the variables holding what their initialisers lay. -/
noncomputable def laidWorld (os : Os) : World :=
  let w0 := World.holding Tryz.prog os ⟨#[.cells #[.string ⟨#[98, 121, 116, 101, 115, 32, 101, 110, 100, 32, 116, 111, 111, 32, 101, 97, 114, 108, 121]⟩] 167 (0, 0)], #[], []⟩
  { w0 with heap := ((w0.heap.modify 2 fun
      | .cells _ t frozen => .cells #[.int .u32 0, .int .u32 498536548, .int .u32 997073096, .int .u32 651767980, .int .u32 1994146192, .int .u32 1802195444, .int .u32 1303535960, .int .u32 1342533948, .int .u32 3988292384, .int .u32 4027552580, .int .u32 3604390888, .int .u32 3412177804, .int .u32 2607071920, .int .u32 2262029012, .int .u32 2685067896, .int .u32 3183342108] t frozen
      | o => o).modify 1 fun
      | .cells _ t frozen => .cells #[.iface 129 (.agg #[hand 75])] t frozen
      | o => o).modify 0 fun
      | .cells _ t frozen => .cells #[sentV ⟨(World.settled Tryz.prog os).heap.size, 0, none⟩] t frozen
      | o => o }
theorem laid_met (os : Os) : laidMetH Tryz.prog frmLaid (((laidWorld os).forCall (fun _ _ => 0) ⟨#[], #[], []⟩).memory) :=
  laidMetH_of_parts (laidMet_of_run' 8 (by kernel_rfl) (by kernel_rfl)) (by kernel_rfl)
theorem laid_vars (os : Os) : ((laidWorld os).forCall (fun _ _ => 0) ⟨#[], #[], []⟩).variablesRefB Tryz.checked.prog = true := by kernel_rfl
end Go.Proofs.YtalkglmneicpoaaGreatDoor
namespace Go.Proofs.YtalkglmneicpoaaGreatDoor.walKnown
set_option linter.unusedVariables false
set_option linter.unusedSimpArgs false
open Go.ChangeShapes Go.WideShapes Go.ChangeAt Go.RowKit

set_option maxRecDepth 100000 in
theorem contract (H : Type) (enc : TypeId × Value → H) (W : World) (base : Nat) (args : Array Value) (ds gs : List (DataW H)) (before : List MemPlace)
    (hval : ∀ (j : Nat) t v, Tryz.f3.params[j]? = some t → args[j]? = some v → Value.okWide Tryz.prog W .any base t v)
    (hW : DataW.Whole enc Tryz.prog Tryz.f3.params.toList Rows.walKnownSpec.vars false W args.toList ds gs before) (hL : laidMetH Tryz.prog Rows.walKnownRow.laid W) :
    Calls Tryz.prog 3 args W fun e W' => ∃ v, e = .returned v ∧ Rows.walKnownSpec.post enc Tryz.prog Tryz.f3 false true false false W args v W' := by
  have hW' := hW
  obtain ⟨p, q, hA0, hV, rfl, hfz, hnd⟩ := hW
  have hA : DataW.TrodAll enc Tryz.prog W 0 (fun _ => true) true Tryz.f3.params.toList args.toList ds p := hA0
  rw [Tryz.params3] at hA hval
  obtain ⟨hargs, rfl, rfl⟩ := trodAll_nil hA
  obtain rfl : args = #[] := by cases args; simp_all
  obtain ⟨rfl, rfl⟩ := trodVars_none hV
  have hW2 : DataW.Whole enc Tryz.prog Tryz.f3.params.toList Rows.walKnownSpec.vars false W (#[] : Array Value).toList _ _ _ := hW'
  obtain ⟨pg, hT⟩ := glob_of_laid (W := W) hL
  refine (walKnown_any pg W hT).mono fun e W2 ⟨he, bel⟩ => ?_
  subst he
  exact ⟨_, rfl, law_end Tryz.underlying4 laidOut (by kernel_rfl) (by kernel_rfl) rfl hW2 rfl rfl rfl bel⟩

theorem laid_met (os : Os) : laidMetH Tryz.prog Rows.walKnownRow.laid (((laidWorld os).forCall (fun _ _ => 0) ⟨#[], #[], []⟩).memory) :=
  laidMetH_of_parts (laidMet_of_run' 8 (by kernel_rfl) (by kernel_rfl)) (by kernel_rfl)
theorem reads (os : Os) {H : Type} (enc : TypeId × Value → H) : ∃ places, DataW.whole enc Tryz.prog ((laidWorld os).forCall (fun _ _ => 0) ⟨#[], #[], []⟩).memory Tryz.f3.params.toList Rows.walKnownSpec.vars false (#[] : Array Value).toList 8 = some ([], [], places) :=
  ⟨[], by kernel_rfl⟩
set_option maxRecDepth 100000 in
theorem lifted (os : Os) (started : os.Started) (H : Type) (enc : TypeId × Value → H) (F : Stop.Interp) :
    ReturnsInHanded {} Tryz.checked os 3 .any ((OpenSpec.ofChange Rows.walKnownSpec).preRow enc Tryz.prog Tryz.f3 Rows.walKnownRow.domain false Rows.walKnownRow.laid) (((OpenSpec.ofChange Rows.walKnownSpec).at F).post enc Tryz.prog Tryz.f3 false true false false) := by
  obtain ⟨places, hx⟩ := reads os enc
  refine returnsInHanded_of_row (C := Tryz.checked) (s := OpenSpec.ofChange Rows.walKnownSpec) own started (by kernel_rfl) Tryz.func3
    (witness_row_atRef (enc := enc) (C := Tryz.checked) false (laidWorld os) #[] rfl (by kernel_rfl) (by kernel_rfl) (by kernel_rfl)
      (OpenSpec.preRow_of_cond 8 hx (by kernel_rfl) (fun k hk => by cases hk) (by kernel_rfl) (laid_met os))) ?_
  intro W base args ds gs before hval hW _ _ _ hL _ _
  exact contract H enc W base args ds gs before hval hW hL
theorem said : Rows.WalKnownSaid :=
  OpenClaim.holds_of_cond 3 Tryz.f3 rfl rfl rfl rfl rfl rfl rfl ⟨rfl, rfl, rfl, rfl, rfl⟩ rfl rfl rfl rfl rfl (by kernel_rfl) Tryz.func3 (by kernel_rfl)
    (of_decide_eq_true (by kernel_rfl)) (by unfold Func.isWrapper; first | (rw [if_pos (by decide +kernel)]; kernel_rfl) | (rw [if_neg (by decide +kernel)]; exact ⟨rfl, rfl⟩))
    (fun os started H enc _ F => by rw [OpenClaim.pre_eq_preRow]; exact lifted os started H enc F)
theorem plain (f : FuncId) (fn : Func) (hf : Tryz.pinned.checked.prog.funcNamed "oxbow/oxbowlaw16.WalKnown" = some f) (hfn : Tryz.pinned.checked.prog.funcs[f]? = some fn) :
    true = Tryz.pinned.checked.prog.looks [] ∧ ∀ (j : Nat) t, fn.params[j]? = some t → Tryz.pinned.checked.prog.wantsStandIn t = false := by
  obtain rfl : f = 3 := Option.some.inj ((show Tryz.prog.funcNamed "oxbow/oxbowlaw16.WalKnown" = some 3 by kernel_rfl).symm.trans hf) |>.symm
  obtain rfl : fn = Tryz.f3 := (Option.some.inj (Tryz.func3.symm.trans hfn)).symm
  refine ⟨by kernel_rfl, fun j t ht => ?_⟩
  rw [Tryz.params3] at ht
  simp at ht
/-- The statement: the tied card. -/
theorem proved : Rows.WalKnownCardSaid :=
  Claim7.holds_tied_plain_at .later [] _ _ _ _ said (fun _ h => by cases h) (by kernel_rfl) (fun _ h => by cases h) walKnown_row_tie rfl ⟨rfl, rfl⟩ (by kernel_rfl) rfl plain (by kernel_rfl)
#print axioms proved
end Go.Proofs.YtalkglmneicpoaaGreatDoor.walKnown
