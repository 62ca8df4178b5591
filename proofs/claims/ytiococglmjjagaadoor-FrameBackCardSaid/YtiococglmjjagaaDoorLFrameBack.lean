/-
  FrameBack: for every input the call returns true, and each argument reads afterwards as it read before: the frame round the walk. The table that it reads is the one that the text lays (the tie is given).
-/
import Derived.Test.YtiococglmjjagaaDoorFrame
import Derived.Test.YtiococglmjjagaaDoorFrmBack
import Derived.Test.YtiococglmjjagaaDoorFrmOpen
import Derived.Test.YtiococglmjjagaaDoorFrmCard
import Derived.Test.YtiococglmjjagaaDoorSized
import Derived.Test.YtiococglmjjagaaDoorCards
import Derived.Test.YtiococglmjjagaaDoorTie
namespace Go.Proofs.YtiococglmjjagaaDoor.frameBack
set_option linter.unusedVariables false
set_option linter.unusedSimpArgs false
set_option linter.unusedVariables false
set_option linter.unusedSimpArgs false
open Go.ChangeShapes Go.WideShapes Go.ChangeAt Go.RowKit

set_option maxRecDepth 100000 in
set_option maxHeartbeats 4000000 in
theorem contract (H : Type) (enc : TypeId × Value → H) (W : World) (base : Nat) (args : Array Value) (ds gs : List (DataW H)) (before : List MemPlace)
    (hval : ∀ (j : Nat) t v, Tryd.f6.params[j]? = some t → args[j]? = some v → Value.okWide Tryd.prog W .any base t v)
    (hW : DataW.Whole enc Tryd.prog Tryd.f6.params.toList Rows.frameBackSpec.vars false W args.toList ds gs before) (hL : laidMetH Tryd.prog Rows.frameBackRow.laid W) (hz : (DataW.weightsEach Tryd.prog (Tryd.f6.params.toList ++ (OpenSpec.ofChange Rows.frameBackSpec).bare.plain.varTypes Tryd.prog) (ds ++ gs)).all (· ≤ reachBytes) = true) :
    Calls Tryd.prog 6 args W fun e W' => ∃ v, e = .returned v ∧ Rows.frameBackSpec.post enc Tryd.prog Tryd.f6 false true false false W args v W' := by
  have hW' := hW
  obtain ⟨p, q, hA0, hV, rfl, hfz, hnd⟩ := hW
  have hA : DataW.TrodAll enc Tryd.prog W 0 (fun _ => true) true Tryd.f6.params.toList args.toList ds p := hA0
  rw [Tryd.params6] at hA hval
  obtain ⟨v0, vs0, d0, ds0, p0, q0, hargs, rfl, rfl, t0, s0⟩ := trodAll_cons hA
  obtain ⟨v1, vs1, d1, ds1, p1, q1, rfl, rfl, rfl, t1, s1⟩ := trodAll_cons s0
  obtain ⟨v2, vs2, d2, ds2, p2, q2, rfl, rfl, rfl, t2, s2⟩ := trodAll_cons s1
  obtain ⟨v3, vs3, d3, ds3, p3, q3, rfl, rfl, rfl, t3, s3⟩ := trodAll_cons s2
  obtain ⟨rfl, rfl, rfl⟩ := trodAll_nil s3
  obtain rfl : args = #[v0, v1, v2, v3] := by cases args; simp_all
  obtain ⟨rfl, rfl⟩ := trodVars_none hV
  obtain ⟨a0, q0x, rfl, ⟨l0, h0⟩, m0, x0, r0⟩ := open_frame Tryd.underlying24 (by kernel_rfl) (by kernel_rfl) Tryd.underlying3 rfl Tryd.underlying22 Tryd.underlying5 (by kernel_rfl) (hval 0 24 v0 rfl rfl) t0
  have z1 := bytes_reach hz (j := 1) (t := 22) (by kernel_rfl) rfl Tryd.underlying22 Tryd.underlying5 (by kernel_rfl) (by kernel_rfl) t1
  obtain ⟨A1, n1, c1, bs1, rfl, m1, x1, r1⟩ := open_bytes Tryd.underlying22 Tryd.underlying5 (by kernel_rfl) (hval 1 22 v1 rfl rfl) t1
  obtain ⟨a2, rfl, e2, y2, w2⟩ := open_int Tryd.underlying5 (hval 2 5 v2 rfl rfl) t2
  obtain ⟨l2, h2⟩ := bounds_u8 w2
  obtain ⟨a3, rfl, e3, y3, w3⟩ := open_int Tryd.underlying3 (hval 3 3 v3 rfl rfl) t3
  obtain ⟨l3, h3⟩ := bounds_i64 w3
  have hW2 : DataW.Whole enc Tryd.prog Tryd.f6.params.toList Rows.frameBackSpec.vars false W (#[_, _, _, _] : Array Value).toList _ _ _ := hW'
  obtain ⟨pg, hT⟩ := glob_of_laid (W := W) hL
  obtain ⟨u2, rfl⟩ : ∃ u2 : UInt8, a2 = (u2.toNat : Int) := ⟨UInt8.ofNat a2.toNat, by simp; omega⟩
  refine (frameBack_any a0 q0x.bs q0x.A q0x.m q0x.c A1 n1 c1 bs1 u2 a3 pg W hT r0 (Nat.le_trans m0 x0) r1 (z1 _ _ _ rfl) l3 h3).mono fun e W2 ⟨he, bel⟩ => ?_
  subst he
  exact ⟨_, rfl, law_end Tryd.underlying4 laidOut (by kernel_rfl) (by kernel_rfl) rfl hW2 rfl rfl rfl bel⟩

theorem laid_met (os : Os) : laidMetH Tryd.prog Rows.frameBackRow.laid (((laidWorld os).forCall (fun _ _ => 0) ⟨#[], #[.agg #[.int .i64 0, .slice none 0 0], .slice none 0 0, .int .u8 0, .int .i64 0], []⟩).memory) :=
  laidMetH_of_parts (laidMet_of_run' 8 (by kernel_rfl) (by kernel_rfl)) (by kernel_rfl)
theorem reads (os : Os) {H : Type} (enc : TypeId × Value → H) : ∃ places, DataW.whole enc Tryd.prog ((laidWorld os).forCall (fun _ _ => 0) ⟨#[], #[.agg #[.int .i64 0, .slice none 0 0], .slice none 0 0, .int .u8 0, .int .i64 0], []⟩).memory Tryd.f6.params.toList Rows.frameBackSpec.vars false (#[.agg #[.int .i64 0, .slice none 0 0], .slice none 0 0, .int .u8 0, .int .i64 0] : Array Value).toList 8 = some ([.agg [.lit (.int .i64 0), .nil], .nil, .lit (.int .u8 0), .lit (.int .i64 0)], [], places) :=
  ⟨[], by kernel_rfl⟩
set_option maxRecDepth 100000 in
theorem lifted (os : Os) (started : os.Started) (H : Type) (enc : TypeId × Value → H) (F : Stop.Interp) :
    ReturnsInHanded {} Tryd.checked os 6 .any ((OpenSpec.ofChange Rows.frameBackSpec).preRow enc Tryd.prog Tryd.f6 Rows.frameBackRow.domain false Rows.frameBackRow.laid) (((OpenSpec.ofChange Rows.frameBackSpec).at F).post enc Tryd.prog Tryd.f6 false true false false) := by
  obtain ⟨places, hx⟩ := reads os enc
  refine returnsInHanded_of_row (C := Tryd.checked) (s := OpenSpec.ofChange Rows.frameBackSpec) own started (by kernel_rfl) Tryd.func6
    (witness_row_atRef (enc := enc) (C := Tryd.checked) false (laidWorld os) #[.agg #[.int .i64 0, .slice none 0 0], .slice none 0 0, .int .u8 0, .int .i64 0] rfl (by kernel_rfl) (by kernel_rfl) (by kernel_rfl)
      (OpenSpec.preRow_of_cond 8 hx (by kernel_rfl) (fun k hk => by cases hk) (by kernel_rfl) (laid_met os))) ?_
  intro W base args ds gs before hval hW _ _ hz hL _ _
  exact contract H enc W base args ds gs before hval hW hL hz
theorem said : Rows.FrameBackSaid :=
  OpenClaim.holds_of_cond 6 Tryd.f6 rfl rfl rfl rfl rfl rfl rfl ⟨rfl, rfl, rfl, rfl, rfl⟩ rfl rfl rfl rfl rfl (by kernel_rfl) Tryd.func6 (by kernel_rfl)
    (of_decide_eq_true (by kernel_rfl)) (by unfold Func.isWrapper; first | (rw [if_pos (by decide +kernel)]; kernel_rfl) | (rw [if_neg (by decide +kernel)]; exact ⟨rfl, rfl⟩))
    (fun os started H enc _ F => by rw [OpenClaim.pre_eq_preRow]; exact lifted os started H enc F)
theorem plain (f : FuncId) (fn : Func) (hf : Tryd.pinned.checked.prog.funcNamed "oxbow/oxbowlaw04.FrameBack" = some f) (hfn : Tryd.pinned.checked.prog.funcs[f]? = some fn) :
    true = Tryd.pinned.checked.prog.looks [] ∧ ∀ (j : Nat) t, fn.params[j]? = some t → Tryd.pinned.checked.prog.wantsStandIn t = false := by
  obtain rfl : f = 6 := Option.some.inj ((show Tryd.prog.funcNamed "oxbow/oxbowlaw04.FrameBack" = some 6 by kernel_rfl).symm.trans hf) |>.symm
  obtain rfl : fn = Tryd.f6 := (Option.some.inj (Tryd.func6.symm.trans hfn)).symm
  refine ⟨by kernel_rfl, fun j t ht => ?_⟩
  rw [Tryd.params6] at ht
  have hm : t ∈ #[24, 22, 5, 3] := Array.mem_of_getElem? ht
  have hall : (#[24, 22, 5, 3] : Array TypeId).toList.all (fun t => !Tryd.prog.wantsStandIn t) = true := by kernel_rfl
  have := List.all_eq_true.1 hall t (by simpa using hm)
  show Tryd.prog.wantsStandIn t = false
  simpa using this
/-- The statement: the tied card. -/
theorem proved : Rows.FrameBackCardSaid :=
  Claim7.holds_tied_plain_at .later [] _ _ _ _ said (fun _ h => by cases h) (by kernel_rfl) (fun _ h => by cases h) frameBack_row_tie rfl ⟨rfl, rfl⟩ (by kernel_rfl) rfl plain (by kernel_rfl)
#print axioms proved
end Go.Proofs.YtiococglmjjagaaDoor.frameBack
