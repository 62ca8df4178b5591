/-
  The number of an error of a log: errors.As at 'failed' under 'appending' (one Unwrap).
-/
import Derived.Test.YtalkglmneicpoaaDoorErrsAs
namespace Go.Proofs.YtalkglmneicpoaaDoor
set_option linter.unusedVariables false
set_option linter.unusedSimpArgs false
open Go.RowKit Go.Extern.Stop Go.Stop Go.Extern
abbrev failV (no : Int) : Value := .iface 94 (.agg #[.int .i64 no])
abbrev appV (no : Int) : Value := .iface 122 (.agg #[failV no])
theorem Tryd.valueOfPW (t : Addr) (w : World) : (ReflectliteValue.unpack (.iface 96 (.pointer (some t)))).run Tryd.prog w
    = .ok (.agg #[hand 96, .pointer (some ⟨w.heap.size, 0, none⟩), .int .u64 150]) (w.alloc (.cells #[.pointer (some t)] 96)) := by kernel_rfl
theorem Tryd.typePW (a : Addr) (w : World) : (ReflectliteValue.methodAny (ReflectliteValue.valueError "reflectlite.Value.Type" 0) (fun t _ _ _ => ReflectliteType.toType t) #[.agg #[hand 96, .pointer (some a), .int .u64 150]]).run Tryd.prog w
    = .ok (.iface 130 (.agg #[hand 96])) w := by kernel_rfl
theorem Tryd.kindPW (w : World) : ((ReflectliteType.abiMethod fun t => (fun a : Nat => Value.int IntKind.u8 (a : Int)) <$> Rtype.kind t) #[hand 96]).run Tryd.prog w = .ok (.int .u8 22) w := by kernel_rfl
theorem Tryd.kindSW (w : World) : ((ReflectliteType.abiMethod fun t => (fun a : Nat => Value.int IntKind.u8 (a : Int)) <$> Rtype.kind t) #[hand 94]).run Tryd.prog w = .ok (.int .u8 25) w := by kernel_rfl
theorem Tryd.partsPW (a : Addr) (w : World) : (ReflectliteValue.parts (.agg #[hand 96, .pointer (some a), .int .u64 150])).run Tryd.prog w = .ok (some (96, a, 150)) w := by kernel_rfl
theorem Tryd.isNilPW (a p : Addr) (W : World) (ha : W.cell? a = some (.pointer (some p))) :
    (ReflectliteValue.method (ReflectliteValue.valueError "reflectlite.Value.IsNil" 0) ReflectliteValue.isNil #[.agg #[hand 96, .pointer (some a), .int .u64 150]]).run Tryd.prog W = .ok (.bool false) W := by
  rw [rlm]
  simp only [Sem.run_bind, Tryd.partsPW, Result.andThen]
  simp [ReflectliteValue.isNil, loadVar, isAgg, underlying, Tryd.underlying96, ha, Result.andThen]
theorem Tryd.elemPW (w : World) : (ReflectliteType.method ReflectliteType.elem #[.agg #[hand 96]]).run Tryd.prog w = .ok (.iface 130 (.agg #[hand 94])) w := by kernel_rfl
theorem Tryd.implementsSW (w : World) : (ReflectliteType.relation "Implements" ReflectliteType.implements_ #[.agg #[hand 94], .iface 130 (.agg #[hand 76])]).run Tryd.prog w = .ok (.bool true) w := by kernel_rfl
theorem Tryd.typeOfApp (v : Value) (w : World) : (ReflectliteType.typeOf #[.iface 122 v]).run Tryd.prog w = .ok (.iface 130 (.agg #[hand 122])) w := by kernel_rfl
theorem Tryd.typeOfFail (v : Value) (w : World) : (ReflectliteType.typeOf #[.iface 94 v]).run Tryd.prog w = .ok (.iface 130 (.agg #[hand 94])) w := by kernel_rfl
theorem Tryd.assignableApp (w : World) : (ReflectliteType.relation "AssignableTo" ReflectliteType.assignableTo #[.agg #[hand 122], .iface 130 (.agg #[hand 94])]).run Tryd.prog w = .ok (.bool false) w := by kernel_rfl
theorem Tryd.assignableFail (w : World) : (ReflectliteType.relation "AssignableTo" ReflectliteType.assignableTo #[.agg #[hand 94], .iface 130 (.agg #[hand 94])]).run Tryd.prog w = .ok (.bool true) w := by kernel_rfl
theorem Tryd.valueOfFail (x : Value) (w : World) : (ReflectliteValue.unpack (.iface 94 (.agg #[x]))).run Tryd.prog w
    = .ok (.agg #[hand 94, .pointer (some ⟨w.heap.size, 0, none⟩), .int .u64 153]) (w.alloc (.cells #[x] 94)) := by kernel_rfl
theorem Tryd.elemOfPW (w : World) : (Rtype.elem? 96).run Tryd.prog w = .ok (some 94) w := by kernel_rfl
theorem Tryd.mkSW (p : Addr) (w : World) : (ReflectliteValue.mk 94 p ReflectliteValue.flagAddr).run Tryd.prog w = .ok (.agg #[hand 94, .pointer (some p), .int .u64 409]) w := by kernel_rfl
theorem Tryd.elemVPW (a p : Addr) (W : World) (ha : W.cell? a = some (.pointer (some p))) :
    (ReflectliteValue.method (ReflectliteValue.valueError "reflectlite.Value.Elem" 0) ReflectliteValue.elem #[.agg #[hand 96, .pointer (some a), .int .u64 150]]).run Tryd.prog W
      = .ok (.agg #[hand 94, .pointer (some p), .int .u64 409]) W := by
  rw [rlm]
  simp only [Sem.run_bind, Tryd.partsPW, Result.andThen]
  simp [ReflectliteValue.elem, loadVar, isAgg, underlying, Tryd.underlying96, ha, Result.andThen, Tryd.elemOfPW, Tryd.mkSW]
theorem Tryd.partsSaW (a : Addr) (w : World) : (ReflectliteValue.parts (.agg #[hand 94, .pointer (some a), .int .u64 409])).run Tryd.prog w = .ok (some (94, a, 409)) w := by kernel_rfl
theorem Tryd.partsSW (a : Addr) (w : World) : (ReflectliteValue.parts (.agg #[hand 94, .pointer (some a), .int .u64 153])).run Tryd.prog w = .ok (some (94, a, 153)) w := by kernel_rfl
theorem Tryd.directSW (w : World) : (Rtype.directlyAssignable 94 94).run Tryd.prog w = .ok true w := by kernel_rfl
theorem Tryd.setSW (g b : Nat) (C C0 : Array Value) (hC : C.size = 1) (h0 : C0.size = 1) (h1 : C.all (·.oneCell') = true) (W : World) (hb : Blk W b 94 C) (hg : Blk W g 94 C0) :
    (ReflectliteValue.set #[.agg #[hand 94, .pointer (some ⟨g, 0, none⟩), .int .u64 409], .agg #[hand 94, .pointer (some ⟨b, 0, none⟩), .int .u64 153]]).run Tryd.prog W
      = .ok (.tuple #[]) (W.setRow g C) := by
  have hi : (Tryd.prog.info? 94).map (·.size) = some 1 := by kernel_rfl
  have hl := run_loadVar_row (P := Tryd.prog) W b 94 94 C (0, 0) _ hb Tryd.underlying94 rfl (by rw [hi, hC])
  have hs := run_storeVar_row (P := Tryd.prog) W g 94 94 C0 C hg (by rw [hi, hC]) (by rw [h0, hC]) h1
  rw [rls]
  simp only [Sem.run_bind, Tryd.partsSaW, Tryd.partsSW, Result.andThen]
  simp [ReflectliteValue.flagAddr, hl, hs, Result.andThen, Tryd.directSW]
theorem Tryd.methodUnwrapApp (h : Value) (w : World) : (Go.method 280 122 h "Unwrap").run Tryd.prog w = .ok (105, h) w := by kernel_rfl
theorem Tryd.lacksAsApp (v : Value) (xT : TypeId) (w : World) : (Instr.typeAssert (.iface 122 v) xT 142 true).run Tryd.prog w = .ok (.tuple #[.nilIface, .bool false]) w :=
  run_typeAssert_lacksB Tryd.underlying142 (by kernel_rfl) (by kernel_rfl) v xT w
theorem Tryd.hasUnwrapApp (v : Value) (xT : TypeId) (w : World) : (Instr.typeAssert (.iface 122 v) xT 135 true).run Tryd.prog w = .ok (.tuple #[.iface 122 v, .bool true]) w :=
  run_typeAssert_hasB Tryd.underlying135 (by kernel_rfl) v xT w
set_option maxRecDepth 100000 in
set_option maxHeartbeats 8000000 in
theorem was_hit (no : Int) (g : Nat) (C0 : Array Value) (h0 : C0.size = 1) (w : World) (hH : HandOk w) (hg : Blk w g 94 C0) :
    Calls Tryd.prog 51 #[appV no, .iface 96 (.pointer (some ⟨g, 0, none⟩))] w fun ev w' => ev = .returned (.bool true) ∧ ∃ W4, Below w.heap.size w W4 ∧ w' = W4.setRow g #[.int .i64 no] := by
  have h6 := @run_callFunc_extern Tryd.prog 64 _ (fun args => ReflectliteValue.unpack (args.getD 0 (.tuple #[]))) Tryd.func64 (by kernel_rfl) (by kernel_rfl) (by kernel_rfl) (by kernel_rfl)
  have h7 := @run_callFunc_extern Tryd.prog 65 _ (ReflectliteValue.methodAny (ReflectliteValue.valueError "reflectlite.Value.Type" 0) (fun t _ _ _ => ReflectliteType.toType t)) Tryd.func65 (by kernel_rfl) (by kernel_rfl) (by kernel_rfl) (by kernel_rfl)
  have h8 := @run_callFunc_extern Tryd.prog 66 _ (ReflectliteValue.method (ReflectliteValue.valueError "reflectlite.Value.IsNil" 0) ReflectliteValue.isNil) Tryd.func66 (by kernel_rfl) (by kernel_rfl) (by kernel_rfl) (by kernel_rfl)
  have h27 := @run_callFunc_extern Tryd.prog 95 _ (ReflectliteType.abiMethod fun t => do pure (.int .u8 (← Rtype.kind t))) Tryd.func95 (by kernel_rfl) (by kernel_rfl) (by kernel_rfl) (by kernel_rfl)
  have h37 := @run_callFunc_extern Tryd.prog 109 _ (ReflectliteType.method ReflectliteType.elem) Tryd.func109 (by kernel_rfl) (by kernel_rfl) (by kernel_rfl) (by kernel_rfl)
  have h38 := @run_callFunc_extern Tryd.prog 110 _ (ReflectliteType.relation "Implements" ReflectliteType.implements_) Tryd.func110 (by kernel_rfl) (by kernel_rfl) (by kernel_rfl) (by kernel_rfl)
  have h10 := @run_callFunc_extern Tryd.prog 62 _ ReflectliteType.typeOf Tryd.func62 (by kernel_rfl) (by kernel_rfl) (by kernel_rfl) (by kernel_rfl)
  have h35 := @run_callFunc_extern Tryd.prog 107 _ (ReflectliteType.relation "AssignableTo" ReflectliteType.assignableTo) Tryd.func107 (by kernel_rfl) (by kernel_rfl) (by kernel_rfl) (by kernel_rfl)
  have h11 := @run_callFunc_extern Tryd.prog 74 _ (ReflectliteValue.method (ReflectliteValue.valueError "reflectlite.Value.Elem" 0) ReflectliteValue.elem) Tryd.func74 (by kernel_rfl) (by kernel_rfl) (by kernel_rfl) (by kernel_rfl)
  have h12 := @run_callFunc_extern Tryd.prog 75 _ ReflectliteValue.set Tryd.func75 (by kernel_rfl) (by kernel_rfl) (by kernel_rfl) (by kernel_rfl)
  have tA := Tryd.typeOfApp
  have tF := Tryd.typeOfFail
  have mA := Tryd.methodAssignableTo
  have aA := Tryd.assignableApp
  have aF := Tryd.assignableFail
  have lA := Tryd.lacksAsApp
  have hU := Tryd.hasUnwrapApp
  have mU := Tryd.methodUnwrapApp
  have v25 := Tryd.valueOfFail
  have f6 := Tryd.valueOfPW
  have f7 := Tryd.typePW
  have mK := Tryd.methodKind
  have mE := Tryd.methodElem
  have mI := Tryd.methodImplements
  have k27 := Tryd.kindPW
  have k25 := Tryd.kindSW
  have e27 := Tryd.elemPW
  have i25 := Tryd.implementsSW
  have hgl := hg.lt
  have hall : (#[Value.int .i64 no] : Array Value).all (·.oneCell') = true := by
    rw [Array.all_eq_true_iff_forall_mem]
    intro v hv
    simp only [List.mem_toArray, List.mem_cons, List.mem_nil_iff, or_false] at hv
    subst hv
    rfl
  let w1 := w.alloc (.cells #[.pointer (some ⟨g, 0, none⟩)] 96)
  let C2 : Array Value := #[hand 96, .pointer (some ⟨w.heap.size, 0, none⟩), .int .u64 150]
  let w2 := w1.alloc (.cells C2 113)
  let w3 := w2.alloc (.cells C2 113)
  let w4 := w3.alloc (.cells #[failV no] 122)
  let w5 := w4.alloc (.cells #[.int .i64 no] 94)
  have n8 := Tryd.isNilPW ⟨w.heap.size, 0, none⟩ ⟨g, 0, none⟩ w2 (by simp [w1, w2])
  have hg2 : w2.cell? ⟨1, 0, none⟩ = some (.iface 130 (.agg #[hand 76])) := (hH.alloc _).alloc _
  have el := Tryd.elemVPW ⟨w.heap.size, 0, none⟩ ⟨g, 0, none⟩ w4 (by simp only [w4, w3]; rw [World.cell?_alloc_lt _ _ ⟨w.heap.size, 0, none⟩ (by simp [w1, w2]; omega), World.cell?_alloc_lt _ _ ⟨w.heap.size, 0, none⟩ (by simp [w1, w2]; omega)]; simp [w1, w2])
  have st := Tryd.setSW g (w.heap.size + 1 + 1 + 1 + 1) #[.int .i64 no] C0 rfl h0 hall w5 (by have := Blk.new w4 94 #[.int .i64 no]; simpa [w4, w3, w2, w1] using this) (((((hg.alloc _).alloc _).alloc _).alloc _).alloc _)
  have hbw : Hid (Below w.heap.size w w5) := (((((Below.refl _ _).alloc (Nat.le_refl _) _).alloc (by simp [w1]) _).alloc (by simp [w1, w2]; omega) _).alloc (by simp [w1, w2, w3]; omega) _).alloc (by simp [w1, w2, w3, w4]; omega) _
  simp only [w5, w4, w3, w2, w1, C2] at n8 hg2 el st hbw
  clear hH hg hall w5 w4 w3 w2 C2 w1
  go_enter Tryd.func51, Tryd.ntmps51
  go_wp2
  refine wp_loop_rounds 2 ?_
  rw [rounds_succ]
  go_wp2
  rw [rounds_succ]
  go_wp2
  go_ret
  exact ⟨rfl, _, hbw.out, rfl⟩
theorem wnumber_nil (w : World) : Calls Tryd.prog 32 #[.nilIface] w fun e w' => e = .returned (.int .i64 0) ∧ Below w.heap.size w w' := by
  have hb : Hid (Below w.heap.size w (w.alloc (.cells #[.int .i64 0] 94))) := (Below.refl _ _).alloc (Nat.le_refl _) _
  go_enter Tryd.func32, Tryd.ntmps32
  go_wp2_with (go_at_call 51; refine (as_nil _ _).mono ?_; rintro e w' ⟨rfl, rfl⟩)
  go_ret
  exact ⟨rfl, hb.out⟩
set_option maxRecDepth 100000 in
set_option maxHeartbeats 4000000 in
theorem wnumber_any (no : Int) (w : World) (hH : HandOk w) : Calls Tryd.prog 32 #[appV no] w fun e w' => e = .returned (.int .i64 no) ∧ Below w.heap.size w w' := by
  have C1 := Lib.hid (was_hit no w.heap.size _ rfl _ (hH.alloc (.cells #[.int .i64 0] 94)) (Blk.new w 94 #[.int .i64 0]))
  clear hH
  go_enter Tryd.func32, Tryd.ntmps32
  go_wp2_with fail
  go_must (refine C1.out.mono ?_)
  rintro e w5 ⟨rfl, w4, hb4, rfl⟩
  have k4 : Blk w4 w.heap.size 94 #[.int .i64 0] := (Blk.new w 94 #[.int .i64 0]).below hb4 (by simp)
  have hc : (w4.setRow w.heap.size #[.int .i64 no]).cell? ⟨w.heap.size, 0, none⟩ = some (.int .i64 no) := (setRow_blk k4 _).cell 0
  have hb : Hid (Below w.heap.size w (w4.setRow w.heap.size #[.int .i64 no])) :=
    ((Only.refl (fun i => w.heap.size ≤ i) w).below (((Below.refl _ _).alloc (Nat.le_refl _) _).trans (hb4.mono (by simp)))).to (fun i hi => hi) (Nat.le_refl _) |>.trans ((only_setRow (Only.refl (fun i => i = w.heap.size) w4) (.inl rfl) _).to (fun i hi => by omega) (by have := hb4.size; simp at this; omega))
  clear k4 C1 hb4
  generalize w4.setRow w.heap.size #[.int .i64 no] = w5 at *
  go_wp2_with fail
  go_ret
  exact ⟨rfl, hb.out⟩
/-- A number as an error. -/
def chkV (E : Nat) : Value := if E = 0 then .nilIface else appV E
theorem check_any (E : Nat) (w : World) : Calls Tryd.prog 53 #[.int .i64 (E : Int)] w fun e w' => e = .returned (chkV E) ∧ w = w' := by
  by_cases h : E = 0
  · subst h
    go_enter Tryd.func53, Tryd.ntmps53
    go_wp2_with fail
    go_ret
    exact ⟨rfl, rfl⟩
  · have hE : ((E : Int) == 0) = false := by simp; omega
    have hc : Hid (chkV E = appV E) := by show _ = _; unfold chkV; rw [if_neg h]
    rw [hc.out]
    clear h
    go_enter Tryd.func53, Tryd.ntmps53
    go_wp2_with fail
    go_ret
    exact ⟨rfl, rfl⟩
theorem wnumber_chk (E : Nat) (w : World) (hH : HandOk w) : Calls Tryd.prog 32 #[chkV E] w fun e w' => e = .returned (.int .i64 (E : Int)) ∧ Below w.heap.size w w' := by
  unfold chkV
  by_cases h : E = 0
  · rw [if_pos h, h]; exact wnumber_nil w
  · rw [if_neg h]; exact wnumber_any E w hH
end Go.Proofs.YtalkglmneicpoaaDoor
