/-
  The number of an error of a log: errors.As at 'failed' under 'appending' (one Unwrap).
-/
import Derived.Test.YtalkglmneicpoaaGreatDoorErrsAs
namespace Go.Proofs.YtalkglmneicpoaaGreatDoor
set_option linter.unusedVariables false
set_option linter.unusedSimpArgs false
open Go.RowKit Go.Extern.Stop Go.Stop Go.Extern
abbrev failV (no : Int) : Value := .iface 93 (.agg #[.int .i64 no])
abbrev appV (no : Int) : Value := .iface 121 (.agg #[failV no])
theorem Tryz.valueOfPW (t : Addr) (w : World) : (ReflectliteValue.unpack (.iface 95 (.pointer (some t)))).run Tryz.prog w
    = .ok (.agg #[hand 95, .pointer (some ⟨w.heap.size, 0, none⟩), .int .u64 150]) (w.alloc (.cells #[.pointer (some t)] 95)) := by kernel_rfl
theorem Tryz.typePW (a : Addr) (w : World) : (ReflectliteValue.methodAny (ReflectliteValue.valueError "reflectlite.Value.Type" 0) (fun t _ _ _ => ReflectliteType.toType t) #[.agg #[hand 95, .pointer (some a), .int .u64 150]]).run Tryz.prog w
    = .ok (.iface 129 (.agg #[hand 95])) w := by kernel_rfl
theorem Tryz.kindPW (w : World) : ((ReflectliteType.abiMethod fun t => (fun a : Nat => Value.int IntKind.u8 (a : Int)) <$> Rtype.kind t) #[hand 95]).run Tryz.prog w = .ok (.int .u8 22) w := by kernel_rfl
theorem Tryz.kindSW (w : World) : ((ReflectliteType.abiMethod fun t => (fun a : Nat => Value.int IntKind.u8 (a : Int)) <$> Rtype.kind t) #[hand 93]).run Tryz.prog w = .ok (.int .u8 25) w := by kernel_rfl
theorem Tryz.partsPW (a : Addr) (w : World) : (ReflectliteValue.parts (.agg #[hand 95, .pointer (some a), .int .u64 150])).run Tryz.prog w = .ok (some (95, a, 150)) w := by kernel_rfl
theorem Tryz.isNilPW (a p : Addr) (W : World) (ha : W.cell? a = some (.pointer (some p))) :
    (ReflectliteValue.method (ReflectliteValue.valueError "reflectlite.Value.IsNil" 0) ReflectliteValue.isNil #[.agg #[hand 95, .pointer (some a), .int .u64 150]]).run Tryz.prog W = .ok (.bool false) W := by
  rw [rlm]
  simp only [Sem.run_bind, Tryz.partsPW, Result.andThen]
  simp [ReflectliteValue.isNil, loadVar, isAgg, underlying, Tryz.underlying95, ha, Result.andThen]
theorem Tryz.elemPW (w : World) : (ReflectliteType.method ReflectliteType.elem #[.agg #[hand 95]]).run Tryz.prog w = .ok (.iface 129 (.agg #[hand 93])) w := by kernel_rfl
theorem Tryz.implementsSW (w : World) : (ReflectliteType.relation "Implements" ReflectliteType.implements_ #[.agg #[hand 93], .iface 129 (.agg #[hand 75])]).run Tryz.prog w = .ok (.bool true) w := by kernel_rfl
theorem Tryz.typeOfApp (v : Value) (w : World) : (ReflectliteType.typeOf #[.iface 121 v]).run Tryz.prog w = .ok (.iface 129 (.agg #[hand 121])) w := by kernel_rfl
theorem Tryz.typeOfFail (v : Value) (w : World) : (ReflectliteType.typeOf #[.iface 93 v]).run Tryz.prog w = .ok (.iface 129 (.agg #[hand 93])) w := by kernel_rfl
theorem Tryz.assignableApp (w : World) : (ReflectliteType.relation "AssignableTo" ReflectliteType.assignableTo #[.agg #[hand 121], .iface 129 (.agg #[hand 93])]).run Tryz.prog w = .ok (.bool false) w := by kernel_rfl
theorem Tryz.assignableFail (w : World) : (ReflectliteType.relation "AssignableTo" ReflectliteType.assignableTo #[.agg #[hand 93], .iface 129 (.agg #[hand 93])]).run Tryz.prog w = .ok (.bool true) w := by kernel_rfl
theorem Tryz.valueOfFail (x : Value) (w : World) : (ReflectliteValue.unpack (.iface 93 (.agg #[x]))).run Tryz.prog w
    = .ok (.agg #[hand 93, .pointer (some ⟨w.heap.size, 0, none⟩), .int .u64 153]) (w.alloc (.cells #[x] 93)) := by kernel_rfl
theorem Tryz.elemOfPW (w : World) : (Rtype.elem? 95).run Tryz.prog w = .ok (some 93) w := by kernel_rfl
theorem Tryz.mkSW (p : Addr) (w : World) : (ReflectliteValue.mk 93 p ReflectliteValue.flagAddr).run Tryz.prog w = .ok (.agg #[hand 93, .pointer (some p), .int .u64 409]) w := by kernel_rfl
theorem Tryz.elemVPW (a p : Addr) (W : World) (ha : W.cell? a = some (.pointer (some p))) :
    (ReflectliteValue.method (ReflectliteValue.valueError "reflectlite.Value.Elem" 0) ReflectliteValue.elem #[.agg #[hand 95, .pointer (some a), .int .u64 150]]).run Tryz.prog W
      = .ok (.agg #[hand 93, .pointer (some p), .int .u64 409]) W := by
  rw [rlm]
  simp only [Sem.run_bind, Tryz.partsPW, Result.andThen]
  simp [ReflectliteValue.elem, loadVar, isAgg, underlying, Tryz.underlying95, ha, Result.andThen, Tryz.elemOfPW, Tryz.mkSW]
theorem Tryz.partsSaW (a : Addr) (w : World) : (ReflectliteValue.parts (.agg #[hand 93, .pointer (some a), .int .u64 409])).run Tryz.prog w = .ok (some (93, a, 409)) w := by kernel_rfl
theorem Tryz.partsSW (a : Addr) (w : World) : (ReflectliteValue.parts (.agg #[hand 93, .pointer (some a), .int .u64 153])).run Tryz.prog w = .ok (some (93, a, 153)) w := by kernel_rfl
theorem Tryz.directSW (w : World) : (Rtype.directlyAssignable 93 93).run Tryz.prog w = .ok true w := by kernel_rfl
theorem Tryz.setSW (g b : Nat) (C C0 : Array Value) (hC : C.size = 1) (h0 : C0.size = 1) (h1 : C.all (·.oneCell') = true) (W : World) (hb : Blk W b 93 C) (hg : Blk W g 93 C0) :
    (ReflectliteValue.set #[.agg #[hand 93, .pointer (some ⟨g, 0, none⟩), .int .u64 409], .agg #[hand 93, .pointer (some ⟨b, 0, none⟩), .int .u64 153]]).run Tryz.prog W
      = .ok (.tuple #[]) (W.setRow g C) := by
  have hi : (Tryz.prog.info? 93).map (·.size) = some 1 := by kernel_rfl
  have hl := run_loadVar_row (P := Tryz.prog) W b 93 93 C (0, 0) _ hb Tryz.underlying93 rfl (by rw [hi, hC])
  have hs := run_storeVar_row (P := Tryz.prog) W g 93 93 C0 C hg (by rw [hi, hC]) (by rw [h0, hC]) h1
  rw [rls]
  simp only [Sem.run_bind, Tryz.partsSaW, Tryz.partsSW, Result.andThen]
  simp [ReflectliteValue.flagAddr, hl, hs, Result.andThen, Tryz.directSW]
theorem Tryz.methodUnwrapApp (h : Value) (w : World) : (Go.method 279 121 h "Unwrap").run Tryz.prog w = .ok (106, h) w := by kernel_rfl
theorem Tryz.lacksAsApp (v : Value) (xT : TypeId) (w : World) : (Instr.typeAssert (.iface 121 v) xT 141 true).run Tryz.prog w = .ok (.tuple #[.nilIface, .bool false]) w :=
  run_typeAssert_lacksB Tryz.underlying141 (by kernel_rfl) (by kernel_rfl) v xT w
theorem Tryz.hasUnwrapApp (v : Value) (xT : TypeId) (w : World) : (Instr.typeAssert (.iface 121 v) xT 134 true).run Tryz.prog w = .ok (.tuple #[.iface 121 v, .bool true]) w :=
  run_typeAssert_hasB Tryz.underlying134 (by kernel_rfl) v xT w
set_option maxRecDepth 100000 in
set_option maxHeartbeats 8000000 in
theorem was_hit (no : Int) (g : Nat) (C0 : Array Value) (h0 : C0.size = 1) (w : World) (hH : HandOk w) (hg : Blk w g 93 C0) :
    Calls Tryz.prog 52 #[appV no, .iface 95 (.pointer (some ⟨g, 0, none⟩))] w fun ev w' => ev = .returned (.bool true) ∧ ∃ W4, Below w.heap.size w W4 ∧ w' = W4.setRow g #[.int .i64 no] := by
  have h6 := @run_callFunc_extern Tryz.prog 65 _ (fun args => ReflectliteValue.unpack (args.getD 0 (.tuple #[]))) Tryz.func65 (by kernel_rfl) (by kernel_rfl) (by kernel_rfl) (by kernel_rfl)
  have h7 := @run_callFunc_extern Tryz.prog 66 _ (ReflectliteValue.methodAny (ReflectliteValue.valueError "reflectlite.Value.Type" 0) (fun t _ _ _ => ReflectliteType.toType t)) Tryz.func66 (by kernel_rfl) (by kernel_rfl) (by kernel_rfl) (by kernel_rfl)
  have h8 := @run_callFunc_extern Tryz.prog 67 _ (ReflectliteValue.method (ReflectliteValue.valueError "reflectlite.Value.IsNil" 0) ReflectliteValue.isNil) Tryz.func67 (by kernel_rfl) (by kernel_rfl) (by kernel_rfl) (by kernel_rfl)
  have h27 := @run_callFunc_extern Tryz.prog 96 _ (ReflectliteType.abiMethod fun t => do pure (.int .u8 (← Rtype.kind t))) Tryz.func96 (by kernel_rfl) (by kernel_rfl) (by kernel_rfl) (by kernel_rfl)
  have h37 := @run_callFunc_extern Tryz.prog 110 _ (ReflectliteType.method ReflectliteType.elem) Tryz.func110 (by kernel_rfl) (by kernel_rfl) (by kernel_rfl) (by kernel_rfl)
  have h38 := @run_callFunc_extern Tryz.prog 111 _ (ReflectliteType.relation "Implements" ReflectliteType.implements_) Tryz.func111 (by kernel_rfl) (by kernel_rfl) (by kernel_rfl) (by kernel_rfl)
  have h10 := @run_callFunc_extern Tryz.prog 63 _ ReflectliteType.typeOf Tryz.func63 (by kernel_rfl) (by kernel_rfl) (by kernel_rfl) (by kernel_rfl)
  have h35 := @run_callFunc_extern Tryz.prog 108 _ (ReflectliteType.relation "AssignableTo" ReflectliteType.assignableTo) Tryz.func108 (by kernel_rfl) (by kernel_rfl) (by kernel_rfl) (by kernel_rfl)
  have h11 := @run_callFunc_extern Tryz.prog 75 _ (ReflectliteValue.method (ReflectliteValue.valueError "reflectlite.Value.Elem" 0) ReflectliteValue.elem) Tryz.func75 (by kernel_rfl) (by kernel_rfl) (by kernel_rfl) (by kernel_rfl)
  have h12 := @run_callFunc_extern Tryz.prog 76 _ ReflectliteValue.set Tryz.func76 (by kernel_rfl) (by kernel_rfl) (by kernel_rfl) (by kernel_rfl)
  have tA := Tryz.typeOfApp
  have tF := Tryz.typeOfFail
  have mA := Tryz.methodAssignableTo
  have aA := Tryz.assignableApp
  have aF := Tryz.assignableFail
  have lA := Tryz.lacksAsApp
  have hU := Tryz.hasUnwrapApp
  have mU := Tryz.methodUnwrapApp
  have v25 := Tryz.valueOfFail
  have f6 := Tryz.valueOfPW
  have f7 := Tryz.typePW
  have mK := Tryz.methodKind
  have mE := Tryz.methodElem
  have mI := Tryz.methodImplements
  have k27 := Tryz.kindPW
  have k25 := Tryz.kindSW
  have e27 := Tryz.elemPW
  have i25 := Tryz.implementsSW
  have hgl := hg.lt
  have hall : (#[Value.int .i64 no] : Array Value).all (·.oneCell') = true := by
    rw [Array.all_eq_true_iff_forall_mem]
    intro v hv
    simp only [List.mem_toArray, List.mem_cons, List.mem_nil_iff, or_false] at hv
    subst hv
    rfl
  let w1 := w.alloc (.cells #[.pointer (some ⟨g, 0, none⟩)] 95)
  let C2 : Array Value := #[hand 95, .pointer (some ⟨w.heap.size, 0, none⟩), .int .u64 150]
  let w2 := w1.alloc (.cells C2 112)
  let w3 := w2.alloc (.cells C2 112)
  let w4 := w3.alloc (.cells #[failV no] 121)
  let w5 := w4.alloc (.cells #[.int .i64 no] 93)
  have n8 := Tryz.isNilPW ⟨w.heap.size, 0, none⟩ ⟨g, 0, none⟩ w2 (by simp [w1, w2])
  have hg2 : w2.cell? ⟨1, 0, none⟩ = some (.iface 129 (.agg #[hand 75])) := (hH.alloc _).alloc _
  have el := Tryz.elemVPW ⟨w.heap.size, 0, none⟩ ⟨g, 0, none⟩ w4 (by simp only [w4, w3]; rw [World.cell?_alloc_lt _ _ ⟨w.heap.size, 0, none⟩ (by simp [w1, w2]; omega), World.cell?_alloc_lt _ _ ⟨w.heap.size, 0, none⟩ (by simp [w1, w2]; omega)]; simp [w1, w2])
  have st := Tryz.setSW g (w.heap.size + 1 + 1 + 1 + 1) #[.int .i64 no] C0 rfl h0 hall w5 (by have := Blk.new w4 93 #[.int .i64 no]; simpa [w4, w3, w2, w1] using this) (((((hg.alloc _).alloc _).alloc _).alloc _).alloc _)
  have hbw : Hid (Below w.heap.size w w5) := (((((Below.refl _ _).alloc (Nat.le_refl _) _).alloc (by simp [w1]) _).alloc (by simp [w1, w2]; omega) _).alloc (by simp [w1, w2, w3]; omega) _).alloc (by simp [w1, w2, w3, w4]; omega) _
  simp only [w5, w4, w3, w2, w1, C2] at n8 hg2 el st hbw
  clear hH hg hall w5 w4 w3 w2 C2 w1
  go_enter Tryz.func52, Tryz.ntmps52
  go_wp2
  refine wp_loop_rounds 2 ?_
  rw [rounds_succ]
  go_wp2
  rw [rounds_succ]
  go_wp2
  go_ret
  exact ⟨rfl, _, hbw.out, rfl⟩
theorem wnumber_nil (w : World) : Calls Tryz.prog 33 #[.nilIface] w fun e w' => e = .returned (.int .i64 0) ∧ Below w.heap.size w w' := by
  have hb : Hid (Below w.heap.size w (w.alloc (.cells #[.int .i64 0] 93))) := (Below.refl _ _).alloc (Nat.le_refl _) _
  go_enter Tryz.func33, Tryz.ntmps33
  go_wp2_with (go_at_call 52; refine (as_nil _ _).mono ?_; rintro e w' ⟨rfl, rfl⟩)
  go_ret
  exact ⟨rfl, hb.out⟩
set_option maxRecDepth 100000 in
set_option maxHeartbeats 4000000 in
theorem wnumber_any (no : Int) (w : World) (hH : HandOk w) : Calls Tryz.prog 33 #[appV no] w fun e w' => e = .returned (.int .i64 no) ∧ Below w.heap.size w w' := by
  have C1 := Lib.hid (was_hit no w.heap.size _ rfl _ (hH.alloc (.cells #[.int .i64 0] 93)) (Blk.new w 93 #[.int .i64 0]))
  clear hH
  go_enter Tryz.func33, Tryz.ntmps33
  go_wp2_with fail
  go_must (refine C1.out.mono ?_)
  rintro e w5 ⟨rfl, w4, hb4, rfl⟩
  have k4 : Blk w4 w.heap.size 93 #[.int .i64 0] := (Blk.new w 93 #[.int .i64 0]).below hb4 (by simp)
  have hc : (w4.setRow w.heap.size #[.int .i64 no]).cell? ⟨w.heap.size, 0, none⟩ = some (.int .i64 no) := (setRow_blk k4 _).cell 0
  have hb : Hid (Below w.heap.size w (w4.setRow w.heap.size #[.int .i64 no])) :=
    ((Only.refl (fun i => w.heap.size ≤ i) w).below (((Below.refl _ _).alloc (Nat.le_refl _) _).trans (hb4.mono (by simp)))).to (fun i hi => hi) (Nat.le_refl _) |>.trans ((only_setRow (Only.refl (fun i => i = w.heap.size) w4) (.inl rfl) _).to (fun i hi => by omega) (by have := hb4.size; simp at this; omega))
  clear k4 C1 hb4
  generalize w4.setRow w.heap.size #[.int .i64 no] = w5 at *
  go_wp2_with fail
  go_ret
  exact ⟨rfl, hb.out⟩
/-- A number as an error. -/
def chkV (E : Nat) : Value := if E = 0 then .nilIface else appV E
theorem check_any (E : Nat) (w : World) : Calls Tryz.prog 54 #[.int .i64 (E : Int)] w fun e w' => e = .returned (chkV E) ∧ w = w' := by
  by_cases h : E = 0
  · subst h
    go_enter Tryz.func54, Tryz.ntmps54
    go_wp2_with fail
    go_ret
    exact ⟨rfl, rfl⟩
  · have hE : ((E : Int) == 0) = false := by simp; omega
    have hc : Hid (chkV E = appV E) := by show _ = _; unfold chkV; rw [if_neg h]
    rw [hc.out]
    clear h
    go_enter Tryz.func54, Tryz.ntmps54
    go_wp2_with fail
    go_ret
    exact ⟨rfl, rfl⟩
theorem wnumber_chk (E : Nat) (w : World) (hH : HandOk w) : Calls Tryz.prog 33 #[chkV E] w fun e w' => e = .returned (.int .i64 (E : Int)) ∧ Below w.heap.size w w' := by
  unfold chkV
  by_cases h : E = 0
  · rw [if_pos h, h]; exact wnumber_nil w
  · rw [if_neg h]; exact wnumber_any E w hH
end Go.Proofs.YtalkglmneicpoaaGreatDoor
