/-
  errors.Is of no error, of a frame's own error, and the sentinel.
-/
import Derived.Test.YtalkglmneicpoaaDoorErrsAs
namespace Go.Proofs.YtalkglmneicpoaaDoor
set_option linter.unusedVariables false
set_option linter.unusedSimpArgs false
open Go.RowKit Go.Extern.Stop Go.Stop Go.Extern
/-- The sentinel: an error of errors.New's make, at p. -/
abbrev sentV (p : Addr) : Value := .iface 148 (.pointer (some p))
theorem Tryd.typeOfE (v : Value) (w : World) : (ReflectliteType.typeOf #[.iface 148 v]).run Tryd.prog w = .ok (.iface 130 (.agg #[hand 148])) w := by kernel_rfl
theorem Tryd.methodComparable (h : Value) (w : World) : (Go.method 280 130 (.agg #[h]) "Comparable").run Tryd.prog w = .ok (108, .agg #[h]) w := by kernel_rfl
theorem Tryd.compE (w : World) : (ReflectliteType.method (fun t => do Rtype.noPackHeld "Comparable" t; (fun a => Value.bool a.comparable) <$> typeInfo t) #[.agg #[hand 148]]).run Tryd.prog w = .ok (.bool true) w := by kernel_rfl
theorem Tryd.methodUnwrap (h : Value) (w : World) : (Go.method 280 102 h "Unwrap").run Tryd.prog w = .ok (100, h) w := by kernel_rfl
theorem Tryd.eqlTypes (x y : Value) (w : World) : (binOp .eql 76 (.iface 102 x) (.iface 148 y)).run Tryd.prog w = .ok (.bool false) w := run_eql_iface_types _ _ _ _ Tryd.underlying76 (by decide) w
theorem Tryd.eqlSame (a : Addr) (w : World) : (binOp .eql 76 (sentV a) (sentV a)).run Tryd.prog w = .ok (.bool true) w := by
  have h1 : ((Tryd.prog.info? 148).map (·.comparable)) = some true := by kernel_rfl
  have h2 : ((Tryd.prog.info? 168).map (fun _ => true)) = some true := by kernel_rfl
  obtain ⟨i, hi, hc⟩ := Option.map_eq_some_iff.1 h1
  obtain ⟨j, hj, _⟩ := Option.map_eq_some_iff.1 h2
  exact run_eql_iface_ptr_same w a Tryd.underlying76 Tryd.underlying148 hi hc hj
theorem Tryd.lacksIs (v : Value) (xT : TypeId) (w : World) : (Instr.typeAssert (.iface 102 v) xT 132 true).run Tryd.prog w = .ok (.tuple #[.nilIface, .bool false]) w :=
  run_typeAssert_lacksB Tryd.underlying132 (by kernel_rfl) (by kernel_rfl) v xT w
theorem Tryd.hasUnwrap (v : Value) (xT : TypeId) (w : World) : (Instr.typeAssert (.iface 102 v) xT 135 true).run Tryd.prog w = .ok (.tuple #[.iface 102 v, .bool true]) w :=
  run_typeAssert_hasB Tryd.underlying135 (by kernel_rfl) v xT w
set_option maxRecDepth 100000 in
set_option maxHeartbeats 4000000 in
theorem is_nil (p : Addr) (w : World) : Calls Tryd.prog 50 #[.nilIface, sentV p] w fun e w' => e = .returned (.bool false) ∧ w' = w := by
  have h1 := fun w : World => run_eql_iface_nil_left (P := Tryd.prog) (w := w) 148 (.pointer (some p)) Tryd.underlying76
  go_enter Tryd.func50, Tryd.ntmps50
  go_wp2
  go_ret
  exact ⟨rfl, rfl⟩
set_option maxRecDepth 100000 in
set_option maxHeartbeats 8000000 in
theorem is_short (no at_ : Int) (p : Addr) (w : World) : Calls Tryd.prog 50 #[wrongV no at_ (sentV p), sentV p] w fun e w' => e = .returned (.bool true) ∧ Below w.heap.size w w' := by
  have h10 := @run_callFunc_extern Tryd.prog 62 _ ReflectliteType.typeOf Tryd.func62 (by kernel_rfl) (by kernel_rfl) (by kernel_rfl) (by kernel_rfl)
  have h75 := @run_callFunc_extern Tryd.prog 108 _ (ReflectliteType.method fun t => do Rtype.noPackHeld "Comparable" t; pure (.bool (← typeInfo t).comparable)) Tryd.func108 (by kernel_rfl) (by kernel_rfl) (by kernel_rfl) (by kernel_rfl)
  have cE := Tryd.compE
  have tO := Tryd.typeOfE
  have mC := Tryd.methodComparable
  have mU := Tryd.methodUnwrap
  have q1 := Tryd.eqlTypes
  have q2 := Tryd.eqlSame
  have l1 := Tryd.lacksIs
  have l2 := Tryd.hasUnwrap
  go_enter Tryd.func50, Tryd.ntmps50
  go_wp2
  refine wp_loop_rounds 2 ?_
  rw [rounds_succ]
  go_wp2
  rw [rounds_succ]
  go_wp2
  go_ret
  exact ⟨rfl, by first | exact Below.refl _ _ | exact (Below.refl _ _).alloc (Nat.le_refl _) _⟩
set_option maxRecDepth 100000 in
set_option maxHeartbeats 8000000 in
theorem is_other (no at_ : Int) (p : Addr) (w : World) : Calls Tryd.prog 50 #[wrongV no at_ .nilIface, sentV p] w fun e w' => e = .returned (.bool false) ∧ Below w.heap.size w w' := by
  have h10 := @run_callFunc_extern Tryd.prog 62 _ ReflectliteType.typeOf Tryd.func62 (by kernel_rfl) (by kernel_rfl) (by kernel_rfl) (by kernel_rfl)
  have h75 := @run_callFunc_extern Tryd.prog 108 _ (ReflectliteType.method fun t => do Rtype.noPackHeld "Comparable" t; pure (.bool (← typeInfo t).comparable)) Tryd.func108 (by kernel_rfl) (by kernel_rfl) (by kernel_rfl) (by kernel_rfl)
  have cE := Tryd.compE
  have tO := Tryd.typeOfE
  have mC := Tryd.methodComparable
  have mU := Tryd.methodUnwrap
  have q1 := Tryd.eqlTypes
  have q2 := Tryd.eqlSame
  have l1 := Tryd.lacksIs
  have l2 := Tryd.hasUnwrap
  go_enter Tryd.func50, Tryd.ntmps50
  go_wp2
  refine wp_loop_rounds 2 ?_
  rw [rounds_succ]
  go_wp2
  go_ret
  exact ⟨rfl, by first | exact Below.refl _ _ | exact (Below.refl _ _).alloc (Nat.le_refl _) _⟩
end Go.Proofs.YtalkglmneicpoaaDoor
