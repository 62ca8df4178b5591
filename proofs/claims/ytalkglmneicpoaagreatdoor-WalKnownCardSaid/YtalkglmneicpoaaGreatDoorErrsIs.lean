/-
  errors.Is of no error, of a frame's own error, and the sentinel.
-/
import Derived.Test.YtalkglmneicpoaaGreatDoorErrsAs
namespace Go.Proofs.YtalkglmneicpoaaGreatDoor
set_option linter.unusedVariables false
set_option linter.unusedSimpArgs false
open Go.RowKit Go.Extern.Stop Go.Stop Go.Extern
/-- The sentinel: an error of errors.New's make, at p. -/
abbrev sentV (p : Addr) : Value := .iface 147 (.pointer (some p))
theorem Tryz.typeOfE (v : Value) (w : World) : (ReflectliteType.typeOf #[.iface 147 v]).run Tryz.prog w = .ok (.iface 129 (.agg #[hand 147])) w := by kernel_rfl
theorem Tryz.methodComparable (h : Value) (w : World) : (Go.method 279 129 (.agg #[h]) "Comparable").run Tryz.prog w = .ok (109, .agg #[h]) w := by kernel_rfl
theorem Tryz.compE (w : World) : (ReflectliteType.method (fun t => do Rtype.noPackHeld "Comparable" t; (fun a => Value.bool a.comparable) <$> typeInfo t) #[.agg #[hand 147]]).run Tryz.prog w = .ok (.bool true) w := by kernel_rfl
theorem Tryz.methodUnwrap (h : Value) (w : World) : (Go.method 279 101 h "Unwrap").run Tryz.prog w = .ok (101, h) w := by kernel_rfl
theorem Tryz.eqlTypes (x y : Value) (w : World) : (binOp .eql 75 (.iface 101 x) (.iface 147 y)).run Tryz.prog w = .ok (.bool false) w := run_eql_iface_types _ _ _ _ Tryz.underlying75 (by decide) w
theorem Tryz.eqlSame (a : Addr) (w : World) : (binOp .eql 75 (sentV a) (sentV a)).run Tryz.prog w = .ok (.bool true) w := by
  have h1 : ((Tryz.prog.info? 147).map (·.comparable)) = some true := by kernel_rfl
  have h2 : ((Tryz.prog.info? 167).map (fun _ => true)) = some true := by kernel_rfl
  obtain ⟨i, hi, hc⟩ := Option.map_eq_some_iff.1 h1
  obtain ⟨j, hj, _⟩ := Option.map_eq_some_iff.1 h2
  exact run_eql_iface_ptr_same w a Tryz.underlying75 Tryz.underlying147 hi hc hj
theorem Tryz.lacksIs (v : Value) (xT : TypeId) (w : World) : (Instr.typeAssert (.iface 101 v) xT 131 true).run Tryz.prog w = .ok (.tuple #[.nilIface, .bool false]) w :=
  run_typeAssert_lacksB Tryz.underlying131 (by kernel_rfl) (by kernel_rfl) v xT w
theorem Tryz.hasUnwrap (v : Value) (xT : TypeId) (w : World) : (Instr.typeAssert (.iface 101 v) xT 134 true).run Tryz.prog w = .ok (.tuple #[.iface 101 v, .bool true]) w :=
  run_typeAssert_hasB Tryz.underlying134 (by kernel_rfl) v xT w
set_option maxRecDepth 100000 in
set_option maxHeartbeats 4000000 in
theorem is_nil (p : Addr) (w : World) : Calls Tryz.prog 51 #[.nilIface, sentV p] w fun e w' => e = .returned (.bool false) ∧ w' = w := by
  have h1 := fun w : World => run_eql_iface_nil_left (P := Tryz.prog) (w := w) 147 (.pointer (some p)) Tryz.underlying75
  go_enter Tryz.func51, Tryz.ntmps51
  go_wp2
  go_ret
  exact ⟨rfl, rfl⟩
set_option maxRecDepth 100000 in
set_option maxHeartbeats 8000000 in
theorem is_short (no at_ : Int) (p : Addr) (w : World) : Calls Tryz.prog 51 #[wrongV no at_ (sentV p), sentV p] w fun e w' => e = .returned (.bool true) ∧ Below w.heap.size w w' := by
  have h10 := @run_callFunc_extern Tryz.prog 63 _ ReflectliteType.typeOf Tryz.func63 (by kernel_rfl) (by kernel_rfl) (by kernel_rfl) (by kernel_rfl)
  have h75 := @run_callFunc_extern Tryz.prog 109 _ (ReflectliteType.method fun t => do Rtype.noPackHeld "Comparable" t; pure (.bool (← typeInfo t).comparable)) Tryz.func109 (by kernel_rfl) (by kernel_rfl) (by kernel_rfl) (by kernel_rfl)
  have cE := Tryz.compE
  have tO := Tryz.typeOfE
  have mC := Tryz.methodComparable
  have mU := Tryz.methodUnwrap
  have q1 := Tryz.eqlTypes
  have q2 := Tryz.eqlSame
  have l1 := Tryz.lacksIs
  have l2 := Tryz.hasUnwrap
  go_enter Tryz.func51, Tryz.ntmps51
  go_wp2
  refine wp_loop_rounds 2 ?_
  rw [rounds_succ]
  go_wp2
  rw [rounds_succ]
  go_wp2
  go_ret
  exact ⟨rfl, by first | exact Below.refl _ _ | exact (Below.refl _ _).alloc (Nat.le_refl _) _⟩
set_option maxRecDepth 100000 in
set_option maxHeartbeats 8000000 in
theorem is_other (no at_ : Int) (p : Addr) (w : World) : Calls Tryz.prog 51 #[wrongV no at_ .nilIface, sentV p] w fun e w' => e = .returned (.bool false) ∧ Below w.heap.size w w' := by
  have h10 := @run_callFunc_extern Tryz.prog 63 _ ReflectliteType.typeOf Tryz.func63 (by kernel_rfl) (by kernel_rfl) (by kernel_rfl) (by kernel_rfl)
  have h75 := @run_callFunc_extern Tryz.prog 109 _ (ReflectliteType.method fun t => do Rtype.noPackHeld "Comparable" t; pure (.bool (← typeInfo t).comparable)) Tryz.func109 (by kernel_rfl) (by kernel_rfl) (by kernel_rfl) (by kernel_rfl)
  have cE := Tryz.compE
  have tO := Tryz.typeOfE
  have mC := Tryz.methodComparable
  have mU := Tryz.methodUnwrap
  have q1 := Tryz.eqlTypes
  have q2 := Tryz.eqlSame
  have l1 := Tryz.lacksIs
  have l2 := Tryz.hasUnwrap
  go_enter Tryz.func51, Tryz.ntmps51
  go_wp2
  refine wp_loop_rounds 2 ?_
  rw [rounds_succ]
  go_wp2
  go_ret
  exact ⟨rfl, by first | exact Below.refl _ _ | exact (Below.refl _ _).alloc (Nat.le_refl _) _⟩
end Go.Proofs.YtalkglmneicpoaaGreatDoor
