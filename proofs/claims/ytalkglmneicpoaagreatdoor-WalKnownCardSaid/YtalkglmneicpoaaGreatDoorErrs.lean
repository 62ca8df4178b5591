/-
  errors.As at a frame's own error, errors.Is of it and the sentinel: Go's own text of both, walked, over the model's entries for internal/reflectlite.
-/
import Derived.Test.YtalkglmneicpoaaGreatDoorMem
import Derived.LaidEql
import Derived.Stop.Asserts
import Derived.RowKitTokens
import Derived.Laws.Tables
namespace Go.Proofs.YtalkglmneicpoaaGreatDoor
set_option linter.unusedVariables false
set_option linter.unusedSimpArgs false
open Go.RowKit Go.Extern.Stop Go.Stop Go.Extern
/-- A frame's error as an error value. -/
abbrev wrongV (no at_ : Int) (why : Value) : Value := .iface 101 (.agg #[.int .i64 no, .int .i64 at_, why])
abbrev hand (t : TypeId) : Value := .pointer (some ⟨3, t, none⟩)
theorem as_nil (t : Value) (w : World) :
    Calls Tryz.prog 52 #[.nilIface, t] w fun e w' => e = .returned (.bool false) ∧ w' = w := by
  go_enter Tryz.func52, Tryz.ntmps52
  go_wp2
  go_ret
  exact ⟨rfl, rfl⟩
theorem Tryz.methodKind (h : Value) (w : World) : (Go.method 279 129 (.agg #[h]) "Kind").run Tryz.prog w = .ok (96, h) w := by kernel_rfl
theorem Tryz.kindS (w : World) : ((ReflectliteType.abiMethod fun t => (fun a : Nat => Value.int IntKind.u8 (a : Int)) <$> Rtype.kind t) #[hand 101]).run Tryz.prog w = .ok (.int .u8 25) w := by kernel_rfl
theorem rlm (z : Sem Value) (f : TypeId → Addr → Nat → Nat → Sem Value) (v : Value) :
    ReflectliteValue.method z f #[v] = (do match ← ReflectliteValue.parts v with | none => z | some (t, a, fl) => f t a fl (fl % 32)) := rfl
theorem Tryz.methodElem (h : Value) (w : World) : (Go.method 279 129 (.agg #[h]) "Elem").run Tryz.prog w = .ok (110, .agg #[h]) w := by kernel_rfl
theorem Tryz.methodImplements (h : Value) (w : World) : (Go.method 279 129 (.agg #[h]) "Implements").run Tryz.prog w = .ok (111, .agg #[h]) w := by kernel_rfl
theorem Tryz.methodAssignableTo (h : Value) (w : World) : (Go.method 279 129 (.agg #[h]) "AssignableTo").run Tryz.prog w = .ok (108, .agg #[h]) w := by kernel_rfl
theorem Tryz.implementsS (w : World) : (ReflectliteType.relation "Implements" ReflectliteType.implements_ #[.agg #[hand 101], .iface 129 (.agg #[hand 75])]).run Tryz.prog w = .ok (.bool true) w := by kernel_rfl
theorem Tryz.typeOfS (v : Value) (w : World) : (ReflectliteType.typeOf #[.iface 101 v]).run Tryz.prog w = .ok (.iface 129 (.agg #[hand 101])) w := by kernel_rfl
theorem Tryz.assignableS (w : World) : (ReflectliteType.relation "AssignableTo" ReflectliteType.assignableTo #[.agg #[hand 101], .iface 129 (.agg #[hand 101])]).run Tryz.prog w = .ok (.bool true) w := by kernel_rfl
theorem Tryz.valueOfS (x y z : Value) (w : World) : (ReflectliteValue.unpack (.iface 101 (.agg #[x, y, z]))).run Tryz.prog w
    = .ok (.agg #[hand 101, .pointer (some ⟨w.heap.size, 0, none⟩), .int .u64 153]) (w.alloc (.cells #[x, y, z] 101)) := by kernel_rfl
theorem Tryz.mkS (p : Addr) (w : World) : (ReflectliteValue.mk 101 p ReflectliteValue.flagAddr).run Tryz.prog w = .ok (.agg #[hand 101, .pointer (some p), .int .u64 409]) w := by kernel_rfl
theorem rls (v x : Value) : ReflectliteValue.set #[v, x] = (do
    let (some (dst, a, fl), some (src, b, _)) := (← ReflectliteValue.parts v, ← ReflectliteValue.parts x)
      | unsupported (.noEntry "extern/(internal/reflectlite.Value).Set.zeroValue")
    if fl / ReflectliteValue.flagAddr % 2 == 0 then unsupported (.noEntry "extern/(internal/reflectlite.Value).Set.unaddressable")
    let val ← loadVar src b
    if ← Rtype.directlyAssignable dst src then storeVar dst a val
    else if ← Rtype.implements dst src then
      if (← Rtype.kind src) == 20 then
        match val with
        | .nilIface => unsupported (.noEntry "extern/reflectlite: a nil value of one interface type handed on as a value of another")
        | _ => storeVar dst a val
      else storeVar dst a (.iface src val)
    else panicString ("reflectlite.Set: value of type " ++ (← Rtype.spelt src) ++ " is not assignable to type " ++ (← Rtype.spelt dst))
    pure (.tuple #[])) := rfl
theorem Tryz.partsSa (a : Addr) (w : World) : (ReflectliteValue.parts (.agg #[hand 101, .pointer (some a), .int .u64 409])).run Tryz.prog w = .ok (some (101, a, 409)) w := by kernel_rfl
theorem Tryz.partsS (a : Addr) (w : World) : (ReflectliteValue.parts (.agg #[hand 101, .pointer (some a), .int .u64 153])).run Tryz.prog w = .ok (some (101, a, 153)) w := by kernel_rfl
theorem Tryz.directS (w : World) : (Rtype.directlyAssignable 101 101).run Tryz.prog w = .ok true w := by kernel_rfl
theorem Tryz.setS (g b : Nat) (C C0 : Array Value) (hC : C.size = 3) (h0 : C0.size = 3) (h1 : C.all (·.oneCell') = true) (W : World) (hb : Blk W b 101 C) (hg : Blk W g 101 C0) :
    (ReflectliteValue.set #[.agg #[hand 101, .pointer (some ⟨g, 0, none⟩), .int .u64 409], .agg #[hand 101, .pointer (some ⟨b, 0, none⟩), .int .u64 153]]).run Tryz.prog W
      = .ok (.tuple #[]) (W.setRow g C) := by
  have hi : (Tryz.prog.info? 101).map (·.size) = some 3 := by kernel_rfl
  have hl := run_loadVar_row (P := Tryz.prog) W b 101 101 C (0, 0) _ hb Tryz.underlying101 rfl (by rw [hi, hC])
  have hs := run_storeVar_row (P := Tryz.prog) W g 101 101 C0 C hg (by rw [hi, hC]) (by rw [h0, hC]) h1
  rw [rls]
  simp only [Sem.run_bind, Tryz.partsSa, Tryz.partsS, Result.andThen]
  simp [ReflectliteValue.flagAddr, hl, hs, Result.andThen, Tryz.directS]
end Go.Proofs.YtalkglmneicpoaaGreatDoor
