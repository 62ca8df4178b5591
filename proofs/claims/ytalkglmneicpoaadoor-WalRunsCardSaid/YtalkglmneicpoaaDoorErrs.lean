/-
  errors.As at a frame's own error, errors.Is of it and the sentinel: Go's own text of both, walked, over the model's entries for internal/reflectlite.
-/
import Derived.Test.YtalkglmneicpoaaDoorMem
import Derived.LaidEql
import Derived.Stop.Asserts
import Derived.RowKitTokens
import Derived.Laws.Tables
namespace Go.Proofs.YtalkglmneicpoaaDoor
set_option linter.unusedVariables false
set_option linter.unusedSimpArgs false
open Go.RowKit Go.Extern.Stop Go.Stop Go.Extern
/-- A frame's error as an error value. -/
abbrev wrongV (no at_ : Int) (why : Value) : Value := .iface 102 (.agg #[.int .i64 no, .int .i64 at_, why])
abbrev hand (t : TypeId) : Value := .pointer (some ⟨3, t, none⟩)
theorem as_nil (t : Value) (w : World) :
    Calls Tryd.prog 51 #[.nilIface, t] w fun e w' => e = .returned (.bool false) ∧ w' = w := by
  go_enter Tryd.func51, Tryd.ntmps51
  go_wp2
  go_ret
  exact ⟨rfl, rfl⟩
theorem Tryd.methodKind (h : Value) (w : World) : (Go.method 280 130 (.agg #[h]) "Kind").run Tryd.prog w = .ok (95, h) w := by kernel_rfl
theorem Tryd.kindS (w : World) : ((ReflectliteType.abiMethod fun t => (fun a : Nat => Value.int IntKind.u8 (a : Int)) <$> Rtype.kind t) #[hand 102]).run Tryd.prog w = .ok (.int .u8 25) w := by kernel_rfl
theorem rlm (z : Sem Value) (f : TypeId → Addr → Nat → Nat → Sem Value) (v : Value) :
    ReflectliteValue.method z f #[v] = (do match ← ReflectliteValue.parts v with | none => z | some (t, a, fl) => f t a fl (fl % 32)) := rfl
theorem Tryd.methodElem (h : Value) (w : World) : (Go.method 280 130 (.agg #[h]) "Elem").run Tryd.prog w = .ok (109, .agg #[h]) w := by kernel_rfl
theorem Tryd.methodImplements (h : Value) (w : World) : (Go.method 280 130 (.agg #[h]) "Implements").run Tryd.prog w = .ok (110, .agg #[h]) w := by kernel_rfl
theorem Tryd.methodAssignableTo (h : Value) (w : World) : (Go.method 280 130 (.agg #[h]) "AssignableTo").run Tryd.prog w = .ok (107, .agg #[h]) w := by kernel_rfl
theorem Tryd.implementsS (w : World) : (ReflectliteType.relation "Implements" ReflectliteType.implements_ #[.agg #[hand 102], .iface 130 (.agg #[hand 76])]).run Tryd.prog w = .ok (.bool true) w := by kernel_rfl
theorem Tryd.typeOfS (v : Value) (w : World) : (ReflectliteType.typeOf #[.iface 102 v]).run Tryd.prog w = .ok (.iface 130 (.agg #[hand 102])) w := by kernel_rfl
theorem Tryd.assignableS (w : World) : (ReflectliteType.relation "AssignableTo" ReflectliteType.assignableTo #[.agg #[hand 102], .iface 130 (.agg #[hand 102])]).run Tryd.prog w = .ok (.bool true) w := by kernel_rfl
theorem Tryd.valueOfS (x y z : Value) (w : World) : (ReflectliteValue.unpack (.iface 102 (.agg #[x, y, z]))).run Tryd.prog w
    = .ok (.agg #[hand 102, .pointer (some ⟨w.heap.size, 0, none⟩), .int .u64 153]) (w.alloc (.cells #[x, y, z] 102)) := by kernel_rfl
theorem Tryd.mkS (p : Addr) (w : World) : (ReflectliteValue.mk 102 p ReflectliteValue.flagAddr).run Tryd.prog w = .ok (.agg #[hand 102, .pointer (some p), .int .u64 409]) w := by kernel_rfl
theorem rls (v x : Value) : ReflectliteValue.set #[v, x] = (do
    let (some (dst, a, fl), some (src, b, _)) := (← ReflectliteValue.parts v, ← ReflectliteValue.parts x)
      | unsupported (.noEntry "extern/(internal/reflectlite.Value).Set.zeroValue")
    if fl / ReflectliteValue.flagAddr % 2 == 0 then unsupported (.noEntry "extern/(internal/reflectlite.Value).Set.unaddressable")
    let val ← loadVar src b
    if ← Rtype.directlyAssignable dst src then storeVar dst a val
    else if ← Rtype.implements dst src then
      if (← Rtype.kind src) == 20 then
        match val with
        | .nilIface => unsupported (.noEntry "extern/reflectlite: a nil value of one interface type handed on as a value of another")
        | _ => storeVar dst a val
      else storeVar dst a (.iface src val)
    else panicString ("reflectlite.Set: value of type " ++ (← Rtype.spelt src) ++ " is not assignable to type " ++ (← Rtype.spelt dst))
    pure (.tuple #[])) := rfl
theorem Tryd.partsSa (a : Addr) (w : World) : (ReflectliteValue.parts (.agg #[hand 102, .pointer (some a), .int .u64 409])).run Tryd.prog w = .ok (some (102, a, 409)) w := by kernel_rfl
theorem Tryd.partsS (a : Addr) (w : World) : (ReflectliteValue.parts (.agg #[hand 102, .pointer (some a), .int .u64 153])).run Tryd.prog w = .ok (some (102, a, 153)) w := by kernel_rfl
theorem Tryd.directS (w : World) : (Rtype.directlyAssignable 102 102).run Tryd.prog w = .ok true w := by kernel_rfl
theorem Tryd.setS (g b : Nat) (C C0 : Array Value) (hC : C.size = 3) (h0 : C0.size = 3) (h1 : C.all (·.oneCell') = true) (W : World) (hb : Blk W b 102 C) (hg : Blk W g 102 C0) :
    (ReflectliteValue.set #[.agg #[hand 102, .pointer (some ⟨g, 0, none⟩), .int .u64 409], .agg #[hand 102, .pointer (some ⟨b, 0, none⟩), .int .u64 153]]).run Tryd.prog W
      = .ok (.tuple #[]) (W.setRow g C) := by
  have hi : (Tryd.prog.info? 102).map (·.size) = some 3 := by kernel_rfl
  have hl := run_loadVar_row (P := Tryd.prog) W b 102 102 C (0, 0) _ hb Tryd.underlying102 rfl (by rw [hi, hC])
  have hs := run_storeVar_row (P := Tryd.prog) W g 102 102 C0 C hg (by rw [hi, hC]) (by rw [h0, hC]) h1
  rw [rls]
  simp only [Sem.run_bind, Tryd.partsSa, Tryd.partsS, Result.andThen]
  simp [ReflectliteValue.flagAddr, hl, hs, Result.andThen, Tryd.directS]
end Go.Proofs.YtalkglmneicpoaaDoor
