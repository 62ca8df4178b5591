/-
  errors.As at a frame's own error; the number of an error.
-/
import Derived.Test.YtiococglmjjagaaDoorErrs
import Derived.Test.YtiococglmjjagaaDoorOnly
namespace Go.Proofs.YtiococglmjjagaaDoor
set_option linter.unusedVariables false
set_option linter.unusedSimpArgs false
open Go.RowKit Go.Extern.Stop Go.Stop Go.Extern
/-- The handle that package errors holds: error's own type. -/
def HandOk (w : World) : Prop := w.cell? ⟨2, 0, none⟩ = some (.iface 82 (.agg #[hand 57]))
theorem HandOk.pos {w : World} (h : HandOk w) : 2 < w.heap.size := by
  rcases Nat.lt_or_ge 2 w.heap.size with hlt | hge
  · exact hlt
  · unfold HandOk World.cell? at h
    rw [Array.getElem?_eq_none hge] at h
    cases h
theorem HandOk.below {w w' : World} {B : Nat} (h : HandOk w) (hb : Below B w w') (hB : 2 < B) : HandOk w' := (hb.cell (p := ⟨2, 0, none⟩) hB).trans h
theorem HandOk.alloc {w : World} (h : HandOk w) (o : Obj) : HandOk (w.alloc o) := (World.cell?_alloc_lt w o _ h.pos).trans h
set_option maxRecDepth 100000 in
set_option maxHeartbeats 8000000 in
theorem as_hit (no at_ : Int) (why : Value) (hwhy : why.oneCell' = true) (g : Nat) (C0 : Array Value) (h0 : C0.size = 3) (w : World) (hH : HandOk w) (hg : Blk w g 64 C0) :
    Calls Tryd.prog 39 #[wrongV no at_ why, .iface 66 (.pointer (some ⟨g, 0, none⟩))] w fun ev w' => ev = .returned (.bool true) ∧ ∃ W4, Below w.heap.size w W4 ∧ w' = W4.setRow g #[.int .i64 no, .int .i64 at_, why] := by
  have h6 := @run_callFunc_extern Tryd.prog 43 _ (fun args => ReflectliteValue.unpack (args.getD 0 (.tuple #[]))) Tryd.func43 (by kernel_rfl) (by kernel_rfl) (by kernel_rfl) (by kernel_rfl)
  have h7 := @run_callFunc_extern Tryd.prog 44 _ (ReflectliteValue.methodAny (ReflectliteValue.valueError "reflectlite.Value.Type" 0) (fun t _ _ _ => ReflectliteType.toType t)) Tryd.func44 (by kernel_rfl) (by kernel_rfl) (by kernel_rfl) (by kernel_rfl)
  have h8 := @run_callFunc_extern Tryd.prog 45 _ (ReflectliteValue.method (ReflectliteValue.valueError "reflectlite.Value.IsNil" 0) ReflectliteValue.isNil) Tryd.func45 (by kernel_rfl) (by kernel_rfl) (by kernel_rfl) (by kernel_rfl)
  have h27 := @run_callFunc_extern Tryd.prog 65 _ (ReflectliteType.abiMethod fun t => do pure (.int .u8 (← Rtype.kind t))) Tryd.func65 (by kernel_rfl) (by kernel_rfl) (by kernel_rfl) (by kernel_rfl)
  have h37 := @run_callFunc_extern Tryd.prog 76 _ (ReflectliteType.method ReflectliteType.elem) Tryd.func76 (by kernel_rfl) (by kernel_rfl) (by kernel_rfl) (by kernel_rfl)
  have h38 := @run_callFunc_extern Tryd.prog 77 _ (ReflectliteType.relation "Implements" ReflectliteType.implements_) Tryd.func77 (by kernel_rfl) (by kernel_rfl) (by kernel_rfl) (by kernel_rfl)
  have h10 := @run_callFunc_extern Tryd.prog 40 _ ReflectliteType.typeOf Tryd.func40 (by kernel_rfl) (by kernel_rfl) (by kernel_rfl) (by kernel_rfl)
  have h35 := @run_callFunc_extern Tryd.prog 74 _ (ReflectliteType.relation "AssignableTo" ReflectliteType.assignableTo) Tryd.func74 (by kernel_rfl) (by kernel_rfl) (by kernel_rfl) (by kernel_rfl)
  have h11 := @run_callFunc_extern Tryd.prog 49 _ (ReflectliteValue.method (ReflectliteValue.valueError "reflectlite.Value.Elem" 0) ReflectliteValue.elem) Tryd.func49 (by kernel_rfl) (by kernel_rfl) (by kernel_rfl) (by kernel_rfl)
  have h12 := @run_callFunc_extern Tryd.prog 50 _ ReflectliteValue.set Tryd.func50 (by kernel_rfl) (by kernel_rfl) (by kernel_rfl) (by kernel_rfl)
  have tO := Tryd.typeOfS
  have mA := Tryd.methodAssignableTo
  have a25 := Tryd.assignableS
  have v25 := Tryd.valueOfS
  have f6 := Tryd.valueOfP
  have f7 := Tryd.typeP
  have mK := Tryd.methodKind
  have mE := Tryd.methodElem
  have mI := Tryd.methodImplements
  have k27 := Tryd.kindP
  have k25 := Tryd.kindS
  have e27 := Tryd.elemP
  have i25 := Tryd.implementsS
  have hgl := hg.lt
  have hall : (#[Value.int .i64 no, .int .i64 at_, why] : Array Value).all (·.oneCell') = true := by
    rw [Array.all_eq_true_iff_forall_mem]
    intro v hv
    simp only [List.mem_toArray, List.mem_cons, List.mem_nil_iff, or_false] at hv
    rcases hv with rfl | rfl | rfl
    · rfl
    · rfl
    · exact hwhy
  let w1 := w.alloc (.cells #[.pointer (some ⟨g, 0, none⟩)] 66)
  let C2 : Array Value := #[hand 66, .pointer (some ⟨w.heap.size, 0, none⟩), .int .u64 150]
  let w2 := w1.alloc (.cells C2 74)
  let w3 := w2.alloc (.cells C2 74)
  let w4 := w3.alloc (.cells #[.int .i64 no, .int .i64 at_, why] 64)
  have n8 := Tryd.isNilP ⟨w.heap.size, 0, none⟩ ⟨g, 0, none⟩ w2 (by simp [w1, w2])
  have hg2 : w2.cell? ⟨2, 0, none⟩ = some (.iface 82 (.agg #[hand 57])) := (hH.alloc _).alloc _
  have el := Tryd.elemVP ⟨w.heap.size, 0, none⟩ ⟨g, 0, none⟩ w3 (by simp only [w3]; rw [World.cell?_alloc_lt _ _ ⟨w.heap.size, 0, none⟩ (by simp [w1, w2]; omega)]; simp [w1, w2])
  have st := Tryd.setS g (w.heap.size + 1 + 1 + 1) #[.int .i64 no, .int .i64 at_, why] C0 rfl h0 hall w4 (by have := Blk.new w3 64 #[.int .i64 no, .int .i64 at_, why]; simpa [w3, w2, w1] using this) ((((hg.alloc _).alloc _).alloc _).alloc _)
  have hbw : Hid (Below w.heap.size w w4) := ((((Below.refl _ _).alloc (Nat.le_refl _) _).alloc (by simp [w1]) _).alloc (by simp [w1, w2]; omega) _).alloc (by simp [w1, w2, w3]; omega) _
  simp only [w4, w3, w2, w1, C2] at n8 hg2 el st hbw
  clear hH hg w4 w3 w2 C2 w1 hall
  go_enter Tryd.func39, Tryd.ntmps39
  go_wp2
  refine wp_loop_rounds 1 ?_
  rw [rounds_succ]
  go_wp2
  go_ret
  exact ⟨rfl, _, hbw.out, rfl⟩
theorem setRow_blk {w : World} {g : Nat} {t : TypeId} {C0 : Array Value} (h : Blk w g t C0) (C : Array Value) : Blk (w.setRow g C) g t C := setRow_heap w g C0 C t _ h
theorem only_setRow {S : Nat → Prop} {w w' : World} (h : Only S w w') {g : Nat} (hg : S g ∨ w.heap.size ≤ g) (C : Array Value) : Only S w (w'.setRow g C) :=
  ⟨h.os, h.tape, h.output, by simpa [World.setRow] using h.size, fun i hi hn => by
    have hne : g ≠ i := by
      rintro rfl
      rcases hg with h1 | h1
      · exact hn h1
      · omega
    have : (w'.setRow g C).heap[i]? = w'.heap[i]? := by simp [World.setRow, Array.getElem?_modify, hne]
    exact this.trans (h.block i hi hn)⟩
/-- The number of no error, of a frame's own error. -/
theorem number_nil (w : World) : Calls Tryd.prog 34 #[.nilIface] w fun e w' => e = .returned (.int .i64 0) ∧ Below w.heap.size w w' := by
  have hb : Hid (Below w.heap.size w (w.alloc (.cells #[.int .i64 0, .int .i64 0, .nilIface] 64))) := (Below.refl _ _).alloc (Nat.le_refl _) _
  go_enter Tryd.func34, Tryd.ntmps34
  go_wp2_with (go_at_call 39; refine (as_nil _ _).mono ?_; rintro e w' ⟨rfl, rfl⟩)
  go_ret
  exact ⟨rfl, hb.out⟩
set_option maxRecDepth 100000 in
set_option maxHeartbeats 4000000 in
theorem number_any (no at_ : Int) (why : Value) (hwhy : why.oneCell' = true) (w : World) (hH : HandOk w) : Calls Tryd.prog 34 #[wrongV no at_ why] w fun e w' => e = .returned (.int .i64 no) ∧ Below w.heap.size w w' := by
  have C1 := Lib.hid (as_hit no at_ why hwhy w.heap.size _ rfl _ (hH.alloc (.cells #[.int .i64 0, .int .i64 0, .nilIface] 64)) (Blk.new w 64 #[.int .i64 0, .int .i64 0, .nilIface]))
  clear hH
  go_enter Tryd.func34, Tryd.ntmps34
  go_wp2_with fail
  go_must (refine C1.out.mono ?_)
  rintro e w5 ⟨rfl, w4, hb4, rfl⟩
  have k4 : Blk w4 w.heap.size 64 #[.int .i64 0, .int .i64 0, .nilIface] := (Blk.new w 64 #[.int .i64 0, .int .i64 0, .nilIface]).below hb4 (by simp)
  have hc : (w4.setRow w.heap.size #[.int .i64 no, .int .i64 at_, why]).cell? ⟨w.heap.size, 0, none⟩ = some (.int .i64 no) := (setRow_blk k4 _).cell 0
  have hb : Hid (Below w.heap.size w (w4.setRow w.heap.size #[.int .i64 no, .int .i64 at_, why])) :=
    ((Only.refl (fun i => w.heap.size ≤ i) w).below (((Below.refl _ _).alloc (Nat.le_refl _) _).trans (hb4.mono (by simp)))).to (fun i hi => hi) (Nat.le_refl _) |>.trans ((only_setRow (Only.refl (fun i => i = w.heap.size) w4) (.inl rfl) _).to (fun i hi => by omega) (by have := hb4.size; simp at this; omega))
  clear k4 C1 hb4
  generalize w4.setRow w.heap.size #[.int .i64 no, .int .i64 at_, why] = w5 at *
  go_wp2_with fail
  go_ret
  exact ⟨rfl, hb.out⟩
end Go.Proofs.YtiococglmjjagaaDoor
