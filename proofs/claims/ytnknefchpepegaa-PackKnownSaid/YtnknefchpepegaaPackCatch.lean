/-
  The deferred closure of (*pack.Reader).read: entered where the frame returns, and where it panics.
-/
import Derived.Test.YtnknefchpepegaaPackNum
import Derived.Defers
import Derived.Recover
namespace Go.Proofs.Ytnknefchpepegaa
set_option linter.unusedVariables false
set_option linter.unusedSimpArgs false
open Go.RowKit
/-- recover at a region's head, where the deferring frame panics or does not; behind it nothing recovers: an ordinary walk. -/
theorem wpS_recover {P : Program} {id : Nat} {l : List Oper} {o : Oper} {y : Code} {Q : Exit → Act → List Frame → World → Prop} {a : Act} {cs cs' : List Frame} {v : Value} {w : World}
    (hop : ∀ a : Act, (execOp a.eval o).run P w = .ok .recover w) (hw : o.guard = none)
    (hrec : (recoverD cs = some (v, cs')) ∨ (recoverD cs = none ∧ v = .nilIface ∧ cs' = cs))
    (h : ∀ Q' : Exit → Act → World → Prop, (∀ e a' w', Q e a' cs' w' → Q' e a' w') → wpList P (o :: l).toArray (Exit.then (y.wp P Q') Q') l (a.put o.dst v) w) :
    ((Code.region id (o :: l).toArray false).seq y).wpS P Q a cs w := by
  have h := h (fun e a' w' => Q e a' cs' w') (fun _ _ _ h => h)
  intro b k hb hr
  have ho : ((o :: l).toArray)[0]? = some o := by simp
  have hwant : Region.wanted o (yielded (o :: l).toArray a.tmps) = true := by simp [Region.wanted, hw]
  have hg := stepG_op (P := P) (b := b) (k := .code y :: k) (cs := cs) (w := w) (rest := List.range' 1 l.length) ho hwant
  have hfin : ∀ v, (b.at a (.inRegion (o :: l).toArray (0 :: List.range' 1 l.length) :: .code y :: k)).finish v = b.at (a.put o.dst v) (.inRegion (o :: l).toArray (List.range' 1 l.length) :: .code y :: k) := by
    intro v; rw [Frame.finish_at, ho]; rfl
  have htr := tryRecover_deferred (fr := (b.at a (.inRegion (o :: l).toArray (0 :: List.range' 1 l.length) :: .code y :: k))) hb cs
  have hstep : step P (lone (b.at a (.inRegion (o :: l).toArray (0 :: List.range' 1 l.length) :: .code y :: k)) cs w) = .next (lone (b.at (a.put o.dst v) (.inRegion (o :: l).toArray (List.range' 1 l.length) :: .code y :: k)) cs' w) := by
    refine step_lone_go ?_
    rw [hg, ← hfin]
    simp only [Frame.at] at htr ⊢
    rcases hrec with hrec | ⟨hrec, rfl, rfl⟩
    · simp [stepG.apply, hop, htr, hrec]
    · simp [stepG.apply, hop, htr, hrec]
  have hrange : List.range (o :: l).toArray.size = 0 :: List.range' 1 l.length := by
    simp [List.range_eq_range', List.range'_succ]
  have hreg := step_region (P := P) (b := b) (a := a) (k := .code y :: k) (cs := cs) (w := w) (ops := (o :: l).toArray) (id := id)
  rw [hrange] at hreg
  rw [← wpOps_eq_wpList l 1 (by intro j; simp [Nat.add_comm 1 j])] at h
  obtain ⟨e, a₁, w₁, hq, harr⟩ := wp_ops _ _ _ h b (.code y :: k) cs'
  cases e with
  | normal =>
    obtain ⟨e₂, a₂, w₂, hq₂, harr₂⟩ := hq b k cs'
    exact ⟨e₂, a₂, cs', w₂, hq₂, .of_steps (.head step_seq (.head hreg (.head hstep harr))) harr₂⟩
  | exit id => exact ⟨_, a₁, cs', w₁, hq, .of_steps (.head step_seq (.head hreg (.one hstep))) (.pass (x := .code y) rfl (fun _ _ => .inl (by simp)) harr)⟩
  | goto l => exact ⟨_, a₁, cs', w₁, hq, .of_steps (.head step_seq (.head hreg (.one hstep))) (.pass (x := .code y) rfl (fun _ _ => .inl (by simp)) harr)⟩
  | ret => exact ⟨_, a₁, cs', w₁, hq, .of_steps (.head step_seq (.head hreg (.one hstep))) (.pass (x := .code y) rfl (fun _ _ => .inl (by simp)) harr)⟩
  | panic ch => exact ⟨_, a₁, cs', w₁, hq, .of_steps (.head step_seq (.head hreg (.one hstep))) (.pass (x := .code y) rfl (fun _ _ => .inl (by simp)) harr)⟩
  | outgrown => exact ⟨_, a₁, cs', w₁, hq, .of_steps (.head step_seq (.head hreg (.one hstep))) (.pass (x := .code y) rfl (fun _ _ => .inl (by simp)) harr)⟩
theorem lt_cell {w : World} {b k : Nat} {v : Value} (h : w.cell? ⟨b, k, none⟩ = some v) : b < w.heap.size := by
  unfold World.cell? at h
  rcases Nat.lt_or_ge b w.heap.size with h1 | h1
  · exact h1
  · simp [Array.getElem?_eq_none h1] at h
theorem assert_nil (W : World) : (Instr.typeAssert .nilIface 20 46 true).run Try.prog W = .ok (.tuple #[.agg #[.int .i64 0], .bool false]) W := by kernel_rfl
theorem assert_stop (W : World) (v : Value) : (Instr.typeAssert (.iface 46 v) 20 46 true).run Try.prog W = .ok (.tuple #[v, .bool true]) W := by kernel_rfl
set_option maxRecDepth 100000 in
set_option maxHeartbeats 1000000 in
theorem catch_idle (p q r : Addr) (w : World) :
    CallsD Try.prog 23 #[.pointer (some p), .pointer (some q), .pointer (some r)] .returning w fun e u' w' =>
      e = .returned (.tuple #[]) ∧ u' = .returning ∧ w' = w.alloc (.cells #[.int .i64 0] 46) := by
  refine callsD_of_wpS Try.func23 rfl fun c₀ cs hu => ?_
  refine wpS_recover (fun _ => by rfl) rfl (.inr ⟨by simp [recoverD, hu], rfl, rfl⟩) fun Q' HQ => ?_
  have HQ := Lib.hid HQ
  simp only [Try.ntmps23, List.size_toArray, List.length_cons, List.length_nil, Nat.reduceAdd, Nat.reduceSub, Array.replicate_succ,
     Array.replicate_zero, List.push_toArray, List.append_toArray, List.nil_append, List.cons_append, Act.put, List.setIfInBounds_toArray, List.set_cons_succ, List.set_cons_zero]
  have ha := assert_nil
  have HU := Lib.hid hu
  clear hu
  go_wp2_with fail
  exact ⟨rfl, FrameMode.returning, by rw [← HU.out], _, results_none rfl _ _ _, rfl, rfl, rfl⟩
set_option maxRecDepth 100000 in
set_option maxHeartbeats 1000000 in
theorem catch_panicking (b2 b0 b1 g : Nat) (A : Option Addr) (m c : Nat) (er er0 : Int) (x1 : Bool) (A2 : Option Addr) (m2 c2 : Nat) (older : List PanicEntry) (w : World) (h2 : w.cell? ⟨b2, 0, none⟩ = some (.slice A m c)) (h0 : w.cell? ⟨b0, 0, none⟩ = some (.pointer (some ⟨g, 0, none⟩))) (h1 : w.cell? ⟨b1, 0, none⟩ = some (.bool x1)) (hz1 : w.frozen? ⟨b1, 0, none⟩ = false)
    (hg0 : w.cell? ⟨g, 0, none⟩ = some (.slice A2 m2 c2)) (hg1 : w.cell? ⟨g, 1, none⟩ = some (.int .i64 er0)) (hzg0 : w.frozen? ⟨g, 0, none⟩ = false) (hzg1 : w.frozen? ⟨g, 1, none⟩ = false) (hne : b1 ≠ g) :
    CallsD Try.prog 23 #[.pointer (some ⟨b2, 0, none⟩), .pointer (some ⟨b0, 0, none⟩), .pointer (some ⟨b1, 0, none⟩)] (.panicking ({ v := .iface 46 (.agg #[.int .i64 er]), recovered := false } :: older)) w fun e u' w' =>
      e = .returned (.tuple #[]) ∧ u' = .panicking ({ v := .iface 46 (.agg #[.int .i64 er]), recovered := true } :: older) ∧ w' = ((((w.alloc (.cells #[.int .i64 er] 46)).setCell ⟨g, 0, none⟩ (.slice A m c)).setCell ⟨g, 1, none⟩ (.int .i64 er)).setCell ⟨b1, 0, none⟩ (.bool false)).drew := by
  obtain ⟨l2, l0, l1, lg0⟩ : b2 < w.heap.size ∧ b0 < w.heap.size ∧ b1 < w.heap.size ∧ g < w.heap.size := ⟨lt_cell h2, lt_cell h0, lt_cell h1, lt_cell hg0⟩
  generalize hO : Obj.cells #[.int .i64 er] 46 = O
  have f2 := (World.cell?_alloc_lt w O ⟨b2, 0, none⟩ l2).trans h2
  have f0 := (World.cell?_alloc_lt w O ⟨b0, 0, none⟩ l0).trans h0
  have f1 := (World.cell?_alloc_lt w O ⟨b1, 0, none⟩ l1).trans h1
  have fg0 := (World.cell?_alloc_lt w O ⟨g, 0, none⟩ lg0).trans hg0
  have fg1 := (World.cell?_alloc_lt w O ⟨g, 1, none⟩ lg0).trans hg1
  have fz1 := (World.frozen?_alloc_past (w := w) O b1 0 l1).trans hz1
  have fzg0 := (World.frozen?_alloc_past (w := w) O g 0 lg0).trans hzg0
  have fzg1 := (World.frozen?_alloc_past (w := w) O g 1 lg0).trans hzg1
  have fs : ((w.alloc O).setCell ⟨g, 0, none⟩ (.slice A m c)).cell? ⟨b1, 0, none⟩ = some (.bool x1) := (World.cell?_setCell_other _ _ _ _ (by intro h; injection h with h; exact hne h.symm)).trans f1
  have fn : (w.alloc O).cell? ⟨w.heap.size, 0, none⟩ = some (.int .i64 er) := by rw [← hO]; exact cell_new w _ _ _ 0
  have fn2 : ((w.alloc O).setCell ⟨g, 0, none⟩ (.slice A m c)).cell? ⟨w.heap.size, 0, none⟩ = some (.int .i64 er) := (World.cell?_setCell_other _ _ _ _ (by intro h; injection h with h; omega)).trans fn
  clear h2 h0 h1 hg0 hg1 hz1 hzg0 hzg1 l2 l0 l1 lg0
  refine callsD_of_wpS Try.func23 rfl fun c₀ cs hu => ?_
  refine wpS_recover (fun _ => by rfl) rfl (.inl (by simp [recoverD, hu]; exact ⟨rfl, rfl⟩)) fun Q' HQ => ?_
  have HQ := Lib.hid HQ
  simp only [Try.ntmps23, List.size_toArray, List.length_cons, List.length_nil, Nat.reduceAdd, Nat.reduceSub, Array.replicate_succ,
     Array.replicate_zero, List.push_toArray, List.append_toArray, List.nil_append, List.cons_append, Act.put, List.setIfInBounds_toArray, List.set_cons_succ, List.set_cons_zero]
  have ha := assert_stop
  clear hu
  go_wp2_with fail
  generalize w.alloc O = W1 at *
  generalize w.heap.size = s at *
  clear hO
  go_region
  all_goals exact HQ.out _ _ _ ⟨rfl, _, rfl, _, results_none rfl _ _ _, rfl, rfl, rfl⟩
end Go.Proofs.Ytnknefchpepegaa
