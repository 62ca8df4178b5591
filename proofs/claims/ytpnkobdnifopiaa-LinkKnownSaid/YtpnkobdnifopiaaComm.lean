/-
  Communications inside the kit's walk, of a lone goroutine: the walk's judgement at ordinary frames; a send with room; a select of one receive, ready or not.
-/
import Derived.Test.YtpnkobdnifopiaaMem
import Derived.Orders
import Derived.Conc.LoneSelect
import Derived.Conc.LoneSelectN
namespace Go.Proofs.Ytpnkobdnifopiaa
set_option linter.unusedVariables false
set_option linter.unusedSimpArgs false
open Go.RowKit Go.Conc
/-- The walk's judgement, at a frame of an ordinary call. -/
def wpN (P : Program) (c : Code) (Q : Exit → Act → World → Prop) (a : Act) (w : World) : Prop :=
  ∀ (b : Frame) (k : List Item) (cs : List Frame), b.kind = .normal → ∃ e a' w', Q e a' w' ∧ Arrives P (lone (b.at a (.code c :: k)) cs w) b k cs e a' w'
def Arr (P : Program) (ops : Array Oper) (Q : Exit → Act → World → Prop) (l : List Nat) (a : Act) (w : World) : Prop :=
  ∀ (b : Frame) (k : List Item) (cs : List Frame), b.kind = .normal → ∃ e a' w', Q e a' w' ∧ Arrives P (lone (b.at a (.inRegion ops l :: k)) cs w) b k cs e a' w'
section
variable {P : Program} {Q : Exit → Act → World → Prop} {a : Act} {w w' : World} {x y : Code} {ops : Array Oper} {l rest : List Nat} {i : Nat} {o : Oper}
theorem wpN_of (h : x.wp P Q a w) : wpN P x Q a w := fun b k cs _ => h b k cs
theorem wpN_mono {Q' : Exit → Act → World → Prop} (h : wpN P x Q a w) (hq : ∀ e a w, Q e a w → Q' e a w) : wpN P x Q' a w :=
  fun b k cs hb => let ⟨e, a', w', q, r⟩ := h b k cs hb; ⟨e, a', w', hq _ _ _ q, r⟩
theorem wpN_seq2 (h : wpN P x (Exit.then (wpN P y Q) Q) a w) : wpN P (.seq x y) Q a w := by
  intro b k cs hb
  obtain ⟨e, a₁, w₁, hq, harr⟩ := h b (.code y :: k) cs hb
  cases e with
  | normal =>
    obtain ⟨e, a₂, w₂, hq2, harr2⟩ := hq b k cs hb
    exact ⟨e, a₂, w₂, hq2, .of_steps (.head step_seq harr) harr2⟩
  | exit id => exact ⟨.exit id, a₁, w₁, hq, .of_steps (.one step_seq) (fun k' hk => harr k' (by simpa [exitTo] using hk))⟩
  | goto l => exact ⟨.goto l, a₁, w₁, hq, .of_steps (.one step_seq) (fun k' hk => harr k' (by simpa [gotoIn] using hk))⟩
  | ret => exact ⟨.ret, a₁, w₁, hq, .of_steps (.one step_seq) harr⟩
  | panic c => exact ⟨.panic c, a₁, w₁, hq, .of_steps (.one step_seq) harr⟩
  | outgrown => exact ⟨.outgrown, a₁, w₁, hq, .of_steps (.one step_seq) harr⟩
theorem wpN_seq (h : x.wp P (Exit.then (wpN P y Q) Q) a w) : wpN P (.seq x y) Q a w := wpN_seq2 (wpN_of h)
theorem lin_two {md : Region.Mode} {fuel t i j : Nat} {listed : Array Bool} {acc : List Nat} (h : Region.ready md ops listed = [i, j]) :
    Region.linearise.go md ops (fuel + 1) t listed acc = Region.linearise.go md ops fuel (t / 2) (listed.setIfInBounds i true) (i :: acc) ∨
    Region.linearise.go md ops (fuel + 1) t listed acc = Region.linearise.go md ops fuel (t / 2) (listed.setIfInBounds j true) (j :: acc) := by
  have e : Region.linearise.go md ops (fuel + 1) t listed acc = match (Region.ready md ops listed)[t % (Region.ready md ops listed).length]? with
    | some i => Region.linearise.go md ops fuel (t / (Region.ready md ops listed).length) (listed.setIfInBounds i true) (i :: acc)
    | none => acc.reverse := rfl
  rw [e, h]
  rcases Nat.mod_two_eq_zero_or_one t with h2 | h2
  · left; simp [h2]
  · right; simp [h2]
theorem lin_one {md : Region.Mode} {fuel t i : Nat} {listed : Array Bool} {acc : List Nat} (h : Region.ready md ops listed = [i]) :
    Region.linearise.go md ops (fuel + 1) t listed acc = Region.linearise.go md ops fuel (t / 1) (listed.setIfInBounds i true) (i :: acc) := by
  have e : Region.linearise.go md ops (fuel + 1) t listed acc = match (Region.ready md ops listed)[t % (Region.ready md ops listed).length]? with
    | some i => Region.linearise.go md ops fuel (t / (Region.ready md ops listed).length) (listed.setIfInBounds i true) (i :: acc)
    | none => acc.reverse := rfl
  rw [e, h]
  simp [Nat.mod_one]
theorem arr_two {md : Region.Mode} {fuel t i j : Nat} {listed : Array Bool} {acc : List Nat} (h : Region.ready md ops listed = [i, j])
    (h1 : Arr P ops Q (Region.linearise.go md ops fuel (t / 2) (listed.setIfInBounds i true) (i :: acc)) a w) (h2 : Arr P ops Q (Region.linearise.go md ops fuel (t / 2) (listed.setIfInBounds j true) (j :: acc)) a w) :
    Arr P ops Q (Region.linearise.go md ops (fuel + 1) t listed acc) a w := by
  rcases lin_two (fuel := fuel) (t := t) (acc := acc) h with e | e <;> rw [e] <;> assumption
theorem arr_one {md : Region.Mode} {fuel t i : Nat} {listed : Array Bool} {acc : List Nat} (h : Region.ready md ops listed = [i])
    (h1 : Arr P ops Q (Region.linearise.go md ops fuel (t / 1) (listed.setIfInBounds i true) (i :: acc)) a w) : Arr P ops Q (Region.linearise.go md ops (fuel + 1) t listed acc) a w := by
  rw [lin_one h]; exact h1
theorem arr_ops (h : wpOps P ops Q l a w) : Arr P ops Q l a w := fun b k cs _ => wp_ops l a w h b k cs
theorem arr_step {v : Value} (ho : ops[i]? = some o) (hs : ∀ (b : Frame) (k : List Item) (cs : List Frame), b.kind = .normal → step P (lone (b.at a (.inRegion ops (i :: rest) :: k)) cs w) = .next (lone ((b.at a (.inRegion ops (i :: rest) :: k)).finish v) cs w'))
    (h : Arr P ops Q rest (a.put o.dst v) w') : Arr P ops Q (i :: rest) a w := by
  intro b k cs hb
  obtain ⟨e, a', w₂, hq, harr⟩ := h b k cs hb
  have h1 := hs b k cs hb
  rw [Frame.finish_at, ho] at h1
  exact ⟨e, a', w₂, hq, .of_steps (.one h1) harr⟩
theorem arr_value {v : Value} (ho : ops[i]? = some o) (hw : Region.wanted o (yielded ops a.tmps) = true) (hr : (execOp a.eval o).run P w = .ok (.value v) w') (h : Arr P ops Q rest (a.put o.dst v) w') : Arr P ops Q (i :: rest) a w :=
  arr_step ho (fun b k cs hb => by
    have hg := Go.stepG_op (P := P) (b := b) (k := k) (cs := cs) (w := w) (rest := rest) ho hw
    exact step_lone_go (by rw [hg]; simp [stepG.apply, hr])) h
theorem arr_k (ho : ops[i]? = some o) (hw : Region.wanted o (yielded ops a.tmps) = true) (h : ∀ K : Result Next → Prop, (∀ v w', Arr P ops Q rest (a.put o.dst v) w' → K (.ok (.value v) w')) → K ((execOp a.eval o).run P w)) : Arr P ops Q (i :: rest) a w := by
  obtain ⟨v, w', hr, ha⟩ := h (fun r => ∃ v w', r = .ok (.value v) w' ∧ Arr P ops Q rest (a.put o.dst v) w') (fun v w' ha => ⟨v, w', rfl, ha⟩)
  exact arr_value ho hw hr ha
theorem arr_send_k {c cap s r : Nat} {buf : Array Value} {tm : Bool} {v z : Value} (ho : ops[i]? = some o) (hw : Region.wanted o (yielded ops a.tmps) = true) (hr : ∀ K : Result Next → Prop, K (.ok (.comm #[scase c v z] true .send) w) → K ((execOp a.eval o).run P w))
    (hc : w.heap[c]? = some (.chan cap buf false s r tm)) (hroom : buf.size < cap) (h : Arr P ops Q rest (a.put o.dst undef) (w.setChan c cap (buf.push v) false (s + 1) r tm)) : Arr P ops Q (i :: rest) a w :=
  have hr' : (execOp a.eval o).run P w = .ok (.comm #[scase c v z] true .send) w := hr (fun r => r = .ok (.comm #[scase c v z] true .send) w) rfl
  arr_step ho (fun b k cs hb => step_lone_send_room (stepG_comm (b := b) (cases := #[scase c v z]) (blocking := true) (shape := .send) (w' := w) ho hw (by rw [hb]; decide) hr') hc hroom) h
theorem arr_send {c cap s r : Nat} {buf : Array Value} {tm : Bool} {v z : Value} (ho : ops[i]? = some o) (hw : Region.wanted o (yielded ops a.tmps) = true) (hr : (execOp a.eval o).run P w = .ok (.comm #[scase c v z] true .send) w)
    (hc : w.heap[c]? = some (.chan cap buf false s r tm)) (hroom : buf.size < cap) (h : Arr P ops Q rest (a.put o.dst undef) (w.setChan c cap (buf.push v) false (s + 1) r tm)) : Arr P ops Q (i :: rest) a w :=
  arr_step ho (fun b k cs hb => step_lone_send_room (stepG_comm (b := b) (cases := #[scase c v z]) (blocking := true) (shape := .send) (w' := w) ho hw (by rw [hb]; decide) hr) hc hroom) h
theorem arr_recv {c cap s r : Nat} {buf : Array Value} {tm closed : Bool} {z : Value} (ho : ops[i]? = some o) (hw : Region.wanted o (yielded ops a.tmps) = true) (hr : (execOp a.eval o).run P w = .ok (.comm #[rcase c z] false .select) w)
    (hc : w.heap[c]? = some (.chan cap buf closed s r tm)) (hsome : 0 < buf.size) (h : Arr P ops Q rest (a.put o.dst (.tuple #[goInt 0, .bool true, buf.getD 0 undef])) (w.setChan c cap (buf.extract 1 buf.size) closed s (r + 1) tm)) : Arr P ops Q (i :: rest) a w :=
  arr_step ho (fun b k cs hb => step_lone_select_recv_buf (stepG_comm (b := b) (cases := #[rcase c z]) (blocking := false) (shape := .select) (w' := w) ho hw (by rw [hb]; decide) hr) hc hsome) h
theorem arr_default {c cap s r : Nat} {tm : Bool} {z : Value} (ho : ops[i]? = some o) (hw : Region.wanted o (yielded ops a.tmps) = true) (hr : (execOp a.eval o).run P w = .ok (.comm #[rcase c z] false .select) w)
    (hc : w.heap[c]? = some (.chan cap #[] false s r tm)) (h : Arr P ops Q rest (a.put o.dst (.tuple #[goInt (-1), .bool false, z])) w) : Arr P ops Q (i :: rest) a w :=
  arr_step ho (fun b k cs hb => step_lone_select_default (stepG_comm (b := b) (cases := #[rcase c z]) (blocking := false) (shape := .select) (w' := w) ho hw (by rw [hb]; decide) hr) hc) h
theorem wpN_region {id : Nat} (h : Arr P ops Q (List.range ops.size) a w) : wpN P (.region id ops false) Q a w :=
  fun b k cs hb => let ⟨e, a', w', q, r⟩ := h b k cs hb; ⟨e, a', w', q, .of_steps (.one step_region) r⟩
theorem wpN_region_draw {id : Nat} (h : ∀ t, Arr P ops Q (Region.schedule (P.follows .mixedOrders) ops t) a { w with drawn := w.drawn + 1 }) : wpN P (.region id ops true) Q a w :=
  fun b k cs hb => let ⟨e, a', w', q, r⟩ := h _ b k cs hb; ⟨e, a', w', q, .of_steps (.one step_region_draw) r⟩
theorem calls_of_wpN {f : FuncId} {fn : Func} {c : Code} {args : Array Value} {R : Ending → World → Prop} (hf : P.funcs[f]? = some fn) (hb : fn.body = some c)
    (h : wpN P c (bodyPost P fn R) { tmps := args ++ Array.replicate (fn.ntmps - args.size) undef, defers := [] } w) : Calls P f args w R := by
  intro cs
  let b : Frame := { (default : Frame) with fn := f, kind := .normal }
  have henter : Frame.enter P f args .normal = b.at { tmps := args ++ Array.replicate (fn.ntmps - args.size) undef, defers := [] } [.code c] := by
    simp [Frame.enter, Frame.at, hf, hb, b]
  obtain ⟨e, a', w', hq, harr⟩ := h b [] cs rfl
  rw [← henter] at harr
  cases e with
  | normal =>
    obtain ⟨hd, v, hr, hR⟩ := hq
    exact ⟨.returned v, w', _, hR, Steps.trans harr (.one step_end), rfl, rfl, hd, rfl, fn, hf, hr⟩
  | ret =>
    obtain ⟨hd, v, hr, hR⟩ := hq
    obtain ⟨todo, hs⟩ := harr
    exact ⟨.returned v, w', _, hR, hs, rfl, rfl, hd, rfl, fn, hf, hr⟩
  | panic chain =>
    obtain ⟨hd, hR⟩ := hq
    obtain ⟨todo, hs⟩ := harr
    exact ⟨.panicked chain, w', _, hR, hs, rfl, rfl, hd, fn, hf⟩
  | exit id => exact hq.elim
  | goto l => exact hq.elim
  | outgrown => exact ⟨.outgrown, w', b, hq, harr.resolve_left (by simp [b]), rfl, trivial⟩
end
end Go.Proofs.Ytpnkobdnifopiaa
