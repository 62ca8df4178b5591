/-
  A link's Pop.
-/
import Derived.Test.YtpnkobdnifopiaaLinkPush
namespace Go.Proofs.Ytpnkobdnifopiaa
set_option linter.unusedVariables false
set_option linter.unusedSimpArgs false
open Go.RowKit Go.Conc
section
variable {P : Program} {Q : Exit → Act → World → Prop} {a : Act} {w w' : World} {ops : Array Oper} {rest : List Nat} {i : Nat} {o : Oper}
theorem arr_recv_k {c cap s r : Nat} {buf : Array Value} {tm closed : Bool} {z : Value} (ho : ops[i]? = some o) (hw : Region.wanted o (yielded ops a.tmps) = true) (hr : ∀ K : Result Next → Prop, K (.ok (.comm #[rcase c z] false .select) w) → K ((execOp a.eval o).run P w))
    (hc : w.heap[c]? = some (.chan cap buf closed s r tm)) (hsome : 0 < buf.size) (h : Arr P ops Q rest (a.put o.dst (.tuple #[goInt 0, .bool true, buf.getD 0 undef])) (w.setChan c cap (buf.extract 1 buf.size) closed s (r + 1) tm)) : Arr P ops Q (i :: rest) a w :=
  arr_recv ho hw (hr (fun r => r = .ok (.comm #[rcase c z] false .select) w) rfl) hc hsome h
theorem arr_default_k {c cap s r : Nat} {tm : Bool} {z : Value} (ho : ops[i]? = some o) (hw : Region.wanted o (yielded ops a.tmps) = true) (hr : ∀ K : Result Next → Prop, K (.ok (.comm #[rcase c z] false .select) w) → K ((execOp a.eval o).run P w))
    (hc : w.heap[c]? = some (.chan cap #[] false s r tm)) (h : Arr P ops Q rest (a.put o.dst (.tuple #[goInt (-1), .bool false, z])) w) : Arr P ops Q (i :: rest) a w :=
  arr_default ho hw (hr (fun r => r = .ok (.comm #[rcase c z] false .select) w) rfl) hc h
end
set_option maxRecDepth 100000 in
set_option maxHeartbeats 4000000 in
theorem pop_last (base gl gc most : Nat) (L : List Msg) (w : World) (h : LAt w base gl gc most L) (ht : L.tail = []) :
    Calls Try.prog 13 #[.pointer (some ⟨gl, 0, none⟩)] w fun e w' => e = .returned (.tuple #[msgV (L.headD Msg.zero), .bool (!L.isEmpty)]) ∧ LAt w' base gl gc most [] ∧ Only (LinkS gl gc) w w' := by
  have c1 : w.cell? ⟨gl, 1, none⟩ = some (.chan (some gc)) := h.blk.cell 1
  have c2 : w.cell? ⟨gl, 2, none⟩ = some (ival (L.headD Msg.zero).k) := h.blk.cell 2
  have c3 : w.cell? ⟨gl, 3, none⟩ = some (ival (L.headD Msg.zero).n) := h.blk.cell 3
  have c4 : w.cell? ⟨gl, 4, none⟩ = some (ival (L.headD Msg.zero).key) := h.blk.cell 4
  have c5 : w.cell? ⟨gl, 5, none⟩ = some (ival (L.headD Msg.zero).v) := h.blk.cell 5
  have c6 : w.cell? ⟨gl, 6, none⟩ = some (.bool (!L.isEmpty)) := h.blk.cell 6
  have hlt := h.blk.lt
  have hne : w.heap.size ≠ gl := by omega
  have hne2 : w.heap.size + 1 ≠ gl := by omega
  have H := Lib.hid h
  obtain ⟨s, r, hc⟩ := h.chan
  rw [ht] at hc
  have HC := Lib.hid hc
  clear h hc ht
  obtain ⟨m, hm⟩ : ∃ m, m = L.headD Msg.zero := ⟨_, rfl⟩
  obtain ⟨b, hbe⟩ : ∃ b, b = (!L.isEmpty) := ⟨_, rfl⟩
  rw [← hm] at c2 c3 c4 c5 ⊢
  rw [← hbe] at c6 ⊢
  have HMM := Lib.hid hm
  have HBE := Lib.hid hbe
  clear hm hbe
  refine calls_of_wpN Try.func13 rfl ?_
  simp only [Try.ntmps13, List.size_toArray, List.length_cons, List.length_nil, Nat.reduceAdd, Nat.reduceSub, Array.replicate_succ, Array.replicate_zero, List.push_toArray, List.append_toArray, List.nil_append, List.cons_append]
  refine wpN_seq ?_
  go_wp2_with fail
  refine wpN_seq ?_
  go_region
  all_goals go_wp2_with fail
  have hb : Below w.heap.size w (((w.alloc (.cells #[ival 0, ival 0, ival 0, ival 0] 31)).alloc (.cells #[ival m.k, ival m.n, ival m.key, ival m.v] 31)).drew) := (((Below.refl _ _).alloc (Nat.le_refl _) _).alloc (by simp) _).drew
  have HL := Lib.hid (H.out.below hb)
  have HO := Lib.hid (Only.of_below (S := LinkS gl gc) hb)
  have K2 : Hid (Blk (((w.alloc (.cells #[ival 0, ival 0, ival 0, ival 0] 31)).alloc (.cells #[ival m.k, ival m.n, ival m.key, ival m.v] 31)).drew) w.heap.size 31 #[ival 0, ival 0, ival 0, ival 0]) := ((Blk.new w _ _).alloc _).drew
  have K4 : Hid (Blk (((w.alloc (.cells #[ival 0, ival 0, ival 0, ival 0] 31)).alloc (.cells #[ival m.k, ival m.n, ival m.key, ival m.v] 31)).drew) (w.heap.size + 1) 31 #[ival m.k, ival m.n, ival m.key, ival m.v]) := by
    have := (Blk.new (w.alloc (.cells #[ival 0, ival 0, ival 0, ival 0] 31)) 31 #[ival m.k, ival m.n, ival m.key, ival m.v]).drew
    rwa [show (w.alloc (.cells #[ival 0, ival 0, ival 0, ival 0] 31)).heap.size = w.heap.size + 1 by simp] at this
  have HC1 : Hid ((((w.alloc (.cells #[ival 0, ival 0, ival 0, ival 0] 31)).alloc (.cells #[ival m.k, ival m.n, ival m.key, ival m.v] 31)).drew).heap[gc]? = some (.chan most (bufV []) false s r false)) := by
    have hlg : gc < w.heap.size := by
      rcases Nat.lt_or_ge gc w.heap.size with h1 | h1
      · exact h1
      · have := HC.out; rw [Array.getElem?_eq_none h1] at this; cases this
    exact (hb.block gc hlg).trans HC.out
  clear hb c1
  generalize (((w.alloc (.cells #[ival 0, ival 0, ival 0, ival 0] 31)).alloc (.cells #[ival m.k, ival m.n, ival m.key, ival m.v] 31)).drew) = w1 at *
  have c1 : w1.cell? ⟨gl, 1, none⟩ = some (.chan (some gc)) := HL.out.blk.cell 1
  have hm := HL.out.blk
  have HBK := Lib.hid hm
  clear hm
  refine wpN_seq2 ?_
  refine wpN_seq ?_
  go_wp2_with fail
  refine wpN_seq2 ?_
  refine wpN_region ?_
  show Arr _ _ _ [0, 1, 2] _ _
  refine arr_default_k (c := gc) (z := msgV Msg.zero) rfl rfl (fun K hK => ?_) HC1.out ?_
  · go_simp
    exact hK
  refine arr_k rfl rfl (fun K hK => ?_)
  go_simp
  refine hK _ _ ?_
  clear hK K
  refine arr_k rfl rfl (fun K hK => ?_)
  go_simp
  refine hK _ _ ?_
  clear hK K
  refine arr_ops ?_
  refine wpN_of ?_
  have d2 : w1.cell? ⟨gl, 2, none⟩ = some (ival (L.headD Msg.zero).k) := HL.out.blk.cell 2
  have d3 : w1.cell? ⟨gl, 3, none⟩ = some (ival (L.headD Msg.zero).n) := HL.out.blk.cell 3
  have d4 : w1.cell? ⟨gl, 4, none⟩ = some (ival (L.headD Msg.zero).key) := HL.out.blk.cell 4
  have d5 : w1.cell? ⟨gl, 5, none⟩ = some (ival (L.headD Msg.zero).v) := HL.out.blk.cell 5
  have d6 : w1.cell? ⟨gl, 6, none⟩ = some (.bool (!L.isEmpty)) := HL.out.blk.cell 6
  have f2 : w1.frozen? ⟨gl, 2, none⟩ = false := HL.out.blk.frozen 2
  have f3 : w1.frozen? ⟨gl, 3, none⟩ = false := HL.out.blk.frozen 3
  have f4 : w1.frozen? ⟨gl, 4, none⟩ = false := HL.out.blk.frozen 4
  have f5 : w1.frozen? ⟨gl, 5, none⟩ = false := HL.out.blk.frozen 5
  have f6 : w1.frozen? ⟨gl, 6, none⟩ = false := HL.out.blk.frozen 6
  go_wp2_with fail
  have HG : Hid (gc ≠ w.heap.size) := by
    have hlg : gc < w.heap.size := by
      rcases Nat.lt_or_ge gc w.heap.size with h1 | h1
      · exact h1
      · have := HC.out; rw [Array.getElem?_eq_none h1] at this; cases this
    show _ ≠ _
    omega
  have K25 := Lib.hid (((((K2.out.far (p := ⟨gl, 2, none⟩) hne (ival 0)).far (p := ⟨gl, 3, none⟩) hne (ival 0)).far (p := ⟨gl, 4, none⟩) hne (ival 0)).far (p := ⟨gl, 5, none⟩) hne (ival 0)).far (p := ⟨gl, 6, none⟩) hne (.bool false))
  have K45 := Lib.hid (((((K4.out.far (p := ⟨gl, 2, none⟩) hne2 (ival 0)).far (p := ⟨gl, 3, none⟩) hne2 (ival 0)).far (p := ⟨gl, 4, none⟩) hne2 (ival 0)).far (p := ⟨gl, 5, none⟩) hne2 (ival 0)).far (p := ⟨gl, 6, none⟩) hne2 (.bool false))
  have hog : Only (fun i => i = gl) w1 (((((w1.setCell ⟨gl, 2, none⟩ (ival 0)).setCell ⟨gl, 3, none⟩ (ival 0)).setCell ⟨gl, 4, none⟩ (ival 0)).setCell ⟨gl, 5, none⟩ (ival 0)).setCell ⟨gl, 6, none⟩ (.bool false)) := (((((Only.refl (fun i => i = gl) w1).setCell (.inl rfl) 2 _).setCell (.inl rfl) 3 _).setCell (.inl rfl) 4 _).setCell (.inl rfl) 5 _).setCell (.inl rfl) 6 _
  have HO5 : Hid (Only (LinkS gl gc) w (((((w1.setCell ⟨gl, 2, none⟩ (ival 0)).setCell ⟨gl, 3, none⟩ (ival 0)).setCell ⟨gl, 4, none⟩ (ival 0)).setCell ⟨gl, 5, none⟩ (ival 0)).setCell ⟨gl, 6, none⟩ (.bool false))) := HO.out.trans hog (fun i hi => .inl (.inl hi))
  have HL5 : Hid (LAt (((((w1.setCell ⟨gl, 2, none⟩ (ival 0)).setCell ⟨gl, 3, none⟩ (ival 0)).setCell ⟨gl, 4, none⟩ (ival 0)).setCell ⟨gl, 5, none⟩ (ival 0)).setCell ⟨gl, 6, none⟩ (.bool false)) base gl gc most []) := by
    have hlg : gc < w1.heap.size := by
      rcases Nat.lt_or_ge gc w1.heap.size with h1 | h1
      · exact h1
      · have := HC1.out; rw [Array.getElem?_eq_none h1] at this; cases this
    exact ⟨((((HL.out.blk.set_ 2 _).set_ 3 _).set_ 4 _).set_ 5 _).set_ 6 _, ⟨s, r, (hog.block gc hlg (fun h => HL.out.ne h.symm)).trans HC1.out⟩, Nat.zero_le _, HL.out.lo, HL.out.hi, HL.out.bl, HL.out.bc⟩
  clear d2 d3 d4 d5 d6 f2 f3 f4 f5 f6 hog c1
  generalize (((((w1.setCell ⟨gl, 2, none⟩ (ival 0)).setCell ⟨gl, 3, none⟩ (ival 0)).setCell ⟨gl, 4, none⟩ (ival 0)).setCell ⟨gl, 5, none⟩ (ival 0)).setCell ⟨gl, 6, none⟩ (.bool false)) = w5 at *
  have e0 : w5.cell? ⟨w.heap.size + 1, 0, none⟩ = some (ival m.k) := K45.out.cell 0
  have e1 : w5.cell? ⟨w.heap.size + 1, 1, none⟩ = some (ival m.n) := K45.out.cell 1
  have e2 : w5.cell? ⟨w.heap.size + 1, 2, none⟩ = some (ival m.key) := K45.out.cell 2
  have e3 : w5.cell? ⟨w.heap.size + 1, 3, none⟩ = some (ival m.v) := K45.out.cell 3
  have x0 : w5.cell? ⟨w.heap.size, 0, none⟩ = some (ival 0) := K25.out.cell 0
  have x1 : w5.cell? ⟨w.heap.size, 1, none⟩ = some (ival 0) := K25.out.cell 1
  have x2 : w5.cell? ⟨w.heap.size, 2, none⟩ = some (ival 0) := K25.out.cell 2
  have x3 : w5.cell? ⟨w.heap.size, 3, none⟩ = some (ival 0) := K25.out.cell 3
  have y0 : w5.frozen? ⟨w.heap.size, 0, none⟩ = false := K25.out.frozen 0
  have y1 : w5.frozen? ⟨w.heap.size, 1, none⟩ = false := K25.out.frozen 1
  have y2 : w5.frozen? ⟨w.heap.size, 2, none⟩ = false := K25.out.frozen 2
  have y3 : w5.frozen? ⟨w.heap.size, 3, none⟩ = false := K25.out.frozen 3
  refine wpN_of ?_
  go_wp2_with fail
  have hok : Only (fun i => i = w.heap.size) w5 ((((w5.setCell ⟨w.heap.size, 0, none⟩ (ival m.k)).setCell ⟨w.heap.size, 1, none⟩ (ival m.n)).setCell ⟨w.heap.size, 2, none⟩ (ival m.key)).setCell ⟨w.heap.size, 3, none⟩ (ival m.v)) :=
    ((((Only.refl (fun i => i = w.heap.size) w5).setCell (.inl rfl) 0 _).setCell (.inl rfl) 1 _).setCell (.inl rfl) 2 _).setCell (.inl rfl) 3 _
  refine end_msg2 rfl rfl rfl (show Blk _ _ _ #[ival m.k, ival m.n, ival m.key, ival m.v] from (((K25.out.set_ 0 _).set_ 1 _).set_ 2 _).set_ 3 _) rfl rfl ?_
  refine ⟨rfl, ?_, ?_⟩
  · exact HL5.out.other hok (fun h => hne h.symm) (fun h => HG.out h)
  · exact HO5.out.trans hok (fun i hi => .inr (Nat.le_of_eq hi.symm))
set_option maxRecDepth 100000 in
set_option maxHeartbeats 4000000 in
theorem pop_more (base gl gc most : Nat) (m m1 : Msg) (L : List Msg) (w : World) (h : LAt w base gl gc most (m :: m1 :: L)) :
    Calls Try.prog 13 #[.pointer (some ⟨gl, 0, none⟩)] w fun e w' => e = .returned (.tuple #[msgV m, .bool true]) ∧ LAt w' base gl gc most (m1 :: L) ∧ Only (LinkS gl gc) w w' := by
  have c1 : w.cell? ⟨gl, 1, none⟩ = some (.chan (some gc)) := h.blk.cell 1
  have c2 : w.cell? ⟨gl, 2, none⟩ = some (ival m.k) := h.blk.cell 2
  have c3 : w.cell? ⟨gl, 3, none⟩ = some (ival m.n) := h.blk.cell 3
  have c4 : w.cell? ⟨gl, 4, none⟩ = some (ival m.key) := h.blk.cell 4
  have c5 : w.cell? ⟨gl, 5, none⟩ = some (ival m.v) := h.blk.cell 5
  have c6 : w.cell? ⟨gl, 6, none⟩ = some (.bool true) := h.blk.cell 6
  have hlt := h.blk.lt
  have hne : w.heap.size ≠ gl := by omega
  have hne2 : w.heap.size + 1 ≠ gl := by omega
  have H := Lib.hid h
  obtain ⟨s, r, hc⟩ := h.chan
  have HC := Lib.hid hc
  clear h hc
  refine calls_of_wpN Try.func13 rfl ?_
  simp only [Try.ntmps13, List.size_toArray, List.length_cons, List.length_nil, Nat.reduceAdd, Nat.reduceSub, Array.replicate_succ, Array.replicate_zero, List.push_toArray, List.append_toArray, List.nil_append, List.cons_append]
  refine wpN_seq ?_
  go_wp2_with fail
  refine wpN_seq ?_
  go_region
  all_goals go_wp2_with fail
  have hb : Below w.heap.size w (((w.alloc (.cells #[ival 0, ival 0, ival 0, ival 0] 31)).alloc (.cells #[ival m.k, ival m.n, ival m.key, ival m.v] 31)).drew) := (((Below.refl _ _).alloc (Nat.le_refl _) _).alloc (by simp) _).drew
  have HL := Lib.hid (H.out.below hb)
  have HO := Lib.hid (Only.of_below (S := LinkS gl gc) hb)
  have K2 : Hid (Blk (((w.alloc (.cells #[ival 0, ival 0, ival 0, ival 0] 31)).alloc (.cells #[ival m.k, ival m.n, ival m.key, ival m.v] 31)).drew) w.heap.size 31 #[ival 0, ival 0, ival 0, ival 0]) := ((Blk.new w _ _).alloc _).drew
  have K4 : Hid (Blk (((w.alloc (.cells #[ival 0, ival 0, ival 0, ival 0] 31)).alloc (.cells #[ival m.k, ival m.n, ival m.key, ival m.v] 31)).drew) (w.heap.size + 1) 31 #[ival m.k, ival m.n, ival m.key, ival m.v]) := by
    have := (Blk.new (w.alloc (.cells #[ival 0, ival 0, ival 0, ival 0] 31)) 31 #[ival m.k, ival m.n, ival m.key, ival m.v]).drew
    rwa [show (w.alloc (.cells #[ival 0, ival 0, ival 0, ival 0] 31)).heap.size = w.heap.size + 1 by simp] at this
  have HC1 : Hid ((((w.alloc (.cells #[ival 0, ival 0, ival 0, ival 0] 31)).alloc (.cells #[ival m.k, ival m.n, ival m.key, ival m.v] 31)).drew).heap[gc]? = some (.chan most (bufV (m1 :: L)) false s r false)) := by
    have hlg : gc < w.heap.size := by
      rcases Nat.lt_or_ge gc w.heap.size with h1 | h1
      · exact h1
      · have := HC.out; rw [Array.getElem?_eq_none h1] at this; cases this
    exact (hb.block gc hlg).trans HC.out
  clear hb c1
  generalize (((w.alloc (.cells #[ival 0, ival 0, ival 0, ival 0] 31)).alloc (.cells #[ival m.k, ival m.n, ival m.key, ival m.v] 31)).drew) = w1 at *
  have c1 : w1.cell? ⟨gl, 1, none⟩ = some (.chan (some gc)) := HL.out.blk.cell 1
  have hm := HL.out.blk
  have HBK := Lib.hid hm
  clear hm
  refine wpN_seq2 ?_
  refine wpN_seq ?_
  go_wp2_with fail
  refine wpN_seq2 ?_
  refine wpN_region ?_
  show Arr _ _ _ [0, 1, 2] _ _
  refine arr_recv_k (c := gc) (z := msgV Msg.zero) rfl rfl (fun K hK => ?_) HC1.out (by rw [bufV_size]; simp) ?_
  · go_simp
    exact hK
  have hext : (bufV (m1 :: L)).extract 1 (bufV (m1 :: L)).size = bufV L := by
    simp [bufV, List.take_of_length_le]
  rw [show (bufV (m1 :: L)).getD 0 undef = msgV m1 from rfl, hext]
  clear hext
  have hlg1 : gc < w1.heap.size := by
    rcases Nat.lt_or_ge gc w1.heap.size with h1 | h1
    · exact h1
    · have := HC1.out; rw [Array.getElem?_eq_none h1] at this; cases this
  have hoc : Only (fun i => i = gc) w1 (w1.setChan gc most (bufV L) false s (r + 1) false) := only_setChan (S := fun i => i = gc) (Only.refl _ w1) (.inl rfl) _ _ _ _ _ _
  have HG : Hid (gc ≠ w.heap.size ∧ gc ≠ w.heap.size + 1) := by
    have hlg : gc < w.heap.size := by
      rcases Nat.lt_or_ge gc w.heap.size with h1 | h1
      · exact h1
      · have := HC.out; rw [Array.getElem?_eq_none h1] at this; cases this
    exact ⟨by omega, by omega⟩
  have KL2 := Lib.hid (HL.out.blk.only hoc (fun h => HL.out.ne h))
  have K22 := Lib.hid (K2.out.only hoc (fun h => HG.out.1 h.symm))
  have K42 := Lib.hid (K4.out.only hoc (fun h => HG.out.2 h.symm))
  have HO2 := Lib.hid (HO.out.trans hoc (fun i hi => .inl (.inr hi)))
  have HC2 : Hid ((w1.setChan gc most (bufV L) false s (r + 1) false).heap[gc]? = some (.chan most (bufV L) false s (r + 1) false)) := heap_setChan _ _ _ _ _ _ _ _ hlg1
  have HN1 := Lib.hid (show gl < w1.heap.size from HL.out.blk.lt)
  have HS2 : Hid (w1.heap.size ≤ (w1.setChan gc most (bufV L) false s (r + 1) false).heap.size) := hoc.size
  have HK2 := Lib.hid K2.out.lt
  have HK4 := Lib.hid K4.out.lt
  clear hoc hlg1
  generalize (w1.setChan gc most (bufV L) false s (r + 1) false) = w2 at *
  refine arr_k rfl rfl (fun K hK => ?_)
  go_simp
  refine hK _ _ ?_
  clear hK K
  refine arr_k rfl rfl (fun K hK => ?_)
  go_simp
  refine hK _ _ ?_
  clear hK K
  refine arr_ops ?_
  refine wpN_of ?_
  have d2 : w2.cell? ⟨gl, 2, none⟩ = some (ival m.k) := KL2.out.cell 2
  have d3 : w2.cell? ⟨gl, 3, none⟩ = some (ival m.n) := KL2.out.cell 3
  have d4 : w2.cell? ⟨gl, 4, none⟩ = some (ival m.key) := KL2.out.cell 4
  have d5 : w2.cell? ⟨gl, 5, none⟩ = some (ival m.v) := KL2.out.cell 5
  have d6 : w2.cell? ⟨gl, 6, none⟩ = some (.bool true) := KL2.out.cell 6
  have f2 : w2.frozen? ⟨gl, 2, none⟩ = false := KL2.out.frozen 2
  have f3 : w2.frozen? ⟨gl, 3, none⟩ = false := KL2.out.frozen 3
  have f4 : w2.frozen? ⟨gl, 4, none⟩ = false := KL2.out.frozen 4
  have f5 : w2.frozen? ⟨gl, 5, none⟩ = false := KL2.out.frozen 5
  have f6 : w2.frozen? ⟨gl, 6, none⟩ = false := KL2.out.frozen 6
  have hn2 : w2.heap.size ≠ gl := by have := HN1.out; have := HS2.out; omega
  have g2 : ∀ O, (w2.alloc O).cell? ⟨gl, 2, none⟩ = some (ival m.k) := fun O => (KL2.out.alloc O).cell 2
  have g3 : ∀ O, (w2.alloc O).cell? ⟨gl, 3, none⟩ = some (ival m.n) := fun O => (KL2.out.alloc O).cell 3
  have g4 : ∀ O, (w2.alloc O).cell? ⟨gl, 4, none⟩ = some (ival m.key) := fun O => (KL2.out.alloc O).cell 4
  have g5 : ∀ O, (w2.alloc O).cell? ⟨gl, 5, none⟩ = some (ival m.v) := fun O => (KL2.out.alloc O).cell 5
  have z2 : ∀ O, (w2.alloc O).frozen? ⟨gl, 2, none⟩ = false := fun O => (KL2.out.alloc O).frozen 2
  have z3 : ∀ O, (w2.alloc O).frozen? ⟨gl, 3, none⟩ = false := fun O => (KL2.out.alloc O).frozen 3
  have z4 : ∀ O, (w2.alloc O).frozen? ⟨gl, 4, none⟩ = false := fun O => (KL2.out.alloc O).frozen 4
  have z5 : ∀ O, (w2.alloc O).frozen? ⟨gl, 5, none⟩ = false := fun O => (KL2.out.alloc O).frozen 5
  go_wp2_with fail
  have K25 := Lib.hid (((((K22.out.alloc (.cells #[ival m1.k, ival m1.n, ival m1.key, ival m1.v] 31)).far (p := ⟨gl, 2, none⟩) hne (ival m1.k)).far (p := ⟨gl, 3, none⟩) hne (ival m1.n)).far (p := ⟨gl, 4, none⟩) hne (ival m1.key)).far (p := ⟨gl, 5, none⟩) hne (ival m1.v))
  have K45 := Lib.hid (((((K42.out.alloc (.cells #[ival m1.k, ival m1.n, ival m1.key, ival m1.v] 31)).far (p := ⟨gl, 2, none⟩) hne2 (ival m1.k)).far (p := ⟨gl, 3, none⟩) hne2 (ival m1.n)).far (p := ⟨gl, 4, none⟩) hne2 (ival m1.key)).far (p := ⟨gl, 5, none⟩) hne2 (ival m1.v))
  have hog : Only (fun i => i = gl) w2 (((((w2.alloc (.cells #[ival m1.k, ival m1.n, ival m1.key, ival m1.v] 31)).setCell ⟨gl, 2, none⟩ (ival m1.k)).setCell ⟨gl, 3, none⟩ (ival m1.n)).setCell ⟨gl, 4, none⟩ (ival m1.key)).setCell ⟨gl, 5, none⟩ (ival m1.v)) := (((((Only.refl (fun i => i = gl) w2).alloc _).setCell (.inl rfl) 2 _).setCell (.inl rfl) 3 _).setCell (.inl rfl) 4 _).setCell (.inl rfl) 5 _
  have HO5 : Hid (Only (LinkS gl gc) w (((((w2.alloc (.cells #[ival m1.k, ival m1.n, ival m1.key, ival m1.v] 31)).setCell ⟨gl, 2, none⟩ (ival m1.k)).setCell ⟨gl, 3, none⟩ (ival m1.n)).setCell ⟨gl, 4, none⟩ (ival m1.key)).setCell ⟨gl, 5, none⟩ (ival m1.v))) := HO2.out.trans hog (fun i hi => .inl (.inl hi))
  have HL5 : Hid (LAt (((((w2.alloc (.cells #[ival m1.k, ival m1.n, ival m1.key, ival m1.v] 31)).setCell ⟨gl, 2, none⟩ (ival m1.k)).setCell ⟨gl, 3, none⟩ (ival m1.n)).setCell ⟨gl, 4, none⟩ (ival m1.key)).setCell ⟨gl, 5, none⟩ (ival m1.v)) base gl gc most (m1 :: L)) := by
    have hlg : gc < w2.heap.size := by
      rcases Nat.lt_or_ge gc w2.heap.size with h1 | h1
      · exact h1
      · have := HC2.out; rw [Array.getElem?_eq_none h1] at this; cases this
    exact ⟨(((((KL2.out.alloc _).set_ 2 _).set_ 3 _).set_ 4 _).set_ 5 _), ⟨s, r + 1, (hog.block gc hlg (fun h => HL.out.ne h.symm)).trans HC2.out⟩, by have := HL.out.len; simp at this ⊢; omega, HL.out.lo, HL.out.hi, HL.out.bl, HL.out.bc⟩
  clear d2 d3 d4 d5 d6 f2 f3 f4 f5 f6 g2 g3 g4 g5 z2 z3 z4 z5 hn2 hog
  generalize (((((w2.alloc (.cells #[ival m1.k, ival m1.n, ival m1.key, ival m1.v] 31)).setCell ⟨gl, 2, none⟩ (ival m1.k)).setCell ⟨gl, 3, none⟩ (ival m1.n)).setCell ⟨gl, 4, none⟩ (ival m1.key)).setCell ⟨gl, 5, none⟩ (ival m1.v)) = w5 at *
  have e0 : w5.cell? ⟨w.heap.size + 1, 0, none⟩ = some (ival m.k) := K45.out.cell 0
  have e1 : w5.cell? ⟨w.heap.size + 1, 1, none⟩ = some (ival m.n) := K45.out.cell 1
  have e2 : w5.cell? ⟨w.heap.size + 1, 2, none⟩ = some (ival m.key) := K45.out.cell 2
  have e3 : w5.cell? ⟨w.heap.size + 1, 3, none⟩ = some (ival m.v) := K45.out.cell 3
  have x0 : w5.cell? ⟨w.heap.size, 0, none⟩ = some (ival 0) := K25.out.cell 0
  have x1 : w5.cell? ⟨w.heap.size, 1, none⟩ = some (ival 0) := K25.out.cell 1
  have x2 : w5.cell? ⟨w.heap.size, 2, none⟩ = some (ival 0) := K25.out.cell 2
  have x3 : w5.cell? ⟨w.heap.size, 3, none⟩ = some (ival 0) := K25.out.cell 3
  have y0 : w5.frozen? ⟨w.heap.size, 0, none⟩ = false := K25.out.frozen 0
  have y1 : w5.frozen? ⟨w.heap.size, 1, none⟩ = false := K25.out.frozen 1
  have y2 : w5.frozen? ⟨w.heap.size, 2, none⟩ = false := K25.out.frozen 2
  have y3 : w5.frozen? ⟨w.heap.size, 3, none⟩ = false := K25.out.frozen 3
  refine wpN_of ?_
  go_wp2_with fail
  have hok : Only (fun i => i = w.heap.size) w5 ((((w5.setCell ⟨w.heap.size, 0, none⟩ (ival m.k)).setCell ⟨w.heap.size, 1, none⟩ (ival m.n)).setCell ⟨w.heap.size, 2, none⟩ (ival m.key)).setCell ⟨w.heap.size, 3, none⟩ (ival m.v)) :=
    ((((Only.refl (fun i => i = w.heap.size) w5).setCell (.inl rfl) 0 _).setCell (.inl rfl) 1 _).setCell (.inl rfl) 2 _).setCell (.inl rfl) 3 _
  refine end_msg2 rfl rfl rfl (show Blk _ _ _ #[ival m.k, ival m.n, ival m.key, ival m.v] from (((K25.out.set_ 0 _).set_ 1 _).set_ 2 _).set_ 3 _) rfl rfl ?_
  refine ⟨rfl, ?_, ?_⟩
  · exact HL5.out.other hok (fun h => hne h.symm) (fun h => HG.out.1 h)
  · exact HO5.out.trans hok (fun i hi => .inr (Nat.le_of_eq hi.symm))
theorem pop_any (base gl gc most : Nat) (L : List Msg) (w : World) (h : LAt w base gl gc most L) :
    Calls Try.prog 13 #[.pointer (some ⟨gl, 0, none⟩)] w fun e w' => e = .returned (.tuple #[msgV (L.headD Msg.zero), .bool (!L.isEmpty)]) ∧ LAt w' base gl gc most L.tail ∧ Only (LinkS gl gc) w w' := by
  rcases L with _ | ⟨m, L⟩
  · exact pop_last base gl gc most [] w h rfl
  · rcases L with _ | ⟨m1, L⟩
    · exact pop_last base gl gc most [m] w h rfl
    · exact pop_more base gl gc most m m1 L w h
end Go.Proofs.Ytpnkobdnifopiaa
