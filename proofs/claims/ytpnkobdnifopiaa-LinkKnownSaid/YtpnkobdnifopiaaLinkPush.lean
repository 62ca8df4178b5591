/-
  A link's New, Push.
-/
import Derived.Test.YtpnkobdnifopiaaLink
import Derived.KernelRfl
namespace Go.Proofs.Ytpnkobdnifopiaa
set_option linter.unusedVariables false
set_option linter.unusedSimpArgs false
open Go.RowKit Go.Conc
def pushL (most : Nat) (L : List Msg) (m : Msg) : List Msg := if L.length < most then L ++ [m] else L
def LinkS (gl gc : Nat) (i : Nat) : Prop := i = gl ∨ i = gc
theorem only_setChan {S : Nat → Prop} {w w' : World} (h : Only S w w') {c : Nat} (hc : S c ∨ w.heap.size ≤ c) (cap : Nat) (buf : Array Value) (cl : Bool) (s r : Nat) (tm : Bool) : Only S w (w'.setChan c cap buf cl s r tm) :=
  ⟨h.os, h.tape, h.output, by simpa [World.setChan] using h.size, fun i hi hn => by
    have hne : c ≠ i := by
      rintro rfl
      rcases hc with h1 | h1
      · exact hn h1
      · omega
    simp only [World.setChan]
    rw [Array.getElem?_setIfInBounds_ne hne]
    exact h.block i hi hn⟩
set_option maxRecDepth 100000 in
set_option maxHeartbeats 1000000 in
theorem push_full (base gl gc most : Nat) (L : List Msg) (m : Msg) (w : World) (h : LAt w base gl gc most L) (hf : L.length = most) :
    Calls Try.prog 11 #[.pointer (some ⟨gl, 0, none⟩), msgV m] w fun e w' => e = .returned (.bool false) ∧ Below w.heap.size w w' := by
  have hb : Below w.heap.size w (w.alloc (.cells #[ival m.k, ival m.n, ival m.key, ival m.v] 31)) := (Below.refl _ _).alloc (Nat.le_refl _) _
  have ho : Only (fun _ => False) w (w.alloc (.cells #[ival m.k, ival m.n, ival m.key, ival m.v] 31)) := Only.of_below hb
  have hl : LAt (w.alloc (.cells #[ival m.k, ival m.n, ival m.key, ival m.v] 31)) base gl gc most L := by
    obtain ⟨s, r, hc⟩ := h.chan
    have hlt : gc < w.heap.size := by
      rcases Nat.lt_or_ge gc w.heap.size with h1 | h1
      · exact h1
      · rw [Array.getElem?_eq_none h1] at hc; cases hc
    exact ⟨h.blk.only ho (fun h => h), ⟨s, r, (ho.block gc hlt (fun h => h)).trans hc⟩, h.len, h.lo, h.hi, h.bl, h.bc⟩
  have R := room_any base gl gc most L _ hl
  rw [show ((most : Int) - (L.length : Int)) = 0 by omega] at R
  have HR := Lib.hid R
  have HB := Lib.hid hb
  clear R hl h hf ho hb
  go_enter Try.func11, Try.ntmps11
  go_wp2_with fail
  go_must (refine HR.out.mono ?_)
  rintro e w1 ⟨rfl, q, rfl⟩
  go_wp2_with fail
  go_ret
  exact ⟨rfl, below_drewN HB.out q⟩
theorem LAt.other {w w' : World} {base gl gc most : Nat} {L : List Msg} {S : Nat → Prop} (h : LAt w base gl gc most L) (ho : Only S w w') (h1 : ¬ S gl) (h2 : ¬ S gc) : LAt w' base gl gc most L := by
  obtain ⟨s, r, hc⟩ := h.chan
  have hlt : gc < w.heap.size := by
    rcases Nat.lt_or_ge gc w.heap.size with h1 | h1
    · exact h1
    · rw [Array.getElem?_eq_none h1] at hc; cases hc
  exact ⟨h.blk.only ho h1, ⟨s, r, (ho.block gc hlt h2).trans hc⟩, h.len, h.lo, h.hi, h.bl, h.bc⟩
theorem LAt.below {w w' : World} {base gl gc most : Nat} {L : List Msg} (h : LAt w base gl gc most L) (hb : Below w.heap.size w w') : LAt w' base gl gc most L :=
  h.other (S := fun _ => False) (Only.of_below hb) (fun h => h) (fun h => h)
set_option maxRecDepth 100000 in
set_option maxHeartbeats 2000000 in
theorem push_first (base gl gc most : Nat) (m : Msg) (w : World) (h : LAt w base gl gc most []) :
    Calls Try.prog 11 #[.pointer (some ⟨gl, 0, none⟩), msgV m] w fun e w' => e = .returned (.bool true) ∧ LAt w' base gl gc most [m] ∧ Only (LinkS gl gc) w w' := by
  have hb : Below w.heap.size w (w.alloc (.cells #[ival m.k, ival m.n, ival m.key, ival m.v] 31)) := (Below.refl _ _).alloc (Nat.le_refl _) _
  have hl := h.below hb
  have hgl : gl < w.heap.size := h.blk.lt
  have R := room_any base gl gc most [] _ hl
  have hlo := h.lo
  have hm0 : ((most : Int) == 0) = false := by simp; omega
  simp only [List.length_nil, Int.natCast_zero, Int.sub_zero] at R
  have HR := Lib.hid R
  have HL := Lib.hid hl
  have HM := Lib.hid (Blk.new w 31 #[ival m.k, ival m.n, ival m.key, ival m.v])
  have HB := Lib.hid (Only.of_below (S := LinkS gl gc) hb)
  clear R hl h hb
  go_enter Try.func11, Try.ntmps11
  go_wp2_with fail
  go_must (refine HR.out.mono ?_)
  rintro e w1 ⟨rfl, q, rfl⟩
  generalize w.alloc (.cells #[ival m.k, ival m.n, ival m.key, ival m.v] 31) = w0 at *
  have c2 : w0.cell? ⟨gl, 2, none⟩ = some (ival 0) := HL.out.blk.cell 2
  have c3 : w0.cell? ⟨gl, 3, none⟩ = some (ival 0) := HL.out.blk.cell 3
  have c4 : w0.cell? ⟨gl, 4, none⟩ = some (ival 0) := HL.out.blk.cell 4
  have c5 : w0.cell? ⟨gl, 5, none⟩ = some (ival 0) := HL.out.blk.cell 5
  have c6 : w0.cell? ⟨gl, 6, none⟩ = some (.bool false) := HL.out.blk.cell 6
  have f2 : w0.frozen? ⟨gl, 2, none⟩ = false := HL.out.blk.frozen 2
  have f3 : w0.frozen? ⟨gl, 3, none⟩ = false := HL.out.blk.frozen 3
  have f4 : w0.frozen? ⟨gl, 4, none⟩ = false := HL.out.blk.frozen 4
  have f5 : w0.frozen? ⟨gl, 5, none⟩ = false := HL.out.blk.frozen 5
  have f6 : w0.frozen? ⟨gl, 6, none⟩ = false := HL.out.blk.frozen 6
  have b0 : w0.cell? ⟨w.heap.size, 0, none⟩ = some (ival m.k) := HM.out.cell 0
  have b1 : w0.cell? ⟨w.heap.size, 1, none⟩ = some (ival m.n) := HM.out.cell 1
  have b2 : w0.cell? ⟨w.heap.size, 2, none⟩ = some (ival m.key) := HM.out.cell 2
  have b3 : w0.cell? ⟨w.heap.size, 3, none⟩ = some (ival m.v) := HM.out.cell 3
  have HE : Hid (∀ w', w' = ((((((w0.drewN q).setCell ⟨gl, 2, none⟩ (ival m.k)).setCell ⟨gl, 3, none⟩ (ival m.n)).setCell ⟨gl, 4, none⟩ (ival m.key)).setCell ⟨gl, 5, none⟩ (ival m.v)).setCell ⟨gl, 6, none⟩ (.bool true)) → LAt w' base gl gc most [m] ∧ Only (LinkS gl gc) w w') := fun w' hw => by
    subst hw
    have hok : Only (fun i => i = gl) w0 ((((((w0.drewN q).setCell ⟨gl, 2, none⟩ (ival m.k)).setCell ⟨gl, 3, none⟩ (ival m.n)).setCell ⟨gl, 4, none⟩ (ival m.key)).setCell ⟨gl, 5, none⟩ (ival m.v)).setCell ⟨gl, 6, none⟩ (.bool true)) :=
      ((((((Only.refl (fun i => i = gl) w0).drewN q).setCell (.inl rfl) 2 _).setCell (.inl rfl) 3 _).setCell (.inl rfl) 4 _).setCell (.inl rfl) 5 _).setCell (.inl rfl) 6 _
    obtain ⟨s, r, hc⟩ := HL.out.chan
    have hlt : gc < w0.heap.size := by
      rcases Nat.lt_or_ge gc w0.heap.size with h1 | h1
      · exact h1
      · rw [Array.getElem?_eq_none h1] at hc; cases hc
    refine ⟨⟨(((((HL.out.blk.drewN q).set_ 2 _).set_ 3 _).set_ 4 _).set_ 5 _).set_ 6 _, ⟨s, r, (hok.block gc hlt (fun h => HL.out.ne h.symm)).trans hc⟩, hlo, hlo, HL.out.hi, HL.out.bl, HL.out.bc⟩, HB.out.trans hok (fun i hi => .inl (.inl hi))⟩
  go_wp2_with fail
  go_ret
  exact ⟨rfl, HE.out _ rfl⟩
set_option maxRecDepth 100000 in
set_option maxHeartbeats 2000000 in
theorem push_send (base gl gc most : Nat) (m0 : Msg) (L : List Msg) (m : Msg) (w : World) (h : LAt w base gl gc most (m0 :: L)) (hlt : L.length + 1 < most) :
    Calls Try.prog 11 #[.pointer (some ⟨gl, 0, none⟩), msgV m] w fun e w' => e = .returned (.bool true) ∧ LAt w' base gl gc most (m0 :: (L ++ [m])) ∧ Only (LinkS gl gc) w w' := by
  have hb : Below w.heap.size w (w.alloc (.cells #[ival m.k, ival m.n, ival m.key, ival m.v] 31)) := (Below.refl _ _).alloc (Nat.le_refl _) _
  have hl := h.below hb
  have hgl : gl < w.heap.size := h.blk.lt
  have R := room_any base gl gc most (m0 :: L) _ hl
  have hm0 : ((most : Int) - ((m0 :: L).length : Int) == 0) = false := by simp; omega
  have HR := Lib.hid R
  have HL := Lib.hid hl
  have HM := Lib.hid (Blk.new w 31 #[ival m.k, ival m.n, ival m.key, ival m.v])
  have HB := Lib.hid (Only.of_below (S := LinkS gl gc) hb)
  generalize hroom : (most : Int) - ((m0 :: L).length : Int) = rm at *
  have HRM := Lib.hid hroom
  clear R hl h hb hroom
  refine calls_of_wpN Try.func11 rfl ?_
  simp only [Try.ntmps11, List.size_toArray, List.length_cons, List.length_nil, Nat.reduceAdd, Nat.reduceSub, Array.replicate_succ, Array.replicate_zero, List.push_toArray, List.append_toArray, List.nil_append, List.cons_append]
  refine wpN_seq ?_
  go_wp2_with fail
  refine wpN_seq ?_
  go_wp2_with fail
  go_must (refine HR.out.mono ?_)
  rintro e w1 ⟨rfl, q, rfl⟩
  generalize w.alloc (.cells #[ival m.k, ival m.n, ival m.key, ival m.v] 31) = w0 at *
  have c6 : w0.cell? ⟨gl, 6, none⟩ = some (.bool true) := HL.out.blk.cell 6
  go_wp2_with fail
  refine wpN_seq ?_
  go_wp2_with fail
  refine wpN_seq2 ?_
  refine wpN_region_draw (fun t => ?_)
  rw [show Try.prog.follows .mixedOrders = true by kernel_rfl]
  show Arr _ _ _ (Region.linearise.go .any _ 6 t (Array.replicate 6 false) []) _ _
  have HL1 := Lib.hid ((HL.out.drewN q).drewN 1)
  have HM1 := Lib.hid ((HM.out.drewN q).drewN 1)
  have HB1 := Lib.hid ((HB.out.drewN q).drewN 1)
  change Arr _ _ _ _ _ ((w0.drewN q).drewN 1)
  generalize (w0.drewN q).drewN 1 = w1 at *
  obtain ⟨s, r, hc⟩ := HL1.out.chan
  have HC1 := Lib.hid hc
  have hroom2 : (bufV L).size < most := by rw [bufV_size]; omega
  have c1 : w1.cell? ⟨gl, 1, none⟩ = some (.chan (some gc)) := HL1.out.blk.cell 1
  have b0 : w1.cell? ⟨w.heap.size, 0, none⟩ = some (ival m.k) := HM1.out.cell 0
  have b1 : w1.cell? ⟨w.heap.size, 1, none⟩ = some (ival m.n) := HM1.out.cell 1
  have b2 : w1.cell? ⟨w.heap.size, 2, none⟩ = some (ival m.key) := HM1.out.cell 2
  have b3 : w1.cell? ⟨w.heap.size, 3, none⟩ = some (ival m.v) := HM1.out.cell 3
  clear hc c6
  have HE : Hid (LAt (w1.setChan gc most ((bufV L).push (msgV m)) false (s + 1) r false) base gl gc most (m0 :: (L ++ [m])) ∧ Only (LinkS gl gc) w (w1.setChan gc most ((bufV L).push (msgV m)) false (s + 1) r false)) := by
    have hlg : gc < w1.heap.size := by
      rcases Nat.lt_or_ge gc w1.heap.size with h1 | h1
      · exact h1
      · have := HC1.out; rw [Array.getElem?_eq_none h1] at this; cases this
    have ho : Only (fun i => i = gc) w1 (w1.setChan gc most ((bufV L).push (msgV m)) false (s + 1) r false) := only_setChan (S := fun i => i = gc) (Only.refl _ w1) (.inl rfl) _ _ _ _ _ _
    refine ⟨⟨HL1.out.blk.only ho (fun h => HL1.out.ne h), ⟨s + 1, r, ?_⟩, by simp; omega, HL1.out.lo, HL1.out.hi, HL1.out.bl, HL1.out.bc⟩, HB1.out.trans ho (fun i hi => .inl (.inr hi))⟩
    rw [heap_setChan _ _ _ _ _ _ _ _ hlg]
    simp [bufV]
  refine arr_two (i := 0) (j := 4) (by kernel_rfl) ?_ ?_
  · refine arr_two (i := 1) (j := 4) (by kernel_rfl) ?_ ?_
    · refine arr_two (i := 2) (j := 4) (by kernel_rfl) ?_ ?_
      · refine arr_two (i := 3) (j := 4) (by kernel_rfl) ?_ ?_
        · refine arr_one (i := 4) (by kernel_rfl) ?_
          refine arr_one (i := 5) (by kernel_rfl) ?_
          show Arr _ _ _ [0, 1, 2, 3, 4, 5] _ _
          refine arr_k rfl rfl (fun K hK => ?_)
          go_simp
          refine hK _ _ ?_
          clear hK K
          refine arr_k rfl rfl (fun K hK => ?_)
          go_simp
          refine hK _ _ ?_
          clear hK K
          refine arr_k rfl rfl (fun K hK => ?_)
          go_simp
          refine hK _ _ ?_
          clear hK K
          refine arr_k rfl rfl (fun K hK => ?_)
          go_simp
          refine hK _ _ ?_
          clear hK K
          refine arr_k rfl rfl (fun K hK => ?_)
          go_simp
          refine hK _ _ ?_
          clear hK K
          refine arr_send_k (c := gc) (v := msgV m) (z := .tuple #[]) rfl rfl (fun K hK => ?_) HC1.out hroom2 ?_
          · go_simp
            exact hK
          refine arr_ops ?_
          refine wpN_of ?_
          go_wp2_with fail
          go_ret
          exact ⟨rfl, HE.out⟩
        · refine arr_one (i := 3) (by kernel_rfl) ?_
          refine arr_one (i := 5) (by kernel_rfl) ?_
          show Arr _ _ _ [0, 1, 2, 4, 3, 5] _ _
          refine arr_k rfl rfl (fun K hK => ?_)
          go_simp
          refine hK _ _ ?_
          clear hK K
          refine arr_k rfl rfl (fun K hK => ?_)
          go_simp
          refine hK _ _ ?_
          clear hK K
          refine arr_k rfl rfl (fun K hK => ?_)
          go_simp
          refine hK _ _ ?_
          clear hK K
          refine arr_k rfl rfl (fun K hK => ?_)
          go_simp
          refine hK _ _ ?_
          clear hK K
          refine arr_k rfl rfl (fun K hK => ?_)
          go_simp
          refine hK _ _ ?_
          clear hK K
          refine arr_send_k (c := gc) (v := msgV m) (z := .tuple #[]) rfl rfl (fun K hK => ?_) HC1.out hroom2 ?_
          · go_simp
            exact hK
          refine arr_ops ?_
          refine wpN_of ?_
          go_wp2_with fail
          go_ret
          exact ⟨rfl, HE.out⟩
      · refine arr_one (i := 2) (by kernel_rfl) ?_
        refine arr_one (i := 3) (by kernel_rfl) ?_
        refine arr_one (i := 5) (by kernel_rfl) ?_
        show Arr _ _ _ [0, 1, 4, 2, 3, 5] _ _
        refine arr_k rfl rfl (fun K hK => ?_)
        go_simp
        refine hK _ _ ?_
        clear hK K
        refine arr_k rfl rfl (fun K hK => ?_)
        go_simp
        refine hK _ _ ?_
        clear hK K
        refine arr_k rfl rfl (fun K hK => ?_)
        go_simp
        refine hK _ _ ?_
        clear hK K
        refine arr_k rfl rfl (fun K hK => ?_)
        go_simp
        refine hK _ _ ?_
        clear hK K
        refine arr_k rfl rfl (fun K hK => ?_)
        go_simp
        refine hK _ _ ?_
        clear hK K
        refine arr_send_k (c := gc) (v := msgV m) (z := .tuple #[]) rfl rfl (fun K hK => ?_) HC1.out hroom2 ?_
        · go_simp
          exact hK
        refine arr_ops ?_
        refine wpN_of ?_
        go_wp2_with fail
        go_ret
        exact ⟨rfl, HE.out⟩
    · refine arr_one (i := 1) (by kernel_rfl) ?_
      refine arr_one (i := 2) (by kernel_rfl) ?_
      refine arr_one (i := 3) (by kernel_rfl) ?_
      refine arr_one (i := 5) (by kernel_rfl) ?_
      show Arr _ _ _ [0, 4, 1, 2, 3, 5] _ _
      refine arr_k rfl rfl (fun K hK => ?_)
      go_simp
      refine hK _ _ ?_
      clear hK K
      refine arr_k rfl rfl (fun K hK => ?_)
      go_simp
      refine hK _ _ ?_
      clear hK K
      refine arr_k rfl rfl (fun K hK => ?_)
      go_simp
      refine hK _ _ ?_
      clear hK K
      refine arr_k rfl rfl (fun K hK => ?_)
      go_simp
      refine hK _ _ ?_
      clear hK K
      refine arr_k rfl rfl (fun K hK => ?_)
      go_simp
      refine hK _ _ ?_
      clear hK K
      refine arr_send_k (c := gc) (v := msgV m) (z := .tuple #[]) rfl rfl (fun K hK => ?_) HC1.out hroom2 ?_
      · go_simp
        exact hK
      refine arr_ops ?_
      refine wpN_of ?_
      go_wp2_with fail
      go_ret
      exact ⟨rfl, HE.out⟩
  · refine arr_one (i := 0) (by kernel_rfl) ?_
    refine arr_one (i := 1) (by kernel_rfl) ?_
    refine arr_one (i := 2) (by kernel_rfl) ?_
    refine arr_one (i := 3) (by kernel_rfl) ?_
    refine arr_one (i := 5) (by kernel_rfl) ?_
    show Arr _ _ _ [4, 0, 1, 2, 3, 5] _ _
    refine arr_k rfl rfl (fun K hK => ?_)
    go_simp
    refine hK _ _ ?_
    clear hK K
    refine arr_k rfl rfl (fun K hK => ?_)
    go_simp
    refine hK _ _ ?_
    clear hK K
    refine arr_k rfl rfl (fun K hK => ?_)
    go_simp
    refine hK _ _ ?_
    clear hK K
    refine arr_k rfl rfl (fun K hK => ?_)
    go_simp
    refine hK _ _ ?_
    clear hK K
    refine arr_k rfl rfl (fun K hK => ?_)
    go_simp
    refine hK _ _ ?_
    clear hK K
    refine arr_send_k (c := gc) (v := msgV m) (z := .tuple #[]) rfl rfl (fun K hK => ?_) HC1.out hroom2 ?_
    · go_simp
      exact hK
    refine arr_ops ?_
    refine wpN_of ?_
    go_wp2_with fail
    go_ret
    exact ⟨rfl, HE.out⟩
def pushOk (most : Nat) (L : List Msg) : Bool := decide (L.length < most)
theorem push_any (base gl gc most : Nat) (L : List Msg) (m : Msg) (w : World) (h : LAt w base gl gc most L) :
    Calls Try.prog 11 #[.pointer (some ⟨gl, 0, none⟩), msgV m] w fun e w' => e = .returned (.bool (pushOk most L)) ∧ LAt w' base gl gc most (pushL most L m) ∧ Only (LinkS gl gc) w w' := by
  unfold pushOk pushL
  by_cases hf : L.length = most
  · rw [if_neg (by omega), show decide (L.length < most) = false by simp; omega]
    exact (push_full base gl gc most L m w h hf).mono fun e w' h' => ⟨h'.1, h.below h'.2, Only.of_below h'.2⟩
  · have hlt : L.length < most := by have := h.len; omega
    rw [if_pos hlt, show decide (L.length < most) = true by simpa using hlt]
    rcases L with _ | ⟨m0, L⟩
    · exact push_first base gl gc most m w h
    · exact push_send base gl gc most m0 L m w h (by simpa using hlt)
end Go.Proofs.Ytpnkobdnifopiaa
