/-
  The document's Push; a new one of the document's.
-/
import Derived.Test.YtpnkobdnifopiaaLinkRef
import Derived.Deep.RegionLaw
namespace Go.Proofs.Ytpnkobdnifopiaa
set_option linter.unusedVariables false
set_option linter.unusedSimpArgs false
open Go.RowKit
section
variable {P : Program} {w : World}
theorem step_push {ops : Array Oper} {o : Oper} {a : Act} {K : Act → World → Prop} {Q : Exit → Act → World → Prop} {E : Prop} {W : World} {t e : TypeId} {size bytes : Nat} (he : ElemInfo P t e size bytes) (s x : Operand) (hgd : o.guard = none)
    (ho : o.op = .call { callee := .builtin .append, args := #[s, x], argTypes := #[t, t] })
    {base : Nat} {v : Value} {n : Nat} {xs : List Value} (hown : w.ownsRow base e size v n xs) (hs : a.eval s = v)
    (news : List Value) (hW : W = w.alloc (.cells news.toArray e)) {c : Nat} (hx : a.eval x = .slice (some ⟨w.heap.size, 0, none⟩) 1 c) (hl : news.length = size) (h1 : news.all Value.oneCell' = true)
    (hbytes : (n + 1) * bytes ≤ 140737488355328) (hbase : base ≤ w.heap.size)
    (h : ∀ v' w', w'.ownsRow base e size v' (n + 1) (xs ++ news) → w.grownBy w' v.ownBlock → (v'.ownBlock = v.ownBlock ∨ v'.ownBlock = some (w.heap.size + 1)) → Below base w w' → w.heap.size < w'.heap.size → K (a.put o.dst v') w') :
    if Region.wanted o (yielded ops a.tmps) = true then Oper.wp P o a W K Q else E := by
  subst hW
  obtain ⟨ht, hsz, hb, i, z, hi, hz, hsize, hby, hzs⟩ := he
  have h63 : n + 1 ≤ maxLen := by
    have := Nat.le_mul_of_pos_right (n + 1) hb
    unfold maxLen
    omega
  have hw : Region.wanted o (yielded ops a.tmps) = true := by simp [Region.wanted, hgd]
  rw [if_pos hw]
  exact wp_append_one w s x t ho base e i z size bytes ht hi hz hsize hby hzs hsz v n xs hs hown news c hx hl (fun u hu => List.all_eq_true.1 h1 u hu) h63 hbytes hbase h
end
theorem RAt.link {w w' : World} {base g most gl gc : Nat} {v : Value} {L : List Msg} (h : RAt w base g most v L) (ho : Only (LinkS gl gc) w w') (h1 : gl < base) (h2 : gc < base) : RAt w' base g most v L :=
  ⟨h.blk.only ho (fun hs => by have := h.bg; rcases hs with h3 | h3 <;> omega), own_only h.own ho (fun i hi hs => by
    have := (h.own.lt i hi).1
    rcases hs with h3 | h3 <;> omega), h.bg⟩
theorem RAt.below {w w' : World} {base g most : Nat} {v : Value} {L : List Msg} (h : RAt w base g most v L) (hb : Below w.heap.size w w') : RAt w' base g most v L :=
  ⟨h.blk.below hb h.blk.lt, own_below h.own hb, h.bg⟩
theorem LAt.ref {w w' : World} {base B gl gc most : Nat} {L : List Msg} (h : LAt w base gl gc most L) (hb : Below B w w') (h1 : gl < B) (h2 : gc < B) : LAt w' base gl gc most L :=
  h.other (S := fun i => B ≤ i) ⟨hb.os, hb.tape, hb.output, hb.size, fun i _ hn => hb.block i (by omega)⟩ (fun h => by omega) (fun h => by omega)
set_option maxRecDepth 100000 in
set_option maxHeartbeats 4000000 in
theorem rpush_any (base g most : Nat) (v : Value) (L : List Msg) (m : Msg) (w : World) (hm64 : most ≤ 64) (h : RAt w base g most v L) :
    Calls Try.prog 12 #[.pointer (some ⟨g, 0, none⟩), msgV m] w fun e w' => e = .returned (.bool (pushOk most L)) ∧ (∃ v', RAt w' base g most v' (pushL most L m)) ∧ Below base w w' := by
  obtain ⟨A, c, hv, hc, hm, hb⟩ := own_slice h.own
  subst hv
  have hbg := h.bg
  have hlt := h.blk.lt
  have c0 : w.cell? ⟨g, 0, none⟩ = some (.slice A L.length c) := h.blk.cell 0
  have c1 : w.cell? ⟨g, 1, none⟩ = some (ival most) := h.blk.cell 1
  have hne : w.heap.size ≠ g := by omega
  have H := Lib.hid h
  have HL : Hid (∀ w', Below w.heap.size w w' → (∃ v', RAt w' base g most v' L) ∧ Below base w w') := fun w' hb' => ⟨⟨_, H.out.below hb'⟩, hb'.mono (by omega)⟩
  unfold pushOk pushL
  by_cases hf : L.length < most
  · rw [if_pos hf, show decide (L.length < most) = true by simp [hf]]
    have hd : decide ((L.length : Int) ≥ (most : Int)) = false := by simp; omega
    have hd' : ¬ ((most : Int) ≤ (L.length : Int)) := by omega
    have hq : (L.length + 1) * 32 ≤ 140737488355328 := by omega
    have hc1 := c
    clear h
    have K0 : Hid (Blk (w.alloc (.cells #[ival m.k, ival m.n, ival m.key, ival m.v] 31)).drew w.heap.size 31 #[ival m.k, ival m.n, ival m.key, ival m.v]) := (Blk.new w _ _).drew
    have hb0 : Below w.heap.size w (w.alloc (.cells #[ival m.k, ival m.n, ival m.key, ival m.v] 31)).drew := ((Below.refl _ _).alloc (Nat.le_refl _) _).drew
    have HB0 := Lib.hid hb0
    have H0 := Lib.hid (H.out.below hb0)
    clear hb0
    go_enter Try.func12, Try.ntmps12
    go_wp2_with fail
    go_region
    all_goals go_wp2_with fail
    clear c0 c1
    generalize (w.alloc (.cells #[ival m.k, ival m.n, ival m.key, ival m.v] 31)).drew = w0 at *
    have c0 : w0.cell? ⟨g, 0, none⟩ = some (.slice A L.length c) := H0.out.blk.cell 0
    have e0 : w0.cell? ⟨w.heap.size, 0, none⟩ = some (ival m.k) := K0.out.cell 0
    have e1 : w0.cell? ⟨w.heap.size, 1, none⟩ = some (ival m.n) := K0.out.cell 1
    have e2 : w0.cell? ⟨w.heap.size, 2, none⟩ = some (ival m.key) := K0.out.cell 2
    have e3 : w0.cell? ⟨w.heap.size, 3, none⟩ = some (ival m.v) := K0.out.cell 3
    have f0 : w0.frozen? ⟨g, 0, none⟩ = false := H0.out.blk.frozen 0
    have a0 : ∀ O, (w0.drew.alloc O).cell? ⟨g, 0, none⟩ = some (.slice A L.length c) := fun O => (H0.out.blk.drew.alloc O).cell 0
    have a2 : ∀ O, (w0.drew.alloc O).frozen? ⟨g, 0, none⟩ = false := fun O => (H0.out.blk.drew.alloc O).frozen 0
    have b0 : ∀ O, (w0.alloc O).cell? ⟨g, 0, none⟩ = some (.slice A L.length c) := fun O => (H0.out.blk.alloc O).cell 0
    have b2 : ∀ O, (w0.alloc O).frozen? ⟨g, 0, none⟩ = false := fun O => (H0.out.blk.alloc O).frozen 0
    have HO := Lib.hid (H0.out.own.drew)
    have HBS : Hid (base ≤ w0.drew.heap.size) := by
      have := H0.out.blk.lt
      show base ≤ w0.heap.size
      omega
    have HF : Hid (∀ v1 w1, w1.ownsRow base 31 4 v1 (L.length + 1) (cellsL L ++ msgC m) → w0.drew.grownBy w1 (Value.slice A L.length c).ownBlock → Below base w0.drew w1 →
        w1.cell? ⟨g, 0, none⟩ = some (.slice A L.length c) ∧ w1.frozen? ⟨g, 0, none⟩ = false ∧ (∃ v', RAt (w1.setCell ⟨g, 0, none⟩ v1) base g most v' (L ++ [m])) ∧ Below base w (w1.setCell ⟨g, 0, none⟩ v1)) := fun v1 w1 h1 h2 h3 => by
      have hgn : some g ≠ (Value.slice A L.length c).ownBlock := fun h => own_blk_ne H0.out.own H0.out.blk (by decide) h.symm
      have kk := H0.out.blk.drew.grown h2 hgn
      have hvg : ∀ i, v1.ownBlock = some i → ¬ (i = g) := fun i hi h => by
        subst h
        exact own_blk_ne h1 kk (by decide) hi
      have hog : Only (fun i => i = g) w1 (w1.setCell ⟨g, 0, none⟩ v1) := (Only.refl (fun i => i = g) w1).setCell (.inl rfl) 0 v1
      refine ⟨kk.cell 0, kk.frozen 0, ⟨v1, ⟨kk.set_ 0 v1, ?_, hbg⟩⟩, ?_⟩
      · have := own_only h1 hog hvg
        rwa [← cellsL_push, show L.length + 1 = (L ++ [m]).length by simp] at this
      · exact ((HB0.out.mono (by omega)).trans ((Below.refl base w0).drew.trans h3)).trans (hog.to (fun i hi => by omega) (by have := h3.size; have := HBS.out; omega))
    clear f0 hb hm
    go_region_law ((refine step_push elMsg (.tmp 19) (.tmp 21) rfl rfl HO.out rfl [ival m.k, ival m.n, ival m.key, ival m.v] rfl rfl rfl rfl hq HBS.out ?_; intro v1 w1 hown1 hg1 hv1 hb1 hs1; obtain ⟨y1, y2, y3, y4⟩ := HF.out v1 w1 hown1 hg1 hb1; have Y3 := Lib.hid y3; have Y4 := Lib.hid y4; obtain ⟨A1, cc1, rfl, hd1, hd2, _⟩ := own_slice hown1; clear hown1 hg1 hv1 hb1 hs1 y3 y4))
    all_goals
      go_wp2_with fail
      go_ret
      exact ⟨rfl, Y3.out, Y4.out⟩
  · rw [if_neg hf, show decide (L.length < most) = false by simp [hf]]
    have hd : decide ((L.length : Int) ≥ (most : Int)) = true := by simp; omega
    have hd' : ((most : Int) ≤ (L.length : Int)) := by omega
    clear h
    go_enter Try.func12, Try.ntmps12
    go_wp2_with fail
    go_region
    all_goals
      go_wp2_with fail
      go_ret
      exact ⟨rfl, HL.out _ (((Below.refl _ _).alloc (Nat.le_refl _) _).drew)⟩
end Go.Proofs.Ytpnkobdnifopiaa
