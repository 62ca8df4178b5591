/-
  Lists of frames in memory: a row of the call's own, each body a row of its own; a list that reads.
-/
import Derived.Test.YtalkglmneicpoaaGreatDoorFrmGet
namespace Go.Proofs.YtalkglmneicpoaaGreatDoor
set_option linter.unusedVariables false
set_option linter.unusedSimpArgs false
open Go.RowKit
abbrev FrV := Fr × Value
def frC (x : FrV) : List Value := [ival x.1.k, x.2]
def cellsG (G : List FrV) : List Value := G.flatMap frC
theorem cellsG_len (G : List FrV) : (cellsG G).length = G.length * 2 := by
  induction G with
  | nil => rfl
  | cons x G ih =>
    show (frC x ++ cellsG G).length = _
    rw [List.length_append, ih, List.length_cons]
    simp [frC]
    omega
theorem cellsG_push (G : List FrV) (x : FrV) : cellsG (G ++ [x]) = cellsG G ++ frC x := by simp [cellsG]
theorem cellsG_at (G : List FrV) (k j : Nat) (hj : j < 2) (x : FrV) (h : G[k]? = some x) : (cellsG G)[k * 2 + j]? = (frC x)[j]? := by
  induction G generalizing k with
  | nil => cases h
  | cons y G ih =>
    show (frC y ++ cellsG G)[k * 2 + j]? = _
    have hx : (frC y).length = 2 := rfl
    cases k with
    | zero =>
      simp only [List.getElem?_cons_zero, Option.some.injEq] at h
      subst h
      rw [List.getElem?_append_left (by omega)]
      simp
    | succ k =>
      rw [List.getElem?_append_right (by omega), hx, show (k + 1) * 2 + j - 2 = k * 2 + j by omega]
      exact ih k (by simpa using h)
def apartV (x y : FrV) : Prop := x.2.ownBlock = none ∨ x.2.ownBlock ≠ y.2.ownBlock
/-- A list of frames of a call's own. -/
structure FrsAt (w : World) (base : Nat) (v : Value) (G : List FrV) : Prop where
  own : w.ownsRow base 25 2 v G.length (cellsG G)
  body : ∀ x ∈ G, w.ownsRow base 5 1 x.2 x.1.b.length (x.1.b.map bval)
  apart : G.Pairwise apartV
theorem FrsAt.nil (w : World) (base : Nat) : FrsAt w base (.slice none 0 0) [] := ⟨World.ownsRow_nil _ _ _ _, by simp, .nil⟩
theorem FrsAt.below {w w' : World} {base : Nat} {v : Value} {G : List FrV} (h : FrsAt w base v G) (hb : Below w.heap.size w w') : FrsAt w' base v G :=
  ⟨own_below h.own hb, fun x hx => own_below (h.body x hx) hb, h.apart⟩
theorem FrsAt.only {S : Nat → Prop} {w w' : World} {base : Nat} {v : Value} {G : List FrV} (h : FrsAt w base v G) (ho : Only S w w') (hS : ∀ i, base ≤ i → i < w.heap.size → ¬ S i) : FrsAt w' base v G :=
  ⟨own_only h.own ho (fun g hg => hS g (h.own.lt g hg).1 (h.own.lt g hg).2), fun x hx => own_only (h.body x hx) ho (fun g hg => hS g ((h.body x hx).lt g hg).1 ((h.body x hx).lt g hg).2), h.apart⟩
theorem FrsAt.rebase {w : World} {base base' : Nat} {v : Value} {G : List FrV} (h : FrsAt w base v G) (hb : base' ≤ base) : FrsAt w base' v G :=
  ⟨own_base h.own (fun g hg => Nat.le_trans hb (h.own.lt g hg).1), fun x hx => own_base (h.body x hx) (fun g hg => Nat.le_trans hb ((h.body x hx).lt g hg).1), h.apart⟩
theorem elFrame : ElemInfo Tryz.prog 26 25 2 32 := ElemInfo.mk' (z := .agg #[ival 0, .slice none 0 0]) Tryz.underlying26 (by kernel_rfl) rfl (by decide) (by decide)
theorem own_types_ne {w : World} {base base' : Nat} {e e' : TypeId} {size size' n n' : Nat} {v v' : Value} {xs xs' : List Value} (h : w.ownsRow base e size v n xs) (h' : w.ownsRow base' e' size' v' n' xs') (hne : e ≠ e') :
    v.ownBlock = none ∨ v.ownBlock ≠ v'.ownBlock := by
  rcases h.2 with ⟨rfl, _⟩ | ⟨g, cap, cur, rfl, _, h2, _⟩
  · exact .inl rfl
  · refine .inr fun hb => ?_
    rcases h'.2 with ⟨rfl, _⟩ | ⟨g', cap', cur', rfl, _, h2', _⟩
    · simp [Value.ownBlock] at hb
    · have : g = g' := by simpa [Value.ownBlock] using hb
      subst this
      rw [h2] at h2'
      injection h2' with h2'
      injection h2' with _ ht
      exact hne ht
/-- One frame more. -/
theorem FrsAt.push {w w' : World} {base : Nat} {v v' : Value} {G : List FrV} {x : FrV} (h : FrsAt w base v G) (hx : w.ownsRow base 5 1 x.2 x.1.b.length (x.1.b.map bval)) (hnew : ∀ y ∈ G, apartV y x)
    (hown : w'.ownsRow base 25 2 v' (G.length + 1) (cellsG G ++ frC x)) (hg : w.grownBy w' v.ownBlock) : FrsAt w' base v' (G ++ [x]) := by
  have hk : ∀ y : FrV, w.ownsRow base 5 1 y.2 y.1.b.length (y.1.b.map bval) → w'.ownsRow base 5 1 y.2 y.1.b.length (y.1.b.map bval) := fun y hy => hy.kept hg (own_types_ne hy h.own (by decide))
  refine ⟨by rw [cellsG_push, List.length_append]; exact hown, fun y hy => ?_, ?_⟩
  · rcases List.mem_append.1 hy with hy | hy
    · exact hk y (h.body y hy)
    · obtain rfl := List.mem_singleton.1 hy
      exact hk y hx
  · rw [List.pairwise_append]
    exact ⟨h.apart, List.pairwise_singleton _ _, fun y hy z hz => by obtain rfl := List.mem_singleton.1 hz; exact hnew y hy⟩
/-- A slice of bytes: where it lies, how many, of what room. -/
structure Sl where
  A : Option Addr
  m : Nat
  c : Nat
abbrev Sl.val (x : Sl) : Value := .slice x.A x.m x.c
/-- A list of frames that reads, at B and below. -/
def FrsRd (w : World) (B : Nat) (A : Option Addr) (F : List Fr) : Prop :=
  ∀ i f, F[i]? = some f → ∃ ad, A = some ad ∧ ad.block < B ∧ w.cell? (ad.add (i * 2)) = some (ival f.k) ∧ ∃ x : Sl, w.cell? (ad.add (i * 2 + 1)) = some x.val ∧ x.m ≤ x.c ∧ x.c ≤ maxLen ∧ Reads w B 1 x.A x.m (f.b.map bval)
theorem FrsRd.below {w w' : World} {B : Nat} {A : Option Addr} {F : List Fr} (h : FrsRd w B A F) (hb : Below B w w') : FrsRd w' B A F := fun i f hi => by
  obtain ⟨ad, hA, hB, hc, x, hx, h1, h2, hr⟩ := h i f hi
  exact ⟨ad, hA, hB, (hb.cell (p := ad.add (i * 2)) (by rw [block_of_add]; exact hB)).trans hc, x, (hb.cell (p := ad.add (i * 2 + 1)) (by rw [block_of_add]; exact hB)).trans hx, h1, h2, hr.below hb⟩
theorem FrsRd.more {w : World} {B B' : Nat} {A : Option Addr} {F : List Fr} (h : FrsRd w B A F) (hB : B ≤ B') : FrsRd w B' A F := fun i f hi => by
  obtain ⟨ad, hA, hb, hc, x, hx, h1, h2, hr⟩ := h i f hi
  exact ⟨ad, hA, by omega, hc, x, hx, h1, h2, hr.more hB⟩
theorem FrsRd.take {w : World} {B : Nat} {A : Option Addr} {F : List Fr} (h : FrsRd w B A F) (n : Nat) : FrsRd w B A (F.take n) := fun i f hi => by
  rw [List.getElem?_take] at hi
  split at hi
  · exact h i f hi
  · cases hi
theorem FrsAt.rd {w : World} {base : Nat} {A : Option Addr} {c : Nat} {G : List FrV} (h : FrsAt w base (.slice A G.length c) G) : FrsRd w w.heap.size A (G.map (·.1)) := fun i f hi => by
  rw [List.getElem?_map] at hi
  obtain ⟨x, hx, rfl⟩ := Option.map_eq_some_iff.1 hi
  have hlt : i < G.length := (List.getElem?_eq_some_iff.1 hx).1
  have h0 : 0 < G.length := by omega
  obtain ⟨ad, hA, hB, hc⟩ := (Reads.of_own h.own).2 h0
  obtain ⟨A1, c1, hv, h1, h2, _⟩ := own_slice (h.body x (List.mem_of_getElem? hx))
  refine ⟨ad, hA, hB, hc _ _ (by have := cellsG_at G i 0 (by omega) x hx; simpa [frC] using this), ⟨A1, x.1.b.length, c1⟩, ?_, h1, h2, ?_⟩
  · show _ = some (Value.slice A1 x.1.b.length c1)
    rw [← hv]
    exact hc _ _ (by have := cellsG_at G i 1 (by omega) x hx; simpa [frC] using this)
  · have := h.body x (List.mem_of_getElem? hx)
    rw [hv] at this
    exact Reads.of_own this
end Go.Proofs.YtalkglmneicpoaaGreatDoor
