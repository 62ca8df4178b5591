/-
  A list of frames whose bodies are written over, one by one.
-/
import Derived.Test.YtalkglmneicpoaaGreatDoorFrmScan
import Derived.Test.YtalkglmneicpoaaGreatDoorFrmKit
namespace Go.Proofs.YtalkglmneicpoaaGreatDoor
set_option linter.unusedVariables false
set_option linter.unusedSimpArgs false
open Go.RowKit
/-- A list of frames of a call's own, the bodies' bytes whatever they are. -/
structure FrsSp (w : World) (base : Nat) (v : Value) (G : List FrV) : Prop where
  own : w.ownsRow base 25 2 v G.length (cellsG G)
  body : ∀ i (h : i < G.length), ∃ ys, w.ownsRow base 5 1 (G[i]).2 (G[i]).1.b.length ys
  apart : G.Pairwise apartV
theorem FrsAt.sp {w : World} {base : Nat} {v : Value} {G : List FrV} (h : FrsAt w base v G) : FrsSp w base v G :=
  ⟨h.own, fun i hi => ⟨_, h.body _ (List.getElem_mem hi)⟩, h.apart⟩
theorem apartV_symm {x y : FrV} (h : apartV x y) : apartV y x := by
  unfold apartV at *
  cases hy : y.2.ownBlock with
  | none => exact .inl rfl
  | some g =>
    refine .inr fun e => ?_
    rcases h with h | h
    · rw [h] at e; cases e
    · exact h (by rw [hy, ← e])
theorem FrsSp.spoil {w w' : World} {base : Nat} {v : Value} {G : List FrV} (h : FrsSp w base v G) {k : Nat} (hk : k < G.length) (ho : Only (fun i => (G[k]).2.ownBlock = some i) w w') (hs : ∃ ys, w'.ownsRow base 5 1 (G[k]).2 (G[k]).1.b.length ys) : FrsSp w' base v G := by
  obtain ⟨ys, hy⟩ := h.body k hk
  refine ⟨own_only h.own ho (fun g hg e => ?_), fun i hi => ?_, h.apart⟩
  · rcases own_types_ne hy h.own (by decide) with h1 | h1
    · rw [h1] at e; cases e
    · exact h1 (by rw [e, hg])
  · by_cases hik : i = k
    · subst hik; exact hs
    · obtain ⟨zs, hz⟩ := h.body i hi
      refine ⟨zs, own_only hz ho (fun g hg e => ?_)⟩
      have hap : apartV G[i] G[k] := by
        rcases Nat.lt_or_gt_of_ne hik with hlt | hlt
        · exact List.pairwise_iff_getElem.1 h.apart i k hi hk hlt
        · exact apartV_symm (List.pairwise_iff_getElem.1 h.apart k i hk hi hlt)
      rcases hap with h1 | h1
      · rw [h1] at hg; cases hg
      · exact h1 (by rw [hg, e])
theorem getF_len (L : List UInt8) : (getF L).b.length ≤ 262144 := by
  by_cases h : getE L = 0
  · exact (get_forms L h).1.2.2
  · unfold getF; rw [if_neg h]; simp
theorem scanF_len : ∀ (n : Nat) (L : List UInt8), ∀ f ∈ (scanF n L).1, f.b.length ≤ 262144 := by
  intro n
  induction n with
  | zero => intro L f hf; simp [scanF] at hf
  | succ n ih =>
    intro L f hf
    simp only [scanF] at hf
    split at hf
    · rcases List.mem_cons.1 hf with h | h
      · rw [h]; exact getF_len L
      · exact ih _ f h
    · simp at hf
end Go.Proofs.YtalkglmneicpoaaGreatDoor
