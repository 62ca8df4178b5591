/-
  A log among other memory; the chapter's example (works); Size.
-/
import Derived.Test.YtalkglmneicpoaaGreatDoorWalApp
import Derived.Test.YtalkglmneicpoaaGreatDoorPick
namespace Go.Proofs.YtalkglmneicpoaaGreatDoor
set_option linter.unusedVariables false
set_option linter.unusedSimpArgs false
open Go.RowKit
/-- The blocks of a list of frames. -/
def FrsB (v : Value) (G : List FrV) (i : Nat) : Prop := v.ownBlock = some i ∨ ∃ x ∈ G, x.2.ownBlock = some i
theorem FrsAt.off {S : Nat → Prop} {w w' : World} {base : Nat} {v : Value} {G : List FrV} (h : FrsAt w base v G) (ho : Only S w w') (hS : ∀ i, FrsB v G i → ¬ S i) : FrsAt w' base v G :=
  ⟨own_only h.own ho (fun g hg => hS g (.inl hg)), fun x hx => own_only (h.body x hx) ho (fun g hg => hS g (.inr ⟨x, hx, hg⟩)), h.apart⟩
def OneOpen (r : Bool) (X : Nat → Prop) (base g N : Nat) (st : DSt) (a : Bool) (w : World) (e : Ending) (w' : World) : Prop :=
  ∃ v G gl, e = .returned (.tuple #[.pointer (some ⟨gl, 0, none⟩), v]) ∧ Blk w' gl (lType r) (lCells g a) ∧ w.heap.size ≤ gl ∧ FrsAt w' w.heap.size v G ∧ G.map (·.1) = openFr st a ∧
    One r (fun i => X i ∨ FrsB v G i ∨ i = gl) w' base g N (openSt st a) ∧ Only (Rest base X) w w' ∧ ¬ FrsB v G gl
section
variable {P : Program} {f : FuncId} {args : Array Value} {r : Bool} {X X' : Nat → Prop} {w w' : World} {base g N : Nat} {st : DSt} {a : Bool}
theorem FrsAt.frsB_lt {v : Value} {G : List FrV} (h : FrsAt w base v G) {i : Nat} (hi : FrsB v G i) : base ≤ i ∧ i < w.heap.size := by
  rcases hi with hi | ⟨x, hx, hi⟩
  · exact h.own.lt i hi
  · exact (h.body x hx).lt i hi
theorem One.open_ (h : One r X w base g N st) (hc : ∀ S, DAt r w base g N S st → base ≤ w.heap.size → Calls P f args w (OpenPost r base g N S st a w)) : Calls P f args w (OneOpen r X base g N st a w) := by
  obtain ⟨S, hd, hx, hb⟩ := h
  refine (hc S hd hb).mono fun e w' h => ?_
  obtain ⟨v, G, gl, S', he, hblk, hgl, hf, hm, hd', ho, hs', hng, hoff, hne1, hne2⟩ := h
  refine ⟨v, G, gl, he, hblk, hgl, hf, hm, ⟨S', hd', ?_, Nat.le_trans hb ho.size⟩, ho.mono (fun i hi => ⟨(hd.all i hi).1, fun h => (hx i h).1 hi⟩), ?_⟩
  · rintro i (hi | hi | hi)
    · refine ⟨fun h => ?_, Nat.lt_of_lt_of_le (hx i hi).2 ho.size⟩
      rcases hs' i h with h1 | h1
      · exact (hx i hi).1 h1
      · have := (hx i hi).2; omega
    · refine ⟨?_, (hf.frsB_lt hi).2⟩
      rcases hi with hi | ⟨x, hx', hi⟩
      · exact hoff.1 i hi
      · exact hoff.2 x hx' i hi
    · subst hi
      exact ⟨hng, hblk.lt⟩
  · rintro (h | ⟨x, hx', h⟩)
    · exact hne1 _ h rfl
    · exact hne2 x hx' _ h rfl
/-- Fewer blocks that are not its own. -/
theorem One.less (h : One r X w base g N st) (hX : ∀ i, X' i → X i) : One r X' w base g N st := by
  obtain ⟨S, hd, hx, hb⟩ := h
  exact ⟨S, hd, fun i hi => hx i (hX i hi), hb⟩
end
set_option maxRecDepth 100000 in
set_option maxHeartbeats 1000000 in
theorem size_any (n : Int) (w : World) (hn : -9223372036854775808 ≤ n) (hn2 : n ≤ 9223372036854775807) :
    Calls Tryz.prog 11 #[.int .i64 n] w fun e w' => e = .returned (.int .i64 ((64 + (n % 16384).toNat : Nat) : Int)) ∧ w = w' := by
  have C := Lib.hid (pick_any n 16384 w (by omega) (by omega) hn hn2)
  have h1 := Int.emod_nonneg n (show (16384 : Int) ≠ 0 by omega)
  have h2 := Int.emod_lt_of_pos n (show (0 : Int) < 16384 by omega)
  obtain ⟨q, hq⟩ : ∃ q : Nat, n % 16384 = (q : Int) := ⟨(n % 16384).toNat, by omega⟩
  rw [hq] at C h1 h2 ⊢
  clear hq
  have hw : IntKind.i64.wrap (64 + (q : Int)) = 64 + (q : Int) := IntWalk.i64_in _ (by omega)
  go_enter Tryz.func11, Tryz.ntmps11
  go_wp2_with fail
  go_must (refine C.out.mono ?_)
  rintro e _ ⟨rfl, rfl⟩
  go_wp2_with fail
  go_ret
  exact ⟨by simp, rfl⟩
def wk1 : DSt := openSt DSt.new true
def wk2 : DSt := appSt 64 wk1 true ⟨1, [7]⟩
def wk3 : DSt := wk2.sync true
def wk4 : DSt := appSt 64 wk3 true ⟨2, [8, 9]⟩
def wk5 : DSt := appSt 64 wk4 true ⟨2, List.replicate 60 0⟩
def wk6 : DSt := wk5.crash 5
def wk7 : DSt := openSt wk6 true
theorem wk_facts : openFr DSt.new true = [] ∧ appN 64 wk1 true ⟨1, [7]⟩ = 0 ∧ appN 64 wk3 true ⟨2, [8, 9]⟩ = 0 ∧ appN 64 wk4 true ⟨2, List.replicate 60 0⟩ = 12 ∧ openFr wk6 true = [⟨1, [7]⟩] ∧ (wk7 true).1.length = 10 := by
  refine ⟨?_, ?_, ?_, ?_, ?_, ?_⟩ <;> decide +kernel
end Go.Proofs.YtalkglmneicpoaaGreatDoor
