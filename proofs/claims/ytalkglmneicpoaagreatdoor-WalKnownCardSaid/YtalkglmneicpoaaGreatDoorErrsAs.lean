/-
  errors.As at a frame's own error; the number of an error.
-/
import Derived.Test.YtalkglmneicpoaaGreatDoorErrs
import Derived.Test.YtalkglmneicpoaaGreatDoorOnly
namespace Go.Proofs.YtalkglmneicpoaaGreatDoor
set_option linter.unusedVariables false
set_option linter.unusedSimpArgs false
open Go.RowKit Go.Extern.Stop Go.Stop Go.Extern
/-- The handle that package errors holds: error's own type. -/
def HandOk (w : World) : Prop := w.cell? ⟨1, 0, none⟩ = some (.iface 129 (.agg #[hand 75]))
theorem HandOk.pos {w : World} (h : HandOk w) : 1 < w.heap.size := by
  rcases Nat.lt_or_ge 1 w.heap.size with hlt | hge
  · exact hlt
  · unfold HandOk World.cell? at h
    rw [Array.getElem?_eq_none hge] at h
    cases h
theorem HandOk.below {w w' : World} {B : Nat} (h : HandOk w) (hb : Below B w w') (hB : 1 < B) : HandOk w' := (hb.cell (p := ⟨1, 0, none⟩) hB).trans h
theorem HandOk.alloc {w : World} (h : HandOk w) (o : Obj) : HandOk (w.alloc o) := (World.cell?_alloc_lt w o _ h.pos).trans h
theorem setRow_blk {w : World} {g : Nat} {t : TypeId} {C0 : Array Value} (h : Blk w g t C0) (C : Array Value) : Blk (w.setRow g C) g t C := setRow_heap w g C0 C t _ h
theorem only_setRow {S : Nat → Prop} {w w' : World} (h : Only S w w') {g : Nat} (hg : S g ∨ w.heap.size ≤ g) (C : Array Value) : Only S w (w'.setRow g C) :=
  ⟨h.os, h.tape, h.output, by simpa [World.setRow] using h.size, fun i hi hn => by
    have hne : g ≠ i := by
      rintro rfl
      rcases hg with h1 | h1
      · exact hn h1
      · omega
    have : (w'.setRow g C).heap[i]? = w'.heap[i]? := by simp [World.setRow, Array.getElem?_modify, hne]
    exact this.trans (h.block i hi hn)⟩
end Go.Proofs.YtalkglmneicpoaaGreatDoor
