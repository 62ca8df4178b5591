/-
  Two areas of bytes: their abstract state, the acts on it, and how the program's disk and the reference's disk hold it in memory.
-/
import Derived.Test.YtalkglmneicpoaaGreatDoorOnly
namespace Go.Proofs.YtalkglmneicpoaaGreatDoor
set_option linter.unusedVariables false
set_option linter.unusedSimpArgs false
open Go.RowKit
abbrev Ar := List UInt8 × Nat
/-- The state: each area's bytes, and how many are synced. -/
abbrev DSt := Bool → Ar
def updF {α : Type} (a : Bool) (v : α) (x : Bool → α) : Bool → α := fun b => if b = a then v else x b
def cutK (n : Int) (L : List UInt8) : Nat := (max 0 (min n L.length)).toNat
def cutL (n : Int) (L : List UInt8) : List UInt8 := L.take (cutK n L)
theorem cutK_le (n : Int) (L : List UInt8) : cutK n L ≤ L.length := by unfold cutK; omega
theorem cutL_len (n : Int) (L : List UInt8) : (cutL n L).length = cutK n L := by unfold cutL; rw [List.length_take]; have := cutK_le n L; omega
def DSt.cut (st : DSt) (a : Bool) (n : Int) : DSt := updF a (cutL n (st a).1, (cutL n (st a).1).length) st
def DSt.sync (st : DSt) (a : Bool) : DSt := updF a ((st a).1, (st a).1.length) st
def fits (N : Nat) (L b : List UInt8) : Bool := decide (b.length + L.length ≤ N)
def DSt.write (N : Nat) (st : DSt) (a : Bool) (b : List UInt8) : DSt := if fits N (st a).1 b = true then updF a ((st a).1 ++ b, (st a).2) st else st
def wrote (N : Nat) (st : DSt) (a : Bool) (b : List UInt8) : Int := if fits N (st a).1 b = true then 0 else 12
def keepN (keep : Int) (r : Ar) : Int := (r.2 : Int) + max 0 (min keep ((r.1.length : Int) - (r.2 : Int)))
def DSt.crash1 (st : DSt) (a : Bool) (keep : Int) : DSt := st.cut a (keepN keep (st a))
def DSt.crash (st : DSt) (keep : Int) : DSt := (st.crash1 false keep).crash1 true keep
def DSt.new : DSt := fun _ => ([], 0)
def aI (a : Bool) : Int := if a = true then 1 else 0
/-- What a disk of N bytes an area can be in. -/
def DSt.Ok (N : Nat) (st : DSt) : Prop := N ≤ 262144 ∧ ∀ a, (st a).1.length ≤ N ∧ (st a).2 ≤ (st a).1.length
theorem DSt.Ok.upd {N : Nat} {st : DSt} (h : st.Ok N) (a : Bool) (L : List UInt8) (s : Nat) (h1 : L.length ≤ N) (h2 : s ≤ L.length) : DSt.Ok N (updF a (L, s) st) :=
  ⟨h.1, fun b => by unfold updF; split; exact ⟨h1, h2⟩; exact h.2 b⟩
theorem DSt.Ok.new {N : Nat} (h : N ≤ 262144) : DSt.Ok N DSt.new := ⟨h, fun _ => ⟨Nat.zero_le _, Nat.le_refl _⟩⟩
theorem DSt.Ok.cut {N : Nat} {st : DSt} (h : st.Ok N) (a : Bool) (n : Int) : (st.cut a n).Ok N :=
  h.upd a _ _ (by rw [cutL_len]; exact Nat.le_trans (cutK_le _ _) (h.2 a).1) (Nat.le_refl _)
theorem DSt.Ok.sync {N : Nat} {st : DSt} (h : st.Ok N) (a : Bool) : (st.sync a).Ok N := h.upd a _ _ (h.2 a).1 (Nat.le_refl _)
theorem DSt.Ok.write {N : Nat} {st : DSt} (h : st.Ok N) (a : Bool) (b : List UInt8) : (st.write N a b).Ok N := by
  unfold DSt.write
  split
  · rename_i hf
    have hf' : b.length + (st a).1.length ≤ N := by simpa [fits] using hf
    exact h.upd a _ _ (by rw [List.length_append]; omega) (by rw [List.length_append]; have := (h.2 a).2; omega)
  · exact h
theorem DSt.Ok.crash1 {N : Nat} {st : DSt} (h : st.Ok N) (a : Bool) (n : Int) : (st.crash1 a n).Ok N := h.cut a _
theorem DSt.Ok.crash {N : Nat} {st : DSt} (h : st.Ok N) (n : Int) : (st.crash n).Ok N := (h.crash1 false n).crash1 true n

/-- The cells: of the program's disk (false), of the reference's (true). -/
def dCells (ref : Bool) (N : Nat) (x : Bool → Value) (st : DSt) : Array Value :=
  if ref = true then #[ival N, x false, x true, ival (st false).2, ival (st true).2] else #[ival N, x false, ival (st false).2, x true, ival (st true).2]
def dType (ref : Bool) : TypeId := if ref = true then 82 else 65
structure DAtX (ref : Bool) (w : World) (base g N : Nat) (S : Nat → Prop) (st : DSt) (x : Bool → Value) : Prop where
  blk : Blk w g (dType ref) (dCells ref N x st)
  row : ∀ a, w.ownsRow 0 5 1 (x a) (st a).1.length ((st a).1.map bval)
  inS : ∀ a i, (x a).ownBlock = some i → S i
  apart : ∀ a i, (x a).ownBlock = some i → (x !a).ownBlock ≠ some i
  self : S g
  all : ∀ i, S i → base ≤ i ∧ i < w.heap.size
  ok : st.Ok N
/-- A disk lies in the blocks of S. -/
def DAt (ref : Bool) (w : World) (base g N : Nat) (S : Nat → Prop) (st : DSt) : Prop := ∃ x, DAtX ref w base g N S st x
/-- What an act leaves. -/
def DPost (ref : Bool) (base g N : Nat) (S : Nat → Prop) (w : World) (v : Value) (st' : DSt) (e : Ending) (w' : World) : Prop :=
  e = .returned v ∧ DAt ref w' base g N (growS S w w') st' ∧ Only S w w'
section
variable {ref : Bool} {w w' : World} {base g N : Nat} {S S' : Nat → Prop} {st : DSt} {x : Bool → Value}
theorem dType_ne (ref : Bool) : (5 : TypeId) ≠ dType ref := by unfold dType; split <;> decide
theorem DAtX.self_ne (h : DAtX ref w base g N S st x) (a : Bool) : (x a).ownBlock ≠ some g := own_blk_ne (h.row a) h.blk (dType_ne ref)
theorem DAtX.keep (h : DAtX ref w base g N S st x) (ho : Only S' w w') (hd : ∀ i, S i → ¬ S' i) : DAtX ref w' base g N S st x where
  blk := h.blk.only ho (hd g h.self)
  row a := own_only (h.row a) ho fun i hi => hd i (h.inS a i hi)
  inS := h.inS
  apart := h.apart
  self := h.self
  all i hi := ⟨(h.all i hi).1, Nat.lt_of_lt_of_le (h.all i hi).2 ho.size⟩
  ok := h.ok
theorem DAt.keep (h : DAt ref w base g N S st) (ho : Only S' w w') (hd : ∀ i, S i → ¬ S' i) : DAt ref w' base g N S st := h.imp fun _ hx => hx.keep ho hd
theorem DAt.below (h : DAt ref w base g N S st) (hb : Below w.heap.size w w') : DAt ref w' base g N S st := h.keep (Only.of_below (S := fun _ => False) hb) fun _ _ hf => hf
theorem DAt.alloc (h : DAt ref w base g N S st) (o : Obj) : DAt ref (w.alloc o) base g N S st := h.below ((Below.refl _ _).alloc (Nat.le_refl _) _)
theorem DAt.drewN (h : DAt ref w base g N S st) (n : Nat) : DAt ref (w.drewN n) base g N S st := h.below (below_drewN (Below.refl _ _) _)
theorem DAt.all (h : DAt ref w base g N S st) : ∀ i, S i → base ≤ i ∧ i < w.heap.size := by obtain ⟨x, hx⟩ := h; exact hx.all
theorem DAt.ok (h : DAt ref w base g N S st) : st.Ok N := by obtain ⟨x, hx⟩ := h; exact hx.ok
theorem DAt.more (h : DAt ref w base g N S st) (hs : ∀ i, S i → S' i) (ha : ∀ i, S' i → base ≤ i ∧ i < w.heap.size) : DAt ref w base g N S' st := by
  obtain ⟨x, hx⟩ := h
  exact ⟨x, ⟨hx.blk, hx.row, fun a i hi => hs i (hx.inS a i hi), hx.apart, hs _ hx.self, ha, hx.ok⟩⟩
/-- An act on one area: its row is v now, the other one stands. -/
theorem DAtX.step (h : DAtX ref w base g N S st x) (ho : Only S w w') (hsz : base ≤ w.heap.size) (a : Bool) (v : Value) (L : List UInt8) (s : Nat) (hb : Blk w' g (dType ref) (dCells ref N (updF a v x) (updF a (L, s) st)))
    (hv : w'.ownsRow 0 5 1 v L.length (L.map bval)) (hvb : ∀ i, v.ownBlock = some i → (x a).ownBlock = some i ∨ w.heap.size ≤ i) (hoth : w'.ownsRow 0 5 1 (x !a) (st !a).1.length ((st !a).1.map bval))
    (hl : L.length ≤ N) (hs : s ≤ L.length) : DAtX ref w' base g N (growS S w w') (updF a (L, s) st) (updF a v x) where
  blk := hb
  row b := by
    by_cases hba : b = a
    · subst hba; simpa [updF] using hv
    · have : b = !a := by cases a <;> cases b <;> simp_all
      subst this
      simpa [updF] using hoth
  inS b i hi := by
    by_cases hba : b = a
    · subst hba
      have hi' : v.ownBlock = some i := by simpa [updF] using hi
      rcases hvb i hi' with h1 | h1
      · exact .inl (h.inS _ i h1)
      · exact .inr ⟨h1, (hv.lt i hi').2⟩
    · have : (x b).ownBlock = some i := by simpa [updF, hba] using hi
      exact .inl (h.inS b i this)
  apart b i hi := by
    by_cases hba : b = a
    · subst hba
      have hi' : v.ownBlock = some i := by simpa [updF] using hi
      have hne : (!b) ≠ b := by cases b <;> simp
      simp only [updF, if_neg hne]
      rcases hvb i hi' with h1 | h1
      · exact h.apart b i h1
      · intro hc
        have := (h.all i (h.inS _ i hc)).2
        omega
    · have hb' : b = !a := by cases a <;> cases b <;> simp_all
      subst hb'
      have hi' : (x !a).ownBlock = some i := by simpa [updF] using hi
      simp only [updF, Bool.not_not, if_true]
      intro hc
      rcases hvb i hc with h1 | h1
      · have := h.apart a i h1
        exact this hi'
      · have := (h.all i (h.inS _ i hi')).2
        omega
  self := .inl h.self
  all i hi := by
    rcases hi with h1 | ⟨h1, h2⟩
    · exact ⟨(h.all i h1).1, Nat.lt_of_lt_of_le (h.all i h1).2 ho.size⟩
    · exact ⟨Nat.le_trans hsz h1, h2⟩
  ok := h.ok.upd a L s hl hs
end
end Go.Proofs.YtalkglmneicpoaaGreatDoor
