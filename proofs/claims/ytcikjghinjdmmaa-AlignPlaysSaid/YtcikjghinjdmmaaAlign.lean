/-
  Align: its cells in memory, what it is, New, open, and the ways on which Barrier refuses.
-/
import Derived.Test.YtcikjghinjdmmaaMem
import Derived.Deep.QuietTactic
import Derived.BigQuiet
namespace Go.Proofs.Ytcikjghinjdmmaa
set_option linter.unusedVariables false
set_option linter.unusedSimpArgs false
open Go.RowKit
/-- The cells of an Align. -/
def alCells (n cnt : Int) (bl : List Bool) (ap lp : Option Addr) : Array Value := ([ival n, ival cnt] ++ bl.map Value.bool ++ [Value.pointer ap, Value.pointer lp]).toArray
def noneB : Array Value := (List.replicate 96 (Value.bool false)).toArray
def zAlign : Array Value := alCells 0 0 (List.replicate 96 false) none none
theorem zeroAl (W : World) : (zeroValue 42).run Try.prog W = .ok (.agg zAlign) W := by kernel_rfl
theorem zeroBl (W : World) : (zeroValue 39).run Try.prog W = .ok (.agg noneB) W := by kernel_rfl
theorem zAlign_ne : ¬ (zAlign = #[]) := by unfold zAlign alCells; simp
theorem zAlign_set (n : Int) : zAlign.setIfInBounds 0 (ival n) = alCells n 0 (List.replicate 96 false) none none := by rfl
set_option maxRecDepth 100000 in
set_option maxHeartbeats 400000 in
theorem new_any (n : Int) (w : World) :
    Calls Try.prog 11 #[.int .i64 n] w fun e w' => e = .returned (.pointer (some ⟨w.heap.size, 0, none⟩)) ∧ w' = w.alloc (.cells (alCells n 0 (List.replicate 96 false) none none) 42) := by
  have hz := zeroAl
  have hne := zAlign_ne
  have hs := zAlign_set n
  go_enter Try.func11, Try.ntmps11
  go_wp2_with fail
  go_ret
  exact ⟨rfl, rfl⟩
theorem alCells_get (n cnt : Int) (bl : List Bool) (ap lp : Option Addr) (hl : bl.length = 96) :
    (alCells n cnt bl ap lp)[0]? = some (ival n) ∧ (alCells n cnt bl ap lp)[1]? = some (ival cnt) ∧ (alCells n cnt bl ap lp)[98]? = some (.pointer ap) ∧ (alCells n cnt bl ap lp)[99]? = some (.pointer lp) := by
  unfold alCells
  refine ⟨by simp, by simp, ?_, ?_⟩
  · rw [List.getElem?_toArray, List.getElem?_append_right (by simp [hl])]; simp [hl]
  · rw [List.getElem?_toArray, List.getElem?_append_right (by simp [hl])]; simp [hl]
theorem alCells_bl (n cnt : Int) (bl : List Bool) (ap lp : Option Addr) (i : Nat) (hi : i < bl.length) : (alCells n cnt bl ap lp)[2 + i]? = some (.bool bl[i]) := by
  unfold alCells
  rw [List.getElem?_toArray, List.getElem?_append_left (by simp; omega), List.getElem?_append_right (by simp)]
  simp [hi]
theorem alCells_set1 (n cnt c : Int) (bl : List Bool) (ap lp : Option Addr) : (alCells n cnt bl ap lp).setIfInBounds 1 (ival c) = alCells n c bl ap lp := by
  unfold alCells; simp
theorem alCells_setb (n cnt : Int) (bl : List Bool) (ap lp : Option Addr) (i : Nat) (b : Bool) (hi : i < bl.length) : (alCells n cnt bl ap lp).setIfInBounds (2 + i) (.bool b) = alCells n cnt (bl.set i b) ap lp := by
  unfold alCells
  rw [List.setIfInBounds_toArray]
  congr 1
  rw [List.set_append_left _ _ (by simp; omega), List.set_append_right _ _ (by simp)]
  simp [List.map_set]
theorem alCells_set98 (n cnt : Int) (bl : List Bool) (ap lp q : Option Addr) (hl : bl.length = 96) : (alCells n cnt bl ap lp).setIfInBounds 98 (.pointer q) = alCells n cnt bl q lp := by
  unfold alCells
  rw [List.setIfInBounds_toArray]
  congr 1
  rw [List.set_append_right _ _ (by simp [hl])]
  simp [hl]
theorem alCells_set99 (n cnt : Int) (bl : List Bool) (ap lp q : Option Addr) (hl : bl.length = 96) : (alCells n cnt bl ap lp).setIfInBounds 99 (.pointer q) = alCells n cnt bl ap q := by
  unfold alCells
  rw [List.setIfInBounds_toArray]
  congr 1
  rw [List.set_append_right _ _ (by simp [hl])]
  simp [hl]
theorem alCells_none (n cnt : Int) (bl : List Bool) (ap lp : Option Addr) (hl : bl.length = 96) :
    ((alCells n cnt bl ap lp).toList.take (2 + 0) ++ noneB.toList ++ (alCells n cnt bl ap lp).toList.drop (2 + 0 + noneB.toList.length)).toArray = alCells n cnt (List.replicate 96 false) ap lp := by
  unfold alCells noneB
  congr 1
  simp [hl, List.drop_append, List.take_append]
set_option maxRecDepth 100000 in
set_option maxHeartbeats 400000 in
theorem open_any (g : Nat) (n cnt : Int) (bl : List Bool) (ap lp : Option Addr) (w : World) (hl : bl.length = 96) (h : Blk w g 42 (alCells n cnt bl ap lp)) :
    Calls Try.prog 18 #[.pointer (some ⟨g, 0, none⟩)] w fun e w' => e = .returned (.tuple #[]) ∧ Blk w' g 42 (alCells n 0 (List.replicate 96 false) ap lp) ∧ w.grownBy w' (some g) := by
  have hz := zeroBl
  have hsz : noneB.size = 96 := by simp [noneB]
  have hst := run_storeCells_at Try.prog g 2 42 noneB.toList 0 _ w h (by simp [noneB, alCells, hl]) (by simp [noneB]; rfl)
  rw [alCells_none _ _ _ _ _ hl] at hst
  have hb2 : Blk (w.setRow g (alCells n cnt (List.replicate 96 false) ap lp)) g 42 (alCells n cnt (List.replicate 96 false) ap lp) := setRow_heap w g _ _ _ _ h
  have hg2 : w.grownBy (w.setRow g (alCells n cnt (List.replicate 96 false) ap lp)) (some g) := ⟨rfl, rfl, rfl, by simp [World.setRow], fun k _ hk => setRow_other w g k _ (fun e => hk (by rw [e]))⟩
  generalize w.setRow g (alCells n cnt (List.replicate 96 false) ap lp) = w2 at *
  have hc1 : w2.cell? ⟨g, 1, none⟩ = some (.int .i64 cnt) := (hb2.cell 1).trans (alCells_get n cnt _ ap lp (by simp)).2.1
  have hf1 := hb2.frozen 1
  have HB := Lib.hid hb2
  have HG := Lib.hid hg2
  clear hb2 hg2 h
  go_enter Try.func18, Try.ntmps18
  go_wp2_with fail
  go_end0
  refine ⟨rfl, ?_, only_setCell (p := ⟨g, 1, none⟩) HG.out (.inl rfl) _⟩
  have := HB.out.set_ 1 (ival 0)
  rw [alCells_set1] at this
  exact this

/-- A pointer to an int, or nil. -/
def PtrTo (w : World) (g : Nat) (p : Option Addr) (v : Option Int) : Prop :=
  match v with
  | none => p = none
  | some x => ∃ b, p = some ⟨b, 0, none⟩ ∧ b ≠ g ∧ w.cell? ⟨b, 0, none⟩ = some (ival x)
abbrev AlSt := List Bool × Option Int × Option Int
def AlRep (w : World) (g n : Nat) (s : AlSt) (ap lp : Option Addr) : Prop :=
  s.1.length = 96 ∧ Blk w g 42 (alCells n (s.1.count true : Nat) s.1 ap lp) ∧ PtrTo w g ap s.2.1 ∧ PtrTo w g lp s.2.2
def alRefuses (n : Nat) (s : AlSt) (i no : Int) : Bool :=
  decide (i < 0) || decide ((n : Int) ≤ i) || (match s.2.2 with | some l => decide (no ≤ l) | none => false) || (match s.2.1 with | some a => decide (no < a) | none => false)
def alFresh (s : AlSt) (no : Int) : Bool := match s.2.1 with | some a => decide (a < no) | none => true
def alBl (s : AlSt) (i no : Int) : List Bool := (if alFresh s no then List.replicate 96 false else s.1).set i.toNat true
def noneL : List Bool := List.replicate 96 false
def alBar (n : Nat) (s : AlSt) (i no : Int) : AlSt × Bool :=
  if alRefuses n s i no then (s, false)
  else if (alBl s i no).count true < n then ((alBl s i no, some no, s.2.2), false)
  else ((noneL, none, some no), true)
def AlPost (w : World) (g n : Nat) (r : AlSt × Bool) (ap lp : Option Addr) (e : Ending) (w' : World) : Prop :=
  ∃ ap' lp', e = .returned (.bool r.2) ∧ AlRep w' g n r.1 ap' lp' ∧ w.grownBy w' (some g) ∧
    (ap' = none ∨ ap' = ap ∨ ap' = some ⟨w.heap.size, 0, none⟩) ∧ (lp' = lp ∨ lp' = ap ∨ lp' = some ⟨w.heap.size, 0, none⟩)

theorem PtrTo.only {w w' : World} {g : Nat} {p : Option Addr} {v : Option Int} (h : PtrTo w g p v) (hg : w.grownBy w' (some g)) : PtrTo w' g p v := by
  cases v with
  | none => exact h
  | some x =>
    obtain ⟨b, hp, hne, hc⟩ := h
    exact ⟨b, hp, hne, hg.cell hc (by intro he; injection he with he; exact hne he)⟩
theorem AlRep.below {w w' : World} {g n : Nat} {s : AlSt} {ap lp : Option Addr} (h : AlRep w g n s ap lp) (hb : Below w.heap.size w w') : AlRep w' g n s ap lp := by
  obtain ⟨hl, hB, ha, hp⟩ := h
  have hg : w.grownBy w' (some g) := ⟨hb.os, hb.tape, hb.output, hb.size, fun k hk _ => hb.block k hk⟩
  exact ⟨hl, hB.below hb hB.lt, ha.only hg, hp.only hg⟩
theorem only_set2 (g : Nat) (w : World) (o1 : Nat) (u1 : Value) (o2 : Nat) (u2 : Value) : w.grownBy ((w.setCell ⟨g, o1, none⟩ u1).setCell ⟨g, o2, none⟩ u2) (some g) :=
  only_setCell (p := ⟨g, o2, none⟩) (only_setCell (p := ⟨g, o1, none⟩) (World.grownBy.refl w (some g)) (.inl rfl) u1) (.inl rfl) u2
theorem al_kept {w w' : World} {g n : Nat} {s : AlSt} {ap lp : Option Addr} (h : AlRep w g n s ap lp) (hb : Below w.heap.size w w') : AlPost w g n (s, false) ap lp (.returned (.bool false)) w' :=
  ⟨ap, lp, rfl, h.below hb, ⟨hb.os, hb.tape, hb.output, hb.size, fun k hk _ => hb.block k hk⟩, .inr (.inl rfl), .inl rfl⟩

set_option maxRecDepth 100000 in
set_option maxHeartbeats 1000000 in
theorem bar_no_neg (g n : Nat) (s : AlSt) (ap lp : Option Addr) (i no : Int) (w : World) (h0 : i < 0) (h : AlRep w g n s ap lp) :
    Calls Try.prog 13 #[.pointer (some ⟨g, 0, none⟩), .int .i64 i, .int .i64 no] w (AlPost w g n (s, false) ap lp) := by
  have hd : decide (i < 0) = true := by simpa using h0
  have H := Lib.hid h
  clear h h0
  go_enter Try.func13, Try.ntmps13
  go_wp2_with fail
  go_quiet (fail)
  go_wp2_with fail
  go_ret
  exact al_kept H.out (below_drewN ((Below.refl _ _).alloc (Nat.le_refl _) _) _)
set_option maxRecDepth 100000 in
set_option maxHeartbeats 1000000 in
theorem bar_no_big (g n : Nat) (s : AlSt) (ap lp : Option Addr) (i no : Int) (w : World) (h0 : 0 ≤ i) (hn : n ≤ i) (h : AlRep w g n s ap lp) :
    Calls Try.prog 13 #[.pointer (some ⟨g, 0, none⟩), .int .i64 i, .int .i64 no] w (AlPost w g n (s, false) ap lp) := by
  have hb := h.2.1
  have hc0 := (hb.cell 0).trans (alCells_get n _ s.1 ap lp h.1).1
  have hg := hb.lt
  have hd : decide (i < 0) = false := by simp; omega
  have hd1 : decide ((n : Int) ≤ i) = true := by simpa using hn
  have H := Lib.hid h
  clear h hb
  go_enter Try.func13, Try.ntmps13
  go_wp2_with fail
  go_quiet (fail)
  go_wp2_with fail
  go_ret
  exact al_kept H.out (below_drewN ((Below.refl _ _).alloc (Nat.le_refl _) _) _)
set_option maxRecDepth 100000 in
set_option maxHeartbeats 1000000 in
theorem bar_no_la (g n : Nat) (bl : List Bool) (aw : Option Int) (l : Int) (ap lp : Option Addr) (i no : Int) (w : World) (h0 : 0 ≤ i) (hn : i < n) (hn96 : n ≤ 96) (hno : no ≤ l) (h : AlRep w g n (bl, aw, some l) ap lp) :
    Calls Try.prog 13 #[.pointer (some ⟨g, 0, none⟩), .int .i64 i, .int .i64 no] w (AlPost w g n ((bl, aw, some l), false) ap lp) := by
  have H := Lib.hid h
  obtain ⟨hl, hb, ha, b, rfl, hbg, hcb⟩ := h
  have hc0 := (hb.cell 0).trans (alCells_get n _ bl ap _ hl).1
  have hc99 := (hb.cell 99).trans (alCells_get n _ bl ap _ hl).2.2.2
  have hg := hb.lt
  have hbl := World.block_lt_of_cell? w _ hcb
  have hd : decide (i < 0) = false := by simp; omega
  have hd1 : decide ((n : Int) ≤ i) = false := by simp; omega
  have hd2 : decide ((96 : Int) ≤ i) = false := by simp; omega
  have hd3 : decide (no ≤ l) = true := by simpa using hno
  clear hb ha hbg
  go_enter Try.func13, Try.ntmps13
  go_wp2_with fail
  go_quiet (fail)
  go_wp2_with fail
  go_ret
  exact al_kept H.out (below_drewN ((Below.refl _ _).alloc (Nat.le_refl _) _) _)
set_option maxRecDepth 100000 in
set_option maxHeartbeats 1000000 in
theorem bar_no_aw0 (g n : Nat) (bl : List Bool) (a : Int) (ap lp : Option Addr) (i no : Int) (w : World) (h0 : 0 ≤ i) (hn : i < n) (hn96 : n ≤ 96) (hno : no < a) (h : AlRep w g n (bl, some a, none) ap lp) :
    Calls Try.prog 13 #[.pointer (some ⟨g, 0, none⟩), .int .i64 i, .int .i64 no] w (AlPost w g n ((bl, some a, none), false) ap lp) := by
  have H := Lib.hid h
  obtain ⟨hl, hb, ⟨b, rfl, hbg, hcb⟩, rfl⟩ := h
  have hc0 := (hb.cell 0).trans (alCells_get n _ bl _ _ hl).1
  have hc98 := (hb.cell 98).trans (alCells_get n _ bl _ _ hl).2.2.1
  have hc99 := (hb.cell 99).trans (alCells_get n _ bl _ _ hl).2.2.2
  have hg := hb.lt
  have hbl := World.block_lt_of_cell? w _ hcb
  have hd : decide (i < 0) = false := by simp; omega
  have hd1 : decide ((n : Int) ≤ i) = false := by simp; omega
  have hd2 : decide ((96 : Int) ≤ i) = false := by simp; omega
  have hd3 : decide (no < a) = true := by simpa using hno
  clear hb hbg
  go_enter Try.func13, Try.ntmps13
  go_wp2_with fail
  go_quiet (fail)
  go_wp2_with fail
  go_ret
  exact al_kept H.out (below_drewN ((Below.refl _ _).alloc (Nat.le_refl _) _) _)
set_option maxRecDepth 100000 in
set_option maxHeartbeats 1000000 in
theorem bar_no_aw1 (g n : Nat) (bl : List Bool) (a l : Int) (ap lp : Option Addr) (i no : Int) (w : World) (h0 : 0 ≤ i) (hn : i < n) (hn96 : n ≤ 96) (hno : no < a) (hnl : l < no) (h : AlRep w g n (bl, some a, some l) ap lp) :
    Calls Try.prog 13 #[.pointer (some ⟨g, 0, none⟩), .int .i64 i, .int .i64 no] w (AlPost w g n ((bl, some a, some l), false) ap lp) := by
  have H := Lib.hid h
  obtain ⟨hl, hb, ⟨b, rfl, hbg, hcb⟩, ⟨b2, rfl, hbg2, hcb2⟩⟩ := h
  have hc0 := (hb.cell 0).trans (alCells_get n _ bl _ _ hl).1
  have hc98 := (hb.cell 98).trans (alCells_get n _ bl _ _ hl).2.2.1
  have hc99 := (hb.cell 99).trans (alCells_get n _ bl _ _ hl).2.2.2
  have hg := hb.lt
  have hbl := World.block_lt_of_cell? w _ hcb
  have hbl2 := World.block_lt_of_cell? w _ hcb2
  have hd : decide (i < 0) = false := by simp; omega
  have hd1 : decide ((n : Int) ≤ i) = false := by simp; omega
  have hd2 : decide ((96 : Int) ≤ i) = false := by simp; omega
  have hd3 : decide (no < a) = true := by simpa using hno
  have hd4 : decide (no ≤ l) = false := by simpa using hnl
  clear hb hbg hbg2
  go_enter Try.func13, Try.ntmps13
  go_wp2_with fail
  go_quiet (fail)
  go_wp2_with fail
  go_ret
  exact al_kept H.out (below_drewN ((Below.refl _ _).alloc (Nat.le_refl _) _) _)
end Go.Proofs.Ytcikjghinjdmmaa
