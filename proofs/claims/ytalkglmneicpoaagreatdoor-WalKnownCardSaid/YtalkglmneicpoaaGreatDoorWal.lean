/-
  A log in an area of a disk: Sync, Reset, Room, Open, the program's and the document's.
-/
import Derived.Test.YtalkglmneicpoaaGreatDoorWalErrs
import Derived.Test.YtalkglmneicpoaaGreatDoorDiskSame
import Derived.Test.YtalkglmneicpoaaGreatDoorFrmScan
import Derived.Test.YtalkglmneicpoaaGreatDoorFrmRefScan
import Derived.Test.YtalkglmneicpoaaGreatDoorFrmRefPut
import Derived.Test.YtalkglmneicpoaaGreatDoorFrmKit
import Derived.Deep.RegionHeld3
namespace Go.Proofs.YtalkglmneicpoaaGreatDoor
set_option linter.unusedVariables false
set_option linter.unusedSimpArgs false
open Go.RowKit
def lType (ref : Bool) : TypeId := if ref = true then 88 else 71
abbrev lCells (g : Nat) (a : Bool) : Array Value := #[.pointer (some ⟨g, 0, none⟩), .int .i64 (aI a)]
theorem onArea_aI {α : Type} (a : Bool) (f : Bool → α) (d : α) : onArea (aI a) f d = f a := by cases a <;> rfl
theorem aI_lt (a : Bool) : 0 ≤ aI a ∧ aI a ≤ 1 := by cases a <;> decide
/-- A log opened: what it finds, what the disk is then. -/
def openFr (st : DSt) (a : Bool) : List Fr := (scan (st a).1).1
def openSt (st : DSt) (a : Bool) : DSt := st.cut a ((scan (st a).1).2 : Nat)
/-- A frame appended. -/
def appN (N : Nat) (st : DSt) (a : Bool) (f : Fr) : Nat := if putE f = 0 then (if fits N (st a).1 (enc f) = true then 0 else 12) else putE f
def appSt (N : Nat) (st : DSt) (a : Bool) (f : Fr) : DSt := if putE f = 0 then st.write N a (enc f) else st
section
variable {ref : Bool} {base g N : Nat} {S : Nat → Prop} {st : DSt} {v v' : Value} {w w1 w2 : World} {e : Ending}
theorem dpost_ahead (hbase : base ≤ w.heap.size) (hb : Below w.heap.size w w1) (h : DPost ref base g N S w1 v st e w2) : DPost ref base g N S w v st e w2 :=
  ⟨h.1, h.2.1.more (fun i hi => by
    rcases hi with h1 | ⟨h1, h2⟩
    · exact .inl h1
    · exact .inr ⟨Nat.le_trans hb.size h1, h2⟩) (fun i hi => by
    rcases hi with h1 | ⟨h1, h2⟩
    · exact h.2.1.all i (.inl h1)
    · exact ⟨Nat.le_trans hbase h1, h2⟩), (Only.of_below hb).trans h.2.2 (fun i hi => .inl hi)⟩
theorem dpost_behind (hbase : base ≤ w.heap.size) (h : DPost ref base g N S w v st e w1) (hb : Below w1.heap.size w1 w2) : DPost ref base g N S w v' st (.returned v') w2 :=
  ⟨rfl, (h.2.1.below hb).more (fun i hi => by
    rcases hi with h1 | ⟨h1, h2⟩
    · exact .inl h1
    · exact .inr ⟨h1, Nat.lt_of_lt_of_le h2 hb.size⟩) (fun i hi => by
    rcases hi with h1 | ⟨h1, h2⟩
    · exact (h.2.1.below hb).all i (.inl h1)
    · exact ⟨Nat.le_trans hbase h1, h2⟩), h.2.2.below hb⟩
theorem dpost_same (h : DAt ref w base g N S st) : DPost ref base g N S w v st (.returned v) w := ⟨rfl, h.same, Only.refl _ _⟩
end
/-- Blocks of a list of frames are not of S. -/
def FrsOff (S : Nat → Prop) (v : Value) (G : List FrV) : Prop := (∀ i, v.ownBlock = some i → ¬ S i) ∧ ∀ x ∈ G, ∀ i, x.2.ownBlock = some i → ¬ S i
/-- What Open leaves. -/
def OpenPost (ref : Bool) (base g N : Nat) (S : Nat → Prop) (st : DSt) (a : Bool) (w : World) (e : Ending) (w' : World) : Prop :=
  ∃ v G gl S', e = .returned (.tuple #[.pointer (some ⟨gl, 0, none⟩), v]) ∧ Blk w' gl (lType ref) (lCells g a) ∧ w.heap.size ≤ gl ∧ FrsAt w' w.heap.size v G ∧ G.map (·.1) = openFr st a ∧ DAt ref w' base g N S' (openSt st a) ∧ Only S w w' ∧ (∀ i, S' i → S i ∨ w.heap.size ≤ i) ∧ ¬ S' gl ∧ FrsOff S' v G ∧ (∀ i, v.ownBlock = some i → i ≠ gl) ∧ ∀ x ∈ G, ∀ i, x.2.ownBlock = some i → i ≠ gl
set_option maxRecDepth 100000 in
set_option maxHeartbeats 1000000 in
theorem wsync_any (a : Bool) (gl base g N : Nat) (S : Nat → Prop) (st : DSt) (w : World) (h : DAt false w base g N S st) (hbase : base ≤ w.heap.size) (hl : Blk w gl (lType false) (lCells g a)) :
    Calls Tryz.prog 14 #[.pointer (some ⟨gl, 0, none⟩)] w (DPost false base g N S w (.tuple #[]) (st.sync a)) := by
  have c0 : w.cell? ⟨gl, 0, none⟩ = some (.pointer (some ⟨g, 0, none⟩)) := hl.cell 0
  have c1 : w.cell? ⟨gl, 1, none⟩ = some (.int .i64 (aI a)) := hl.cell 1
  have D : Hid (Calls Tryz.prog 31 #[.pointer (some ⟨g, 0, none⟩), .int .i64 (aI a)] (w.drewN 1) (DPost false base g N S (w.drewN 1) (.tuple #[]) (st.sync a))) := by
    have := syncI base g N S st (aI a) (w.drewN 1) (h.drewN 1) hbase
    unfold DSt.syncI at this
    rwa [onArea_aI] at this
  have HB := Lib.hid hbase
  clear h hl hbase
  go_enter Tryz.func14, Tryz.ntmps14
  go_wp2_with fail
  go_still_tail 8, (by kernel_rfl)
  change wpList _ _ _ _ _ (w.drewN 1)
  go_wp2_with fail
  go_must (refine D.out.mono ?_)
  rintro e w2 ⟨rfl, hd⟩
  have HD := Lib.hid hd
  clear hd
  go_wp2_with fail
  go_end0
  exact dpost_ahead HB.out (below_drewN (Below.refl _ _) 1) ⟨rfl, HD.out⟩
set_option maxRecDepth 100000 in
set_option maxHeartbeats 1000000 in
theorem wreset_any (a : Bool) (gl base g N : Nat) (S : Nat → Prop) (st : DSt) (w : World) (h : DAt false w base g N S st) (hbase : base ≤ w.heap.size) (hl : Blk w gl (lType false) (lCells g a)) :
    Calls Tryz.prog 21 #[.pointer (some ⟨gl, 0, none⟩)] w (DPost false base g N S w (.tuple #[]) (st.cut a 0)) := by
  have c0 : w.cell? ⟨gl, 0, none⟩ = some (.pointer (some ⟨g, 0, none⟩)) := hl.cell 0
  have c1 : w.cell? ⟨gl, 1, none⟩ = some (.int .i64 (aI a)) := hl.cell 1
  have D : Hid (Calls Tryz.prog 30 #[.pointer (some ⟨g, 0, none⟩), .int .i64 (aI a), .int .i64 0] (w.drewN 1) (DPost false base g N S (w.drewN 1) (.tuple #[]) (st.cut a 0))) := by
    have := cutI base g N S st (aI a) 0 (w.drewN 1) (h.drewN 1) hbase
    unfold DSt.cutI at this
    rwa [onArea_aI] at this
  have HB := Lib.hid hbase
  clear h hl hbase
  go_enter Tryz.func21, Tryz.ntmps21
  go_wp2_with fail
  go_still_tail 8, (by kernel_rfl)
  change wpList _ _ _ _ _ (w.drewN 1)
  go_wp2_with fail
  go_must (refine D.out.mono ?_)
  rintro e w2 ⟨rfl, hd⟩
  have HD := Lib.hid hd
  clear hd
  go_wp2_with fail
  go_end0
  exact dpost_ahead HB.out (below_drewN (Below.refl _ _) 1) ⟨rfl, HD.out⟩
set_option maxRecDepth 100000 in
set_option maxHeartbeats 1000000 in
theorem wroom_any (a : Bool) (gl base g N : Nat) (S : Nat → Prop) (st : DSt) (w : World) (h : DAt false w base g N S st) (hl : Blk w gl (lType false) (lCells g a)) :
    Calls Tryz.prog 18 #[.pointer (some ⟨gl, 0, none⟩)] w fun e w' => e = .returned (.int .i64 ((N : Int) - ((st a).1.length : Int))) ∧ ∃ m, w' = w.drewN m := by
  have c0 : w.cell? ⟨gl, 0, none⟩ = some (.pointer (some ⟨g, 0, none⟩)) := hl.cell 0
  have c1 : w.cell? ⟨gl, 1, none⟩ = some (.int .i64 (aI a)) := hl.cell 1
  have D : Hid (∀ q, Calls Tryz.prog 35 #[.pointer (some ⟨g, 0, none⟩), .int .i64 (aI a)] (w.drewN q) fun e w' => e = .returned (.int .i64 ((N : Int) - ((st a).1.length : Int))) ∧ ∃ m, w' = (w.drewN q).drewN m) := fun q => by
    have := roomI_any base g N S st (aI a) (w.drewN q) (h.drewN q)
    unfold roomI at this
    rwa [onArea_aI] at this
  clear h hl
  generalize (N : Int) - ((st a).1.length : Int) = rm at *
  go_enter Tryz.func18, Tryz.ntmps18
  go_wp2_with fail
  go_quiet ((go_at_call 35; go_must (exact quiet_dr (D.out _))))
  go_wp2_with fail
  go_ret
  exact ⟨rfl, _, rfl⟩
set_option maxRecDepth 100000 in
set_option maxHeartbeats 2000000 in
theorem wopen_any (a : Bool) (base g N : Nat) (S : Nat → Prop) (st : DSt) (w : World) (pg : Addr) (hG : Glob pg w) (h : DAt false w base g N S st) (hbase : base ≤ w.heap.size) :
    Calls Tryz.prog 12 #[.pointer (some ⟨g, 0, none⟩), .int .i64 (aI a)] w (OpenPost false base g N S st a w) := by
  have hok := h.ok
  have hlen : (st a).1.length ≤ 262144 := Nat.le_trans (hok.2 a).1 hok.1
  have C1 : Hid (Calls Tryz.prog 19 #[.pointer (some ⟨g, 0, none⟩), .int .i64 (aI a)] w fun e w' => ∃ v, e = .returned v ∧ w'.ownsRow w.heap.size 5 1 v (st a).1.length ((st a).1.map bval) ∧ Below w.heap.size w w') := by
    have := bytesI base g N S st (aI a) w h
    unfold DSt.bytesI at this
    rwa [onArea_aI] at this
  have H := Lib.hid h
  have HB := Lib.hid hbase
  have HG := Lib.hid hG
  clear h hbase hok hG
  go_enter Tryz.func12, Tryz.ntmps12
  go_wp2_with fail
  go_must (refine C1.out.mono ?_)
  rintro e w1 ⟨v1, rfl, hown1, hb1⟩
  obtain ⟨A1, c1, rfl, hc11, hc12, _⟩ := own_slice hown1
  have C2 := Lib.hid (scan_any A1 (st a).1.length c1 w1.heap.size (st a).1 pg w1 (HG.out.below hb1 HG.out.lt) (Reads.of_own hown1) (Nat.le_refl _) hc11 hc12 (by omega))
  have HB1 := Lib.hid hb1
  clear C1 hown1 hb1
  go_wp2_with fail
  go_must (refine C2.out.mono ?_)
  rintro e w2 ⟨v2, G, rfl, hf2, hm2, hb2⟩
  have HF2 := Lib.hid hf2
  have HM2 := Lib.hid hm2
  have HB2 := Lib.hid (HB1.out.trans (hb2.mono HB1.out.size))
  have C3 : Hid (Calls Tryz.prog 30 #[.pointer (some ⟨g, 0, none⟩), .int .i64 (aI a), .int .i64 ((scan (st a).1).2 : Nat)] w2 (DPost false base g N S w2 (.tuple #[]) (openSt st a))) := by
    have := cutI base g N S st (aI a) ((scan (st a).1).2 : Nat) w2 (H.out.below HB2.out) (Nat.le_trans HB.out HB2.out.size)
    unfold DSt.cutI at this
    rwa [onArea_aI] at this
  have hsz1 : w.heap.size ≤ w1.heap.size := HB1.out.size
  have hsz2 : w1.heap.size ≤ w2.heap.size := hb2.size
  clear C2 hf2 hm2 hb2
  generalize hsc : (scan (st a).1).2 = M at *
  go_wp2_with fail
  go_must (refine C3.out.mono ?_)
  rintro e w3 ⟨rfl, hd3, ho3⟩
  have HD3 := Lib.hid hd3
  have HO3 := Lib.hid ho3
  clear C3 hd3 ho3
  go_wp2_with fail
  go_ret2
  have hb4 : Below w3.heap.size w3 (w3.alloc (.cells (lCells g a) (lType false))) := (Below.refl _ _).alloc (Nat.le_refl _) _
  have hf3 : FrsAt w3 w1.heap.size v2 G := HF2.out.only HO3.out (fun i hi hlt hs => by have := (H.out.all i hs).2; omega)
  have hsz3 := HO3.out.size
  have hown := HF2.out.own.lt
  have hbod := HF2.out.body
  refine ⟨v2, G, w3.heap.size, _, rfl, Blk.new w3 (lType false) (lCells g a), by omega, (hf3.below hb4).rebase hsz1, HM2.out, HD3.out.below hb4, ?_, ?_, ?_, ⟨?_, ?_⟩, ?_, ?_⟩
  · exact ((Only.of_below HB2.out).trans HO3.out (fun i hi => .inl hi)).below hb4
  · rintro i (hi | ⟨hi, _⟩)
    · exact .inl hi
    · exact .inr (by omega)
  · rintro (hi | ⟨_, hi⟩)
    · have := (H.out.all _ hi).2; omega
    · omega
  · rintro i hi (hs | ⟨hs, _⟩)
    · have := (H.out.all _ hs).2; have := (hown i hi).1; omega
    · have := (hown i hi).2; omega
  · rintro x hx i hi (hs | ⟨hs, _⟩)
    · have := (H.out.all _ hs).2; have := ((hbod x hx).lt i hi).1; omega
    · have := ((hbod x hx).lt i hi).2; omega
  · intro i hi
    have := (hown i hi).2; omega
  · intro x hx i hi
    have := ((hbod x hx).lt i hi).2; omega
set_option maxRecDepth 100000 in
set_option maxHeartbeats 1000000 in
theorem rsync_any (a : Bool) (gl base g N : Nat) (S : Nat → Prop) (st : DSt) (w : World) (h : DAt true w base g N S st) (hbase : base ≤ w.heap.size) (hl : Blk w gl (lType true) (lCells g a)) :
    Calls Tryz.prog 43 #[.pointer (some ⟨gl, 0, none⟩)] w (DPost true base g N S w (.tuple #[]) (st.sync a)) := by
  have c0 : w.cell? ⟨gl, 0, none⟩ = some (.pointer (some ⟨g, 0, none⟩)) := hl.cell 0
  have c1 : w.cell? ⟨gl, 1, none⟩ = some (.int .i64 (aI a)) := hl.cell 1
  have D : Hid (Calls Tryz.prog 60 #[.pointer (some ⟨g, 0, none⟩), .int .i64 (aI a)] (w.drewN 1) (DPost true base g N S (w.drewN 1) (.tuple #[]) (st.sync a))) := by
    have := rsyncI base g N S st (aI a) (w.drewN 1) (h.drewN 1) hbase
    unfold DSt.syncI at this
    rwa [onArea_aI] at this
  have HB := Lib.hid hbase
  clear h hl hbase
  go_enter Tryz.func43, Tryz.ntmps43
  go_wp2_with fail
  go_still_tail 8, (by kernel_rfl)
  change wpList _ _ _ _ _ (w.drewN 1)
  go_wp2_with fail
  go_must (refine D.out.mono ?_)
  rintro e w2 ⟨rfl, hd⟩
  have HD := Lib.hid hd
  clear hd
  go_wp2_with fail
  go_end0
  exact dpost_ahead HB.out (below_drewN (Below.refl _ _) 1) ⟨rfl, HD.out⟩
set_option maxRecDepth 100000 in
set_option maxHeartbeats 1000000 in
theorem rreset_any (a : Bool) (gl base g N : Nat) (S : Nat → Prop) (st : DSt) (w : World) (h : DAt true w base g N S st) (hbase : base ≤ w.heap.size) (hl : Blk w gl (lType true) (lCells g a)) :
    Calls Tryz.prog 44 #[.pointer (some ⟨gl, 0, none⟩)] w (DPost true base g N S w (.tuple #[]) (st.cut a 0)) := by
  have c0 : w.cell? ⟨gl, 0, none⟩ = some (.pointer (some ⟨g, 0, none⟩)) := hl.cell 0
  have c1 : w.cell? ⟨gl, 1, none⟩ = some (.int .i64 (aI a)) := hl.cell 1
  have D : Hid (Calls Tryz.prog 56 #[.pointer (some ⟨g, 0, none⟩), .int .i64 (aI a), .int .i64 0] (w.drewN 1) (DPost true base g N S (w.drewN 1) (.tuple #[]) (st.cut a 0))) := by
    have := rcutI base g N S st (aI a) 0 (w.drewN 1) (h.drewN 1) hbase
    unfold DSt.cutI at this
    rwa [onArea_aI] at this
  have HB := Lib.hid hbase
  clear h hl hbase
  go_enter Tryz.func44, Tryz.ntmps44
  go_wp2_with fail
  go_still_tail 8, (by kernel_rfl)
  change wpList _ _ _ _ _ (w.drewN 1)
  go_wp2_with fail
  go_must (refine D.out.mono ?_)
  rintro e w2 ⟨rfl, hd⟩
  have HD := Lib.hid hd
  clear hd
  go_wp2_with fail
  go_end0
  exact dpost_ahead HB.out (below_drewN (Below.refl _ _) 1) ⟨rfl, HD.out⟩
set_option maxRecDepth 100000 in
set_option maxHeartbeats 1000000 in
theorem rroom_any (a : Bool) (gl base g N : Nat) (S : Nat → Prop) (st : DSt) (w : World) (h : DAt true w base g N S st) (hl : Blk w gl (lType true) (lCells g a)) :
    Calls Tryz.prog 26 #[.pointer (some ⟨gl, 0, none⟩)] w fun e w' => e = .returned (.int .i64 ((N : Int) - ((st a).1.length : Int))) ∧ ∃ m, w' = w.drewN m := by
  have c0 : w.cell? ⟨gl, 0, none⟩ = some (.pointer (some ⟨g, 0, none⟩)) := hl.cell 0
  have c1 : w.cell? ⟨gl, 1, none⟩ = some (.int .i64 (aI a)) := hl.cell 1
  have D : Hid (∀ q, Calls Tryz.prog 48 #[.pointer (some ⟨g, 0, none⟩), .int .i64 (aI a)] (w.drewN q) fun e w' => e = .returned (.int .i64 ((N : Int) - ((st a).1.length : Int))) ∧ ∃ m, w' = (w.drewN q).drewN m) := fun q => by
    have := rroomI_any base g N S st (aI a) (w.drewN q) (h.drewN q)
    unfold roomI at this
    rwa [onArea_aI] at this
  clear h hl
  generalize (N : Int) - ((st a).1.length : Int) = rm at *
  go_enter Tryz.func26, Tryz.ntmps26
  go_wp2_with fail
  go_quiet ((go_at_call 48; go_must (exact quiet_dr (D.out _))))
  go_wp2_with fail
  go_ret
  exact ⟨rfl, _, rfl⟩
set_option maxRecDepth 100000 in
set_option maxHeartbeats 2000000 in
theorem ropen_any (a : Bool) (base g N : Nat) (S : Nat → Prop) (st : DSt) (w : World) (h : DAt true w base g N S st) (hbase : base ≤ w.heap.size) :
    Calls Tryz.prog 38 #[.pointer (some ⟨g, 0, none⟩), .int .i64 (aI a)] w (OpenPost true base g N S st a w) := by
  have hok := h.ok
  have hlen : (st a).1.length ≤ 262144 := Nat.le_trans (hok.2 a).1 hok.1
  have C1 : Hid (Calls Tryz.prog 27 #[.pointer (some ⟨g, 0, none⟩), .int .i64 (aI a)] w fun e w' => ∃ v, e = .returned v ∧ w'.ownsRow w.heap.size 5 1 v (st a).1.length ((st a).1.map bval) ∧ Below w.heap.size w w') := by
    have := rbytesI base g N S st (aI a) w h
    unfold DSt.bytesI at this
    rwa [onArea_aI] at this
  have H := Lib.hid h
  have HB := Lib.hid hbase
  clear h hbase hok
  go_enter Tryz.func38, Tryz.ntmps38
  go_wp2_with fail
  go_must (refine C1.out.mono ?_)
  rintro e w1 ⟨v1, rfl, hown1, hb1⟩
  obtain ⟨A1, c1, rfl, hc11, hc12, _⟩ := own_slice hown1
  have C2 := Lib.hid (refScan_any A1 (st a).1.length c1 w1.heap.size (st a).1 w1 (Reads.of_own hown1) (Nat.le_refl _) hc11 hc12 (by omega))
  have HB1 := Lib.hid hb1
  clear C1 hown1 hb1
  go_wp2_with fail
  go_must (refine C2.out.mono ?_)
  rintro e w2 ⟨v2, G, rfl, hf2, hm2, hb2⟩
  have HF2 := Lib.hid hf2
  have HM2 := Lib.hid hm2
  have HB2 := Lib.hid (HB1.out.trans (hb2.mono HB1.out.size))
  have C3 : Hid (Calls Tryz.prog 56 #[.pointer (some ⟨g, 0, none⟩), .int .i64 (aI a), .int .i64 ((scan (st a).1).2 : Nat)] w2 (DPost true base g N S w2 (.tuple #[]) (openSt st a))) := by
    have := rcutI base g N S st (aI a) ((scan (st a).1).2 : Nat) w2 (H.out.below HB2.out) (Nat.le_trans HB.out HB2.out.size)
    unfold DSt.cutI at this
    rwa [onArea_aI] at this
  have hsz1 : w.heap.size ≤ w1.heap.size := HB1.out.size
  have hsz2 : w1.heap.size ≤ w2.heap.size := hb2.size
  clear C2 hf2 hm2 hb2
  generalize hsc : (scan (st a).1).2 = M at *
  go_wp2_with fail
  go_must (refine C3.out.mono ?_)
  rintro e w3 ⟨rfl, hd3, ho3⟩
  have HD3 := Lib.hid hd3
  have HO3 := Lib.hid ho3
  clear C3 hd3 ho3
  go_wp2_with fail
  go_ret2
  have hb4 : Below w3.heap.size w3 (w3.alloc (.cells (lCells g a) (lType true))) := (Below.refl _ _).alloc (Nat.le_refl _) _
  have hf3 : FrsAt w3 w1.heap.size v2 G := HF2.out.only HO3.out (fun i hi hlt hs => by have := (H.out.all i hs).2; omega)
  have hsz3 := HO3.out.size
  have hown := HF2.out.own.lt
  have hbod := HF2.out.body
  refine ⟨v2, G, w3.heap.size, _, rfl, Blk.new w3 (lType true) (lCells g a), by omega, (hf3.below hb4).rebase hsz1, HM2.out, HD3.out.below hb4, ?_, ?_, ?_, ⟨?_, ?_⟩, ?_, ?_⟩
  · exact ((Only.of_below HB2.out).trans HO3.out (fun i hi => .inl hi)).below hb4
  · rintro i (hi | ⟨hi, _⟩)
    · exact .inl hi
    · exact .inr (by omega)
  · rintro (hi | ⟨_, hi⟩)
    · have := (H.out.all _ hi).2; omega
    · omega
  · rintro i hi (hs | ⟨hs, _⟩)
    · have := (H.out.all _ hs).2; have := (hown i hi).1; omega
    · have := (hown i hi).2; omega
  · rintro x hx i hi (hs | ⟨hs, _⟩)
    · have := (H.out.all _ hs).2; have := ((hbod x hx).lt i hi).1; omega
    · have := ((hbod x hx).lt i hi).2; omega
  · intro i hi
    have := (hown i hi).2; omega
  · intro x hx i hi
    have := ((hbod x hx).lt i hi).2; omega
end Go.Proofs.YtalkglmneicpoaaGreatDoor
