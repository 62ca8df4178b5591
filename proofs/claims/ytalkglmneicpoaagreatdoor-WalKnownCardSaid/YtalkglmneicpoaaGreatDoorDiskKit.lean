/-
  A disk's acts with an area as a number; one disk and two disks among other memory.
-/
import Derived.Test.YtalkglmneicpoaaGreatDoorDiskRef2
namespace Go.Proofs.YtalkglmneicpoaaGreatDoor
set_option linter.unusedVariables false
set_option linter.unusedSimpArgs false
open Go.RowKit
def onArea {α : Type} (n : Int) (f : Bool → α) (d : α) : α := if n = 0 then f false else if n = 1 then f true else d
theorem onArea_0 {α : Type} (f : Bool → α) (d : α) : onArea 0 f d = f false := rfl
theorem onArea_1 {α : Type} (f : Bool → α) (d : α) : onArea 1 f d = f true := rfl
theorem onArea_no {α : Type} (n : Int) (f : Bool → α) (d : α) (h : n < 0 ∨ 2 ≤ n) : onArea n f d = d := by unfold onArea; rw [if_neg (by omega), if_neg (by omega)]
def DSt.syncI (st : DSt) (n : Int) : DSt := onArea n st.sync st
def DSt.cutI (st : DSt) (n k : Int) : DSt := onArea n (fun a => st.cut a k) st
def DSt.writeI (N : Nat) (st : DSt) (n : Int) (b : List UInt8) : DSt := onArea n (fun a => st.write N a b) st
def wroteI (N : Nat) (st : DSt) (n : Int) (b : List UInt8) : Int := onArea n (fun a => wrote N st a b) 1
def DSt.bytesI (st : DSt) (n : Int) : List UInt8 := onArea n (fun a => (st a).1) []
def roomI (N : Nat) (st : DSt) (n : Int) : Int := onArea n (fun a => (N : Int) - ((st a).1.length : Int)) 0

theorem syncI (base g N : Nat) (S : Nat → Prop) (st : DSt) (n : Int) (w : World) (h0 : DAt false w base g N S st) (hbase : base ≤ w.heap.size) :
    Calls Tryz.prog 31 #[.pointer (some ⟨g, 0, none⟩), .int .i64 n] w (DPost false base g N S w (.tuple #[]) (st.syncI n)) := by
  by_cases h1 : n = 0
  · subst h1; exact sync_false base g N S st w h0 hbase
  by_cases h2 : n = 1
  · subst h2; exact sync_true base g N S st w h0 hbase
  unfold DSt.syncI
  rw [onArea_no n _ _ (by omega)]
  exact (sync_no g n (by omega) w).mono (fun e w' h => by obtain ⟨he, rfl⟩ := h; exact ⟨he, h0.same, Only.refl _ _⟩)
theorem cutI (base g N : Nat) (S : Nat → Prop) (st : DSt) (n k : Int) (w : World) (h0 : DAt false w base g N S st) (hbase : base ≤ w.heap.size) :
    Calls Tryz.prog 30 #[.pointer (some ⟨g, 0, none⟩), .int .i64 n, .int .i64 k] w (DPost false base g N S w (.tuple #[]) (st.cutI n k)) := by
  by_cases h1 : n = 0
  · subst h1; exact dcut_false base g N S st k w h0 hbase
  by_cases h2 : n = 1
  · subst h2; exact dcut_true base g N S st k w h0 hbase
  unfold DSt.cutI
  rw [onArea_no n _ _ (by omega)]
  exact (dcut_no g n k (by omega) w).mono (fun e w' h => by obtain ⟨he, rfl⟩ := h; exact ⟨he, h0.same, Only.refl _ _⟩)
theorem writeI (base g N : Nat) (S : Nat → Prop) (st : DSt) (n : Int) (Ab : Option Addr) (m cb B : Nat) (b : List UInt8) (w : World) (h0 : DAt false w base g N S st) (hbase : base ≤ w.heap.size) (hb : Reads w B 1 Ab m (b.map bval)) (hm : m ≤ maxLen) :
    Calls Tryz.prog 46 #[.pointer (some ⟨g, 0, none⟩), .int .i64 n, .slice Ab m cb] w (DPost false base g N S w (.int .i64 (wroteI N st n b)) (st.writeI N n b)) := by
  by_cases h1 : n = 0
  · subst h1; exact write_false base g N S st Ab m cb B b w h0 hbase hb hm
  by_cases h2 : n = 1
  · subst h2; exact write_true base g N S st Ab m cb B b w h0 hbase hb hm
  unfold DSt.writeI wroteI
  rw [onArea_no n _ _ (by omega), onArea_no n _ _ (by omega)]
  exact (write_no g n Ab m cb (by omega) w).mono (fun e w' h => by obtain ⟨he, rfl⟩ := h; exact ⟨he, h0.same, Only.refl _ _⟩)
theorem bytesI (base g N : Nat) (S : Nat → Prop) (st : DSt) (n : Int) (w : World) (h0 : DAt false w base g N S st) :
    Calls Tryz.prog 19 #[.pointer (some ⟨g, 0, none⟩), .int .i64 n] w fun e w' => ∃ v, e = .returned v ∧ w'.ownsRow w.heap.size 5 1 v (st.bytesI n).length ((st.bytesI n).map bval) ∧ Below w.heap.size w w' := by
  by_cases h1 : n = 0
  · subst h1; exact bytes_false base g N S st w h0
  by_cases h2 : n = 1
  · subst h2; exact bytes_true base g N S st w h0
  unfold DSt.bytesI
  rw [onArea_no n _ _ (by omega)]
  exact (bytes_no g n (by omega) w).mono fun e w' h => by
    obtain ⟨he, rfl⟩ := h
    exact ⟨_, he, World.ownsRow_nil _ _ _ _, Below.refl _ _⟩
theorem roomI_any (base g N : Nat) (S : Nat → Prop) (st : DSt) (n : Int) (w : World) (h0 : DAt false w base g N S st) :
    Calls Tryz.prog 35 #[.pointer (some ⟨g, 0, none⟩), .int .i64 n] w fun e w' => e = .returned (.int .i64 (roomI N st n)) ∧ ∃ m, w' = w.drewN m := by
  by_cases h1 : n = 0
  · subst h1; exact room_false base g N S st w h0
  by_cases h2 : n = 1
  · subst h2; exact room_true base g N S st w h0
  unfold roomI
  rw [onArea_no n _ _ (by omega)]
  exact (room_no g n (by omega) w).mono fun e w' h => by
    obtain ⟨he, rfl⟩ := h
    exact ⟨he, 0, rfl⟩

theorem rsyncI (base g N : Nat) (S : Nat → Prop) (st : DSt) (n : Int) (w : World) (h0 : DAt true w base g N S st) (hbase : base ≤ w.heap.size) :
    Calls Tryz.prog 60 #[.pointer (some ⟨g, 0, none⟩), .int .i64 n] w (DPost true base g N S w (.tuple #[]) (st.syncI n)) := by
  by_cases h1 : n = 0
  · subst h1; exact rsync_false base g N S st w h0 hbase
  by_cases h2 : n = 1
  · subst h2; exact rsync_true base g N S st w h0 hbase
  unfold DSt.syncI
  rw [onArea_no n _ _ (by omega)]
  exact (rsync_no g n (by omega) w).mono (fun e w' h => by obtain ⟨he, rfl⟩ := h; exact ⟨he, h0.same, Only.refl _ _⟩)
theorem rcutI (base g N : Nat) (S : Nat → Prop) (st : DSt) (n k : Int) (w : World) (h0 : DAt true w base g N S st) (hbase : base ≤ w.heap.size) :
    Calls Tryz.prog 56 #[.pointer (some ⟨g, 0, none⟩), .int .i64 n, .int .i64 k] w (DPost true base g N S w (.tuple #[]) (st.cutI n k)) := by
  by_cases h1 : n = 0
  · subst h1; exact rcut_false base g N S st k w h0 hbase
  by_cases h2 : n = 1
  · subst h2; exact rcut_true base g N S st k w h0 hbase
  unfold DSt.cutI
  rw [onArea_no n _ _ (by omega)]
  exact (rcut_no g n k (by omega) w).mono (fun e w' h => by obtain ⟨he, rfl⟩ := h; exact ⟨he, h0.same, Only.refl _ _⟩)
theorem rwriteI (base g N : Nat) (S : Nat → Prop) (st : DSt) (n : Int) (Ab : Option Addr) (m cb B : Nat) (b : List UInt8) (w : World) (h0 : DAt true w base g N S st) (hbase : base ≤ w.heap.size) (hb : Reads w B 1 Ab m (b.map bval)) (hm : m ≤ maxLen) :
    Calls Tryz.prog 47 #[.pointer (some ⟨g, 0, none⟩), .int .i64 n, .slice Ab m cb] w (DPost true base g N S w (.int .i64 (wroteI N st n b)) (st.writeI N n b)) := by
  by_cases h1 : n = 0
  · subst h1; exact rwrite_false base g N S st Ab m cb B b w h0 hbase hb hm
  by_cases h2 : n = 1
  · subst h2; exact rwrite_true base g N S st Ab m cb B b w h0 hbase hb hm
  unfold DSt.writeI wroteI
  rw [onArea_no n _ _ (by omega), onArea_no n _ _ (by omega)]
  exact (rwrite_no g n Ab m cb (by omega) w).mono (fun e w' h => by obtain ⟨he, rfl⟩ := h; exact ⟨he, h0.same, Only.refl _ _⟩)
theorem rbytesI (base g N : Nat) (S : Nat → Prop) (st : DSt) (n : Int) (w : World) (h0 : DAt true w base g N S st) :
    Calls Tryz.prog 27 #[.pointer (some ⟨g, 0, none⟩), .int .i64 n] w fun e w' => ∃ v, e = .returned v ∧ w'.ownsRow w.heap.size 5 1 v (st.bytesI n).length ((st.bytesI n).map bval) ∧ Below w.heap.size w w' := by
  by_cases h1 : n = 0
  · subst h1; exact rbytes_false base g N S st w h0
  by_cases h2 : n = 1
  · subst h2; exact rbytes_true base g N S st w h0
  unfold DSt.bytesI
  rw [onArea_no n _ _ (by omega)]
  exact (rbytes_no g n (by omega) w).mono fun e w' h => by
    obtain ⟨he, rfl⟩ := h
    exact ⟨_, he, World.ownsRow_nil _ _ _ _, Below.refl _ _⟩
theorem rroomI_any (base g N : Nat) (S : Nat → Prop) (st : DSt) (n : Int) (w : World) (h0 : DAt true w base g N S st) :
    Calls Tryz.prog 48 #[.pointer (some ⟨g, 0, none⟩), .int .i64 n] w fun e w' => e = .returned (.int .i64 (roomI N st n)) ∧ ∃ m, w' = w.drewN m := by
  by_cases h1 : n = 0
  · subst h1; exact rroom_false base g N S st w h0
  by_cases h2 : n = 1
  · subst h2; exact rroom_true base g N S st w h0
  unfold roomI
  rw [onArea_no n _ _ (by omega)]
  exact (rroom_no g n (by omega) w).mono fun e w' h => by
    obtain ⟨he, rfl⟩ := h
    exact ⟨he, 0, rfl⟩

/-- What an act may change: nothing below base, nothing of X. -/
abbrev Rest (base : Nat) (X : Nat → Prop) (i : Nat) : Prop := base ≤ i ∧ ¬ X i
/-- One disk among other memory; X: blocks that are not its own. -/
def One (ref : Bool) (X : Nat → Prop) (w : World) (base g N : Nat) (st : DSt) : Prop :=
  ∃ S, DAt ref w base g N S st ∧ (∀ i, X i → ¬ S i ∧ i < w.heap.size) ∧ base ≤ w.heap.size
def Two (r1 r2 : Bool) (X : Nat → Prop) (w : World) (base g1 g2 N : Nat) (s1 s2 : DSt) : Prop :=
  ∃ S T, DAt r1 w base g1 N S s1 ∧ DAt r2 w base g2 N T s2 ∧ (∀ i, S i → ¬ T i) ∧ (∀ i, X i → ¬ S i ∧ ¬ T i ∧ i < w.heap.size) ∧ base ≤ w.heap.size
section
variable {P : Program} {f : FuncId} {args : Array Value} {r r1 r2 : Bool} {X X' : Nat → Prop} {w w' : World} {base g g1 g2 N : Nat} {st st' s1 s2 : DSt} {v : Value}
theorem One.act (h : One r X w base g N st) (hc : ∀ S, DAt r w base g N S st → base ≤ w.heap.size → Calls P f args w (DPost r base g N S w v st')) :
    Calls P f args w fun e w' => e = .returned v ∧ One r X w' base g N st' ∧ Only (Rest base X) w w' := by
  obtain ⟨S, hd, hx, hb⟩ := h
  refine (hc S hd hb).mono fun e w' h => ?_
  obtain ⟨he, hd', ho⟩ := h
  refine ⟨he, ⟨_, hd', fun i hi => ⟨?_, Nat.lt_of_lt_of_le (hx i hi).2 ho.size⟩, Nat.le_trans hb ho.size⟩, ho.mono fun i hi => ⟨(hd.all i hi).1, fun h => (hx i h).1 hi⟩⟩
  rintro (h1 | ⟨h1, _⟩)
  · exact (hx i hi).1 h1
  · have := (hx i hi).2; omega
theorem One.below (h : One r X w base g N st) (hb : Below w.heap.size w w') : One r X w' base g N st := by
  obtain ⟨S, hd, hx, hb'⟩ := h
  exact ⟨S, hd.below hb, fun i hi => ⟨(hx i hi).1, Nat.lt_of_lt_of_le (hx i hi).2 hb.size⟩, Nat.le_trans hb' hb.size⟩
/-- Blocks that came behind what w0 had are not the disk's. -/
theorem One.more (h : One r X w base g N st) (hb : Below w.heap.size w w') (hX : ∀ i, X' i → X i ∨ (w.heap.size ≤ i ∧ i < w'.heap.size)) : One r X' w' base g N st := by
  obtain ⟨S, hd, hx, hb'⟩ := h
  refine ⟨S, hd.below hb, fun i hi => ?_, Nat.le_trans hb' hb.size⟩
  rcases hX i hi with h1 | ⟨h1, h2⟩
  · exact ⟨(hx i h1).1, Nat.lt_of_lt_of_le (hx i h1).2 hb.size⟩
  · exact ⟨fun hs => by have := (hd.all i hs).2; omega, h2⟩
theorem One.bytes (h : One r X w base g N st) : ∃ S, DAt r w base g N S st := by obtain ⟨S, hd, _⟩ := h; exact ⟨S, hd⟩
theorem Two.left (h : Two r1 r2 X w base g1 g2 N s1 s2) (hc : ∀ S, DAt r1 w base g1 N S s1 → base ≤ w.heap.size → Calls P f args w (DPost r1 base g1 N S w v st')) :
    Calls P f args w fun e w' => e = .returned v ∧ Two r1 r2 X w' base g1 g2 N st' s2 ∧ Only (Rest base X) w w' := by
  obtain ⟨S, T, hd, hm, hst, hx, hb⟩ := h
  refine (hc S hd hb).mono fun e w' h => ?_
  obtain ⟨he, hd', ho⟩ := h
  refine ⟨he, ⟨_, T, hd', hm.keep ho (fun i hi hs => hst i hs hi), ?_, fun i hi => ⟨?_, (hx i hi).2.1, Nat.lt_of_lt_of_le (hx i hi).2.2 ho.size⟩, Nat.le_trans hb ho.size⟩, ho.mono fun i hi => ⟨(hd.all i hi).1, fun h => (hx i h).1 hi⟩⟩
  · rintro i (h1 | ⟨h1, _⟩) h2
    · exact hst i h1 h2
    · have := (hm.all i h2).2; omega
  · rintro (h1 | ⟨h1, _⟩)
    · exact (hx i hi).1 h1
    · have := (hx i hi).2.2; omega
theorem Two.swap (h : Two r1 r2 X w base g1 g2 N s1 s2) : Two r2 r1 X w base g2 g1 N s2 s1 := by
  obtain ⟨S, T, hd, hm, hst, hx, hb⟩ := h
  exact ⟨T, S, hm, hd, fun i h1 h2 => hst i h2 h1, fun i hi => ⟨(hx i hi).2.1, (hx i hi).1, (hx i hi).2.2⟩, hb⟩
theorem Two.right (h : Two r1 r2 X w base g1 g2 N s1 s2) (hc : ∀ S, DAt r2 w base g2 N S s2 → base ≤ w.heap.size → Calls P f args w (DPost r2 base g2 N S w v st')) :
    Calls P f args w fun e w' => e = .returned v ∧ Two r1 r2 X w' base g1 g2 N s1 st' ∧ Only (Rest base X) w w' :=
  (h.swap.left hc).mono fun _ _ h => ⟨h.1, h.2.1.swap, h.2.2⟩
theorem Two.below (h : Two r1 r2 X w base g1 g2 N s1 s2) (hb : Below w.heap.size w w') : Two r1 r2 X w' base g1 g2 N s1 s2 := by
  obtain ⟨S, T, hd, hm, hst, hx, hb'⟩ := h
  exact ⟨S, T, hd.below hb, hm.below hb, hst, fun i hi => ⟨(hx i hi).1, (hx i hi).2.1, Nat.lt_of_lt_of_le (hx i hi).2.2 hb.size⟩, Nat.le_trans hb' hb.size⟩
theorem Two.more (h : Two r1 r2 X w base g1 g2 N s1 s2) (hb : Below w.heap.size w w') (hX : ∀ i, X' i → X i ∨ (w.heap.size ≤ i ∧ i < w'.heap.size)) : Two r1 r2 X' w' base g1 g2 N s1 s2 := by
  obtain ⟨S, T, hd, hm, hst, hx, hb'⟩ := h
  refine ⟨S, T, hd.below hb, hm.below hb, hst, fun i hi => ?_, Nat.le_trans hb' hb.size⟩
  rcases hX i hi with h1 | ⟨h1, h2⟩
  · exact ⟨(hx i h1).1, (hx i h1).2.1, Nat.lt_of_lt_of_le (hx i h1).2.2 hb.size⟩
  · exact ⟨fun hs => by have := (hd.all i hs).2; omega, fun hs => by have := (hm.all i hs).2; omega, h2⟩
theorem Two.ld (h : Two r1 r2 X w base g1 g2 N s1 s2) : ∃ S, DAt r1 w base g1 N S s1 := by obtain ⟨S, T, hd, hm, _⟩ := h; exact ⟨S, hd⟩
theorem Two.rd (h : Two r1 r2 X w base g1 g2 N s1 s2) : ∃ S, DAt r2 w base g2 N S s2 := by obtain ⟨S, T, hd, hm, _⟩ := h; exact ⟨T, hm⟩
theorem Two.base_le (h : Two r1 r2 X w base g1 g2 N s1 s2) : base ≤ w.heap.size := by obtain ⟨S, T, hd, hm, _, _, hb⟩ := h; exact hb
theorem One.base_le (h : One r X w base g N st) : base ≤ w.heap.size := by obtain ⟨S, _, _, hb⟩ := h; exact hb
theorem One.fresh (h : DAt r w base g N (fun i => i = g) st) (hb : base ≤ w.heap.size) : One r (fun _ => False) w base g N st := ⟨_, h, fun _ h => False.elim h, hb⟩
/-- A second disk, laid behind the first one. -/
theorem One.two (h : One r1 X w base g1 N s1) (hb : Below w.heap.size w w') (h2 : DAt r2 w' base g2 N (fun i => i = g2) s2) (hg : w.heap.size ≤ g2) : Two r1 r2 X w' base g1 g2 N s1 s2 := by
  obtain ⟨S, hd, hx, hb'⟩ := h
  exact ⟨S, _, hd.below hb, h2, fun i hi h => by have := (hd.all i hi).2; omega, fun i hi => ⟨(hx i hi).1, fun h => by have := (hx i hi).2; omega, Nat.lt_of_lt_of_le (hx i hi).2 hb.size⟩, Nat.le_trans hb' hb.size⟩
theorem Only.rest (h : Only (Rest base X) w w') (hb : base ≤ w.heap.size) : Below base w w' := h.to (fun _ hi => hi.1) hb
end
end Go.Proofs.YtalkglmneicpoaaGreatDoor
