/-
  acts: an act on an area, but a crash; and what a run of acts leaves of each area.
-/
import Derived.Test.YtaccefkjdggcaaaDiskPlays
namespace Go.Proofs.Ytaccefkjdggcaaa
set_option linter.unusedVariables false
set_option linter.unusedSimpArgs false
open Go.RowKit
def DSt.actI (N : Nat) (st : DSt) (n kd nn : Int) (bs : List UInt8) : DSt :=
  if kd % 6 = 3 then st.syncI n else if kd % 6 = 4 then st.cutI n nn else if kd % 6 = 5 then st else st.writeI N n bs
theorem dpost_alloc {ref : Bool} {base g N : Nat} {S : Nat → Prop} {st : DSt} {v : Value} {w w' : World} {o : Obj} {e : Ending} (hbase : base ≤ w.heap.size) (h : DPost ref base g N S (w.alloc o) v st e w') : DPost ref base g N S w v st e w' := by
  obtain ⟨he, hd, ho⟩ := h
  have hsz : w.heap.size + 1 ≤ w'.heap.size := by have := ho.size; simpa using this
  refine ⟨he, hd.more (fun i hi => ?_) (fun i hi => ?_), ((Only.refl S w).alloc o).trans ho (fun i hi => .inl hi)⟩
  · rcases hi with h1 | ⟨h1, h2⟩
    · exact .inl h1
    · exact .inr ⟨by simp at h1; omega, h2⟩
  · rcases hi with h1 | ⟨h1, h2⟩
    · exact hd.all i (.inl h1)
    · exact ⟨by omega, h2⟩
set_option maxRecDepth 100000 in
set_option maxHeartbeats 4000000 in
theorem acts_any (base g N : Nat) (S : Nat → Prop) (st : DSt) (n kd ar nn : Int) (Ab : Option Addr) (m cb B : Nat) (bs : List UInt8) (w : World) (h : DAt false w base g N S st) (hbase : base ≤ w.heap.size) (hb : Reads w B 1 Ab m (bs.map bval)) (hB : B ≤ w.heap.size) (hm : m ≤ maxLen)
    (hl : -9223372036854775808 ≤ kd) (hh : kd ≤ 9223372036854775807) :
    Calls Try.prog 27 #[.pointer (some ⟨g, 0, none⟩), .int .i64 n, .agg #[ival kd, ival ar, ival nn, .slice Ab m cb]] w (DPost false base g N S w (.tuple #[]) (st.actI N n kd nn bs)) := by
  have PK := Lib.hid (fun W => pick_any kd 6 W (by omega) (by omega) hl hh)
  have hbase' : base ≤ (w.alloc (.cells #[ival kd, ival ar, ival nn, .slice Ab m cb] 33)).heap.size := by simp; omega
  have HE : Hid (∀ st' e w', DPost false base g N S (w.alloc (.cells #[ival kd, ival ar, ival nn, .slice Ab m cb] 33)) (.tuple #[]) st' e w' → DPost false base g N S w (.tuple #[]) st' e w') := fun st' e w' h => dpost_alloc hbase h
  have HD := Lib.hid (h.alloc (.cells #[ival kd, ival ar, ival nn, .slice Ab m cb] 33))
  have HR := Lib.hid (hb.alloc hB (.cells #[ival kd, ival ar, ival nn, .slice Ab m cb] 33))
  have C3 := Lib.hid (syncI base g N S st n _ HD.out hbase')
  have C4 := Lib.hid (cutI base g N S st n nn _ HD.out hbase')
  have C0 := Lib.hid (writeI base g N S st n Ab m cb B bs _ HD.out hbase' HR.out hm)
  have C5 : Hid (DPost false base g N S (w.alloc (.cells #[ival kd, ival ar, ival nn, .slice Ab m cb] 33)) (.tuple #[]) st (.returned (.tuple #[])) (w.alloc (.cells #[ival kd, ival ar, ival nn, .slice Ab m cb] 33))) := ⟨rfl, HD.out.same, Only.refl _ _⟩
  have hq := emod6 kd
  have HA : Hid (st.actI N n kd nn bs = if kd % 6 = 3 then st.syncI n else if kd % 6 = 4 then st.cutI n nn else if kd % 6 = 5 then st else st.writeI N n bs) := rfl
  generalize st.actI N n kd nn bs = st' at *
  clear h hb hbase hbase'
  rcases hq with hq | hq | hq | hq | hq | hq
  all_goals
    rw [hq] at PK HA
    clear hq
    go_enter Try.func27, Try.ntmps27
    go_wp2_with fail
    go_must (refine (PK.out _).mono ?_)
    rintro e w1 ⟨rfl, rfl⟩
    go_wp2_with fail
  · go_must (refine C0.out.mono ?_)
    rintro e w1 ⟨rfl, hd⟩
    have HF := Lib.hid (HE.out _ _ _ ⟨rfl, hd⟩)
    clear hd
    go_wp2_with fail
    go_end0
    rw [HA.out]
    exact HF.out
  · go_must (refine C0.out.mono ?_)
    rintro e w1 ⟨rfl, hd⟩
    have HF := Lib.hid (HE.out _ _ _ ⟨rfl, hd⟩)
    clear hd
    go_wp2_with fail
    go_end0
    rw [HA.out]
    exact HF.out
  · go_must (refine C0.out.mono ?_)
    rintro e w1 ⟨rfl, hd⟩
    have HF := Lib.hid (HE.out _ _ _ ⟨rfl, hd⟩)
    clear hd
    go_wp2_with fail
    go_end0
    rw [HA.out]
    exact HF.out
  · go_must (refine C3.out.mono ?_)
    rintro e w1 ⟨rfl, hd⟩
    have HF := Lib.hid (HE.out _ _ _ ⟨rfl, hd⟩)
    clear hd
    go_wp2_with fail
    go_end0
    rw [HA.out]
    exact HF.out
  · go_must (refine C4.out.mono ?_)
    rintro e w1 ⟨rfl, hd⟩
    have HF := Lib.hid (HE.out _ _ _ ⟨rfl, hd⟩)
    clear hd
    go_wp2_with fail
    go_end0
    rw [HA.out]
    exact HF.out
  · go_end0
    rw [HA.out]
    exact HE.out _ _ _ C5.out
def compAct (N : Nat) (kd nn : Int) (bs : List UInt8) (r : Ar) : Ar :=
  if kd % 6 = 3 then (r.1, r.1.length) else if kd % 6 = 4 then (cutL nn r.1, (cutL nn r.1).length) else if kd % 6 = 5 then r else if fits N r.1 bs = true then (r.1 ++ bs, r.2) else r
theorem updF_self {α : Type} (a : Bool) (x : Bool → α) : updF a (x a) x = x := by
  funext b; unfold updF; split
  · rename_i h; rw [h]
  · rfl
theorem actI_upd (N : Nat) (st : DSt) (a : Bool) (kd nn : Int) (bs : List UInt8) : st.actI N (aI a) kd nn bs = updF a (compAct N kd nn bs (st a)) st := by
  have h : ∀ {α : Type} (f : Bool → α) (d : α), onArea (aI a) f d = f a := fun f d => by cases a <;> rfl
  unfold DSt.actI compAct DSt.syncI DSt.cutI DSt.writeI
  rw [h, h, h]
  split
  · rfl
  · split
    · rfl
    · split
      · exact (updF_self a st).symm
      · unfold DSt.write
        split
        · rfl
        · exact (updF_self a st).symm
def areaOf (Z : Nat → Nat → Int) (i : Nat) : Bool := decide (Z i 1 % 2 = 1)
theorem areaOf_aI (Z : Nat → Nat → Int) (i : Nat) : aI (areaOf Z i) = Z i 1 % 2 := by
  unfold areaOf aI
  rcases (by omega : Z i 1 % 2 = 0 ∨ Z i 1 % 2 = 1) with h | h <;> simp [h]
/-- What a run of acts leaves of one area. -/
def runC (N : Nat) (Z : Nat → Nat → Int) (V : Nat → ActB) (a : Bool) : Nat → Ar
  | 0 => ([], 0)
  | k + 1 => if areaOf Z k = a then compAct N (Z k 0) (Z k 2) (V k).bs (runC N Z V a k) else runC N Z V a k
def stB (N : Nat) (Z : Nat → Nat → Int) (V : Nat → ActB) (k : Nat) : DSt := fun a => runC N Z V a k
theorem stB_zero (N : Nat) (Z : Nat → Nat → Int) (V : Nat → ActB) : stB N Z V 0 = DSt.new := by funext a; rfl
theorem stB_step (N : Nat) (Z : Nat → Nat → Int) (V : Nat → ActB) (k : Nat) : (stB N Z V k).actI N (Z k 1 % 2) (Z k 0) (Z k 2) (V k).bs = stB N Z V (k + 1) := by
  rw [← areaOf_aI, actI_upd]
  funext b
  unfold stB updF
  simp only [runC]
  by_cases h : b = areaOf Z k
  · subst h; simp
  · rw [if_neg h, if_neg (fun h' => h h'.symm)]
def aN (a : Bool) : Nat := if a = true then 1 else 0
def stA (N K : Nat) (Z : Nat → Nat → Int) (V : Nat → ActB) (p i : Nat) : DSt := fun a => if aN a < p then runC N Z V a K else if aN a = p then runC N Z V a i else ([], 0)
theorem stA_zero (N K : Nat) (Z : Nat → Nat → Int) (V : Nat → ActB) : stA N K Z V 0 0 = DSt.new := by
  funext a; unfold stA; cases a <;> simp [aN, runC, DSt.new]
theorem stA_next (N K : Nat) (Z : Nat → Nat → Int) (V : Nat → ActB) (p : Nat) : stA N K Z V p K = stA N K Z V (p + 1) 0 := by
  funext a; unfold stA
  by_cases h1 : aN a < p
  · rw [if_pos h1, if_pos (by omega)]
  · by_cases h2 : aN a = p
    · rw [if_neg h1, if_pos h2, if_pos (by omega)]
    · rw [if_neg h1, if_neg h2, if_neg (by omega)]
      by_cases h3 : aN a = p + 1
      · rw [if_pos h3]; rfl
      · rw [if_neg h3]
theorem stA_end (N K : Nat) (Z : Nat → Nat → Int) (V : Nat → ActB) : stA N K Z V 2 0 = stB N Z V K := by
  funext a; unfold stA stB; cases a <;> simp [aN]
theorem stA_yes (N K : Nat) (Z : Nat → Nat → Int) (V : Nat → ActB) (p i : Nat) (hp : p ≤ 1) (h : Z i 1 % 2 = (p : Int)) : (stA N K Z V p i).actI N (p : Int) (Z i 0) (Z i 2) (V i).bs = stA N K Z V p (i + 1) := by
  have hI : (p : Int) = aI (areaOf Z i) := by rw [areaOf_aI, h]
  rw [hI, actI_upd]
  have hN : aN (areaOf Z i) = p := by
    have : ((aN (areaOf Z i) : Nat) : Int) = p := by rw [hI]; unfold aN aI; split <;> rfl
    omega
  funext b
  unfold updF
  by_cases hb : b = areaOf Z i
  · subst hb
    rw [if_pos rfl]
    unfold stA
    rw [if_neg (by omega), if_pos hN, if_neg (by omega), if_pos hN]
    simp [runC]
  · rw [if_neg hb]
    have hne : aN b ≠ p := fun h' => hb (by
      rw [← hN] at h'
      cases b <;> cases hh : areaOf Z i <;> simp [aN, hh] at h' ⊢)
    unfold stA
    rw [if_neg hne, if_neg hne]
theorem stA_no (N K : Nat) (Z : Nat → Nat → Int) (V : Nat → ActB) (p i : Nat) (h : ¬ Z i 1 % 2 = (p : Int)) : stA N K Z V p i = stA N K Z V p (i + 1) := by
  funext b
  unfold stA
  by_cases h1 : aN b < p
  · rw [if_pos h1, if_pos h1]
  · by_cases h2 : aN b = p
    · rw [if_neg h1, if_pos h2, if_neg h1, if_pos h2]
      simp only [runC]
      rw [if_neg]
      intro h'
      subst h'
      apply h
      rw [← areaOf_aI, ← h2]
      unfold aI aN
      split <;> rfl
    · rw [if_neg h1, if_neg h2, if_neg h1, if_neg h2]
end Go.Proofs.Ytaccefkjdggcaaa
