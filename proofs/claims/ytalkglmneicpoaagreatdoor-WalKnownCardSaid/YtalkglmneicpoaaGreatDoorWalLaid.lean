/-
  Frames laid one behind the other: what a log takes of them (laid); plain facts of logs.
-/
import Derived.Test.YtalkglmneicpoaaGreatDoorWalRight
namespace Go.Proofs.YtalkglmneicpoaaGreatDoor
set_option linter.unusedVariables false
set_option linter.unusedSimpArgs false
open Go.RowKit
theorem One.actX {P : Program} {f : FuncId} {args : Array Value} {r : Bool} {X : Nat → Prop} {w : World} {base g N : Nat} {st st' : DSt} {v : Value} (h : One r X w base g N st)
    (hc : ∀ S, DAt r w base g N S st → base ≤ w.heap.size → (∀ i, X i → ¬ S i) → Calls P f args w (DPost r base g N S w v st')) :
    Calls P f args w fun e w' => e = .returned v ∧ One r X w' base g N st' ∧ Only (Rest base X) w w' := by
  obtain ⟨S, hd, hx, hb⟩ := h
  refine (hc S hd hb (fun i hi => (hx i hi).1)).mono fun e w' h => ?_
  obtain ⟨he, hd', ho⟩ := h
  refine ⟨he, ⟨_, hd', fun i hi => ⟨?_, Nat.lt_of_lt_of_le (hx i hi).2 ho.size⟩, Nat.le_trans hb ho.size⟩, ho.mono fun i hi => ⟨(hd.all i hi).1, fun h => (hx i h).1 hi⟩⟩
  rintro (h1 | ⟨h1, _⟩)
  · exact (hx i hi).1 h1
  · have := (hx i hi).2; omega
/-- How many of some frames a log takes, and what the disk is then. -/
def laidF (N : Nat) (a : Bool) : List Fr → DSt → Nat × DSt
  | [], st => (0, st)
  | f :: F, st => if appN N st a f = 0 then ((laidF N a F (appSt N st a f)).1 + 1, (laidF N a F (appSt N st a f)).2) else (0, st)
theorem appSt_no {N : Nat} {st : DSt} {a : Bool} {f : Fr} (h : appN N st a f ≠ 0) : appSt N st a f = st := by
  unfold appN at h
  unfold appSt
  by_cases he : putE f = 0
  · rw [if_pos he] at h ⊢
    unfold DSt.write
    by_cases hf : fits N (st a).1 (enc f) = true
    · rw [if_pos hf] at h; exact absurd rfl h
    · rw [if_neg hf]
  · rw [if_neg he]
theorem laidF_le (N : Nat) (a : Bool) (F : List Fr) : ∀ st, (laidF N a F st).1 ≤ F.length := by
  induction F with
  | nil => intro st; exact Nat.le_refl _
  | cons f F ih =>
    intro st
    simp only [laidF]
    split
    · have := ih (appSt N st a f); simp; omega
    · simp
/-- At a place behind k frames that were all taken. -/
def LaidAt (N : Nat) (a : Bool) (F : List Fr) (st : DSt) (k : Nat) (st' : DSt) : Prop :=
  k ≤ F.length ∧ laidF N a F st = (k + (laidF N a (F.drop k) st').1, (laidF N a (F.drop k) st').2)
theorem LaidAt.zero (N : Nat) (a : Bool) (F : List Fr) (st : DSt) : LaidAt N a F st 0 st := ⟨Nat.zero_le _, by simp⟩
theorem LaidAt.more {N : Nat} {a : Bool} {F : List Fr} {st st' : DSt} {k : Nat} (h : LaidAt N a F st k st') (hk : k < F.length) (h0 : appN N st' a F[k] = 0) : LaidAt N a F st (k + 1) (appSt N st' a F[k]) := by
  refine ⟨hk, ?_⟩
  rw [h.2, List.drop_eq_getElem_cons hk]
  simp only [laidF]
  rw [if_pos h0]
  simp
  omega
theorem LaidAt.stop {N : Nat} {a : Bool} {F : List Fr} {st st' : DSt} {k : Nat} (h : LaidAt N a F st k st') (hk : k < F.length) (h0 : appN N st' a F[k] ≠ 0) : laidF N a F st = (k, st') := by
  rw [h.2, List.drop_eq_getElem_cons hk]
  simp only [laidF]
  rw [if_neg h0]
  simp
theorem LaidAt.done {N : Nat} {a : Bool} {F : List Fr} {st st' : DSt} (h : LaidAt N a F st F.length st') : laidF N a F st = (F.length, st') := by
  rw [h.2, List.drop_length]
  simp [laidF]
set_option maxRecDepth 100000 in
set_option maxHeartbeats 4000000 in
theorem laid_any (a : Bool) (gl base g N : Nat) (S : Nat → Prop) (st : DSt) (A : Option Addr) (n c : Nat) (F : List Fr) (pg : Addr) (w : World) (hG : Glob pg w) (hgb : 3 ≤ base) (h : DAt false w base g N S st) (hbase : base ≤ w.heap.size)
    (hl : Blk w gl (lType false) (lCells g a)) (hgl : ¬ S gl) (hx : FrsRd w base A F) (hn : F.length = n) (hm : n ≤ maxLen) :
    Calls Tryz.prog 13 #[.pointer (some ⟨gl, 0, none⟩), .slice A n c] w (DPost false base g N S w (.int .i64 ((laidF N a F st).1 : Nat)) (laidF N a F st).2) := by
  have hglt := hl.lt
  have HD : Hid (∀ W, Only S w W → Glob pg W ∧ Blk W gl (lType false) (lCells g a) ∧ FrsRd W base A F ∧ Below base w W ∧ ¬ growS S w W gl) := fun W hW => by
    have hb := hW.to (fun i hi => (h.all i hi).1) hbase
    refine ⟨hG.below hb hgb, hl.only hW hgl, hx.below hb, hb, ?_⟩
    rintro (h1 | ⟨h1, _⟩)
    · exact hgl h1
    · omega
  have H0 := Lib.hid h.same
  have HBS := Lib.hid hbase
  have HN := Lib.hid hn
  unfold maxLen at hm
  clear hG h hbase hl hgl hx hn
  go_enter Tryz.func13, Tryz.ntmps13
  go_wp2_with fail
  go_loopw [5] (fun i wr => ∃ (k : Nat) (st' : DSt), k ≤ n ∧ i = .int .i64 k ∧ LaidAt N a F st k st' ∧ DAt false wr base g N (growS S w wr) st' ∧ Only S w wr) (fun i _ => n - (intOf i).toNat)
  case atStart => exact ⟨0, st, by omega, rfl, LaidAt.zero _ _ _ _, H0.out, Only.refl _ _⟩
  case round =>
    obtain ⟨k, st', hk, rfl, hla, hd, ho⟩ := hrel
    have HLA := Lib.hid hla
    have HDD := Lib.hid hd
    have HO := Lib.hid ho
    obtain ⟨g1, l1, x1, b1, n1⟩ := HD.out _ ho
    clear hla hd ho
    by_cases hlt : k < n
    · have hk1 : k < F.length := by have := HN.out; omega
      obtain ⟨ad, rfl, y0, x, y1, hxm, hxc, hxr⟩ := x1.at_ hk1
      have C1 := Lib.hid (wappend_any a gl base g N _ st' (F[k]).k (F[k]).b x.A x.m x.c base pg wr g1 hgb HDD.out (Nat.le_trans HBS.out b1.size) l1 hxr (Nat.le_trans HBS.out b1.size) (by omega))
      have hltI : (k : Int) < (n : Int) := by omega
      have HMO : Hid (appN N st' a F[k] = 0 → LaidAt N a F st (k + 1) (appSt N st' a F[k])) := fun h => HLA.out.more hk1 h
      have HST : Hid (appN N st' a F[k] ≠ 0 → laidF N a F st = (k, st') ∧ appSt N st' a F[k] = st') := fun h => ⟨HLA.out.stop hk1 h, appSt_no h⟩
      have e : (⟨(F[k]).k, (F[k]).b⟩ : Fr) = F[k] := rfl
      rw [e] at C1
      generalize F[k] = f at *
      rcases f with ⟨fk, fb⟩
      clear hxr hxm x1 l1 g1 HLA e
      generalize appN N st' a ⟨fk, fb⟩ = E at *
      generalize appSt N st' a ⟨fk, fb⟩ = st2 at *
      go_wp2_with fail
      go_must (refine C1.out.mono ?_)
      rintro e w2 ⟨rfl, hd2, ho2⟩
      have HD2 := Lib.hid (hd2.two HO.out ho2)
      have HO2 := Lib.hid (HO.out.grow ho2)
      clear hd2 ho2 C1 y0 y1
      by_cases hE : E = 0
      · have HL2 := Lib.hid (HMO.out hE)
        subst hE
        go_wp2_with fail
        go_roundw
        case rel => exact ⟨k + 1, st2, by omega, by go_num, HL2.out, HD2.out, HO2.out⟩
        case measure => simp [intOf]; omega
      · have hne : ((E : Int) != 0) = true := by simp; omega
        obtain ⟨e1, e2⟩ := HST.out hE
        have HE1 := Lib.hid e1
        have HE2 := Lib.hid e2
        clear e1 e2
        go_wp2_with fail
        go_ret
        rw [HE1.out]
        refine ⟨rfl, ?_, HO2.out⟩
        rw [← HE2.out]
        exact HD2.out
    · obtain rfl : k = n := by omega
      have HE1 : Hid (laidF N a F st = (k, st')) := by
        show _ = _
        have := HLA.out
        have hn := HN.out
        subst hn
        exact this.done
      clear x1 l1 g1
      go_wp2_with fail
      go_ret
      rw [HE1.out]
      exact ⟨rfl, HDD.out, HO.out⟩
end Go.Proofs.YtalkglmneicpoaaGreatDoor
