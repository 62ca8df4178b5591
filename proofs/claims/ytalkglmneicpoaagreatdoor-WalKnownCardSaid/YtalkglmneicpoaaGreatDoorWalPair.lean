/-
  The pair: the program's disk and the document's, the logs of both areas; open.
-/
import Derived.Test.YtalkglmneicpoaaGreatDoorWalWorks
import Derived.Test.YtalkglmneicpoaaGreatDoorFrmSp
namespace Go.Proofs.YtalkglmneicpoaaGreatDoor
set_option linter.unusedVariables false
set_option linter.unusedSimpArgs false
open Go.RowKit
section
variable {P : Program} {f : FuncId} {args : Array Value} {r1 r2 : Bool} {X X' S' : Nat → Prop} {w w' : World} {base g1 g2 N : Nat} {s1 s2 : DSt} {a : Bool}
def TwoOpen (r1 r2 : Bool) (X : Nat → Prop) (base g1 g2 N : Nat) (s1 s2 : DSt) (a : Bool) (w : World) (e : Ending) (w' : World) : Prop :=
  ∃ v G gl, e = .returned (.tuple #[.pointer (some ⟨gl, 0, none⟩), v]) ∧ Blk w' gl (lType r1) (lCells g1 a) ∧ w.heap.size ≤ gl ∧ FrsAt w' w.heap.size v G ∧ G.map (·.1) = openFr s1 a ∧
    Two r1 r2 (fun i => X i ∨ FrsB v G i ∨ i = gl) w' base g1 g2 N (openSt s1 a) s2 ∧ Only (Rest base X) w w' ∧ ¬ FrsB v G gl
theorem Two.openL (h : Two r1 r2 X w base g1 g2 N s1 s2) (hc : ∀ S, DAt r1 w base g1 N S s1 → base ≤ w.heap.size → Calls P f args w (OpenPost r1 base g1 N S s1 a w)) : Calls P f args w (TwoOpen r1 r2 X base g1 g2 N s1 s2 a w) := by
  obtain ⟨S, T, hd, hm, hst, hx, hb⟩ := h
  refine (hc S hd hb).mono fun e w' h => ?_
  obtain ⟨v, G, gl, S', he, hblk, hgl, hf, hmm, hd', ho, hs', hng, hoff, hne1, hne2⟩ := h
  refine ⟨v, G, gl, he, hblk, hgl, hf, hmm, ⟨S', T, hd', hm.keep ho (fun i hi hs => hst i hs hi), ?_, ?_, Nat.le_trans hb ho.size⟩, ho.mono (fun i hi => ⟨(hd.all i hi).1, fun h => (hx i h).1 hi⟩), ?_⟩
  · intro i h1 h2
    rcases hs' i h1 with h3 | h3
    · exact hst i h3 h2
    · have := (hm.all i h2).2; omega
  · rintro i (hi | hi | hi)
    · refine ⟨fun h => ?_, (hx i hi).2.1, Nat.lt_of_lt_of_le (hx i hi).2.2 ho.size⟩
      rcases hs' i h with h1 | h1
      · exact (hx i hi).1 h1
      · have := (hx i hi).2.2; omega
    · refine ⟨?_, fun h => ?_, (hf.frsB_lt hi).2⟩
      · rcases hi with hi | ⟨x, hx', hi⟩
        · exact hoff.1 i hi
        · exact hoff.2 x hx' i hi
      · have := (hm.all i h).2; have := (hf.frsB_lt hi).1; omega
    · subst hi
      exact ⟨hng, fun h => by have := (hm.all _ h).2; omega, hblk.lt⟩
  · rintro (h | ⟨x, hx', h⟩)
    · exact hne1 _ h rfl
    · exact hne2 x hx' _ h rfl
theorem Two.less (h : Two r1 r2 X w base g1 g2 N s1 s2) (hX : ∀ i, X' i → X i) : Two r1 r2 X' w base g1 g2 N s1 s2 := by
  obtain ⟨S, T, hd, hm, hst, hx, hb⟩ := h
  exact ⟨S, T, hd, hm, hst, fun i hi => hx i (hX i hi), hb⟩
/-- What is not the disks' may change. -/
theorem Two.offX (h : Two r1 r2 X w base g1 g2 N s1 s2) (ho : Only S' w w') (hS : ∀ i, S' i → X i) : Two r1 r2 X w' base g1 g2 N s1 s2 := by
  obtain ⟨S, T, hd, hm, hst, hx, hb⟩ := h
  exact ⟨S, T, hd.keep ho (fun i h1 h2 => (hx i (hS i h2)).1 h1), hm.keep ho (fun i h1 h2 => (hx i (hS i h2)).2.1 h1), hst, fun i hi => ⟨(hx i hi).1, (hx i hi).2.1, Nat.lt_of_lt_of_le (hx i hi).2.2 ho.size⟩, Nat.le_trans hb ho.size⟩
end
abbrev ptrV (o : Option Nat) : Value := .pointer (o.map fun g => ⟨g, 0, none⟩)
theorem upd_self' {α : Type} (a : Bool) (v : α) (x : Bool → α) : updF a v x a = v := by simp [updF]
def PairX (gp gl gm : Nat) (L M : Bool → Option Nat) (i : Nat) : Prop := i = gp ∨ i = gl ∨ i = gm ∨ (∃ a, L a = some i) ∨ ∃ a, M a = some i
/-- The pair's own memory: the pair p, its rows of logs, the logs. -/
structure PairB (w : World) (gp gl gm gd gx : Nat) (L M : Bool → Option Nat) : Prop where
  bp : Blk w gp 57 #[.pointer (some ⟨gd, 0, none⟩), .pointer (some ⟨gx, 0, none⟩), .slice (some ⟨gl, 0, none⟩) 2 2, .slice (some ⟨gm, 0, none⟩) 2 2]
  bl : Blk w gl 40 #[ptrV (L false), ptrV (L true)]
  bm : Blk w gm 60 #[ptrV (M false), ptrV (M true)]
  lo : ∀ a g, L a = some g → Blk w g (lType false) (lCells gd a)
  mo : ∀ a g, M a = some g → Blk w g (lType true) (lCells gx a)
/-- The pair p: its disks, its logs. -/
structure PairAt (w : World) (base gp gl gm gd gx N : Nat) (s1 s2 : DSt) (L M : Bool → Option Nat) : Prop where
  two : Two false true (PairX gp gl gm L M) w base gd gx N s1 s2
  b : PairB w gp gl gm gd gx L M
  ab : base ≤ gl ∧ base ≤ gm
section
variable {w w' : World} {base gp gl gm gd gx N : Nat} {s1 s2 : DSt} {L M : Bool → Option Nat} {S : Nat → Prop}
theorem PairB.only (h : PairB w gp gl gm gd gx L M) (ho : Only S w w') (hS : ∀ i, PairX gp gl gm L M i → ¬ S i) : PairB w' gp gl gm gd gx L M :=
  ⟨h.bp.only ho (hS _ (.inl rfl)), h.bl.only ho (hS _ (.inr (.inl rfl))), h.bm.only ho (hS _ (.inr (.inr (.inl rfl)))), fun a g hg => (h.lo a g hg).only ho (hS _ (.inr (.inr (.inr (.inl ⟨a, hg⟩))))), fun a g hg => (h.mo a g hg).only ho (hS _ (.inr (.inr (.inr (.inr ⟨a, hg⟩)))))⟩
theorem PairB.below (h : PairB w gp gl gm gd gx L M) (hb : Below w.heap.size w w') : PairB w' gp gl gm gd gx L M := h.only (S := fun _ => False) (Only.of_below hb) (fun _ _ h => h)
theorem PairB.lt (h : PairB w gp gl gm gd gx L M) {i : Nat} (hi : PairX gp gl gm L M i) : i < w.heap.size := by
  rcases hi with rfl | rfl | rfl | ⟨a, hg⟩ | ⟨a, hg⟩
  · exact h.bp.lt
  · exact h.bl.lt
  · exact h.bm.lt
  · exact (h.lo a i hg).lt
  · exact (h.mo a i hg).lt
theorem PairAt.below (h : PairAt w base gp gl gm gd gx N s1 s2 L M) (hb : Below w.heap.size w w') : PairAt w' base gp gl gm gd gx N s1 s2 L M := ⟨h.two.below hb, h.b.below hb, h.ab⟩
end
set_option maxRecDepth 100000 in
set_option maxHeartbeats 16000000 in
theorem popen_false (pg : Addr) (base gp gl gm gd gx N : Nat) (st : DSt) (L M : Bool → Option Nat) (w : World) (hG : ∀ W, Below base w W → Glob pg W) (h : PairAt w base gp gl gm gd gx N st st L M) (hbase : base ≤ w.heap.size) :
    Calls Tryz.prog 24 #[.pointer (some ⟨gp, 0, none⟩), .int .i64 0] w fun e w' => e = .returned (.bool true) ∧ ∃ l1 m1, PairAt w' base gp gl gm gd gx N (openSt st false) (openSt st false) (updF false (some l1) L) (updF false (some m1) M) ∧ Below base w w' := by
  have hok := h.two.ld
  have HGB := Lib.hid hG
  have HH := Lib.hid h
  have HBS := Lib.hid hbase
  have c0 : w.cell? ⟨gp, 0, none⟩ = some (.pointer (some ⟨gd, 0, none⟩)) := h.b.bp.cell 0
  have C1 : Hid (Calls Tryz.prog 12 #[.pointer (some ⟨gd, 0, none⟩), .int .i64 0] w (TwoOpen false true (PairX gp gl gm L M) base gd gx N st st false w)) :=
    h.two.openL (fun S hd hb => wopen_any false base gd N S st w pg (hG w (Below.refl _ _)) hd hb)
  clear hok hG h hbase
  go_enter Tryz.func24, Tryz.ntmps24
  go_wp2_with fail
  go_must (refine C1.out.mono ?_)
  rintro e w1 ⟨v1, G1, l1, rfl, hk1, hl1, hf1, hm1, ht1, ho1, hn1⟩
  obtain ⟨A1, cc1, rfl, hcc1, hcc2, _⟩ := own_slice hf1.own
  have T1 := Lib.hid ht1
  have HB1 := Lib.hid (ho1.rest HBS.out)
  have BP1 := Lib.hid (HH.out.b.bp.only ho1 (fun h => h.2 (.inl rfl)))
  have HO1 := Lib.hid ho1
  have HF1 := Lib.hid hf1
  have HM1 := Lib.hid hm1
  have HK1 := Lib.hid hk1
  have hsz1 : w.heap.size ≤ w1.heap.size := ho1.size
  have c1 : w1.cell? ⟨gp, 1, none⟩ = some (.pointer (some ⟨gx, 0, none⟩)) := BP1.out.cell 1
  have C2 : Hid (Calls Tryz.prog 38 #[.pointer (some ⟨gx, 0, none⟩), .int .i64 0] w1 (TwoOpen true false (fun i => PairX gp gl gm L M i ∨ FrsB (.slice A1 G1.length cc1) G1 i ∨ i = l1) base gx gd N st (openSt st false) false w1)) :=
    T1.out.swap.openL (fun S hd hb => ropen_any false base gx N S st w1 hd hb)
  clear C1 hk1 hf1 hm1 ht1 ho1 c0
  go_wp2_with fail
  go_must (refine C2.out.mono ?_)
  rintro e w2 ⟨v2, G2, m1, rfl, hk2, hl2, hf2, hm2, ht2, ho2, hn2⟩
  obtain ⟨A2, cc2, rfl, hcc3, hcc4, _⟩ := own_slice hf2.own
  have HB2 := Lib.hid (HB1.out.trans (ho2.rest T1.out.base_le))
  have T2 := Lib.hid ht2.swap
  have BP2 := Lib.hid (BP1.out.only ho2 (fun h => h.2 (.inl (.inl rfl))))
  have BL2 := Lib.hid ((HH.out.b.bl.only HO1.out (fun h => h.2 (.inr (.inl rfl)))).only ho2 (fun h => h.2 (.inl (.inr (.inl rfl)))))
  have BM2 := Lib.hid ((HH.out.b.bm.only HO1.out (fun h => h.2 (.inr (.inr (.inl rfl))))).only ho2 (fun h => h.2 (.inl (.inr (.inr (.inl rfl))))))
  have HF12 := Lib.hid (HF1.out.off ho2 (fun i hi h => h.2 (.inr (.inl hi))))
  have HK12 := Lib.hid (HK1.out.only ho2 (fun h => h.2 (.inr (.inr rfl))))
  have HF2 := Lib.hid hf2
  have HM2 := Lib.hid hm2
  have HK2 := Lib.hid hk2
  have LO2 : Hid (∀ a g, L a = some g → Blk w2 g (lType false) (lCells gd a)) := fun a g hg => ((HH.out.b.lo a g hg).only HO1.out (fun h => h.2 (.inr (.inr (.inr (.inl ⟨a, hg⟩)))))).only ho2 (fun h => h.2 (.inl (.inr (.inr (.inr (.inl ⟨a, hg⟩))))))
  have MO2 : Hid (∀ a g, M a = some g → Blk w2 g (lType true) (lCells gx a)) := fun a g hg => ((HH.out.b.mo a g hg).only HO1.out (fun h => h.2 (.inr (.inr (.inr (.inr ⟨a, hg⟩)))))).only ho2 (fun h => h.2 (.inl (.inr (.inr (.inr (.inr ⟨a, hg⟩))))))
  have hsz2 : w1.heap.size ≤ w2.heap.size := ho2.size
  have hglt : gl < w.heap.size := HH.out.b.bl.lt
  have hgmt : gm < w.heap.size := HH.out.b.bm.lt
  have hgpt : gp < w.heap.size := HH.out.b.bp.lt
  have hne1 : gp ≠ gl := Blk.ne_ HH.out.b.bp HH.out.b.bl (by decide)
  have hne2 : gp ≠ gm := Blk.ne_ HH.out.b.bp HH.out.b.bm (by decide)
  have hne3 : gm ≠ gl := Blk.ne_ HH.out.b.bm HH.out.b.bl (by decide)
  have HNL : Hid (∀ a g, L a = some g → g ≠ gl ∧ g ≠ gm ∧ g < w.heap.size) := fun a g hg => ⟨Blk.ne_ (HH.out.b.lo a g hg) HH.out.b.bl (by decide), Blk.ne_ (HH.out.b.lo a g hg) HH.out.b.bm (by decide), (HH.out.b.lo a g hg).lt⟩
  have HNM : Hid (∀ a g, M a = some g → g ≠ gl ∧ g ≠ gm ∧ g < w.heap.size) := fun a g hg => ⟨Blk.ne_ (HH.out.b.mo a g hg) HH.out.b.bl (by decide), Blk.ne_ (HH.out.b.mo a g hg) HH.out.b.bm (by decide), (HH.out.b.mo a g hg).lt⟩
  have c2 : w2.cell? ⟨gp, 2, none⟩ = some (.slice (some ⟨gl, 0, none⟩) 2 2) := BP2.out.cell 2
  have d2 : w2.cell? ⟨gl, 0, none⟩ = some (ptrV (L false)) := BL2.out.cell 0
  have f2 : w2.frozen? ⟨gl, 0, none⟩ = false := BL2.out.frozen 0
  have k3 : Blk (w2.setCell ⟨gl, 0, none⟩ (.pointer (some ⟨l1, 0, none⟩))) gp 57 _ := BP2.out.far (p := ⟨gl, 0, none⟩) hne1 _
  have c3 : (w2.setCell ⟨gl, 0, none⟩ (.pointer (some ⟨l1, 0, none⟩))).cell? ⟨gp, 3, none⟩ = some (.slice (some ⟨gm, 0, none⟩) 2 2) := k3.cell 3
  have k4 : Blk (w2.setCell ⟨gl, 0, none⟩ (.pointer (some ⟨l1, 0, none⟩))) gm 60 _ := BM2.out.far (p := ⟨gl, 0, none⟩) hne3 _
  have d3 : (w2.setCell ⟨gl, 0, none⟩ (.pointer (some ⟨l1, 0, none⟩))).cell? ⟨gm, 0, none⟩ = some (ptrV (M false)) := k4.cell 0
  have f3 : (w2.setCell ⟨gl, 0, none⟩ (.pointer (some ⟨l1, 0, none⟩))).frozen? ⟨gm, 0, none⟩ = false := k4.frozen 0
  obtain ⟨w4, hw4⟩ : ∃ w4, w4 = (w2.setCell ⟨gl, 0, none⟩ (.pointer (some ⟨l1, 0, none⟩))).setCell ⟨gm, 0, none⟩ (.pointer (some ⟨m1, 0, none⟩)) := ⟨_, rfl⟩
  have HO4 : Hid (Only (fun i => i = gl ∨ i = gm) w2 w4) := by rw [hw4]; exact ((Only.refl (fun i => i = gl ∨ i = gm) w2).setCell (.inl (.inl rfl)) 0 _).setCell (.inl (.inr rfl)) 0 _
  have BL4 : Hid (Blk w4 gl 40 #[ptrV ((updF false (some l1) L) false), ptrV ((updF false (some l1) L) true)]) := by show Blk _ _ _ _; rw [hw4]; exact (BL2.out.set_ 0 (.pointer (some ⟨l1, 0, none⟩))).far (p := ⟨gm, 0, none⟩) (fun h => hne3 h.symm) _
  have BM4 : Hid (Blk w4 gm 60 #[ptrV ((updF false (some m1) M) false), ptrV ((updF false (some m1) M) true)]) := by show Blk _ _ _ _; rw [hw4]; exact k4.set_ 0 (.pointer (some ⟨m1, 0, none⟩))
  clear C2 hk2 hf2 hm2 ht2 ho2 c1 k3 k4
  go_wp2_with fail
  rw [← hw4]
  clear hw4 c2 d2 f2 c3 d3 f3
  have HFA : Hid (FrsAt w4 w.heap.size (.slice A1 G1.length cc1) G1) := HF12.out.off HO4.out (fun i hi h => by have := (HF1.out.frsB_lt hi).1; rcases h with h | h <;> omega)
  have HFB : Hid (FrsAt w4 w1.heap.size (.slice A2 G2.length cc2) G2) := HF2.out.off HO4.out (fun i hi h => by have := (HF2.out.frsB_lt hi).1; rcases h with h | h <;> omega)
  have S4 := sameFrames_any A1 A2 G1.length cc1 G2.length cc2 w4.heap.size w4.heap.size (openFr st false) (openFr st false) w4 (by have := HFA.out.rd; rwa [HM1.out] at this) (by have := HFB.out.rd; rwa [HM2.out] at this) (by rw [← HM1.out, List.length_map]) (by rw [← HM2.out, List.length_map]) (by omega) (by omega)
  rw [decide_eq_true rfl] at S4
  have D4 := Lib.hid S4
  have hGl : Hid (∀ i (h : i < G1.length), (G1[i]).1.b.length ≤ 262144) := fun i h => scanF_len _ _ _ (by have := HM1.out; unfold openFr scan at this; rw [← this]; exact List.mem_map.2 ⟨_, List.getElem_mem h, rfl⟩)
  clear S4
  go_must (refine D4.out.mono ?_)
  rintro e w5 ⟨rfl, q5, hw5⟩
  have HO5 : Hid (Only (fun i => i = gl ∨ i = gm) w2 w5) := by rw [hw5]; exact HO4.out.drewN q5
  have HS5 : Hid (FrsSp w5 w.heap.size (.slice A1 G1.length cc1) G1) := by rw [hw5]; exact (HFA.out.only ((Only.refl (fun _ => False) w4).drewN q5) (fun _ _ _ h => h)).sp
  have BL5 : Hid (Blk w5 gl 40 #[ptrV ((updF false (some l1) L) false), ptrV ((updF false (some l1) L) true)]) := by show Blk _ _ _ _; rw [hw5]; exact BL4.out.drewN q5
  have BM5 : Hid (Blk w5 gm 60 #[ptrV ((updF false (some m1) M) false), ptrV ((updF false (some m1) M) true)]) := by show Blk _ _ _ _; rw [hw5]; exact BM4.out.drewN q5
  clear hw5 D4 HFA HFB BL4 BM4 HO4
  have hcm : G1.length ≤ 9223372036854775807 := by unfold maxLen at hcc2; omega
  go_wp2_with fail
  go_loopw [10] (fun i wr => ∃ k : Nat, k ≤ G1.length ∧ i = .int .i64 k ∧ FrsSp wr w.heap.size (.slice A1 G1.length cc1) G1 ∧ Only (FrsB (.slice A1 G1.length cc1) G1) w5 wr) (fun i _ => G1.length - (intOf i).toNat)
  case atStart => exact ⟨0, by omega, rfl, HS5.out, Only.refl _ _⟩
  case round =>
    obtain ⟨k, hk, rfl, hsp, hon⟩ := hrel
    have HSP := Lib.hid hsp
    have HON := Lib.hid hon
    clear hsp hon HS5
    by_cases hlt : k < G1.length
    · obtain ⟨ys, hy⟩ := HSP.out.body k hlt
      obtain ⟨A8, c8, hv8, hc81, hc82, _⟩ := own_slice hy
      obtain ⟨ad, hA, hadB, hcell⟩ := (Reads.of_own HSP.out.own).2 (by omega)
      subst hA
      have hx1 : wr.cell? (ad.add (k * 2 + 1)) = some (G1[k]).2 := hcell _ _ (by have := cellsG_at G1 k 1 (by omega) G1[k] (List.getElem?_eq_getElem hlt); simpa [frC] using this)
      rw [hv8] at hx1 hy
      have x1 : wr.cell? ⟨(ad.add (k * 2)).block, (ad.add (k * 2)).off + 1, none⟩ = some (.slice A8 (G1[k]).1.b.length c8) := (congrArg _ (add_flat ad (k * 2) 1 (by omega))).trans hx1
      have C11 := Lib.hid (spoil_any A8 (G1[k]).1.b.length c8 _ _ wr hy (by have := hGl.out k hlt; omega))
      have HV8 := Lib.hid hv8
      have hltI : (k : Int) < (G1.length : Int) := by omega
      clear hy hcell hx1 hv8 hcc1
      go_wp2_with fail
      go_must (refine C11.out.mono ?_)
      rintro e w12 ⟨rfl, hon, hys⟩
      have HSP2 : Hid (FrsSp w12 w.heap.size (.slice (some ad) G1.length cc1) G1) := HSP.out.spoil hlt (by rw [HV8.out]; exact hon) (by rw [HV8.out]; exact hys)
      have HON2 : Hid (Only (FrsB (.slice (some ad) G1.length cc1) G1) w5 w12) := HON.out.trans hon (fun i hi => .inl (.inr ⟨G1[k], List.getElem_mem hlt, by rw [HV8.out]; exact hi⟩))
      clear hon hys C11 x1 HSP HON
      go_wp2_with fail
      go_roundw
      case rel => exact ⟨k + 1, by omega, by go_num, HSP2.out, HON2.out⟩
      case measure => simp [intOf]; omega
    · obtain rfl : k = G1.length := by omega
      have HOA : Hid (Only (fun i => (i = gl ∨ i = gm) ∨ FrsB (.slice A1 G1.length cc1) G1 i) w2 wr) := (HO5.out.mono (fun i h => .inl h)).trans HON.out (fun i hi => .inl (.inr hi))
      have hB : ∀ i, FrsB (.slice A1 G1.length cc1) G1 i → w.heap.size ≤ i ∧ i < w1.heap.size := fun i hi => HF1.out.frsB_lt hi
      go_wp2_with fail
      go_ret
      refine ⟨rfl, l1, m1, ⟨?_, ⟨?_, ?_, ?_, ?_, ?_⟩, HH.out.ab⟩, ?_⟩
      · refine (T2.out.offX HOA.out ?_).less ?_
        · rintro i ((h | h) | h)
          · exact .inl (.inl (.inr (.inl h)))
          · exact .inl (.inl (.inr (.inr (.inl h))))
          · exact .inl (.inr (.inl h))
        · rintro i (h | h | h | ⟨b, h⟩ | ⟨b, h⟩)
          · exact .inl (.inl (.inl h))
          · exact .inl (.inl (.inr (.inl h)))
          · exact .inl (.inl (.inr (.inr (.inl h))))
          · by_cases hb : b = false
            · subst hb; rw [upd_self'] at h; exact .inl (.inr (.inr (Option.some.inj h).symm))
            · simp only [updF, if_neg hb] at h; exact .inl (.inl (.inr (.inr (.inr (.inl ⟨b, h⟩)))))
          · by_cases hb : b = false
            · subst hb; rw [upd_self'] at h; exact .inr (.inr (Option.some.inj h).symm)
            · simp only [updF, if_neg hb] at h; exact .inl (.inl (.inr (.inr (.inr (.inr ⟨b, h⟩)))))
      · exact BP2.out.only HOA.out (fun h => by
          rcases h with (h | h) | h
          · exact hne1 h
          · exact hne2 h
          · have := (hB _ h).1; omega)
      · exact BL5.out.only HON.out (fun h => by have := (hB _ h).1; omega)
      · exact BM5.out.only HON.out (fun h => by have := (hB _ h).1; omega)
      · intro b g hg
        by_cases hb : b = false
        · subst hb
          rw [upd_self'] at hg
          obtain rfl := Option.some.inj hg
          exact HK12.out.only HOA.out (fun h => by
            rcases h with (h | h) | h
            · omega
            · omega
            · exact hn1 h)
        · simp only [updF, if_neg hb] at hg
          obtain ⟨n1, n2, n3⟩ := HNL.out b g hg
          exact (LO2.out b g hg).only HOA.out (fun h => by
            rcases h with (h | h) | h
            · exact n1 h
            · exact n2 h
            · have := (hB _ h).1; omega)
      · intro b g hg
        by_cases hb : b = false
        · subst hb
          rw [upd_self'] at hg
          obtain rfl := Option.some.inj hg
          exact HK2.out.only HOA.out (fun h => by
            rcases h with (h | h) | h
            · omega
            · omega
            · have := (hB _ h).2; omega)
        · simp only [updF, if_neg hb] at hg
          obtain ⟨n1, n2, n3⟩ := HNM.out b g hg
          exact (MO2.out b g hg).only HOA.out (fun h => by
            rcases h with (h | h) | h
            · exact n1 h
            · exact n2 h
            · have := (hB _ h).1; omega)
      · exact HB2.out.trans (HOA.out.to (fun i h => by
          rcases h with (h | h) | h
          · have := HH.out.ab.1; omega
          · have := HH.out.ab.2; omega
          · have := (hB _ h).1; have := HBS.out; omega) (Nat.le_trans HBS.out (Nat.le_trans hsz1 hsz2)))
set_option maxRecDepth 100000 in
set_option maxHeartbeats 16000000 in
theorem popen_true (pg : Addr) (base gp gl gm gd gx N : Nat) (st : DSt) (L M : Bool → Option Nat) (w : World) (hG : ∀ W, Below base w W → Glob pg W) (h : PairAt w base gp gl gm gd gx N st st L M) (hbase : base ≤ w.heap.size) :
    Calls Tryz.prog 24 #[.pointer (some ⟨gp, 0, none⟩), .int .i64 1] w fun e w' => e = .returned (.bool true) ∧ ∃ l1 m1, PairAt w' base gp gl gm gd gx N (openSt st true) (openSt st true) (updF true (some l1) L) (updF true (some m1) M) ∧ Below base w w' := by
  have hok := h.two.ld
  have HGB := Lib.hid hG
  have HH := Lib.hid h
  have HBS := Lib.hid hbase
  have c0 : w.cell? ⟨gp, 0, none⟩ = some (.pointer (some ⟨gd, 0, none⟩)) := h.b.bp.cell 0
  have C1 : Hid (Calls Tryz.prog 12 #[.pointer (some ⟨gd, 0, none⟩), .int .i64 1] w (TwoOpen false true (PairX gp gl gm L M) base gd gx N st st true w)) :=
    h.two.openL (fun S hd hb => wopen_any true base gd N S st w pg (hG w (Below.refl _ _)) hd hb)
  clear hok hG h hbase
  go_enter Tryz.func24, Tryz.ntmps24
  go_wp2_with fail
  go_must (refine C1.out.mono ?_)
  rintro e w1 ⟨v1, G1, l1, rfl, hk1, hl1, hf1, hm1, ht1, ho1, hn1⟩
  obtain ⟨A1, cc1, rfl, hcc1, hcc2, _⟩ := own_slice hf1.own
  have T1 := Lib.hid ht1
  have HB1 := Lib.hid (ho1.rest HBS.out)
  have BP1 := Lib.hid (HH.out.b.bp.only ho1 (fun h => h.2 (.inl rfl)))
  have HO1 := Lib.hid ho1
  have HF1 := Lib.hid hf1
  have HM1 := Lib.hid hm1
  have HK1 := Lib.hid hk1
  have hsz1 : w.heap.size ≤ w1.heap.size := ho1.size
  have c1 : w1.cell? ⟨gp, 1, none⟩ = some (.pointer (some ⟨gx, 0, none⟩)) := BP1.out.cell 1
  have C2 : Hid (Calls Tryz.prog 38 #[.pointer (some ⟨gx, 0, none⟩), .int .i64 1] w1 (TwoOpen true false (fun i => PairX gp gl gm L M i ∨ FrsB (.slice A1 G1.length cc1) G1 i ∨ i = l1) base gx gd N st (openSt st true) true w1)) :=
    T1.out.swap.openL (fun S hd hb => ropen_any true base gx N S st w1 hd hb)
  clear C1 hk1 hf1 hm1 ht1 ho1 c0
  go_wp2_with fail
  go_must (refine C2.out.mono ?_)
  rintro e w2 ⟨v2, G2, m1, rfl, hk2, hl2, hf2, hm2, ht2, ho2, hn2⟩
  obtain ⟨A2, cc2, rfl, hcc3, hcc4, _⟩ := own_slice hf2.own
  have HB2 := Lib.hid (HB1.out.trans (ho2.rest T1.out.base_le))
  have T2 := Lib.hid ht2.swap
  have BP2 := Lib.hid (BP1.out.only ho2 (fun h => h.2 (.inl (.inl rfl))))
  have BL2 := Lib.hid ((HH.out.b.bl.only HO1.out (fun h => h.2 (.inr (.inl rfl)))).only ho2 (fun h => h.2 (.inl (.inr (.inl rfl)))))
  have BM2 := Lib.hid ((HH.out.b.bm.only HO1.out (fun h => h.2 (.inr (.inr (.inl rfl))))).only ho2 (fun h => h.2 (.inl (.inr (.inr (.inl rfl))))))
  have HF12 := Lib.hid (HF1.out.off ho2 (fun i hi h => h.2 (.inr (.inl hi))))
  have HK12 := Lib.hid (HK1.out.only ho2 (fun h => h.2 (.inr (.inr rfl))))
  have HF2 := Lib.hid hf2
  have HM2 := Lib.hid hm2
  have HK2 := Lib.hid hk2
  have LO2 : Hid (∀ a g, L a = some g → Blk w2 g (lType false) (lCells gd a)) := fun a g hg => ((HH.out.b.lo a g hg).only HO1.out (fun h => h.2 (.inr (.inr (.inr (.inl ⟨a, hg⟩)))))).only ho2 (fun h => h.2 (.inl (.inr (.inr (.inr (.inl ⟨a, hg⟩))))))
  have MO2 : Hid (∀ a g, M a = some g → Blk w2 g (lType true) (lCells gx a)) := fun a g hg => ((HH.out.b.mo a g hg).only HO1.out (fun h => h.2 (.inr (.inr (.inr (.inr ⟨a, hg⟩)))))).only ho2 (fun h => h.2 (.inl (.inr (.inr (.inr (.inr ⟨a, hg⟩))))))
  have hsz2 : w1.heap.size ≤ w2.heap.size := ho2.size
  have hglt : gl < w.heap.size := HH.out.b.bl.lt
  have hgmt : gm < w.heap.size := HH.out.b.bm.lt
  have hgpt : gp < w.heap.size := HH.out.b.bp.lt
  have hne1 : gp ≠ gl := Blk.ne_ HH.out.b.bp HH.out.b.bl (by decide)
  have hne2 : gp ≠ gm := Blk.ne_ HH.out.b.bp HH.out.b.bm (by decide)
  have hne3 : gm ≠ gl := Blk.ne_ HH.out.b.bm HH.out.b.bl (by decide)
  have HNL : Hid (∀ a g, L a = some g → g ≠ gl ∧ g ≠ gm ∧ g < w.heap.size) := fun a g hg => ⟨Blk.ne_ (HH.out.b.lo a g hg) HH.out.b.bl (by decide), Blk.ne_ (HH.out.b.lo a g hg) HH.out.b.bm (by decide), (HH.out.b.lo a g hg).lt⟩
  have HNM : Hid (∀ a g, M a = some g → g ≠ gl ∧ g ≠ gm ∧ g < w.heap.size) := fun a g hg => ⟨Blk.ne_ (HH.out.b.mo a g hg) HH.out.b.bl (by decide), Blk.ne_ (HH.out.b.mo a g hg) HH.out.b.bm (by decide), (HH.out.b.mo a g hg).lt⟩
  have c2 : w2.cell? ⟨gp, 2, none⟩ = some (.slice (some ⟨gl, 0, none⟩) 2 2) := BP2.out.cell 2
  have d2 : w2.cell? ⟨gl, 1, none⟩ = some (ptrV (L true)) := BL2.out.cell 1
  have f2 : w2.frozen? ⟨gl, 1, none⟩ = false := BL2.out.frozen 1
  have k3 : Blk (w2.setCell ⟨gl, 1, none⟩ (.pointer (some ⟨l1, 0, none⟩))) gp 57 _ := BP2.out.far (p := ⟨gl, 1, none⟩) hne1 _
  have c3 : (w2.setCell ⟨gl, 1, none⟩ (.pointer (some ⟨l1, 0, none⟩))).cell? ⟨gp, 3, none⟩ = some (.slice (some ⟨gm, 0, none⟩) 2 2) := k3.cell 3
  have k4 : Blk (w2.setCell ⟨gl, 1, none⟩ (.pointer (some ⟨l1, 0, none⟩))) gm 60 _ := BM2.out.far (p := ⟨gl, 1, none⟩) hne3 _
  have d3 : (w2.setCell ⟨gl, 1, none⟩ (.pointer (some ⟨l1, 0, none⟩))).cell? ⟨gm, 1, none⟩ = some (ptrV (M true)) := k4.cell 1
  have f3 : (w2.setCell ⟨gl, 1, none⟩ (.pointer (some ⟨l1, 0, none⟩))).frozen? ⟨gm, 1, none⟩ = false := k4.frozen 1
  obtain ⟨w4, hw4⟩ : ∃ w4, w4 = (w2.setCell ⟨gl, 1, none⟩ (.pointer (some ⟨l1, 0, none⟩))).setCell ⟨gm, 1, none⟩ (.pointer (some ⟨m1, 0, none⟩)) := ⟨_, rfl⟩
  have HO4 : Hid (Only (fun i => i = gl ∨ i = gm) w2 w4) := by rw [hw4]; exact ((Only.refl (fun i => i = gl ∨ i = gm) w2).setCell (.inl (.inl rfl)) 1 _).setCell (.inl (.inr rfl)) 1 _
  have BL4 : Hid (Blk w4 gl 40 #[ptrV ((updF true (some l1) L) false), ptrV ((updF true (some l1) L) true)]) := by show Blk _ _ _ _; rw [hw4]; exact (BL2.out.set_ 1 (.pointer (some ⟨l1, 0, none⟩))).far (p := ⟨gm, 1, none⟩) (fun h => hne3 h.symm) _
  have BM4 : Hid (Blk w4 gm 60 #[ptrV ((updF true (some m1) M) false), ptrV ((updF true (some m1) M) true)]) := by show Blk _ _ _ _; rw [hw4]; exact k4.set_ 1 (.pointer (some ⟨m1, 0, none⟩))
  clear C2 hk2 hf2 hm2 ht2 ho2 c1 k3 k4
  go_wp2_with fail
  rw [← hw4]
  clear hw4 c2 d2 f2 c3 d3 f3
  have HFA : Hid (FrsAt w4 w.heap.size (.slice A1 G1.length cc1) G1) := HF12.out.off HO4.out (fun i hi h => by have := (HF1.out.frsB_lt hi).1; rcases h with h | h <;> omega)
  have HFB : Hid (FrsAt w4 w1.heap.size (.slice A2 G2.length cc2) G2) := HF2.out.off HO4.out (fun i hi h => by have := (HF2.out.frsB_lt hi).1; rcases h with h | h <;> omega)
  have S4 := sameFrames_any A1 A2 G1.length cc1 G2.length cc2 w4.heap.size w4.heap.size (openFr st true) (openFr st true) w4 (by have := HFA.out.rd; rwa [HM1.out] at this) (by have := HFB.out.rd; rwa [HM2.out] at this) (by rw [← HM1.out, List.length_map]) (by rw [← HM2.out, List.length_map]) (by omega) (by omega)
  rw [decide_eq_true rfl] at S4
  have D4 := Lib.hid S4
  have hGl : Hid (∀ i (h : i < G1.length), (G1[i]).1.b.length ≤ 262144) := fun i h => scanF_len _ _ _ (by have := HM1.out; unfold openFr scan at this; rw [← this]; exact List.mem_map.2 ⟨_, List.getElem_mem h, rfl⟩)
  clear S4
  go_must (refine D4.out.mono ?_)
  rintro e w5 ⟨rfl, q5, hw5⟩
  have HO5 : Hid (Only (fun i => i = gl ∨ i = gm) w2 w5) := by rw [hw5]; exact HO4.out.drewN q5
  have HS5 : Hid (FrsSp w5 w.heap.size (.slice A1 G1.length cc1) G1) := by rw [hw5]; exact (HFA.out.only ((Only.refl (fun _ => False) w4).drewN q5) (fun _ _ _ h => h)).sp
  have BL5 : Hid (Blk w5 gl 40 #[ptrV ((updF true (some l1) L) false), ptrV ((updF true (some l1) L) true)]) := by show Blk _ _ _ _; rw [hw5]; exact BL4.out.drewN q5
  have BM5 : Hid (Blk w5 gm 60 #[ptrV ((updF true (some m1) M) false), ptrV ((updF true (some m1) M) true)]) := by show Blk _ _ _ _; rw [hw5]; exact BM4.out.drewN q5
  clear hw5 D4 HFA HFB BL4 BM4 HO4
  have hcm : G1.length ≤ 9223372036854775807 := by unfold maxLen at hcc2; omega
  go_wp2_with fail
  go_loopw [10] (fun i wr => ∃ k : Nat, k ≤ G1.length ∧ i = .int .i64 k ∧ FrsSp wr w.heap.size (.slice A1 G1.length cc1) G1 ∧ Only (FrsB (.slice A1 G1.length cc1) G1) w5 wr) (fun i _ => G1.length - (intOf i).toNat)
  case atStart => exact ⟨0, by omega, rfl, HS5.out, Only.refl _ _⟩
  case round =>
    obtain ⟨k, hk, rfl, hsp, hon⟩ := hrel
    have HSP := Lib.hid hsp
    have HON := Lib.hid hon
    clear hsp hon HS5
    by_cases hlt : k < G1.length
    · obtain ⟨ys, hy⟩ := HSP.out.body k hlt
      obtain ⟨A8, c8, hv8, hc81, hc82, _⟩ := own_slice hy
      obtain ⟨ad, hA, hadB, hcell⟩ := (Reads.of_own HSP.out.own).2 (by omega)
      subst hA
      have hx1 : wr.cell? (ad.add (k * 2 + 1)) = some (G1[k]).2 := hcell _ _ (by have := cellsG_at G1 k 1 (by omega) G1[k] (List.getElem?_eq_getElem hlt); simpa [frC] using this)
      rw [hv8] at hx1 hy
      have x1 : wr.cell? ⟨(ad.add (k * 2)).block, (ad.add (k * 2)).off + 1, none⟩ = some (.slice A8 (G1[k]).1.b.length c8) := (congrArg _ (add_flat ad (k * 2) 1 (by omega))).trans hx1
      have C11 := Lib.hid (spoil_any A8 (G1[k]).1.b.length c8 _ _ wr hy (by have := hGl.out k hlt; omega))
      have HV8 := Lib.hid hv8
      have hltI : (k : Int) < (G1.length : Int) := by omega
      clear hy hcell hx1 hv8 hcc1
      go_wp2_with fail
      go_must (refine C11.out.mono ?_)
      rintro e w12 ⟨rfl, hon, hys⟩
      have HSP2 : Hid (FrsSp w12 w.heap.size (.slice (some ad) G1.length cc1) G1) := HSP.out.spoil hlt (by rw [HV8.out]; exact hon) (by rw [HV8.out]; exact hys)
      have HON2 : Hid (Only (FrsB (.slice (some ad) G1.length cc1) G1) w5 w12) := HON.out.trans hon (fun i hi => .inl (.inr ⟨G1[k], List.getElem_mem hlt, by rw [HV8.out]; exact hi⟩))
      clear hon hys C11 x1 HSP HON
      go_wp2_with fail
      go_roundw
      case rel => exact ⟨k + 1, by omega, by go_num, HSP2.out, HON2.out⟩
      case measure => simp [intOf]; omega
    · obtain rfl : k = G1.length := by omega
      have HOA : Hid (Only (fun i => (i = gl ∨ i = gm) ∨ FrsB (.slice A1 G1.length cc1) G1 i) w2 wr) := (HO5.out.mono (fun i h => .inl h)).trans HON.out (fun i hi => .inl (.inr hi))
      have hB : ∀ i, FrsB (.slice A1 G1.length cc1) G1 i → w.heap.size ≤ i ∧ i < w1.heap.size := fun i hi => HF1.out.frsB_lt hi
      go_wp2_with fail
      go_ret
      refine ⟨rfl, l1, m1, ⟨?_, ⟨?_, ?_, ?_, ?_, ?_⟩, HH.out.ab⟩, ?_⟩
      · refine (T2.out.offX HOA.out ?_).less ?_
        · rintro i ((h | h) | h)
          · exact .inl (.inl (.inr (.inl h)))
          · exact .inl (.inl (.inr (.inr (.inl h))))
          · exact .inl (.inr (.inl h))
        · rintro i (h | h | h | ⟨b, h⟩ | ⟨b, h⟩)
          · exact .inl (.inl (.inl h))
          · exact .inl (.inl (.inr (.inl h)))
          · exact .inl (.inl (.inr (.inr (.inl h))))
          · by_cases hb : b = true
            · subst hb; rw [upd_self'] at h; exact .inl (.inr (.inr (Option.some.inj h).symm))
            · simp only [updF, if_neg hb] at h; exact .inl (.inl (.inr (.inr (.inr (.inl ⟨b, h⟩)))))
          · by_cases hb : b = true
            · subst hb; rw [upd_self'] at h; exact .inr (.inr (Option.some.inj h).symm)
            · simp only [updF, if_neg hb] at h; exact .inl (.inl (.inr (.inr (.inr (.inr ⟨b, h⟩)))))
      · exact BP2.out.only HOA.out (fun h => by
          rcases h with (h | h) | h
          · exact hne1 h
          · exact hne2 h
          · have := (hB _ h).1; omega)
      · exact BL5.out.only HON.out (fun h => by have := (hB _ h).1; omega)
      · exact BM5.out.only HON.out (fun h => by have := (hB _ h).1; omega)
      · intro b g hg
        by_cases hb : b = true
        · subst hb
          rw [upd_self'] at hg
          obtain rfl := Option.some.inj hg
          exact HK12.out.only HOA.out (fun h => by
            rcases h with (h | h) | h
            · omega
            · omega
            · exact hn1 h)
        · simp only [updF, if_neg hb] at hg
          obtain ⟨n1, n2, n3⟩ := HNL.out b g hg
          exact (LO2.out b g hg).only HOA.out (fun h => by
            rcases h with (h | h) | h
            · exact n1 h
            · exact n2 h
            · have := (hB _ h).1; omega)
      · intro b g hg
        by_cases hb : b = true
        · subst hb
          rw [upd_self'] at hg
          obtain rfl := Option.some.inj hg
          exact HK2.out.only HOA.out (fun h => by
            rcases h with (h | h) | h
            · omega
            · omega
            · have := (hB _ h).2; omega)
        · simp only [updF, if_neg hb] at hg
          obtain ⟨n1, n2, n3⟩ := HNM.out b g hg
          exact (MO2.out b g hg).only HOA.out (fun h => by
            rcases h with (h | h) | h
            · exact n1 h
            · exact n2 h
            · have := (hB _ h).1; omega)
      · exact HB2.out.trans (HOA.out.to (fun i h => by
          rcases h with (h | h) | h
          · have := HH.out.ab.1; omega
          · have := HH.out.ab.2; omega
          · have := (hB _ h).1; have := HBS.out; omega) (Nat.le_trans HBS.out (Nat.le_trans hsz1 hsz2)))
end Go.Proofs.YtalkglmneicpoaaGreatDoor
