/-
  The frame with which bytes begin: read.
-/
import Derived.Test.YtalkglmneicpoaaGreatDoorFrmPut
import Derived.Test.YtalkglmneicpoaaGreatDoorErrsIs
import Derived.Deep.QuietTactic
namespace Go.Proofs.YtalkglmneicpoaaGreatDoor
set_option linter.unusedVariables false
set_option linter.unusedSimpArgs false
open Go.RowKit
/-- What the package variables hold: the sums' table, error's own type, the sentinel. -/
structure Glob (p : Addr) (w : World) : Prop where
  tab : TabOk w
  hand : HandOk w
  short : w.cell? ⟨0, 0, none⟩ = some (sentV p)
  lt : 3 ≤ w.heap.size
theorem Glob.below {p : Addr} {w w' : World} {B : Nat} (h : Glob p w) (hb : Below B w w') (hB : 3 ≤ B) : Glob p w' :=
  ⟨h.tab.below hb (by omega), h.hand.below hb (by omega), (hb.cell (p := ⟨0, 0, none⟩) (by show 0 < B; omega)).trans h.short, Nat.le_trans h.lt hb.size⟩
def ErrRep (p : Addr) (E : Nat) (v : Value) : Prop := (E = 0 ∧ v = .nilIface) ∨ (E ≠ 0 ∧ ∃ at_ why, v = wrongV E at_ why ∧ (why = .nilIface ∨ why = sentV p))
theorem end_frame3 {fn : Func} {R : Ending → World → Prop} {a : Act} {W : World} {g : Nat} {cs : Array Value} {x y : Value} (hf : fn.results = #[.cell 2 25, .tmp 3, .tmp 4]) (hd : a.defers = []) (hp : a.tmps.getD 2 undef = .pointer (some ⟨g, 0, none⟩))
    (hg : W.heap[g]? = some (.cells cs 25 (0, 0))) (hs : cs.size = 2) (h3 : a.tmps.getD 3 undef = x) (h4 : a.tmps.getD 4 undef = y) (hR : R (.returned (.tuple #[.agg cs, x, y])) W) : bodyPost Tryz.prog fn R .ret a W := by
  refine bodyPost_ret_by ?_ hd hR
  have h2 : (Tryz.prog.info? 25).map (·.size) = some 2 := by kernel_rfl
  have hr := run_loadVar_row (P := Tryz.prog) W g 25 25 cs (0, 0) _ hg Tryz.underlying25 rfl (by rw [h2, hs])
  have hp' : a.tmps[2]?.getD undef = .pointer (some ⟨g, 0, none⟩) := by simpa using hp
  have h3' : a.tmps[3]?.getD undef = x := by simpa using h3
  have h4' : a.tmps[4]?.getD undef = y := by simpa using h4
  simp [results, hf, hp', h3', h4', asAddr, hr, Sem.run_bind, Result.andThen]
def ReadPost (p : Addr) (L : List UInt8) (w : World) (e : Ending) (w' : World) : Prop :=
  ∃ v errv, e = .returned (.tuple #[.agg #[ival (getF L).k, v], ival (getN L : Nat), errv]) ∧ w'.ownsRow w.heap.size 5 1 v (getF L).b.length ((getF L).b.map bval) ∧ Below w.heap.size w w' ∧ ErrRep p (getE L) errv
theorem readPost_bad {p : Addr} {L : List UInt8} {w w' : World} {E : Nat} {at_ : Int} {why : Value} (h : getE L = E) (hE : E ≠ 0) (hw : why = .nilIface ∨ why = sentV p) (hb : Below w.heap.size w w') :
    ReadPost p L w (.returned (.tuple #[.agg #[ival 0, .slice none 0 0], ival 0, wrongV E at_ why])) w' := by
  have h0 : getE L ≠ 0 := by omega
  have hF : getF L = ⟨0, []⟩ := by unfold getF; rw [if_neg h0]
  have hN : getN L = 0 := by unfold getN; rw [if_neg h0]
  refine ⟨.slice none 0 0, wrongV E at_ why, ?_, ?_, hb, .inr ⟨h0, at_, why, by rw [h], hw⟩⟩
  · rw [hF, hN]; rfl
  · rw [hF]; exact World.ownsRow_nil _ _ _ _
set_option maxRecDepth 100000 in
set_option maxHeartbeats 4000000 in
theorem read_short (A : Option Addr) (n c B : Nat) (L : List UInt8) (p : Addr) (w : World) (hG : Glob p w) (hr : Reads w B 1 A n (L.map bval)) (h9 : n < 9) :
    Calls Tryz.prog 50 #[.slice A n c] w (ReadPost p L w) := by
  have hl := hr.bytes_len
  have hE : getE L = 4 := by unfold getE; rw [if_pos (by omega)]
  have HE := Lib.hid hE
  have hs := hG.short
  have hlt := hG.lt
  have k0 : ∀ O, (w.alloc O).cell? ⟨0, 0, none⟩ = some (sentV p) := fun O => (World.cell?_alloc_lt w O _ (by show 0 < w.heap.size; omega)).trans hs
  clear hr hl hE hG
  go_enter Tryz.func50, Tryz.ntmps50
  go_wp2_with fail
  go_region
  all_goals
    go_wp2_with fail
    refine end_frame3 rfl rfl rfl (((Blk.new w 25 #[ival 0, .slice none 0 0]).alloc _).drew) rfl rfl rfl ?_
    exact readPost_bad HE.out (by decide) (.inr rfl) ((((Below.refl _ _).alloc (Nat.le_refl _) _).alloc (by simp) _).drew)
theorem quiet_take {P : Program} {f : FuncId} {args : Array Value} {w : World} {n : Nat} {v : Value} (h : Calls P f args (w.drewN n) fun e w' => e = .returned v ∧ w.drewN n = w') :
    Calls P f args (w.drewN n) fun e w'' => e = .returned v ∧ ∃ m, w'' = w.drewN m := h.mono fun _ _ ⟨he, hm⟩ => ⟨he, n, hm.symm⟩
set_option maxRecDepth 100000 in
set_option maxHeartbeats 8000000 in
theorem read_long (A : Option Addr) (n c B : Nat) (L : List UInt8) (p : Addr) (w : World) (hG : Glob p w) (hr : Reads w B 1 A n (L.map bval)) (hB : B ≤ w.heap.size) (hn : n ≤ c) (hc : c ≤ maxLen) (h9 : ¬ n < 9) :
    Calls Tryz.prog 50 #[.slice A n c] w (ReadPost p L w) := by
  have hl := hr.bytes_len
  have hs := hG.short
  have hlt := hG.lt
  have k0 : ∀ O, (w.alloc O).cell? ⟨0, 0, none⟩ = some (sentV p) := fun O => (World.cell?_alloc_lt w O _ (by show 0 < w.heap.size; omega)).trans hs
  obtain ⟨w2, hw2⟩ : ∃ w2, w2 = (w.alloc (.cells #[ival 0, .slice none 0 0] 25)).alloc (.cells #[ival 4, ival (n : Int), sentV p] 101) := ⟨_, rfl⟩
  have hb2 : Below w.heap.size w w2 := by rw [hw2]; exact ((Below.refl _ _).alloc (Nat.le_refl _) _).alloc (by simp) _
  have HB2 := Lib.hid hb2
  have HS2 : Hid (w2.heap.size = w.heap.size + 2) := by show _ = _; rw [hw2]; simp
  have HF : Hid (Blk w2 w.heap.size 25 #[ival 0, .slice none 0 0]) := by show Blk _ _ _ _; rw [hw2]; exact (Blk.new _ _ _).alloc _
  have HK : Hid (Blk w2 (w.heap.size + 1) 101 #[ival 4, ival (n : Int), sentV p]) := by
    show Blk _ _ _ _
    rw [hw2]
    have := Blk.new (w.alloc (.cells #[ival 0, .slice none 0 0] 25)) 101 #[ival 4, ival (n : Int), sentV p]
    simpa using this
  have HR := Lib.hid (hr.below (hb2.mono hB))
  have HG := Lib.hid (hG.below hb2 hlt)
  obtain ⟨ad4, u4, hA, hab, hx4, hc4⟩ := HR.out.at_ (k := 4) (by omega)
  have h4l : 4 < L.length := by omega
  have hu4 : u4 = .int .u8 ((L.getD 4 0).toNat : Int) := by
    rw [List.getElem?_map, List.getElem?_eq_getElem h4l] at hx4
    rw [List.getD_eq_getElem?_getD, List.getElem?_eq_getElem h4l]
    exact (Option.some.inj hx4).symm
  subst hu4 hA
  have C1 := Lib.hid (fun q => quiet_take (take_any (some ad4) n c B L (w2.drewN q) (HR.out.drewN q) (by omega) (by omega)))
  have hbe := be4_lt L
  have HLn := Lib.hid hl
  have HE0 : Hid (¬ L.length < 9) := by show ¬ _; omega
  have hc4' : w2.cell? ⟨ad4.block, ad4.off + 4, none⟩ = some (.int .u8 ((L.getD 4 0).toNat : Int)) := by
    have e : ad4.add 4 = ⟨ad4.block, ad4.off + 4, none⟩ := by unfold Addr.add; simp
    rw [← e]; exact hc4
  clear hr hG hx4 hb2 hl hc4
  generalize hbN : be4 L = N at *
  have HBN := Lib.hid hbN
  have hk4 := (L.getD 4 0).toNat_lt
  generalize hk : L.getD 4 0 = kb at *
  have HKB := Lib.hid hk
  clear hbN hk
  have hwi : IntKind.i64.wrap (N : Int) = (N : Int) := IntWalk.i64_in _ (by omega)
  have h4n : 4 < n := by omega
  have h4I : (4 : Int) < (n : Int) := by omega
  go_enter Tryz.func50, Tryz.ntmps50
  go_wp2_with fail
  rw [← hw2]
  clear hw2
  go_quiet ((go_at_call 61; go_must (exact C1.out _)))
  have hb3 : Below w2.heap.size w2 (w2.drewN nq) := below_drewN (Below.refl _ _) nq
  replace HR := Lib.hid (HR.out.drewN nq)
  replace HF := Lib.hid (HF.out.drewN nq)
  replace HK := Lib.hid (HK.out.drewN nq)
  replace HB2 := Lib.hid (below_drewN HB2.out nq)
  replace HG := Lib.hid (HG.out.below hb3 (by have := HS2.out; omega))
  replace HS2 : Hid ((w2.drewN nq).heap.size = w.heap.size + 2) := HS2.out
  clear hb3 hc4' C1 k0 hs
  generalize w2.drewN nq = w3 at *
  by_cases h5 : 262144 < N
  · have HE : Hid (getE L = 5) := by show _ = _; unfold getE; rw [if_neg HE0.out, HBN.out, if_pos h5]
    clear HR HG HK
    have f0 : w3.frozen? ⟨w.heap.size, 0, none⟩ = false := HF.out.frozen 0
    have f1 : w3.frozen? ⟨w.heap.size, 1, none⟩ = false := HF.out.frozen 1
    have c0 : w3.cell? ⟨w.heap.size, 0, none⟩ = some (ival 0) := HF.out.cell 0
    have c1 : w3.cell? ⟨w.heap.size, 1, none⟩ = some (.slice none 0 0) := HF.out.cell 1
    go_wp2_with fail
    refine end_frame3 rfl rfl rfl (show Blk _ _ _ #[ival 0, .slice none 0 0] from (HF.out.set_ 0 _).set_ 1 _) rfl rfl rfl ?_
    exact readPost_bad HE.out (by decide) (.inl rfl) ((HB2.out.setCell (Nat.le_refl _) _).setCell (Nat.le_refl _) _)
  by_cases hk0 : kb = 0
  · have HE : Hid (getE L = 2) := by show _ = _; unfold getE; rw [if_neg HE0.out, HBN.out, if_neg h5, HKB.out, if_pos hk0]
    subst hk0
    have hz : ((0 : UInt8).toNat : Int) = 0 := rfl
    clear HR HG HK
    have f0 : w3.frozen? ⟨w.heap.size, 0, none⟩ = false := HF.out.frozen 0
    have f1 : w3.frozen? ⟨w.heap.size, 1, none⟩ = false := HF.out.frozen 1
    have c0 : w3.cell? ⟨w.heap.size, 0, none⟩ = some (ival 0) := HF.out.cell 0
    have c1 : w3.cell? ⟨w.heap.size, 1, none⟩ = some (.slice none 0 0) := HF.out.cell 1
    go_wp2_with fail
    refine end_frame3 rfl rfl rfl (show Blk _ _ _ #[ival 0, .slice none 0 0] from (HF.out.set_ 0 _).set_ 1 _) rfl rfl rfl ?_
    exact readPost_bad HE.out (by decide) (.inl rfl) ((HB2.out.setCell (Nat.le_refl _) _).setCell (Nat.le_refl _) _)
  have hk0n : kb.toNat ≠ 0 := fun h => hk0 (UInt8.toNat_inj.1 h)
  have hk0I : ((kb.toNat : Int) == 0) = false := by simp; omega
  have hw9 : IntKind.i64.wrap (9 + (N : Int)) = 9 + (N : Int) := IntWalk.i64_in _ (by omega)
  by_cases h10 : n < 9 + N
  · have HE : Hid (getE L = 4) := by show _ = _; unfold getE; rw [if_neg HE0.out, HBN.out, if_neg h5, HKB.out, if_neg hk0, if_pos (by rw [HLn.out]; exact h10)]
    have h10I : (n : Int) < 9 + (N : Int) := by omega
    clear HR HG
    have f0 : w3.frozen? ⟨w.heap.size, 0, none⟩ = false := HF.out.frozen 0
    have f1 : w3.frozen? ⟨w.heap.size, 1, none⟩ = false := HF.out.frozen 1
    have c0 : w3.cell? ⟨w.heap.size, 0, none⟩ = some (ival 0) := HF.out.cell 0
    have c1 : w3.cell? ⟨w.heap.size, 1, none⟩ = some (.slice none 0 0) := HF.out.cell 1
    have x0 : w3.cell? ⟨w.heap.size + 1, 0, none⟩ = some (ival 4) := HK.out.cell 0
    have x1 : w3.cell? ⟨w.heap.size + 1, 1, none⟩ = some (ival n) := HK.out.cell 1
    have x2 : w3.cell? ⟨w.heap.size + 1, 2, none⟩ = some (sentV p) := HK.out.cell 2
    clear HK
    go_wp2_with fail
    go_region
    all_goals
      go_wp2_with fail
      refine end_frame3 rfl rfl rfl (show Blk _ _ _ #[ival 0, .slice none 0 0] from ((HF.out.set_ 0 _).set_ 1 _).drew) rfl rfl rfl ?_
      exact readPost_bad HE.out (by decide) (.inr rfl) ((HB2.out.setCell (Nat.le_refl _) _).setCell (Nat.le_refl _) _).drew
  have hcn : 9 + N ≤ c := by omega
  have hsl : ∀ W, (Instr.slice 22 (.slice (some ad4) n c) (some (.int .i64 9)) (some (.int .i64 (9 + (N : Int)))) none).run Tryz.prog W = .ok (.slice (cutA (some ad4) c 9 1) N (c - 9)) W := fun W => by
    have := run_cut_lh Tryz.el22 (some ad4) n c (l := 9) (h := 9 + N) (by omega) hcn W
    rw [show 9 + N - 9 = N by omega] at this
    simpa using this
  have hsl5 : ∀ W, (Instr.slice 22 (.slice (some ad4) n c) (some (.int .i64 5)) none none).run Tryz.prog W = .ok (.slice (cutA (some ad4) c 5 1) (n - 5) (c - 5)) W := fun W => by
    have := run_cut_l Tryz.el22 (some ad4) n c (l := 5) (by omega) W
    simpa using this
  have HRB : Hid (Reads w3 B 1 (cutA (some ad4) c 9 1) N (((L.drop 9).take N).map bval)) := by
    have h1 := (HR.out.cutA (k := 9) (by omega) hn).take (k := N) (by omega)
    rw [Nat.mul_one, Nat.mul_one, ← List.map_drop, ← List.map_take] at h1
    exact h1
  have RB5 : Hid (∀ W, Below w3.heap.size w3 W → Reads W B 1 (cutA (some ad4) c 5 1) (n - 5) ((L.drop 5).map bval)) := fun W hW => by
    have h1 := HR.out.cutA (k := 5) (cap := c) (by omega) hn
    rw [Nat.mul_one, ← List.map_drop] at h1
    exact h1.below (hW.mono (by have := HS2.out; omega))
  have hbl : ((L.drop 9).take N).length = N := by rw [List.length_take, List.length_drop, HLn.out]; omega
  have HNF : Hid (N ≤ 262144 ∧ n - 5 ≤ maxLen ∧ 4 ≤ n - 5) := ⟨by omega, by omega, by omega⟩
  have h10I : ¬ ((n : Int) < 9 + (N : Int)) := by omega
  have HX : Hid (getE L = if frSum kb ((L.drop 9).take N) ≠ be4 (L.drop 5) then 6 else 0) := by
    show _ = _; unfold getE; rw [if_neg HE0.out, HBN.out, if_neg h5, HKB.out, if_neg hk0, if_neg (by rw [HLn.out]; exact h10)]
  have HGF : Hid (getE L = 0 → getF L = ⟨(kb.toNat : Int), (L.drop 9).take N⟩ ∧ getN L = 9 + N) := fun h => ⟨by unfold getF; rw [if_pos h, HBN.out, HKB.out], by unfold getN; rw [if_pos h, HBN.out]⟩
  have HBL := Lib.hid hbl
  clear hbl h10
  generalize hbody : (L.drop 9).take N = body at *
  have hS5 := be4_lt (L.drop 5)
  generalize hS5e : be4 (L.drop 5) = S5 at *
  have HS5 := Lib.hid hS5e
  clear hbody hS5e
  go_wp2_with
    (at_builtin
     go_must (refine wpList_app Tryz.el22 (.const (.slice none 0 0)) (.tmp 49) rfl rfl (World.ownsRow_nil w3 w3.heap.size _ _) rfl rfl HRB.out (bval_one body) (by have := HNF.out.1; omega) (Nat.le_refl _) ?_)
     intro v4 w4 hown4 hg4 hv4 hb4)
  have HO4 : Hid (w4.ownsRow w3.heap.size 5 1 v4 N (body.map bval)) := by show World.ownsRow _ _ _ _ _ _ _; simpa using hown4
  have HB4 := Lib.hid hb4
  obtain ⟨A4, c4, rfl, hc41, hc42, _⟩ := own_slice HO4.out
  clear hown4 hg4 hv4 hb4 HR HRB
  go_wp2_with fail
  have q4 : Below w3.heap.size w3 w4.drew := HB4.out.drew
  have C4 := Lib.hid (fsum_any A4 N c4 w4.heap.size kb body w4.drew (HG.out.tab.below q4 (by have := HG.out.tab.pos; omega)) (Reads.of_own HO4.out).drew (Nat.le_refl _) (by have := HNF.out.1; unfold maxLen; omega))
  have C5 : Hid (∀ W, Below w3.heap.size w3 W → Calls Tryz.prog 61 #[.slice (cutA (some ad4) c 5 1) (n - 5) (c - 5)] W fun e w' => e = .returned (.int .u32 (S5 : Nat)) ∧ W = w') := fun W hW => by
    have := take_any (cutA (some ad4) c 5 1) (n - 5) (c - 5) B (L.drop 5) W (RB5.out W hW) HNF.out.2.2 HNF.out.2.1
    rw [HS5.out] at this
    exact this
  have hS4 := frSum_lt kb body
  obtain ⟨S, hS⟩ : ∃ S, frSum kb body = S := ⟨_, rfl⟩
  rw [hS] at C4 HX hS4
  clear hS RB5
  go_region_held3 (fun _ => True) (trivial) ((first | (go_at_call 62; refine C4.out.mono ?_; rintro e w5 ⟨rfl, hb5⟩; have q5 : Below w3.heap.size w3 w5 := q4.trans (hb5.mono q4.size)) | (go_at_call 61; refine (C5.out w5 q5).mono ?_; rintro e _ ⟨rfl, rfl⟩) | fail))
  have HO5 := Lib.hid (own_below (own_only HO4.out (Only.refl (fun _ => False) w4).drew (fun _ _ h => h)) hb5)
  have HF5 := Lib.hid (HF.out.below q5 (by have := HS2.out; omega))
  have HB5 := Lib.hid (HB2.out.trans (q5.mono (by have := HS2.out; omega)))
  clear q4 q5 hb5 C4 C5 HO4 HB4 HF HG HK
  have f0 : w5.frozen? ⟨w.heap.size, 0, none⟩ = false := HF5.out.frozen 0
  have f1 : w5.frozen? ⟨w.heap.size, 1, none⟩ = false := HF5.out.frozen 1
  have c0 : w5.cell? ⟨w.heap.size, 0, none⟩ = some (ival 0) := HF5.out.cell 0
  have c1 : w5.cell? ⟨w.heap.size, 1, none⟩ = some (.slice none 0 0) := HF5.out.cell 1
  by_cases hsum : S = S5
  · have HE : Hid (getE L = 0) := by show _ = _; rw [HX.out, if_neg (by simp [hsum])]
    have hneq : ((S : Int) != (S5 : Int)) = false := by simp [hsum]
    clear hsum HX
    go_wp2_with fail
    refine end_frame3 rfl rfl rfl (show Blk _ _ _ #[ival (kb.toNat : Int), .slice A4 N c4] from (HF5.out.set_ 0 _).set_ 1 _) rfl rfl rfl ?_
    obtain ⟨e1, e2⟩ := HGF.out HE.out
    have ho : Only (fun i => i = w.heap.size) w5 ((w5.setCell ⟨w.heap.size, 0, none⟩ (ival (kb.toNat : Int))).setCell ⟨w.heap.size, 1, none⟩ (.slice A4 N c4)) := ((Only.refl (fun i => i = w.heap.size) w5).setCell (.inl rfl) 0 _).setCell (.inl rfl) 1 _
    refine ⟨.slice A4 N c4, .nilIface, by rw [e1, e2]; rfl, ?_, (HB5.out.setCell (Nat.le_refl _) _).setCell (Nat.le_refl _) _, .inl ⟨HE.out, rfl⟩⟩
    rw [e1]
    show World.ownsRow _ _ _ _ _ body.length _
    rw [HBL.out]
    have hlo := HO5.out.lt
    exact own_base (own_only HO5.out ho (fun g hg h => by have := (hlo g hg).1; have := HS2.out; omega)) (fun g hg => by have := (hlo g hg).1; have := HS2.out; omega)
  · have HE : Hid (getE L = 6) := by show _ = _; rw [HX.out, if_pos hsum]
    have hneq : ((S : Int) != (S5 : Int)) = true := by simp; omega
    clear hsum HX
    go_wp2_with fail
    refine end_frame3 rfl rfl rfl (show Blk _ _ _ #[ival 0, .slice none 0 0] from (HF5.out.set_ 0 _).set_ 1 _) rfl rfl rfl ?_
    exact readPost_bad HE.out (by decide) (.inl rfl) ((HB5.out.setCell (Nat.le_refl _) _).setCell (Nat.le_refl _) _)
end Go.Proofs.YtalkglmneicpoaaGreatDoor
