/-
  Append, the program's and the document's.
-/
import Derived.Test.YtalkglmneicpoaaGreatDoorWal
namespace Go.Proofs.YtalkglmneicpoaaGreatDoor
set_option linter.unusedVariables false
set_option linter.unusedSimpArgs false
open Go.RowKit
theorem wrote_nat (N : Nat) (st : DSt) (a : Bool) (b : List UInt8) : wrote N st a b = ((if fits N (st a).1 b = true then 0 else 12 : Nat) : Int) := by
  unfold wrote; split <;> rfl
theorem glob_only {pg : Addr} {S : Nat → Prop} {base : Nat} {w w' : World} (h : Glob pg w) (ho : Only S w w') (hS : ∀ i, S i → base ≤ i) (hb : base ≤ w.heap.size) (hg : 3 ≤ base) : Glob pg w' :=
  h.below (ho.to hS hb) hg
set_option maxRecDepth 100000 in
set_option maxHeartbeats 4000000 in
theorem wwrite_any (a : Bool) (gl base g N : Nat) (S : Nat → Prop) (st : DSt) (k : Int) (bs : List UInt8) (A : Option Addr) (m c B : Nat) (pg : Addr) (w : World) (hG : Glob pg w) (h : DAt false w base g N S st) (hbase : base ≤ w.heap.size)
    (hl : Blk w gl (lType false) (lCells g a)) (hr : Reads w B 1 A m (bs.map bval)) (hB : B ≤ w.heap.size) (hm : m ≤ maxLen) :
    Calls Tryz.prog 34 #[.pointer (some ⟨gl, 0, none⟩), .agg #[ival k, .slice A m c]] w (DPost false base g N S w (chkV (appN N st a ⟨k, bs⟩)) (appSt N st a ⟨k, bs⟩)) := by
  obtain ⟨w1, hw1⟩ : ∃ w1, w1 = w.alloc (.cells #[ival k, .slice A m c] 25) := ⟨_, rfl⟩
  have hb1 : Below w.heap.size w w1 := by rw [hw1]; exact (Below.refl _ _).alloc (Nat.le_refl _) _
  have HK : Hid (Blk w1 w.heap.size 25 #[ival k, .slice A m c]) := by show Blk _ _ _ _; rw [hw1]; exact Blk.new _ _ _
  have y0 : w1.cell? ⟨w.heap.size, 0, none⟩ = some (ival k) := HK.out.cell 0
  have y1 : w1.cell? ⟨w.heap.size, 1, none⟩ = some (.slice A m c) := HK.out.cell 1
  have C1 := Lib.hid (put_any k bs A m c B w1 (hG.below hb1 hG.lt).tab (hr.below (hb1.mono hB)) (Nat.le_trans hB hb1.size) hm)
  have H1 := Lib.hid (h.below hb1)
  have HL1 := Lib.hid (hl.below hb1 hl.lt)
  have HB1 := Lib.hid hb1
  have HBS := Lib.hid hbase
  clear hG h hbase hl hr hb1
  by_cases hE : putE ⟨k, bs⟩ = 0
  · have hPL : putL ⟨k, bs⟩ = enc ⟨k, bs⟩ := by unfold putL; rw [if_pos hE]
    have hA : Hid (appN N st a ⟨k, bs⟩ = (if fits N (st a).1 (enc ⟨k, bs⟩) = true then 0 else 12) ∧ appSt N st a ⟨k, bs⟩ = st.write N a (enc ⟨k, bs⟩)) := by unfold appN appSt; rw [if_pos hE, if_pos hE]; exact ⟨rfl, rfl⟩
    rw [hA.out.1, hA.out.2]
    rw [hE, hPL] at C1
    have hEl : (enc ⟨k, bs⟩).length ≤ 262153 := by
      rw [enc_len]
      unfold putE at hE
      split at hE
      · cases hE
      · split at hE
        · cases hE
        · simp only at *; omega
    clear hE hPL hA
    generalize enc ⟨k, bs⟩ = eb at *
    have HW : Hid (wrote N st a eb = ((if fits N (st a).1 eb = true then 0 else 12 : Nat) : Int)) := wrote_nat N st a eb
    generalize (if fits N (st a).1 eb = true then 0 else 12 : Nat) = wN at *
    go_enter Tryz.func34, Tryz.ntmps34
    go_wp2_with fail
    have hw1' : w.alloc (.cells #[.int .i64 k, .slice A m c] 25) = w1 := hw1.symm
    rw [hw1']
    clear hw1 hw1'
    go_must (refine C1.out.mono ?_)
    rintro e w2 ⟨v2, rfl, hown2, hb2⟩
    obtain ⟨A2, c2, rfl, hc21, hc22, _⟩ := own_slice hown2
    have HB2 := Lib.hid (HB1.out.trans (hb2.mono HB1.out.size))
    have HL2 := Lib.hid (HL1.out.below hb2 HL1.out.lt)
    have H2 := Lib.hid (H1.out.below hb2)
    have HO2 := Lib.hid (Reads.of_own hown2)
    have CK := Lib.hid (check_any 0 w2)
    have c0 : w2.cell? ⟨gl, 0, none⟩ = some (.pointer (some ⟨g, 0, none⟩)) := HL2.out.cell 0
    have c1 : w2.cell? ⟨gl, 1, none⟩ = some (.int .i64 (aI a)) := HL2.out.cell 1
    have D : Hid (Calls Tryz.prog 46 #[.pointer (some ⟨g, 0, none⟩), .int .i64 (aI a), .slice A2 eb.length c2] (w2.drewN 1) (DPost false base g N S (w2.drewN 1) (.int .i64 (wN : Int)) (st.write N a eb))) := by
      have := writeI base g N S st (aI a) A2 eb.length c2 w2.heap.size eb (w2.drewN 1) (H2.out.drewN 1) (Nat.le_trans HBS.out HB2.out.size) (HO2.out.drewN 1) (by unfold maxLen; omega)
      unfold DSt.writeI wroteI at this
      rw [onArea_aI, onArea_aI, HW.out] at this
      exact this
    clear C1 hown2 hb2 y0 y1 HW
    go_wp2_with fail
    go_must (refine CK.out.mono ?_)
    rintro e _ ⟨rfl, rfl⟩
    have hck : chkV 0 = .nilIface := rfl
    rw [hck]
    clear hck CK
    go_wp2_with fail
    go_still_tail 9, (by kernel_rfl)
    change wpList _ _ _ _ _ (w2.drewN 1)
    go_wp2_with fail
    go_must (refine D.out.mono ?_)
    rintro e w3 ⟨rfl, hd⟩
    have HD := Lib.hid hd
    have CK := Lib.hid (check_any wN w3)
    clear hd D c0 c1
    go_wp2_with fail
    go_must (refine CK.out.mono ?_)
    rintro e _ ⟨rfl, rfl⟩
    go_wp2_with fail
    go_ret
    exact dpost_behind HBS.out (dpost_ahead (v := .int .i64 (wN : Int)) HBS.out (HB2.out.trans ((below_drewN (Below.refl _ _) 1).mono HB2.out.size)) (e := .returned (.int .i64 (wN : Int))) ⟨rfl, HD.out⟩) (Below.refl _ _)
  · have hA : Hid (appN N st a ⟨k, bs⟩ = putE ⟨k, bs⟩ ∧ appSt N st a ⟨k, bs⟩ = st) := by unfold appN appSt; rw [if_neg hE, if_neg hE]; exact ⟨rfl, rfl⟩
    rw [hA.out.1, hA.out.2]
    generalize putE ⟨k, bs⟩ = E at *
    have hck : Hid (chkV E = appV E) := by show _ = _; unfold chkV; rw [if_neg hE]
    clear hA
    go_enter Tryz.func34, Tryz.ntmps34
    go_wp2_with fail
    have hw1' : w.alloc (.cells #[.int .i64 k, .slice A m c] 25) = w1 := hw1.symm
    rw [hw1']
    clear hw1 hw1'
    go_must (refine C1.out.mono ?_)
    rintro e w2 ⟨v2, rfl, hown2, hb2⟩
    have H2 := Lib.hid (H1.out.below hb2)
    have HB2 := Lib.hid (HB1.out.trans (hb2.mono HB1.out.size))
    have CK := Lib.hid (check_any E w2)
    clear C1 hown2 hb2 y0 y1
    go_wp2_with fail
    go_must (refine CK.out.mono ?_)
    rintro e _ ⟨rfl, rfl⟩
    rw [hck.out]
    clear CK
    go_wp2_with fail
    go_ret
    have X := dpost_ahead HBS.out HB2.out (dpost_same (v := chkV E) H2.out)
    exact ⟨by rw [hck.out]; rfl, X.2.1, X.2.2⟩
set_option maxRecDepth 100000 in
set_option maxHeartbeats 4000000 in
theorem wappend_any (a : Bool) (gl base g N : Nat) (S : Nat → Prop) (st : DSt) (k : Int) (bs : List UInt8) (A : Option Addr) (m c B : Nat) (pg : Addr) (w : World) (hG : Glob pg w) (hgb : 3 ≤ base) (h : DAt false w base g N S st) (hbase : base ≤ w.heap.size)
    (hl : Blk w gl (lType false) (lCells g a)) (hr : Reads w B 1 A m (bs.map bval)) (hB : B ≤ w.heap.size) (hm : m ≤ maxLen) :
    Calls Tryz.prog 17 #[.pointer (some ⟨gl, 0, none⟩), .agg #[ival k, .slice A m c]] w (DPost false base g N S w (.int .i64 (appN N st a ⟨k, bs⟩ : Nat)) (appSt N st a ⟨k, bs⟩)) := by
  obtain ⟨w1, hw1⟩ : ∃ w1, w1 = w.alloc (.cells #[ival k, .slice A m c] 25) := ⟨_, rfl⟩
  have hb1 : Below w.heap.size w w1 := by rw [hw1]; exact (Below.refl _ _).alloc (Nat.le_refl _) _
  have HK : Hid (Blk w1 w.heap.size 25 #[ival k, .slice A m c]) := by show Blk _ _ _ _; rw [hw1]; exact Blk.new _ _ _
  have y0 : w1.cell? ⟨w.heap.size, 0, none⟩ = some (ival k) := HK.out.cell 0
  have y1 : w1.cell? ⟨w.heap.size, 1, none⟩ = some (.slice A m c) := HK.out.cell 1
  have HG1 := Lib.hid (hG.below hb1 hG.lt)
  have C1 := Lib.hid (wwrite_any a gl base g N S st k bs A m c B pg w1 HG1.out (h.below hb1) (Nat.le_trans hbase hb1.size) (hl.below hb1 hl.lt) (hr.below (hb1.mono hB)) (Nat.le_trans hB hb1.size) hm)
  have HB1 := Lib.hid hb1
  have HBS := Lib.hid hbase
  have HH := Lib.hid h
  clear hG h hbase hl hr hb1
  generalize appN N st a ⟨k, bs⟩ = E at *
  generalize appSt N st a ⟨k, bs⟩ = st' at *
  go_enter Tryz.func17, Tryz.ntmps17
  go_wp2_with fail
  have hw1' : w.alloc (.cells #[.int .i64 k, .slice A m c] 25) = w1 := hw1.symm
  rw [hw1']
  clear hw1 hw1'
  go_must (refine C1.out.mono ?_)
  rintro e w2 ⟨rfl, hd⟩
  have CN := Lib.hid (wnumber_chk E w2 (glob_only HG1.out hd.2 (fun i hi => (HH.out.all i hi).1) (Nat.le_trans HBS.out HB1.out.size) hgb).hand)
  have HD := Lib.hid hd
  clear hd C1 y0 y1
  go_wp2_with fail
  go_must (refine CN.out.mono ?_)
  rintro e w3 ⟨rfl, hb3⟩
  have HB3 := Lib.hid hb3
  clear hb3 CN
  go_wp2_with fail
  go_ret
  exact dpost_behind HBS.out (dpost_ahead (v := .nilIface) HBS.out HB1.out (e := .returned .nilIface) ⟨rfl, HD.out⟩) HB3.out
set_option maxRecDepth 100000 in
set_option maxHeartbeats 4000000 in
theorem rappend_any (a : Bool) (gl base g N : Nat) (S : Nat → Prop) (st : DSt) (k : Int) (bs : List UInt8) (A : Option Addr) (m c B : Nat) (w : World) (h : DAt true w base g N S st) (hbase : base ≤ w.heap.size)
    (hl : Blk w gl (lType true) (lCells g a)) (hr : Reads w B 1 A m (bs.map bval)) (hB : B ≤ w.heap.size) (hm : m ≤ maxLen) :
    Calls Tryz.prog 42 #[.pointer (some ⟨gl, 0, none⟩), .agg #[ival k, .slice A m c]] w (DPost true base g N S w (.int .i64 (appN N st a ⟨k, bs⟩ : Nat)) (appSt N st a ⟨k, bs⟩)) := by
  obtain ⟨w1, hw1⟩ : ∃ w1, w1 = w.alloc (.cells #[ival k, .slice A m c] 25) := ⟨_, rfl⟩
  have hb1 : Below w.heap.size w w1 := by rw [hw1]; exact (Below.refl _ _).alloc (Nat.le_refl _) _
  have HK : Hid (Blk w1 w.heap.size 25 #[ival k, .slice A m c]) := by show Blk _ _ _ _; rw [hw1]; exact Blk.new _ _ _
  have y0 : w1.cell? ⟨w.heap.size, 0, none⟩ = some (ival k) := HK.out.cell 0
  have y1 : w1.cell? ⟨w.heap.size, 1, none⟩ = some (.slice A m c) := HK.out.cell 1
  have C1 := Lib.hid (refPut_any k bs A m c B w1 (hr.below (hb1.mono hB)) (Nat.le_trans hB hb1.size) hm)
  have H1 := Lib.hid (h.below hb1)
  have HL1 := Lib.hid (hl.below hb1 hl.lt)
  have HB1 := Lib.hid hb1
  have HBS := Lib.hid hbase
  have hok := h.ok
  clear h hbase hl hr hb1
  by_cases hE : putE ⟨k, bs⟩ = 0
  · have hPL : putL ⟨k, bs⟩ = enc ⟨k, bs⟩ := by unfold putL; rw [if_pos hE]
    have hA : Hid (appN N st a ⟨k, bs⟩ = (if fits N (st a).1 (enc ⟨k, bs⟩) = true then 0 else 12) ∧ appSt N st a ⟨k, bs⟩ = st.write N a (enc ⟨k, bs⟩)) := by unfold appN appSt; rw [if_pos hE, if_pos hE]; exact ⟨rfl, rfl⟩
    rw [hA.out.1, hA.out.2]
    rw [hE, hPL] at C1
    have hEl : (enc ⟨k, bs⟩).length ≤ 262153 := by
      rw [enc_len]
      unfold putE at hE
      split at hE
      · cases hE
      · split at hE
        · cases hE
        · simp only at *; omega
    clear hE hPL hA
    generalize enc ⟨k, bs⟩ = eb at *
    have HW : Hid (wrote N st a eb = ((if fits N (st a).1 eb = true then 0 else 12 : Nat) : Int)) := wrote_nat N st a eb
    have hle := (hok.2 a).1
    have hN := hok.1
    have HWS : Hid (fits N (st a).1 eb = false → st.write N a eb = st) := fun h => by unfold DSt.write; rw [if_neg (by rw [h]; decide)]
    have hfe : fits N (st a).1 eb = decide (eb.length + (st a).1.length ≤ N) := rfl
    have RM : Hid (∀ W, DAt true W base g N S st → ∀ q, Calls Tryz.prog 48 #[.pointer (some ⟨g, 0, none⟩), .int .i64 (aI a)] (W.drewN q) fun e w' => e = .returned (.int .i64 ((N : Int) - ((st a).1.length : Int))) ∧ ∃ m, w' = (W.drewN q).drewN m) := fun W hW q => by
      have := rroomI_any base g N S st (aI a) (W.drewN q) (hW.drewN q)
      unfold roomI at this
      rwa [onArea_aI] at this
    rw [hfe] at HWS HW ⊢
    clear hfe hok
    generalize (st a).1.length = la at *
    by_cases hf : eb.length + la ≤ N
    · rw [decide_eq_true hf] at HW ⊢
      rw [if_pos rfl] at HW ⊢
      have hgt' : decide ((eb.length : Int) > (N : Int) - (la : Int)) = false := by simp; omega
      have hle' : ¬ ((N : Int) - (la : Int) < (eb.length : Int)) := by omega
      have hwr : IntKind.i64.wrap ((N : Int) - (la : Int)) = (N : Int) - (la : Int) := IntWalk.i64_in _ (by omega)
      clear HWS
      go_enter Tryz.func42, Tryz.ntmps42
      go_wp2_with fail
      have hw1' : w.alloc (.cells #[.int .i64 k, .slice A m c] 25) = w1 := hw1.symm
      rw [hw1']
      clear hw1 hw1'
      go_must (refine C1.out.mono ?_)
      rintro e w2 ⟨v2, rfl, hown2, hb2⟩
      obtain ⟨A2, c2, rfl, hc21, hc22, _⟩ := own_slice hown2
      have HB2 := Lib.hid (HB1.out.trans (hb2.mono HB1.out.size))
      have HL2 := Lib.hid (HL1.out.below hb2 HL1.out.lt)
      have H2 := Lib.hid (H1.out.below hb2)
      have HO2 := Lib.hid (Reads.of_own hown2)
      have c0 : w2.cell? ⟨gl, 0, none⟩ = some (.pointer (some ⟨g, 0, none⟩)) := HL2.out.cell 0
      have c1 : w2.cell? ⟨gl, 1, none⟩ = some (.int .i64 (aI a)) := HL2.out.cell 1
      have R := Lib.hid (RM.out w2 H2.out)
      have D : Hid (∀ q, Calls Tryz.prog 47 #[.pointer (some ⟨g, 0, none⟩), .int .i64 (aI a), .slice A2 eb.length c2] ((w2.drewN q).drewN 1) (DPost true base g N S ((w2.drewN q).drewN 1) (.int .i64 0) (st.write N a eb))) := fun q => by
        have := rwriteI base g N S st (aI a) A2 eb.length c2 w2.heap.size eb ((w2.drewN q).drewN 1) ((H2.out.drewN q).drewN 1) (Nat.le_trans HBS.out HB2.out.size) ((HO2.out.drewN q).drewN 1) (by unfold maxLen; omega)
        unfold DSt.writeI wroteI at this
        rw [onArea_aI, onArea_aI, HW.out] at this
        exact this
      clear C1 hown2 hb2 y0 y1 HW RM
      go_wp2_with fail
      go_quiet ((go_at_call 48; go_must (exact quiet_dr (R.out _))))
      have d0 : (w2.drewN nq).cell? ⟨gl, 0, none⟩ = some (.pointer (some ⟨g, 0, none⟩)) := c0
      have d1 : (w2.drewN nq).cell? ⟨gl, 1, none⟩ = some (.int .i64 (aI a)) := c1
      clear c0 c1 R
      have DQ := Lib.hid (D.out nq)
      clear D
      have HBD : Hid (Below w.heap.size w ((w2.drewN nq).drewN 1)) := below_drewN (below_drewN HB2.out nq) 1
      generalize w2.drewN nq = w3 at *
      go_wp2_with fail
      go_still_tail 9, (by kernel_rfl)
      change wpList _ _ _ _ _ (w3.drewN 1)
      go_wp2_with fail
      go_must (refine DQ.out.mono ?_)
      rintro e w4 ⟨rfl, hd⟩
      have HD := Lib.hid hd
      clear hd DQ d0 d1
      go_wp2_with fail
      go_ret
      exact dpost_ahead HBS.out HBD.out ⟨rfl, HD.out⟩
    · rw [decide_eq_false hf] at HW ⊢
      rw [if_neg (by decide)] at HW ⊢
      have hgt' : decide ((eb.length : Int) > (N : Int) - (la : Int)) = true := by simp; omega
      have hle' : ((N : Int) - (la : Int) < (eb.length : Int)) := by omega
      have hwr : IntKind.i64.wrap ((N : Int) - (la : Int)) = (N : Int) - (la : Int) := IntWalk.i64_in _ (by omega)
      rw [HWS.out (decide_eq_false hf)]
      clear HWS HW
      go_enter Tryz.func42, Tryz.ntmps42
      go_wp2_with fail
      have hw1' : w.alloc (.cells #[.int .i64 k, .slice A m c] 25) = w1 := hw1.symm
      rw [hw1']
      clear hw1 hw1'
      go_must (refine C1.out.mono ?_)
      rintro e w2 ⟨v2, rfl, hown2, hb2⟩
      obtain ⟨A2, c2, rfl, hc21, hc22, _⟩ := own_slice hown2
      have HB2 := Lib.hid (HB1.out.trans (hb2.mono HB1.out.size))
      have HL2 := Lib.hid (HL1.out.below hb2 HL1.out.lt)
      have H2 := Lib.hid (H1.out.below hb2)
      have c0 : w2.cell? ⟨gl, 0, none⟩ = some (.pointer (some ⟨g, 0, none⟩)) := HL2.out.cell 0
      have c1 : w2.cell? ⟨gl, 1, none⟩ = some (.int .i64 (aI a)) := HL2.out.cell 1
      have R := Lib.hid (RM.out w2 H2.out)
      clear C1 hown2 hb2 y0 y1 RM
      go_wp2_with fail
      go_quiet ((go_at_call 48; go_must (exact quiet_dr (R.out _))))
      go_wp2_with fail
      go_ret
      exact dpost_ahead HBS.out (below_drewN HB2.out _) (dpost_same (H2.out.drewN _))
  · have hA : Hid (appN N st a ⟨k, bs⟩ = putE ⟨k, bs⟩ ∧ appSt N st a ⟨k, bs⟩ = st) := by unfold appN appSt; rw [if_neg hE, if_neg hE]; exact ⟨rfl, rfl⟩
    rw [hA.out.1, hA.out.2]
    generalize putE ⟨k, bs⟩ = E at *
    have hne : ((E : Int) != 0) = true := by simp; omega
    clear hA
    go_enter Tryz.func42, Tryz.ntmps42
    go_wp2_with fail
    have hw1' : w.alloc (.cells #[.int .i64 k, .slice A m c] 25) = w1 := hw1.symm
    rw [hw1']
    clear hw1 hw1'
    go_must (refine C1.out.mono ?_)
    rintro e w2 ⟨v2, rfl, hown2, hb2⟩
    have H2 := Lib.hid (H1.out.below hb2)
    have HB2 := Lib.hid (HB1.out.trans (hb2.mono HB1.out.size))
    clear C1 hown2 hb2 y0 y1
    go_wp2_with fail
    go_ret
    exact dpost_ahead HBS.out HB2.out (dpost_same H2.out)
end Go.Proofs.YtalkglmneicpoaaGreatDoor
