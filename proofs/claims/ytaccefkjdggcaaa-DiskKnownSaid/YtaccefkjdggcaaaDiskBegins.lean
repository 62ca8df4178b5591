/-
  DiskBegins: the walk.
-/
import Derived.Test.YtaccefkjdggcaaaDiskActsFn
namespace Go.Proofs.Ytaccefkjdggcaaa
set_option linter.unusedVariables false
set_option linter.unusedSimpArgs false
open Go.RowKit
theorem One.other {r : Bool} {X : Nat → Prop} {w w' : World} {base g N : Nat} {st : DSt} (h : One r X w base g N st) (ho : Only X w w') : One r X w' base g N st := by
  obtain ⟨S, hd, hx, hb⟩ := h
  exact ⟨S, hd.keep ho (fun i hs hxi => (hx i hxi).1 hs), fun i hi => ⟨(hx i hi).1, Nat.lt_of_lt_of_le (hx i hi).2 ho.size⟩, Nat.le_trans hb ho.size⟩
theorem One.lessX {r : Bool} {X X' : Nat → Prop} {w : World} {base g N : Nat} {st : DSt} (h : One r X w base g N st) (hX : ∀ i, X' i → X i) : One r X' w base g N st := by
  obtain ⟨S, hd, hx, hb⟩ := h
  exact ⟨S, hd, fun i hi => hx i (hX i hi), hb⟩
theorem One.ok {r : Bool} {X : Nat → Prop} {w : World} {base g N : Nat} {st : DSt} (h : One r X w base g N st) : st.Ok N := by obtain ⟨S, hd, _⟩ := h; exact hd.ok
theorem write1_snd (N : Nat) (st : DSt) (c : Bool) (b : List UInt8) (a : Bool) : ((st.write N c b) a).2 = (st a).2 := by
  unfold DSt.write
  split
  · unfold updF; split
    · rename_i h; subst h; rfl
    · rfl
  · rfl
theorem write_snd (N : Nat) (st : DSt) (n : Int) (b : List UInt8) (a : Bool) : ((st.writeI N n b) a).2 = (st a).2 := by
  unfold DSt.writeI onArea
  split
  · exact write1_snd N st false b a
  · split
    · exact write1_snd N st true b a
    · rfl
theorem below_set1 {B : Nat} {a W : World} (h : Below B a W) {g : Nat} (hg : B ≤ g) (k : Nat) (u : Value) : Below B a (W.setCell ⟨g, k, none⟩ u) :=
  ⟨h.os, h.tape, h.output, by simpa [World.setCell] using h.size, fun i hi => (Below.heap_setCell W ⟨g, k, none⟩ u i (by simp; omega)).trans (h.block i hi)⟩
theorem crash_comp (st : DSt) (keep : Int) (a : Bool) : st.crash keep a = (cutL (keepN keep (st a)) (st a).1, (cutL (keepN keep (st a)) (st a).1).length) := by cases a <;> rfl
theorem keepN_bd (keep : Int) (r : Ar) (h : r.2 ≤ r.1.length) : (r.2 : Int) ≤ keepN keep r ∧ keepN keep r ≤ r.1.length ∧ keepN keep r - r.2 ≤ max 0 keep := by unfold keepN; omega
theorem crash_len (st : DSt) (keep : Int) (a : Bool) (h : (st a).2 ≤ (st a).1.length) : ((st.crash keep a).1.length : Int) = keepN keep (st a) := by
  rw [crash_comp]
  show ((cutL _ _).length : Int) = _
  rw [cutL_len]
  have := keepN_bd keep (st a) h
  unfold cutK; omega
theorem crash_take (st : DSt) (keep : Int) (a : Bool) : (st a).1.take (st.crash keep a).1.length = (st.crash keep a).1 := by
  rw [crash_comp]
  show (st a).1.take (cutL _ _).length = cutL _ _
  rw [cutL_len]; rfl
theorem crash_twice (st : DSt) (keep : Int) (a : Bool) : ((st.crash keep).crash 0 a).1 = (st.crash keep a).1 := by
  have h : (st.crash keep a).2 = (st.crash keep a).1.length := by rw [crash_comp]
  rw [crash_comp (st.crash keep) 0 a]
  show cutL _ _ = _
  unfold cutL
  apply List.take_of_length_le
  unfold cutK keepN
  omega
set_option maxRecDepth 100000 in
set_option maxHeartbeats 2000000 in
theorem begins_true (A A' : Option Addr) (n c n' c' B B' : Nat) (xs ys : List UInt8) (w : World) (hx : Reads w B 1 A n (xs.map bval)) (hy : Reads w B' 1 A' n' (ys.map bval)) (hm : n ≤ maxLen) (hm' : n' ≤ c') (hc' : c' ≤ maxLen) (hl : n ≤ n') (ht : ys.take n = xs) :
    Calls Try.prog 24 #[.slice A n c, .slice A' n' c'] w fun e w' => e = .returned (.bool true) ∧ ∃ m, w' = w.drewN m := by
  have hr := hy.take hl
  rw [Nat.mul_one, ← List.map_take, ht] at hr
  have C := sameBytes_any A A' n c n c' B B' xs xs w hx hr hm hm
  rw [show decide (xs = xs) = true by simp] at C
  have HC := Lib.hid C
  have hnc : n ≤ c' := by omega
  have hd : (n : Int) ≤ (n' : Int) := by omega
  clear hx hy hr C ht hc'
  unfold maxLen at hm
  go_enter Try.func24, Try.ntmps24
  go_wp2_with fail
  go_must (refine HC.out.mono ?_)
  rintro e w1 ⟨rfl, q, rfl⟩
  go_wp2_with fail
  go_ret
  exact ⟨rfl, _, rfl⟩
set_option maxRecDepth 100000 in
set_option maxHeartbeats 8000000 in
theorem diskBegins_any (A : Option Addr) (n c : Nat) (Z : Nat → Nat → Int) (V : Nat → ActB) (keep : Int) (w : World) (hA : Acts w w.heap.size A n Z V) (hnm : n ≤ maxLen) :
    Calls Try.prog 4 #[.slice A n c, .int .i64 keep] w fun e w' => e = .returned (.bool true) ∧ Below w.heap.size w w' := by
  have CK := Lib.hid known_any
  unfold maxLen at hnm
  have C1 := Lib.hid (new_any 1000 (by omega) (by omega))
  have HA := Lib.hid hA
  clear hA
  go_enter Try.func4, Try.ntmps4
  go_wp2_with fail
  go_must (refine (C1.out _).mono ?_)
  rintro e w1 ⟨gd, rfl, hgd, hb1, hsz1, hd1⟩
  have H1 : Hid (One false noX w1 w.heap.size gd 1000 DSt.new) := One.fresh (hd1 _ (Nat.le_refl _)) hb1.size
  have HB1 := Lib.hid hb1
  clear hd1 hsz1 hb1 hgd
  go_wp2_with fail
  have HT : Hid (One false (fun i => i = w1.heap.size) (w1.alloc (.cells #[ival 0, ival 0] 42)) w.heap.size gd 1000 DSt.new) := H1.out.more ((Below.refl _ _).alloc (Nat.le_refl _) _) (fun i hi => .inr (by subst hi; exact ⟨Nat.le_refl _, by simp⟩))
  have HK := Lib.hid (Blk.new w1 42 #[ival 0, ival 0])
  have HB := Lib.hid (HB1.out.alloc H1.out.base_le (.cells #[ival 0, ival 0] 42))
  have hgl : w.heap.size ≤ w1.heap.size := HB1.out.size
  generalize w1.alloc (.cells #[ival 0, ival 0] 42) = w2 at *
  generalize w1.heap.size = gl at *
  clear H1 HB1
  go_loopw [8] (fun i wr => ∃ (k : Nat) (st : DSt), k ≤ n ∧ i = .int .i64 k ∧ One false (fun i => i = gl) wr w.heap.size gd 1000 st ∧ Blk wr gl 42 #[ival (st false).2, ival (st true).2] ∧ Below w.heap.size w wr) (fun i _ => n - (intOf i).toNat)
  case atStart => exact ⟨0, DSt.new, by omega, rfl, HT.out, HK.out, HB.out⟩
  case round =>
    obtain ⟨k, st, hk, rfl, h2, hkl, hbel⟩ := hrel
    clear HT HK HB
    by_cases hlt : k < n ∧ k < 100
    · obtain ⟨hlt1, hlt2⟩ := hlt
      obtain ⟨ad, rfl, hadb, hc, hv, hmc, hcm, hrd⟩ := (HA.out.below hbel) k hlt1
      have z0 : wr.cell? (ad.add (k * 4)) = some (ival (Z k 0)) := by simpa using (hc 0 (by omega)).1
      have z1 : wr.cell? { block := (ad.add (k * 4)).block, off := (ad.add (k * 4)).off + 1 } = some (ival (Z k 1)) := by have := (hc 1 (by omega)).1; rw [← Go.Deep.add_add] at this; exact this
      have z2 : wr.cell? { block := (ad.add (k * 4)).block, off := (ad.add (k * 4)).off + 2 } = some (ival (Z k 2)) := by have := (hc 2 (by omega)).1; rw [← Go.Deep.add_add] at this; exact this
      have z3 : wr.cell? { block := (ad.add (k * 4)).block, off := (ad.add (k * 4)).off + 3 } = some (.slice (V k).A (V k).m (V k).c) := by have := hv; rw [← Go.Deep.add_add] at this; exact this
      have hb0 := (hc 0 (by omega)).2
      have hb1 := (hc 1 (by omega)).2
      have HRD := Lib.hid hrd
      have PK := Lib.hid (fun W => pick_any (Z k 0) 6 W (by omega) (by omega) hb0.1 hb0.2)
      have PA := Lib.hid (fun W => pick_any (Z k 1) 2 W (by omega) (by omega) hb1.1 hb1.2)
      clear hc hv hrd hb0 hb1
      generalize Z k 0 = kd at *
      generalize Z k 1 = ar at *
      generalize Z k 2 = nn at *
      generalize V k = x at *
      obtain ⟨Ab, m, cb, bs⟩ := x
      dsimp only at *
      have hal : Below wr.heap.size wr (wr.alloc (.cells #[ival kd, ival ar, ival nn, .slice Ab m cb] 33)) := (Below.refl _ _).alloc (Nat.le_refl _) _
      have H3 : Hid (One false (fun i => i = gl ∨ i = wr.heap.size) (wr.alloc (.cells #[ival kd, ival ar, ival nn, .slice Ab m cb] 33)) w.heap.size gd 1000 st) := h2.more hal (fun i hi => by
        rcases hi with h | h
        · exact .inl h
        · exact .inr (by subst h; exact ⟨Nat.le_refl _, by simp⟩))
      have K3 := Lib.hid (Blk.new wr 33 #[ival kd, ival ar, ival nn, .slice Ab m cb])
      have KL := Lib.hid (hkl.alloc (.cells #[ival kd, ival ar, ival nn, .slice Ab m cb] 33))
      have HB3 : Hid (Below w.heap.size w (wr.alloc (.cells #[ival kd, ival ar, ival nn, .slice Ab m cb] 33))) := hbel.trans (hal.mono hbel.size)
      have HRD3 := Lib.hid (HRD.out.below (hal.mono hbel.size))
      have hkn : (k : Int) < (n : Int) := by omega
      have hk100 : (k : Int) < 100 := by omega
      clear hal h2 hbel hkl
      by_cases hbig : 4096 < m
      · have hbig' : (4096 : Int) < (m : Int) := by omega
        go_wp2_with fail
        go_must (refine (CK.out _).mono ?_)
        rintro e w4 ⟨rfl, hb⟩
        go_wp2_with fail
        go_ret
        exact ⟨rfl, HB3.out.trans (hb.mono H3.out.base_le)⟩
      have hbig' : decide ((4096 : Int) < (m : Int)) = false := by simp; omega
      have hm4 : m ≤ maxLen := by unfold maxLen; omega
      have HM4 := Lib.hid hm4
      clear hbig hm4
      go_wp2_with fail
      generalize wr.alloc (.cells #[ival kd, ival ar, ival nn, .slice Ab m cb] 33) = w3 at *
      generalize wr.heap.size = g at *
      have y0 : w3.cell? ⟨g, 0, none⟩ = some (ival kd) := K3.out.cell 0
      have y1 : w3.cell? ⟨g, 1, none⟩ = some (ival ar) := K3.out.cell 1
      have y2 : w3.cell? ⟨g, 2, none⟩ = some (ival nn) := K3.out.cell 2
      have y3 : w3.cell? ⟨g, 3, none⟩ = some (.slice Ab m cb) := K3.out.cell 3
      have hq6 := emod6 kd
      rcases (by omega : ar % 2 = 0 ∨ ar % 2 = 1) with har | har

      · rw [har] at PA
        clear har
        go_must (refine (PA.out _).mono ?_)
        rintro e w4 ⟨rfl, rfl⟩
        go_wp2_with fail
        by_cases hq3 : kd % 6 = 3
        · rw [hq3] at PK
          have A1 := Lib.hid (H3.out.act (fun S hd hb => syncI w.heap.size gd 1000 S st 0 w3 hd hb))
          clear hq3 hq6
          try clear hq3
          try clear hq4
          go_must (refine (PK.out _).mono ?_)
          rintro e w4 ⟨rfl, rfl⟩
          go_wp2_with fail
          go_must (refine A1.out.mono ?_)
          rintro e w5 ⟨rfl, h5, ho5⟩
          have KL5 := Lib.hid (KL.out.rest ho5 (.inl rfl))
          have HB5 : Hid (Below w.heap.size w w5) := HB3.out.trans (ho5.rest H3.out.base_le)
          have H5 := Lib.hid h5
          have HL5 : Hid ((DSt.bytesI (st.syncI 0) 0).length = ((st.syncI 0) false).2) := rfl
          have HO5 : Hid (((st.syncI 0) true).2 = (st true).2) := rfl
          generalize (st.syncI 0) = stn at *
          clear h5 ho5 y0 y1 y2 y3
          obtain ⟨Sq, hdq⟩ := H5.out.bytes
          have Bq := Lib.hid (bytesI w.heap.size gd 1000 Sq _ 0 w5 hdq)
          clear hdq
          go_wp2_with fail
          go_must (refine Bq.out.mono ?_)
          rintro e vq ⟨rq, rfl, hownq, hbq⟩
          obtain ⟨Aq, cq, rfl, hcq, hccq, _⟩ := own_slice hownq
          have Gq := Lib.hid (H5.out.below hbq)
          have Jq := Lib.hid (KL5.out.below hbq KL5.out.lt)
          have Fq : Hid (Below w.heap.size w vq) := HB5.out.trans (hbq.mono H5.out.base_le)
          have x0 : vq.cell? ⟨gl, 0, none⟩ = some (ival (st false).2) := Jq.out.cell 0
          have x1 : vq.frozen? ⟨gl, 0, none⟩ = false := Jq.out.frozen 0
          clear hownq hbq
          have Hq := Lib.hid (Gq.out.other (((Only.refl _ vq).setCell (.inl (.inl rfl)) 0 (ival (DSt.bytesI stn 0).length))))
          have Kq := Lib.hid (Jq.out.set_ 0 (ival (DSt.bytesI stn 0).length))
          have HBq := Lib.hid (below_set1 Fq.out hgl 0 (ival (DSt.bytesI stn 0).length))
          go_wp2_with fail
          go_roundw
          case rel => exact ⟨k + 1, stn, by omega, by go_num, Hq.out.lessX (fun i hi => .inl hi), by rw [← HL5.out, HO5.out]; exact Kq.out, HBq.out⟩
          case measure => simp [intOf]; omega
        by_cases hq4 : kd % 6 = 4
        · rw [hq4] at PK
          have A1 := Lib.hid (H3.out.act (fun S hd hb => cutI w.heap.size gd 1000 S st 0 nn w3 hd hb))
          clear hq4 hq6
          try clear hq3
          try clear hq4
          go_must (refine (PK.out _).mono ?_)
          rintro e w4 ⟨rfl, rfl⟩
          go_wp2_with fail
          go_must (refine A1.out.mono ?_)
          rintro e w5 ⟨rfl, h5, ho5⟩
          have KL5 := Lib.hid (KL.out.rest ho5 (.inl rfl))
          have HB5 : Hid (Below w.heap.size w w5) := HB3.out.trans (ho5.rest H3.out.base_le)
          have H5 := Lib.hid h5
          have HL5 : Hid ((DSt.bytesI (st.cutI 0 nn) 0).length = ((st.cutI 0 nn) false).2) := rfl
          have HO5 : Hid (((st.cutI 0 nn) true).2 = (st true).2) := rfl
          generalize (st.cutI 0 nn) = stn at *
          clear h5 ho5 y0 y1 y2 y3
          obtain ⟨Sq, hdq⟩ := H5.out.bytes
          have Bq := Lib.hid (bytesI w.heap.size gd 1000 Sq _ 0 w5 hdq)
          clear hdq
          go_wp2_with fail
          go_must (refine Bq.out.mono ?_)
          rintro e vq ⟨rq, rfl, hownq, hbq⟩
          obtain ⟨Aq, cq, rfl, hcq, hccq, _⟩ := own_slice hownq
          have Gq := Lib.hid (H5.out.below hbq)
          have Jq := Lib.hid (KL5.out.below hbq KL5.out.lt)
          have Fq : Hid (Below w.heap.size w vq) := HB5.out.trans (hbq.mono H5.out.base_le)
          have x0 : vq.cell? ⟨gl, 0, none⟩ = some (ival (st false).2) := Jq.out.cell 0
          have x1 : vq.frozen? ⟨gl, 0, none⟩ = false := Jq.out.frozen 0
          clear hownq hbq
          have Hq := Lib.hid (Gq.out.other (((Only.refl _ vq).setCell (.inl (.inl rfl)) 0 (ival (DSt.bytesI stn 0).length))))
          have Kq := Lib.hid (Jq.out.set_ 0 (ival (DSt.bytesI stn 0).length))
          have HBq := Lib.hid (below_set1 Fq.out hgl 0 (ival (DSt.bytesI stn 0).length))
          go_wp2_with fail
          go_roundw
          case rel => exact ⟨k + 1, stn, by omega, by go_num, Hq.out.lessX (fun i hi => .inl hi), by rw [← HL5.out, HO5.out]; exact Kq.out, HBq.out⟩
          case measure => simp [intOf]; omega
        by_cases hq5 : kd % 6 = 5
        · rw [hq5] at PK
          have A1 := Lib.hid (H3.out.act (fun S hd hb => crash_any w.heap.size gd 1000 S st nn w3 hd hb))
          clear hq5 hq6
          try clear hq3
          try clear hq4
          go_must (refine (PK.out _).mono ?_)
          rintro e w4 ⟨rfl, rfl⟩
          go_wp2_with fail
          go_must (refine A1.out.mono ?_)
          rintro e w5 ⟨rfl, h5, ho5⟩
          have KL5 := Lib.hid (KL.out.rest ho5 (.inl rfl))
          have HB5 : Hid (Below w.heap.size w w5) := HB3.out.trans (ho5.rest H3.out.base_le)
          have H5 := Lib.hid h5
          have HL0 : Hid ((DSt.bytesI (st.crash nn) 0).length = ((st.crash nn) false).2) := by show ((st.crash nn) false).1.length = _; rw [crash_comp]
          have HL1 : Hid ((DSt.bytesI (st.crash nn) 1).length = ((st.crash nn) true).2) := by show ((st.crash nn) true).1.length = _; rw [crash_comp]
          generalize st.crash nn = stn at *
          clear h5 ho5 y0 y1 y2 y3
          obtain ⟨Sq, hdq⟩ := H5.out.bytes
          have Bq := Lib.hid (bytesI w.heap.size gd 1000 Sq _ 0 w5 hdq)
          clear hdq
          go_wp2_with fail
          go_must (refine Bq.out.mono ?_)
          rintro e vq ⟨rq, rfl, hownq, hbq⟩
          obtain ⟨Aq, cq, rfl, hcq, hccq, _⟩ := own_slice hownq
          have Gq := Lib.hid (H5.out.below hbq)
          have Jq := Lib.hid (KL5.out.below hbq KL5.out.lt)
          have Fq : Hid (Below w.heap.size w vq) := HB5.out.trans (hbq.mono H5.out.base_le)
          have x0 : vq.cell? ⟨gl, 0, none⟩ = some (ival (st false).2) := Jq.out.cell 0
          have x1 : vq.frozen? ⟨gl, 0, none⟩ = false := Jq.out.frozen 0
          clear hownq hbq
          have Hq := Lib.hid (Gq.out.other (((Only.refl _ vq).setCell (.inl (.inl rfl)) 0 (ival (DSt.bytesI stn 0).length))))
          have Kq := Lib.hid (Jq.out.set_ 0 (ival (DSt.bytesI stn 0).length))
          have HBq := Lib.hid (below_set1 Fq.out hgl 0 (ival (DSt.bytesI stn 0).length))
          go_wp2_with fail
          generalize vq.setCell ⟨gl, 0, none⟩ (ival (DSt.bytesI stn 0).length) = u6 at *
          clear x0 x1 Gq Jq Fq
          obtain ⟨Sp, hdp⟩ := Hq.out.bytes
          have Bp := Lib.hid (bytesI w.heap.size gd 1000 Sp _ 1 u6 hdp)
          clear hdp
          go_must (refine Bp.out.mono ?_)
          rintro e vp ⟨rp, rfl, hownp, hbp⟩
          obtain ⟨Ap, cp, rfl, hcp, hccp, _⟩ := own_slice hownp
          have Gp := Lib.hid (Hq.out.below hbp)
          have Jp := Lib.hid (Kq.out.below hbp Kq.out.lt)
          have Fp : Hid (Below w.heap.size w vp) := HBq.out.trans (hbp.mono Hq.out.base_le)
          have x0 : vp.cell? ⟨gl, 1, none⟩ = some (ival (st true).2) := Jp.out.cell 1
          have x1 : vp.frozen? ⟨gl, 1, none⟩ = false := Jp.out.frozen 1
          clear hownp hbp
          have Hp := Lib.hid (Gp.out.other (((Only.refl _ vp).setCell (.inl (.inl rfl)) 1 (ival (DSt.bytesI stn 1).length))))
          have Kp := Lib.hid (Jp.out.set_ 1 (ival (DSt.bytesI stn 1).length))
          have HBp := Lib.hid (below_set1 Fp.out hgl 1 (ival (DSt.bytesI stn 1).length))
          go_wp2_with fail
          go_roundw
          case rel => exact ⟨k + 1, stn, by omega, by go_num, Hp.out.lessX (fun i hi => .inl hi), by rw [← HL0.out, ← HL1.out]; exact Kp.out, HBp.out⟩
          case measure => simp [intOf]; omega
        have t3 : (kd % 6 == 3) = false := by simpa using hq3
        have t4 : (kd % 6 == 4) = false := by simpa using hq4
        have t5 : (kd % 6 == 5) = false := by simpa using hq5
        have A1 := Lib.hid (H3.out.act (fun S hd hb => writeI w.heap.size gd 1000 S st 0 Ab m cb w.heap.size bs w3 hd hb HRD3.out HM4.out))
        clear hq3 hq4 hq5 hq6
        go_must (refine (PK.out _).mono ?_)
        rintro e w4 ⟨rfl, rfl⟩
        generalize kd % 6 = q6 at *
        go_wp2_with fail
        go_must (refine A1.out.mono ?_)
        rintro e w5 ⟨rfl, h5, ho5⟩
        have KL5 := Lib.hid (KL.out.rest ho5 (.inl rfl))
        have HB5 : Hid (Below w.heap.size w w5) := HB3.out.trans (ho5.rest H3.out.base_le)
        have H5 := Lib.hid h5
        clear h5 ho5 y0 y1 y2 y3
        go_wp2_with fail
        go_roundw
        case rel => exact ⟨k + 1, _, by omega, by go_num, H5.out.lessX (fun i hi => .inl hi), by rw [write_snd, write_snd]; exact KL5.out, HB5.out⟩
        case measure => simp [intOf]; omega

      · rw [har] at PA
        clear har
        go_must (refine (PA.out _).mono ?_)
        rintro e w4 ⟨rfl, rfl⟩
        go_wp2_with fail
        by_cases hq3 : kd % 6 = 3
        · rw [hq3] at PK
          have A1 := Lib.hid (H3.out.act (fun S hd hb => syncI w.heap.size gd 1000 S st 1 w3 hd hb))
          clear hq3 hq6
          try clear hq3
          try clear hq4
          go_must (refine (PK.out _).mono ?_)
          rintro e w4 ⟨rfl, rfl⟩
          go_wp2_with fail
          go_must (refine A1.out.mono ?_)
          rintro e w5 ⟨rfl, h5, ho5⟩
          have KL5 := Lib.hid (KL.out.rest ho5 (.inl rfl))
          have HB5 : Hid (Below w.heap.size w w5) := HB3.out.trans (ho5.rest H3.out.base_le)
          have H5 := Lib.hid h5
          have HL5 : Hid ((DSt.bytesI (st.syncI 1) 1).length = ((st.syncI 1) true).2) := rfl
          have HO5 : Hid (((st.syncI 1) false).2 = (st false).2) := rfl
          generalize (st.syncI 1) = stn at *
          clear h5 ho5 y0 y1 y2 y3
          obtain ⟨Sq, hdq⟩ := H5.out.bytes
          have Bq := Lib.hid (bytesI w.heap.size gd 1000 Sq _ 1 w5 hdq)
          clear hdq
          go_wp2_with fail
          go_must (refine Bq.out.mono ?_)
          rintro e vq ⟨rq, rfl, hownq, hbq⟩
          obtain ⟨Aq, cq, rfl, hcq, hccq, _⟩ := own_slice hownq
          have Gq := Lib.hid (H5.out.below hbq)
          have Jq := Lib.hid (KL5.out.below hbq KL5.out.lt)
          have Fq : Hid (Below w.heap.size w vq) := HB5.out.trans (hbq.mono H5.out.base_le)
          have x0 : vq.cell? ⟨gl, 1, none⟩ = some (ival (st true).2) := Jq.out.cell 1
          have x1 : vq.frozen? ⟨gl, 1, none⟩ = false := Jq.out.frozen 1
          clear hownq hbq
          have Hq := Lib.hid (Gq.out.other (((Only.refl _ vq).setCell (.inl (.inl rfl)) 1 (ival (DSt.bytesI stn 1).length))))
          have Kq := Lib.hid (Jq.out.set_ 1 (ival (DSt.bytesI stn 1).length))
          have HBq := Lib.hid (below_set1 Fq.out hgl 1 (ival (DSt.bytesI stn 1).length))
          go_wp2_with fail
          go_roundw
          case rel => exact ⟨k + 1, stn, by omega, by go_num, Hq.out.lessX (fun i hi => .inl hi), by rw [← HL5.out, HO5.out]; exact Kq.out, HBq.out⟩
          case measure => simp [intOf]; omega
        by_cases hq4 : kd % 6 = 4
        · rw [hq4] at PK
          have A1 := Lib.hid (H3.out.act (fun S hd hb => cutI w.heap.size gd 1000 S st 1 nn w3 hd hb))
          clear hq4 hq6
          try clear hq3
          try clear hq4
          go_must (refine (PK.out _).mono ?_)
          rintro e w4 ⟨rfl, rfl⟩
          go_wp2_with fail
          go_must (refine A1.out.mono ?_)
          rintro e w5 ⟨rfl, h5, ho5⟩
          have KL5 := Lib.hid (KL.out.rest ho5 (.inl rfl))
          have HB5 : Hid (Below w.heap.size w w5) := HB3.out.trans (ho5.rest H3.out.base_le)
          have H5 := Lib.hid h5
          have HL5 : Hid ((DSt.bytesI (st.cutI 1 nn) 1).length = ((st.cutI 1 nn) true).2) := rfl
          have HO5 : Hid (((st.cutI 1 nn) false).2 = (st false).2) := rfl
          generalize (st.cutI 1 nn) = stn at *
          clear h5 ho5 y0 y1 y2 y3
          obtain ⟨Sq, hdq⟩ := H5.out.bytes
          have Bq := Lib.hid (bytesI w.heap.size gd 1000 Sq _ 1 w5 hdq)
          clear hdq
          go_wp2_with fail
          go_must (refine Bq.out.mono ?_)
          rintro e vq ⟨rq, rfl, hownq, hbq⟩
          obtain ⟨Aq, cq, rfl, hcq, hccq, _⟩ := own_slice hownq
          have Gq := Lib.hid (H5.out.below hbq)
          have Jq := Lib.hid (KL5.out.below hbq KL5.out.lt)
          have Fq : Hid (Below w.heap.size w vq) := HB5.out.trans (hbq.mono H5.out.base_le)
          have x0 : vq.cell? ⟨gl, 1, none⟩ = some (ival (st true).2) := Jq.out.cell 1
          have x1 : vq.frozen? ⟨gl, 1, none⟩ = false := Jq.out.frozen 1
          clear hownq hbq
          have Hq := Lib.hid (Gq.out.other (((Only.refl _ vq).setCell (.inl (.inl rfl)) 1 (ival (DSt.bytesI stn 1).length))))
          have Kq := Lib.hid (Jq.out.set_ 1 (ival (DSt.bytesI stn 1).length))
          have HBq := Lib.hid (below_set1 Fq.out hgl 1 (ival (DSt.bytesI stn 1).length))
          go_wp2_with fail
          go_roundw
          case rel => exact ⟨k + 1, stn, by omega, by go_num, Hq.out.lessX (fun i hi => .inl hi), by rw [← HL5.out, HO5.out]; exact Kq.out, HBq.out⟩
          case measure => simp [intOf]; omega
        by_cases hq5 : kd % 6 = 5
        · rw [hq5] at PK
          have A1 := Lib.hid (H3.out.act (fun S hd hb => crash_any w.heap.size gd 1000 S st nn w3 hd hb))
          clear hq5 hq6
          try clear hq3
          try clear hq4
          go_must (refine (PK.out _).mono ?_)
          rintro e w4 ⟨rfl, rfl⟩
          go_wp2_with fail
          go_must (refine A1.out.mono ?_)
          rintro e w5 ⟨rfl, h5, ho5⟩
          have KL5 := Lib.hid (KL.out.rest ho5 (.inl rfl))
          have HB5 : Hid (Below w.heap.size w w5) := HB3.out.trans (ho5.rest H3.out.base_le)
          have H5 := Lib.hid h5
          have HL0 : Hid ((DSt.bytesI (st.crash nn) 0).length = ((st.crash nn) false).2) := by show ((st.crash nn) false).1.length = _; rw [crash_comp]
          have HL1 : Hid ((DSt.bytesI (st.crash nn) 1).length = ((st.crash nn) true).2) := by show ((st.crash nn) true).1.length = _; rw [crash_comp]
          generalize st.crash nn = stn at *
          clear h5 ho5 y0 y1 y2 y3
          obtain ⟨Sq, hdq⟩ := H5.out.bytes
          have Bq := Lib.hid (bytesI w.heap.size gd 1000 Sq _ 0 w5 hdq)
          clear hdq
          go_wp2_with fail
          go_must (refine Bq.out.mono ?_)
          rintro e vq ⟨rq, rfl, hownq, hbq⟩
          obtain ⟨Aq, cq, rfl, hcq, hccq, _⟩ := own_slice hownq
          have Gq := Lib.hid (H5.out.below hbq)
          have Jq := Lib.hid (KL5.out.below hbq KL5.out.lt)
          have Fq : Hid (Below w.heap.size w vq) := HB5.out.trans (hbq.mono H5.out.base_le)
          have x0 : vq.cell? ⟨gl, 0, none⟩ = some (ival (st false).2) := Jq.out.cell 0
          have x1 : vq.frozen? ⟨gl, 0, none⟩ = false := Jq.out.frozen 0
          clear hownq hbq
          have Hq := Lib.hid (Gq.out.other (((Only.refl _ vq).setCell (.inl (.inl rfl)) 0 (ival (DSt.bytesI stn 0).length))))
          have Kq := Lib.hid (Jq.out.set_ 0 (ival (DSt.bytesI stn 0).length))
          have HBq := Lib.hid (below_set1 Fq.out hgl 0 (ival (DSt.bytesI stn 0).length))
          go_wp2_with fail
          generalize vq.setCell ⟨gl, 0, none⟩ (ival (DSt.bytesI stn 0).length) = u6 at *
          clear x0 x1 Gq Jq Fq
          obtain ⟨Sp, hdp⟩ := Hq.out.bytes
          have Bp := Lib.hid (bytesI w.heap.size gd 1000 Sp _ 1 u6 hdp)
          clear hdp
          go_must (refine Bp.out.mono ?_)
          rintro e vp ⟨rp, rfl, hownp, hbp⟩
          obtain ⟨Ap, cp, rfl, hcp, hccp, _⟩ := own_slice hownp
          have Gp := Lib.hid (Hq.out.below hbp)
          have Jp := Lib.hid (Kq.out.below hbp Kq.out.lt)
          have Fp : Hid (Below w.heap.size w vp) := HBq.out.trans (hbp.mono Hq.out.base_le)
          have x0 : vp.cell? ⟨gl, 1, none⟩ = some (ival (st true).2) := Jp.out.cell 1
          have x1 : vp.frozen? ⟨gl, 1, none⟩ = false := Jp.out.frozen 1
          clear hownp hbp
          have Hp := Lib.hid (Gp.out.other (((Only.refl _ vp).setCell (.inl (.inl rfl)) 1 (ival (DSt.bytesI stn 1).length))))
          have Kp := Lib.hid (Jp.out.set_ 1 (ival (DSt.bytesI stn 1).length))
          have HBp := Lib.hid (below_set1 Fp.out hgl 1 (ival (DSt.bytesI stn 1).length))
          go_wp2_with fail
          go_roundw
          case rel => exact ⟨k + 1, stn, by omega, by go_num, Hp.out.lessX (fun i hi => .inl hi), by rw [← HL0.out, ← HL1.out]; exact Kp.out, HBp.out⟩
          case measure => simp [intOf]; omega
        have t3 : (kd % 6 == 3) = false := by simpa using hq3
        have t4 : (kd % 6 == 4) = false := by simpa using hq4
        have t5 : (kd % 6 == 5) = false := by simpa using hq5
        have A1 := Lib.hid (H3.out.act (fun S hd hb => writeI w.heap.size gd 1000 S st 1 Ab m cb w.heap.size bs w3 hd hb HRD3.out HM4.out))
        clear hq3 hq4 hq5 hq6
        go_must (refine (PK.out _).mono ?_)
        rintro e w4 ⟨rfl, rfl⟩
        generalize kd % 6 = q6 at *
        go_wp2_with fail
        go_must (refine A1.out.mono ?_)
        rintro e w5 ⟨rfl, h5, ho5⟩
        have KL5 := Lib.hid (KL.out.rest ho5 (.inl rfl))
        have HB5 : Hid (Below w.heap.size w w5) := HB3.out.trans (ho5.rest H3.out.base_le)
        have H5 := Lib.hid h5
        clear h5 ho5 y0 y1 y2 y3
        go_wp2_with fail
        go_roundw
        case rel => exact ⟨k + 1, _, by omega, by go_num, H5.out.lessX (fun i hi => .inl hi), by rw [write_snd, write_snd]; exact KL5.out, HB5.out⟩
        case measure => simp [intOf]; omega

    · have hd : n ≤ k ∨ (k < n ∧ 100 ≤ k) := by omega
      have hok := h2.ok
      have hb0 := (hok.2 false).2
      have hb1 := (hok.2 true).2
      have hn0 := Nat.le_trans (hok.2 false).1 hok.1
      have hn1 := Nat.le_trans (hok.2 true).1 hok.1
      have HT := Lib.hid h2
      have HK := Lib.hid hkl
      have HB := Lib.hid hbel
      obtain ⟨mk, hmk⟩ : ∃ mk : Int, (if (0 : Int) < keep then keep else 0) = mk := ⟨_, rfl⟩
      have hmk2 : max 0 keep = mk := by rw [← hmk]; split <;> omega
      have hx0 := crash_len st keep false hb0
      have hx1 := crash_len st keep true hb1
      have hk0 := keepN_bd keep (st false) hb0
      have hk1 := keepN_bd keep (st true) hb1
      have hsx0 : (st false).2 ≤ (st.crash keep false).1.length := by omega
      have hsx1 : (st true).2 ≤ (st.crash keep true).1.length := by omega
      have hlx0 : (st.crash keep false).1.length ≤ (st false).1.length := by omega
      have hlx1 : (st.crash keep true).1.length ≤ (st true).1.length := by omega
      have hmx0 : ((st.crash keep false).1.length : Int) - ((st false).2 : Int) ≤ mk := by omega
      have hmx1 : ((st.crash keep true).1.length : Int) - ((st true).2 : Int) ≤ mk := by omega
      have HT0 := Lib.hid (crash_take st keep false)
      have HT1 := Lib.hid (crash_take st keep true)
      have HW0 := Lib.hid (crash_twice st keep false)
      have HW1 := Lib.hid (crash_twice st keep true)
      clear hx0 hx1 hk0 hk1 hmk2 hok h2 hkl hbel hlt

      rcases hd with hd | ⟨hd, hd2⟩
      · obtain rfl : k = n := by omega
        clear hd
        go_wp2_with fail

        obtain ⟨Sa, hda⟩ := HT.out.bytes
        have Ba : Hid (Calls Try.prog 23 #[.pointer (some ⟨gd, 0, none⟩), .int .i64 0] wr fun e w' => ∃ v, e = .returned v ∧ w'.ownsRow wr.heap.size 5 1 v (st false).1.length ((st false).1.map bval) ∧ Below wr.heap.size wr w') := bytesI w.heap.size gd 1000 Sa st 0 wr hda
        clear hda
        go_must (refine Ba.out.mono ?_)
        rintro e wa ⟨ra, rfl, howna, hba⟩
        obtain ⟨Aa, ca, rfl, hca, hcca, _⟩ := own_slice howna
        have Ha : Hid (One false (fun i => i = gl ∨ (Value.slice Aa (st false).1.length ca).ownBlock = some i) wa w.heap.size gd 1000 st) := HT.out.more hba (fun i hi => by
          rcases hi with h | h
          · exact .inl (h)
          · exact .inr (howna.lt i h))
        have Ka := Lib.hid (HK.out.below hba HK.out.lt)
        have HBa : Hid (Below w.heap.size w wa) := HB.out.trans (hba.mono HT.out.base_le)
        have Ra := Lib.hid howna
        clear howna hba Ba
        go_wp2_with fail
        obtain ⟨Sb, hdb⟩ := Ha.out.bytes
        have Bb : Hid (Calls Try.prog 23 #[.pointer (some ⟨gd, 0, none⟩), .int .i64 1] wa fun e w' => ∃ v, e = .returned v ∧ w'.ownsRow wa.heap.size 5 1 v (st true).1.length ((st true).1.map bval) ∧ Below wa.heap.size wa w') := bytesI w.heap.size gd 1000 Sb st 1 wa hdb
        clear hdb
        go_must (refine Bb.out.mono ?_)
        rintro e wb ⟨rb, rfl, hownb, hbb⟩
        obtain ⟨Ab, cb, rfl, hcb, hccb, _⟩ := own_slice hownb
        have Hb : Hid (One false (fun i => i = gl ∨ (Value.slice Aa (st false).1.length ca).ownBlock = some i ∨ (Value.slice Ab (st true).1.length cb).ownBlock = some i) wb w.heap.size gd 1000 st) := Ha.out.more hbb (fun i hi => by
          rcases hi with h | h | h
          · exact .inl (.inl h)
          · exact .inl (.inr h)
          · exact .inr (hownb.lt i h))
        have Kb := Lib.hid (Ka.out.below hbb Ka.out.lt)
        have HBb : Hid (Below w.heap.size w wb) := HBa.out.trans (hbb.mono Ha.out.base_le)
        have Rab := Lib.hid (own_below Ra.out hbb)
        have Rb := Lib.hid hownb
        clear hownb hbb Bb
        go_wp2_with fail
        have Zc := Lib.hid (Hb.out.act (fun S hd hb => crash_any w.heap.size gd 1000 S st keep wb hd hb))
        go_must (refine Zc.out.mono ?_)
        rintro e wc ⟨rfl, hhc, hoc⟩
        have Kc := Lib.hid (Kb.out.rest hoc (.inl rfl))
        have HBc : Hid (Below w.heap.size w wc) := HBb.out.trans (hoc.rest Hb.out.base_le)
        have Rabc := Lib.hid (own_only Rab.out hoc (fun i hi h => h.2 (.inr (.inl hi))))
        have Rbc := Lib.hid (own_only Rb.out hoc (fun i hi h => h.2 (.inr (.inr hi))))
        have Hc := Lib.hid hhc
        clear hhc hoc Zc
        go_wp2_with fail
        generalize DSt.crash st keep = sc at *
        obtain ⟨Sx, hdx⟩ := Hc.out.bytes
        have Bx : Hid (Calls Try.prog 23 #[.pointer (some ⟨gd, 0, none⟩), .int .i64 0] wc fun e w' => ∃ v, e = .returned v ∧ w'.ownsRow wc.heap.size 5 1 v (sc false).1.length ((sc false).1.map bval) ∧ Below wc.heap.size wc w') := bytesI w.heap.size gd 1000 Sx sc 0 wc hdx
        clear hdx
        go_must (refine Bx.out.mono ?_)
        rintro e wx ⟨rx, rfl, hownx, hbx⟩
        obtain ⟨Ax, cx, rfl, hcx, hccx, _⟩ := own_slice hownx
        have Hx : Hid (One false (fun i => i = gl ∨ (Value.slice Aa (st false).1.length ca).ownBlock = some i ∨ (Value.slice Ab (st true).1.length cb).ownBlock = some i ∨ (Value.slice Ax (sc false).1.length cx).ownBlock = some i) wx w.heap.size gd 1000 sc) := Hc.out.more hbx (fun i hi => by
          rcases hi with h | h | h | h
          · exact .inl (.inl h)
          · exact .inl (.inr (.inl h))
          · exact .inl (.inr (.inr h))
          · exact .inr (hownx.lt i h))
        have Kx := Lib.hid (Kc.out.below hbx Kc.out.lt)
        have HBx : Hid (Below w.heap.size w wx) := HBc.out.trans (hbx.mono Hc.out.base_le)
        have Rabcx := Lib.hid (own_below Rabc.out hbx)
        have Rbcx := Lib.hid (own_below Rbc.out hbx)
        have Rx := Lib.hid hownx
        clear hownx hbx Bx
        go_wp2_with fail
        obtain ⟨Sy, hdy⟩ := Hx.out.bytes
        have By : Hid (Calls Try.prog 23 #[.pointer (some ⟨gd, 0, none⟩), .int .i64 1] wx fun e w' => ∃ v, e = .returned v ∧ w'.ownsRow wx.heap.size 5 1 v (sc true).1.length ((sc true).1.map bval) ∧ Below wx.heap.size wx w') := bytesI w.heap.size gd 1000 Sy sc 1 wx hdy
        clear hdy
        go_must (refine By.out.mono ?_)
        rintro e wy ⟨ry, rfl, howny, hby⟩
        obtain ⟨Ay, cy, rfl, hcy, hccy, _⟩ := own_slice howny
        have Hy : Hid (One false (fun i => i = gl ∨ (Value.slice Aa (st false).1.length ca).ownBlock = some i ∨ (Value.slice Ab (st true).1.length cb).ownBlock = some i ∨ (Value.slice Ax (sc false).1.length cx).ownBlock = some i ∨ (Value.slice Ay (sc true).1.length cy).ownBlock = some i) wy w.heap.size gd 1000 sc) := Hx.out.more hby (fun i hi => by
          rcases hi with h | h | h | h | h
          · exact .inl (.inl h)
          · exact .inl (.inr (.inl h))
          · exact .inl (.inr (.inr (.inl h)))
          · exact .inl (.inr (.inr (.inr h)))
          · exact .inr (howny.lt i h))
        have Ky := Lib.hid (Kx.out.below hby Kx.out.lt)
        have HBy : Hid (Below w.heap.size w wy) := HBx.out.trans (hby.mono Hx.out.base_le)
        have Rabcxy := Lib.hid (own_below Rabcx.out hby)
        have Rbcxy := Lib.hid (own_below Rbcx.out hby)
        have Rxy := Lib.hid (own_below Rx.out hby)
        have Ry := Lib.hid howny
        clear howny hby By
        go_wp2_with fail
        have G0 := Lib.hid (begins_true Ax Aa _ cx _ ca _ _ (sc false).1 (st false).1 wy (Reads.of_own Rxy.out) (Reads.of_own Rabcxy.out) (by unfold maxLen; omega) hca hcca hlx0 HT0.out)
        have G1 := Lib.hid (fun q => begins_true Ay Ab _ cy _ cb _ _ (sc true).1 (st true).1 (wy.drewN q) ((Reads.of_own Ry.out).drewN q) ((Reads.of_own Rbcxy.out).drewN q) (by unfold maxLen; omega) hcb hccb hlx1 HT1.out)
        go_must (refine G0.out.mono ?_)
        rintro e w20 ⟨rfl, q1, rfl⟩
        go_wp2_with fail
        go_must (refine (G1.out q1).mono ?_)
        rintro e w20 ⟨rfl, q2, rfl⟩
        have Hz := Lib.hid (Hy.out.below (below_drewN (Below.refl _ _) (q1 + q2)))
        have Kz := Lib.hid (Ky.out.drewN (q1 + q2))
        have HBz := Lib.hid (below_drewN HBy.out (q1 + q2))
        have Rxz := Lib.hid (own_below Rxy.out (below_drewN (Below.refl wy.heap.size wy) (q1 + q2)))
        have Ryz := Lib.hid (own_below Ry.out (below_drewN (Below.refl wy.heap.size wy) (q1 + q2)))
        have l0 : wy.cell? ⟨gl, 0, none⟩ = some (ival (st false).2) := Ky.out.cell 0
        have l1 : wy.cell? ⟨gl, 1, none⟩ = some (ival (st true).2) := Ky.out.cell 1
        clear G0 G1 hmk
        go_wp2_with fail
        clear l0 l1
        generalize wy.drewN (q1 + q2) = wz at *
        have Zd := Lib.hid (Hz.out.act (fun S hd hb => crash_any w.heap.size gd 1000 S sc 0 wz hd hb))
        go_must (refine Zd.out.mono ?_)
        rintro e wd ⟨rfl, hhd, hod⟩
        have HBd : Hid (Below w.heap.size w wd) := HBz.out.trans (hod.rest Hz.out.base_le)
        have Rxd := Lib.hid (own_only Rxz.out hod (fun i hi h => h.2 (.inr (.inr (.inr (.inl hi))))))
        have Ryd := Lib.hid (own_only Ryz.out hod (fun i hi h => h.2 (.inr (.inr (.inr (.inr hi))))))
        have Hd := Lib.hid hhd
        clear hhd hod Zd
        go_wp2_with fail
        obtain ⟨Su, hdu⟩ := Hd.out.bytes
        have Bu : Calls Try.prog 23 #[.pointer (some ⟨gd, 0, none⟩), .int .i64 0] wd fun e w' => ∃ v, e = .returned v ∧ w'.ownsRow wd.heap.size 5 1 v ((sc.crash 0) false).1.length (((sc.crash 0) false).1.map bval) ∧ Below wd.heap.size wd w' := bytesI w.heap.size gd 1000 Su (sc.crash 0) 0 wd hdu
        rw [HW0.out] at Bu
        have HBBu := Lib.hid Bu
        clear hdu Bu
        go_must (refine HBBu.out.mono ?_)
        rintro e wu ⟨ru, rfl, hownu, hbu⟩
        obtain ⟨Au, cu, rfl, hcu, hccu, _⟩ := own_slice hownu
        have SBu := sameBytes_any Au Ax _ cu _ cx _ _ (sc false).1 (sc false).1 wu (Reads.of_own hownu) ((Reads.of_own Rxd.out).below hbu) (by unfold maxLen; omega) (by unfold maxLen; omega)
        rw [show decide ((sc false).1 = (sc false).1) = true by simp] at SBu
        have SCu := Lib.hid SBu
        have Hu := Lib.hid (Hd.out.below hbu)
        have HBu : Hid (Below w.heap.size w wu) := HBd.out.trans (hbu.mono Hd.out.base_le)
        have Ryu := Lib.hid (own_below Ryd.out hbu)
        clear SBu hownu hbu HBBu
        go_wp2_with fail
        go_must (refine SCu.out.mono ?_)
        rintro e w30 ⟨rfl, qu, rfl⟩
        have Huz := Lib.hid (Hu.out.below (below_drewN (Below.refl _ _) qu))
        have HBuz := Lib.hid (below_drewN HBu.out qu)
        have Ryuz := Lib.hid (own_below Ryu.out (below_drewN (Below.refl wu.heap.size wu) qu))
        generalize wu.drewN qu = wuz at *
        go_wp2_with fail
        obtain ⟨Sv, hdv⟩ := Huz.out.bytes
        have Bv : Calls Try.prog 23 #[.pointer (some ⟨gd, 0, none⟩), .int .i64 1] wuz fun e w' => ∃ v, e = .returned v ∧ w'.ownsRow wuz.heap.size 5 1 v ((sc.crash 0) true).1.length (((sc.crash 0) true).1.map bval) ∧ Below wuz.heap.size wuz w' := bytesI w.heap.size gd 1000 Sv (sc.crash 0) 1 wuz hdv
        rw [HW1.out] at Bv
        have HBBv := Lib.hid Bv
        clear hdv Bv
        go_must (refine HBBv.out.mono ?_)
        rintro e wv ⟨rv, rfl, hownv, hbv⟩
        obtain ⟨Av, cv, rfl, hcv, hccv, _⟩ := own_slice hownv
        have SBv := sameBytes_any Av Ay _ cv _ cy _ _ (sc true).1 (sc true).1 wv (Reads.of_own hownv) ((Reads.of_own Ryuz.out).below hbv) (by unfold maxLen; omega) (by unfold maxLen; omega)
        rw [show decide ((sc true).1 = (sc true).1) = true by simp] at SBv
        have SCv := Lib.hid SBv
        have Hv := Lib.hid (Huz.out.below hbv)
        have HBv : Hid (Below w.heap.size w wv) := HBuz.out.trans (hbv.mono Huz.out.base_le)
        clear SBv hownv hbv HBBv
        go_wp2_with fail
        go_must (refine SCv.out.mono ?_)
        rintro e w30 ⟨rfl, qv, rfl⟩
        have Hvz := Lib.hid (Hv.out.below (below_drewN (Below.refl _ _) qv))
        have HBvz := Lib.hid (below_drewN HBv.out qv)
        generalize wv.drewN qv = wvz at *
        go_wp2_with fail
        go_must (refine (CK.out _).mono ?_)
        rintro e w9 ⟨rfl, hb⟩
        go_wp2_with fail
        go_ret
        exact ⟨rfl, HBvz.out.trans (hb.mono Hvz.out.base_le)⟩

      · have hkn : (k : Int) < (n : Int) := by omega
        have hk100 : decide ((k : Int) < 100) = false := by simp; omega
        clear hd2
        go_wp2_with fail

        obtain ⟨Sa, hda⟩ := HT.out.bytes
        have Ba : Hid (Calls Try.prog 23 #[.pointer (some ⟨gd, 0, none⟩), .int .i64 0] wr fun e w' => ∃ v, e = .returned v ∧ w'.ownsRow wr.heap.size 5 1 v (st false).1.length ((st false).1.map bval) ∧ Below wr.heap.size wr w') := bytesI w.heap.size gd 1000 Sa st 0 wr hda
        clear hda
        go_must (refine Ba.out.mono ?_)
        rintro e wa ⟨ra, rfl, howna, hba⟩
        obtain ⟨Aa, ca, rfl, hca, hcca, _⟩ := own_slice howna
        have Ha : Hid (One false (fun i => i = gl ∨ (Value.slice Aa (st false).1.length ca).ownBlock = some i) wa w.heap.size gd 1000 st) := HT.out.more hba (fun i hi => by
          rcases hi with h | h
          · exact .inl (h)
          · exact .inr (howna.lt i h))
        have Ka := Lib.hid (HK.out.below hba HK.out.lt)
        have HBa : Hid (Below w.heap.size w wa) := HB.out.trans (hba.mono HT.out.base_le)
        have Ra := Lib.hid howna
        clear howna hba Ba
        go_wp2_with fail
        obtain ⟨Sb, hdb⟩ := Ha.out.bytes
        have Bb : Hid (Calls Try.prog 23 #[.pointer (some ⟨gd, 0, none⟩), .int .i64 1] wa fun e w' => ∃ v, e = .returned v ∧ w'.ownsRow wa.heap.size 5 1 v (st true).1.length ((st true).1.map bval) ∧ Below wa.heap.size wa w') := bytesI w.heap.size gd 1000 Sb st 1 wa hdb
        clear hdb
        go_must (refine Bb.out.mono ?_)
        rintro e wb ⟨rb, rfl, hownb, hbb⟩
        obtain ⟨Ab, cb, rfl, hcb, hccb, _⟩ := own_slice hownb
        have Hb : Hid (One false (fun i => i = gl ∨ (Value.slice Aa (st false).1.length ca).ownBlock = some i ∨ (Value.slice Ab (st true).1.length cb).ownBlock = some i) wb w.heap.size gd 1000 st) := Ha.out.more hbb (fun i hi => by
          rcases hi with h | h | h
          · exact .inl (.inl h)
          · exact .inl (.inr h)
          · exact .inr (hownb.lt i h))
        have Kb := Lib.hid (Ka.out.below hbb Ka.out.lt)
        have HBb : Hid (Below w.heap.size w wb) := HBa.out.trans (hbb.mono Ha.out.base_le)
        have Rab := Lib.hid (own_below Ra.out hbb)
        have Rb := Lib.hid hownb
        clear hownb hbb Bb
        go_wp2_with fail
        have Zc := Lib.hid (Hb.out.act (fun S hd hb => crash_any w.heap.size gd 1000 S st keep wb hd hb))
        go_must (refine Zc.out.mono ?_)
        rintro e wc ⟨rfl, hhc, hoc⟩
        have Kc := Lib.hid (Kb.out.rest hoc (.inl rfl))
        have HBc : Hid (Below w.heap.size w wc) := HBb.out.trans (hoc.rest Hb.out.base_le)
        have Rabc := Lib.hid (own_only Rab.out hoc (fun i hi h => h.2 (.inr (.inl hi))))
        have Rbc := Lib.hid (own_only Rb.out hoc (fun i hi h => h.2 (.inr (.inr hi))))
        have Hc := Lib.hid hhc
        clear hhc hoc Zc
        go_wp2_with fail
        generalize DSt.crash st keep = sc at *
        obtain ⟨Sx, hdx⟩ := Hc.out.bytes
        have Bx : Hid (Calls Try.prog 23 #[.pointer (some ⟨gd, 0, none⟩), .int .i64 0] wc fun e w' => ∃ v, e = .returned v ∧ w'.ownsRow wc.heap.size 5 1 v (sc false).1.length ((sc false).1.map bval) ∧ Below wc.heap.size wc w') := bytesI w.heap.size gd 1000 Sx sc 0 wc hdx
        clear hdx
        go_must (refine Bx.out.mono ?_)
        rintro e wx ⟨rx, rfl, hownx, hbx⟩
        obtain ⟨Ax, cx, rfl, hcx, hccx, _⟩ := own_slice hownx
        have Hx : Hid (One false (fun i => i = gl ∨ (Value.slice Aa (st false).1.length ca).ownBlock = some i ∨ (Value.slice Ab (st true).1.length cb).ownBlock = some i ∨ (Value.slice Ax (sc false).1.length cx).ownBlock = some i) wx w.heap.size gd 1000 sc) := Hc.out.more hbx (fun i hi => by
          rcases hi with h | h | h | h
          · exact .inl (.inl h)
          · exact .inl (.inr (.inl h))
          · exact .inl (.inr (.inr h))
          · exact .inr (hownx.lt i h))
        have Kx := Lib.hid (Kc.out.below hbx Kc.out.lt)
        have HBx : Hid (Below w.heap.size w wx) := HBc.out.trans (hbx.mono Hc.out.base_le)
        have Rabcx := Lib.hid (own_below Rabc.out hbx)
        have Rbcx := Lib.hid (own_below Rbc.out hbx)
        have Rx := Lib.hid hownx
        clear hownx hbx Bx
        go_wp2_with fail
        obtain ⟨Sy, hdy⟩ := Hx.out.bytes
        have By : Hid (Calls Try.prog 23 #[.pointer (some ⟨gd, 0, none⟩), .int .i64 1] wx fun e w' => ∃ v, e = .returned v ∧ w'.ownsRow wx.heap.size 5 1 v (sc true).1.length ((sc true).1.map bval) ∧ Below wx.heap.size wx w') := bytesI w.heap.size gd 1000 Sy sc 1 wx hdy
        clear hdy
        go_must (refine By.out.mono ?_)
        rintro e wy ⟨ry, rfl, howny, hby⟩
        obtain ⟨Ay, cy, rfl, hcy, hccy, _⟩ := own_slice howny
        have Hy : Hid (One false (fun i => i = gl ∨ (Value.slice Aa (st false).1.length ca).ownBlock = some i ∨ (Value.slice Ab (st true).1.length cb).ownBlock = some i ∨ (Value.slice Ax (sc false).1.length cx).ownBlock = some i ∨ (Value.slice Ay (sc true).1.length cy).ownBlock = some i) wy w.heap.size gd 1000 sc) := Hx.out.more hby (fun i hi => by
          rcases hi with h | h | h | h | h
          · exact .inl (.inl h)
          · exact .inl (.inr (.inl h))
          · exact .inl (.inr (.inr (.inl h)))
          · exact .inl (.inr (.inr (.inr h)))
          · exact .inr (howny.lt i h))
        have Ky := Lib.hid (Kx.out.below hby Kx.out.lt)
        have HBy : Hid (Below w.heap.size w wy) := HBx.out.trans (hby.mono Hx.out.base_le)
        have Rabcxy := Lib.hid (own_below Rabcx.out hby)
        have Rbcxy := Lib.hid (own_below Rbcx.out hby)
        have Rxy := Lib.hid (own_below Rx.out hby)
        have Ry := Lib.hid howny
        clear howny hby By
        go_wp2_with fail
        have G0 := Lib.hid (begins_true Ax Aa _ cx _ ca _ _ (sc false).1 (st false).1 wy (Reads.of_own Rxy.out) (Reads.of_own Rabcxy.out) (by unfold maxLen; omega) hca hcca hlx0 HT0.out)
        have G1 := Lib.hid (fun q => begins_true Ay Ab _ cy _ cb _ _ (sc true).1 (st true).1 (wy.drewN q) ((Reads.of_own Ry.out).drewN q) ((Reads.of_own Rbcxy.out).drewN q) (by unfold maxLen; omega) hcb hccb hlx1 HT1.out)
        go_must (refine G0.out.mono ?_)
        rintro e w20 ⟨rfl, q1, rfl⟩
        go_wp2_with fail
        go_must (refine (G1.out q1).mono ?_)
        rintro e w20 ⟨rfl, q2, rfl⟩
        have Hz := Lib.hid (Hy.out.below (below_drewN (Below.refl _ _) (q1 + q2)))
        have Kz := Lib.hid (Ky.out.drewN (q1 + q2))
        have HBz := Lib.hid (below_drewN HBy.out (q1 + q2))
        have Rxz := Lib.hid (own_below Rxy.out (below_drewN (Below.refl wy.heap.size wy) (q1 + q2)))
        have Ryz := Lib.hid (own_below Ry.out (below_drewN (Below.refl wy.heap.size wy) (q1 + q2)))
        have l0 : wy.cell? ⟨gl, 0, none⟩ = some (ival (st false).2) := Ky.out.cell 0
        have l1 : wy.cell? ⟨gl, 1, none⟩ = some (ival (st true).2) := Ky.out.cell 1
        clear G0 G1 hmk
        go_wp2_with fail
        clear l0 l1
        generalize wy.drewN (q1 + q2) = wz at *
        have Zd := Lib.hid (Hz.out.act (fun S hd hb => crash_any w.heap.size gd 1000 S sc 0 wz hd hb))
        go_must (refine Zd.out.mono ?_)
        rintro e wd ⟨rfl, hhd, hod⟩
        have HBd : Hid (Below w.heap.size w wd) := HBz.out.trans (hod.rest Hz.out.base_le)
        have Rxd := Lib.hid (own_only Rxz.out hod (fun i hi h => h.2 (.inr (.inr (.inr (.inl hi))))))
        have Ryd := Lib.hid (own_only Ryz.out hod (fun i hi h => h.2 (.inr (.inr (.inr (.inr hi))))))
        have Hd := Lib.hid hhd
        clear hhd hod Zd
        go_wp2_with fail
        obtain ⟨Su, hdu⟩ := Hd.out.bytes
        have Bu : Calls Try.prog 23 #[.pointer (some ⟨gd, 0, none⟩), .int .i64 0] wd fun e w' => ∃ v, e = .returned v ∧ w'.ownsRow wd.heap.size 5 1 v ((sc.crash 0) false).1.length (((sc.crash 0) false).1.map bval) ∧ Below wd.heap.size wd w' := bytesI w.heap.size gd 1000 Su (sc.crash 0) 0 wd hdu
        rw [HW0.out] at Bu
        have HBBu := Lib.hid Bu
        clear hdu Bu
        go_must (refine HBBu.out.mono ?_)
        rintro e wu ⟨ru, rfl, hownu, hbu⟩
        obtain ⟨Au, cu, rfl, hcu, hccu, _⟩ := own_slice hownu
        have SBu := sameBytes_any Au Ax _ cu _ cx _ _ (sc false).1 (sc false).1 wu (Reads.of_own hownu) ((Reads.of_own Rxd.out).below hbu) (by unfold maxLen; omega) (by unfold maxLen; omega)
        rw [show decide ((sc false).1 = (sc false).1) = true by simp] at SBu
        have SCu := Lib.hid SBu
        have Hu := Lib.hid (Hd.out.below hbu)
        have HBu : Hid (Below w.heap.size w wu) := HBd.out.trans (hbu.mono Hd.out.base_le)
        have Ryu := Lib.hid (own_below Ryd.out hbu)
        clear SBu hownu hbu HBBu
        go_wp2_with fail
        go_must (refine SCu.out.mono ?_)
        rintro e w30 ⟨rfl, qu, rfl⟩
        have Huz := Lib.hid (Hu.out.below (below_drewN (Below.refl _ _) qu))
        have HBuz := Lib.hid (below_drewN HBu.out qu)
        have Ryuz := Lib.hid (own_below Ryu.out (below_drewN (Below.refl wu.heap.size wu) qu))
        generalize wu.drewN qu = wuz at *
        go_wp2_with fail
        obtain ⟨Sv, hdv⟩ := Huz.out.bytes
        have Bv : Calls Try.prog 23 #[.pointer (some ⟨gd, 0, none⟩), .int .i64 1] wuz fun e w' => ∃ v, e = .returned v ∧ w'.ownsRow wuz.heap.size 5 1 v ((sc.crash 0) true).1.length (((sc.crash 0) true).1.map bval) ∧ Below wuz.heap.size wuz w' := bytesI w.heap.size gd 1000 Sv (sc.crash 0) 1 wuz hdv
        rw [HW1.out] at Bv
        have HBBv := Lib.hid Bv
        clear hdv Bv
        go_must (refine HBBv.out.mono ?_)
        rintro e wv ⟨rv, rfl, hownv, hbv⟩
        obtain ⟨Av, cv, rfl, hcv, hccv, _⟩ := own_slice hownv
        have SBv := sameBytes_any Av Ay _ cv _ cy _ _ (sc true).1 (sc true).1 wv (Reads.of_own hownv) ((Reads.of_own Ryuz.out).below hbv) (by unfold maxLen; omega) (by unfold maxLen; omega)
        rw [show decide ((sc true).1 = (sc true).1) = true by simp] at SBv
        have SCv := Lib.hid SBv
        have Hv := Lib.hid (Huz.out.below hbv)
        have HBv : Hid (Below w.heap.size w wv) := HBuz.out.trans (hbv.mono Huz.out.base_le)
        clear SBv hownv hbv HBBv
        go_wp2_with fail
        go_must (refine SCv.out.mono ?_)
        rintro e w30 ⟨rfl, qv, rfl⟩
        have Hvz := Lib.hid (Hv.out.below (below_drewN (Below.refl _ _) qv))
        have HBvz := Lib.hid (below_drewN HBv.out qv)
        generalize wv.drewN qv = wvz at *
        go_wp2_with fail
        go_must (refine (CK.out _).mono ?_)
        rintro e w9 ⟨rfl, hb⟩
        go_wp2_with fail
        go_ret
        exact ⟨rfl, HBvz.out.trans (hb.mono Hvz.out.base_le)⟩

end Go.Proofs.Ytaccefkjdggcaaa
