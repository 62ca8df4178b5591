/-
  DiskPlays: the walk.
-/
import Derived.Test.YtaccefkjdggcaaaDiskKnown
import Derived.Test.YtaccefkjdggcaaaActs
import Derived.Test.YtaccefkjdggcaaaPick
import Derived.Deep.RegionHeld3
namespace Go.Proofs.Ytaccefkjdggcaaa
set_option linter.unusedVariables false
set_option linter.unusedSimpArgs false
open Go.RowKit
theorem Two.other {r1 r2 : Bool} {X : Nat → Prop} {w w' : World} {base g1 g2 N : Nat} {s1 s2 : DSt} (h : Two r1 r2 X w base g1 g2 N s1 s2) (ho : Only X w w') : Two r1 r2 X w' base g1 g2 N s1 s2 := by
  obtain ⟨S, T, hd, hm, hst, hx, hb⟩ := h
  exact ⟨S, T, hd.keep ho (fun i hs hxi => (hx i hxi).1 hs), hm.keep ho (fun i hs hxi => (hx i hxi).2.1 hs), hst, fun i hi => ⟨(hx i hi).1, (hx i hi).2.1, Nat.lt_of_lt_of_le (hx i hi).2.2 ho.size⟩, Nat.le_trans hb ho.size⟩
theorem Two.less {r1 r2 : Bool} {X : Nat → Prop} {w : World} {base g1 g2 N : Nat} {s1 s2 : DSt} (h : Two r1 r2 X w base g1 g2 N s1 s2) : Two r1 r2 noX w base g1 g2 N s1 s2 := by
  obtain ⟨S, T, hd, hm, hst, hx, hb⟩ := h
  exact ⟨S, T, hd, hm, hst, fun i hi => False.elim hi, hb⟩
theorem Blk.rest {w w' : World} {g base : Nat} {t : TypeId} {cs : Array Value} {X : Nat → Prop} (h : Blk w g t cs) (ho : Only (Rest base X) w w') (hx : X g) : Blk w' g t cs := h.only ho fun h => h.2 hx
/-- An act's block: the cells of a copy of it. -/
def actCells (a b c : Int) (x : ActB) : Array Value := #[ival a, ival b, ival c, x.val]
theorem emod6 (k : Int) : k % 6 = 0 ∨ k % 6 = 1 ∨ k % 6 = 2 ∨ k % 6 = 3 ∨ k % 6 = 4 ∨ k % 6 = 5 := by omega
set_option maxRecDepth 100000 in
set_option maxHeartbeats 8000000 in
theorem diskPlays_any (n0 : Int) (A : Option Addr) (n c : Nat) (Z : Nat → Nat → Int) (V : Nat → ActB) (w : World) (hA : Acts w w.heap.size A n Z V) (hnm : n ≤ maxLen) :
    Calls Try.prog 3 #[.int .i64 n0, .slice A n c] w fun e w' => e = .returned (.bool true) ∧ Below w.heap.size w w' := by
  have CK := Lib.hid known_any
  unfold maxLen at hnm
  by_cases hn0 : n0 < 64 ∨ 262144 < n0
  · have C1 := Lib.hid (new_no n0 hn0)
    have C2 := Lib.hid (rnew_no n0 hn0)
    clear hn0
    go_enter Try.func3, Try.ntmps3
    go_wp2_with fail
    go_must (refine (C1.out _).mono ?_)
    rintro e w1 ⟨rfl, rfl⟩
    go_wp2_with fail
    go_must (refine (C2.out _).mono ?_)
    rintro e w1 ⟨rfl, rfl⟩
    go_wp2_with fail
    go_must (refine (CK.out _).mono ?_)
    rintro e w1 ⟨rfl, hb⟩
    go_wp2_with fail
    go_ret
    exact ⟨rfl, hb⟩
  · obtain ⟨N, rfl⟩ : ∃ N : Nat, n0 = N := ⟨n0.toNat, by omega⟩
    have C1 := Lib.hid (new_any N (by omega) (by omega))
    have C2 := Lib.hid (rnew_any N (by omega) (by omega))
    have HA := Lib.hid hA
    clear hn0 hA
    go_enter Try.func3, Try.ntmps3
    go_wp2_with fail
    go_must (refine (C1.out _).mono ?_)
    rintro e w1 ⟨gd, rfl, hgd, hb1, hsz1, hd1⟩
    have H1 : Hid (One false noX w1 w.heap.size gd N DSt.new) := One.fresh (hd1 _ (Nat.le_refl _)) hb1.size
    have HB1 := Lib.hid hb1
    clear hd1 hsz1 hb1 hgd
    go_wp2_with fail
    go_must (refine (C2.out _).mono ?_)
    rintro e w2 ⟨gm, rfl, hgm, hb2, hsz2, hd2⟩
    have H2 : Hid (Two false true noX w2 w.heap.size gd gm N DSt.new DSt.new) := H1.out.two hb2 (hd2 _ H1.out.base_le) (Nat.le_of_eq hgm.symm)
    have HB2 : Hid (Below w.heap.size w w2) := HB1.out.trans (hb2.mono H1.out.base_le)
    clear hd2 hsz2 hb2 hgm HB1 H1
    go_wp2_with fail
    go_loopw [9] (fun i wr => ∃ (k : Nat) (st : DSt), k ≤ n ∧ i = .int .i64 k ∧ Two false true noX wr w.heap.size gd gm N st st ∧ Below w.heap.size w wr) (fun i _ => n - (intOf i).toNat)
    case atStart => exact ⟨0, DSt.new, by omega, rfl, H2.out, HB2.out⟩
    case round =>
      obtain ⟨k, st, hk, rfl, h2, hbel⟩ := hrel
      clear H2 HB2
      by_cases hlt : k < n ∧ k < 100
      · obtain ⟨hlt1, hlt2⟩ := hlt
        obtain ⟨ad, rfl, hadb, hc, hv, hmc, hcm, hrd⟩ := (HA.out.below hbel) k hlt1
        have z0 : wr.cell? (ad.add (k * 4)) = some (ival (Z k 0)) := by simpa using (hc 0 (by omega)).1
        have z1 : wr.cell? { block := (ad.add (k * 4)).block, off := (ad.add (k * 4)).off + 1 } = some (ival (Z k 1)) := by have := (hc 1 (by omega)).1; rw [← Go.Deep.add_add] at this; exact this
        have z2 : wr.cell? { block := (ad.add (k * 4)).block, off := (ad.add (k * 4)).off + 2 } = some (ival (Z k 2)) := by have := (hc 2 (by omega)).1; rw [← Go.Deep.add_add] at this; exact this
        have z3 : wr.cell? { block := (ad.add (k * 4)).block, off := (ad.add (k * 4)).off + 3 } = some (.slice (V k).A (V k).m (V k).c) := by have := hv; rw [← Go.Deep.add_add] at this; exact this
        have hb0 := (hc 0 (by omega)).2
        have HRD := Lib.hid hrd
        have HBEL := Lib.hid hbel
        have PK := Lib.hid (fun W => pick_any (Z k 0) 6 W (by omega) (by omega) hb0.1 hb0.2)
        clear hc hv hrd hb0
        generalize Z k 0 = kd at *
        generalize Z k 1 = ar at *
        generalize Z k 2 = nn at *
        generalize V k = x at *
        obtain ⟨Ab, m, cb, bs⟩ := x
        dsimp only at *
        have hal : Below wr.heap.size wr (wr.alloc (.cells #[ival kd, ival ar, ival nn, .slice Ab m cb] 33)) := (Below.refl _ _).alloc (Nat.le_refl _) _
        have h3 : Two false true (fun i => i = wr.heap.size) (wr.alloc (.cells #[ival kd, ival ar, ival nn, .slice Ab m cb] 33)) w.heap.size gd gm N st st := h2.more hal (fun i hi => .inr (by subst hi; exact ⟨Nat.le_refl _, by simp⟩))
        have K3 := Lib.hid (Blk.new wr 33 #[ival kd, ival ar, ival nn, .slice Ab m cb])
        have HB3 : Hid (Below w.heap.size w (wr.alloc (.cells #[ival kd, ival ar, ival nn, .slice Ab m cb] 33))) := hbel.trans (hal.mono hbel.size)
        have H3 := Lib.hid h3
        have HRD3 := Lib.hid (HRD.out.below (hal.mono hbel.size))
        have hkn : (k : Int) < (n : Int) := by omega
        have hk100 : (k : Int) < 100 := by omega
        clear h3 hal h2 hbel
        by_cases hbig : 4096 < m
        · have hbig' : (4096 : Int) < (m : Int) := by omega
          go_wp2_with fail
          go_must (refine (CK.out _).mono ?_)
          rintro e w4 ⟨rfl, hb⟩
          go_wp2_with fail
          go_ret
          exact ⟨rfl, HB3.out.trans (hb.mono H3.out.base_le)⟩
        have hbig' : decide ((4096 : Int) < (m : Int)) = false := by simp; omega
        have hm4 : m ≤ 4096 := by omega
        clear hbig
        have hq6 := emod6 kd
        go_wp2_with fail
        generalize wr.alloc (.cells #[ival kd, ival ar, ival nn, .slice Ab m cb] 33) = w3 at *
        generalize wr.heap.size = g at *
        have y0 : w3.cell? ⟨g, 0, none⟩ = some (ival kd) := K3.out.cell 0
        have y1 : w3.cell? ⟨g, 1, none⟩ = some (ival ar) := K3.out.cell 1
        have y2 : w3.cell? ⟨g, 2, none⟩ = some (ival nn) := K3.out.cell 2
        have y3 : w3.cell? ⟨g, 3, none⟩ = some (.slice Ab m cb) := K3.out.cell 3
        by_cases hq3 : kd % 6 = 3
        · have hq := hq3
          have PQ : Hid (∀ W, Calls Try.prog 11 #[.int .i64 kd, .int .i64 6] W fun e w' => e = .returned (.int .i64 3) ∧ W = w') := fun W => by have := PK.out W; rwa [hq] at this
          have A1 := Lib.hid (H3.out.left (fun S hd hb => syncI w.heap.size gd N S st ar w3 hd hb))
          clear hq PK hq6
          try clear hq3
          try clear hq4
          try clear hq5
          go_must (refine (PQ.out _).mono ?_)
          rintro e w4 ⟨rfl, rfl⟩
          go_wp2_with fail
          go_must (refine A1.out.mono ?_)
          rintro e w5 ⟨rfl, h5, ho5⟩
          have K5 := Lib.hid (K3.out.rest ho5 rfl)
          have HB5 : Hid (Below w.heap.size w w5) := HB3.out.trans (ho5.rest H3.out.base_le)
          have A2 := Lib.hid (h5.right (fun S hd hb => rsyncI w.heap.size gm N S st ar w5 hd hb))
          have H5 := Lib.hid h5
          clear h5 ho5 y0 y1 y2 y3
          have y1 : w5.cell? ⟨g, 1, none⟩ = some (ival ar) := K5.out.cell 1
          have y2 : w5.cell? ⟨g, 2, none⟩ = some (ival nn) := K5.out.cell 2
          go_wp2_with fail
          go_must (refine A2.out.mono ?_)
          rintro e w6 ⟨rfl, h6, ho6⟩
          have HB6 : Hid (Below w.heap.size w w6) := HB5.out.trans (ho6.rest H5.out.base_le)
          obtain ⟨S6, hd6⟩ := h6.ld
          obtain ⟨T6, hm6⟩ := h6.rd
          have A3 := Lib.hid (same_any _ gd _ gm N S6 T6 _ w6 hd6 hm6)
          have H6 := Lib.hid h6
          clear h6 ho6 hd6 hm6 y1 y2
          go_wp2_with fail
          go_must (refine A3.out.mono ?_)
          rintro e w7 ⟨rfl, hb7⟩
          have H7 := Lib.hid (H6.out.below hb7).less
          have HB7 : Hid (Below w.heap.size w w7) := HB6.out.trans (hb7.mono H6.out.base_le)
          clear hb7
          go_wp2_with fail
          go_roundw
          case rel => exact ⟨k + 1, _, by omega, by go_num, H7.out, HB7.out⟩
          case measure => simp [intOf]; omega
        by_cases hq4 : kd % 6 = 4
        · have hq := hq4
          have PQ : Hid (∀ W, Calls Try.prog 11 #[.int .i64 kd, .int .i64 6] W fun e w' => e = .returned (.int .i64 4) ∧ W = w') := fun W => by have := PK.out W; rwa [hq] at this
          have A1 := Lib.hid (H3.out.left (fun S hd hb => cutI w.heap.size gd N S st ar nn w3 hd hb))
          clear hq PK hq6
          try clear hq3
          try clear hq4
          try clear hq5
          go_must (refine (PQ.out _).mono ?_)
          rintro e w4 ⟨rfl, rfl⟩
          go_wp2_with fail
          go_must (refine A1.out.mono ?_)
          rintro e w5 ⟨rfl, h5, ho5⟩
          have K5 := Lib.hid (K3.out.rest ho5 rfl)
          have HB5 : Hid (Below w.heap.size w w5) := HB3.out.trans (ho5.rest H3.out.base_le)
          have A2 := Lib.hid (h5.right (fun S hd hb => rcutI w.heap.size gm N S st ar nn w5 hd hb))
          have H5 := Lib.hid h5
          clear h5 ho5 y0 y1 y2 y3
          have y1 : w5.cell? ⟨g, 1, none⟩ = some (ival ar) := K5.out.cell 1
          have y2 : w5.cell? ⟨g, 2, none⟩ = some (ival nn) := K5.out.cell 2
          go_wp2_with fail
          go_must (refine A2.out.mono ?_)
          rintro e w6 ⟨rfl, h6, ho6⟩
          have HB6 : Hid (Below w.heap.size w w6) := HB5.out.trans (ho6.rest H5.out.base_le)
          obtain ⟨S6, hd6⟩ := h6.ld
          obtain ⟨T6, hm6⟩ := h6.rd
          have A3 := Lib.hid (same_any _ gd _ gm N S6 T6 _ w6 hd6 hm6)
          have H6 := Lib.hid h6
          clear h6 ho6 hd6 hm6 y1 y2
          go_wp2_with fail
          go_must (refine A3.out.mono ?_)
          rintro e w7 ⟨rfl, hb7⟩
          have H7 := Lib.hid (H6.out.below hb7).less
          have HB7 : Hid (Below w.heap.size w w7) := HB6.out.trans (hb7.mono H6.out.base_le)
          clear hb7
          go_wp2_with fail
          go_roundw
          case rel => exact ⟨k + 1, _, by omega, by go_num, H7.out, HB7.out⟩
          case measure => simp [intOf]; omega
        by_cases hq5 : kd % 6 = 5
        · have hq := hq5
          have PQ : Hid (∀ W, Calls Try.prog 11 #[.int .i64 kd, .int .i64 6] W fun e w' => e = .returned (.int .i64 5) ∧ W = w') := fun W => by have := PK.out W; rwa [hq] at this
          have A1 := Lib.hid (H3.out.left (fun S hd hb => crash_any w.heap.size gd N S st nn w3 hd hb))
          clear hq PK hq6
          try clear hq3
          try clear hq4
          try clear hq5
          go_must (refine (PQ.out _).mono ?_)
          rintro e w4 ⟨rfl, rfl⟩
          go_wp2_with fail
          go_must (refine A1.out.mono ?_)
          rintro e w5 ⟨rfl, h5, ho5⟩
          have K5 := Lib.hid (K3.out.rest ho5 rfl)
          have HB5 : Hid (Below w.heap.size w w5) := HB3.out.trans (ho5.rest H3.out.base_le)
          have A2 := Lib.hid (h5.right (fun S hd hb => rcrash_any w.heap.size gm N S st nn w5 hd hb))
          have H5 := Lib.hid h5
          clear h5 ho5 y0 y1 y2 y3
          have y1 : w5.cell? ⟨g, 1, none⟩ = some (ival ar) := K5.out.cell 1
          have y2 : w5.cell? ⟨g, 2, none⟩ = some (ival nn) := K5.out.cell 2
          go_wp2_with fail
          go_must (refine A2.out.mono ?_)
          rintro e w6 ⟨rfl, h6, ho6⟩
          have HB6 : Hid (Below w.heap.size w w6) := HB5.out.trans (ho6.rest H5.out.base_le)
          obtain ⟨S6, hd6⟩ := h6.ld
          obtain ⟨T6, hm6⟩ := h6.rd
          have A3 := Lib.hid (same_any _ gd _ gm N S6 T6 _ w6 hd6 hm6)
          have H6 := Lib.hid h6
          clear h6 ho6 hd6 hm6 y1 y2
          go_wp2_with fail
          go_must (refine A3.out.mono ?_)
          rintro e w7 ⟨rfl, hb7⟩
          have H7 := Lib.hid (H6.out.below hb7).less
          have HB7 : Hid (Below w.heap.size w w7) := HB6.out.trans (hb7.mono H6.out.base_le)
          clear hb7
          go_wp2_with fail
          go_roundw
          case rel => exact ⟨k + 1, _, by omega, by go_num, H7.out, HB7.out⟩
          case measure => simp [intOf]; omega
        have t3 : (kd % 6 == 3) = false := by simpa using hq3
        have t4 : (kd % 6 == 4) = false := by simpa using hq4
        have t5 : (kd % 6 == 5) = false := by simpa using hq5
        have CB := Lib.hid (copyBytes_any Ab m cb w.heap.size bs w3 HRD3.out H3.out.base_le (by omega))
        clear hq3 hq4 hq5 hq6
        go_must (refine (PK.out _).mono ?_)
        rintro e w4 ⟨rfl, rfl⟩
        generalize kd % 6 = q6 at *
        go_wp2_with fail
        go_must (refine CB.out.mono ?_)
        rintro e w4 ⟨vi, rfl, howni, hbi⟩
        obtain ⟨Ai, ci, rfl, hci, hci', _⟩ := own_slice howni
        have h4 : Two false true (fun i => i = g ∨ (Value.slice Ai m ci).ownBlock = some i) w4.drew w.heap.size gd gm N st st := H3.out.more hbi.drew (fun i hi => by
          rcases hi with h | h
          · exact .inl h
          · exact .inr (howni.lt i h))
        have K4 := Lib.hid (K3.out.below hbi K3.out.lt).drew
        have HB4 : Hid (Below w.heap.size w w4.drew) := HB3.out.trans (hbi.drew.mono H3.out.base_le)
        have HRD4 : Hid (Reads w4.drew w.heap.size 1 Ab m (bs.map bval)) := (HRD3.out.below (hbi.mono H3.out.base_le)).drew
        have HOI : Hid (w4.drew.ownsRow w3.heap.size 5 1 (.slice Ai m ci) m (bs.map bval)) := own_only (S := fun _ => False) howni ((Only.refl _ w4).drew) (fun _ _ h => h)
        have hmx : m ≤ maxLen := by unfold maxLen; omega
        have HBI := Lib.hid (Nat.le_trans H3.out.base_le hbi.size)
        have A1 := Lib.hid (h4.left (fun S hd hb => writeI w.heap.size gd N S st ar Ai m ci _ bs w4.drew hd hb (Reads.of_own HOI.out) hmx))
        have H4 := Lib.hid h4
        have HMX := Lib.hid hmx
        have HSZ3 := Lib.hid H3.out.base_le
        have RW : Hid (∀ w5, Two false true (fun i => i = g ∨ (Value.slice Ai m ci).ownBlock = some i) w5 w.heap.size gd gm N (st.writeI N ar bs) st → Only (Rest w.heap.size (fun i => i = g ∨ (Value.slice Ai m ci).ownBlock = some i)) w4.drew w5 → Calls Try.prog 20 #[.pointer (some ⟨gm, 0, none⟩), .int .i64 ar, .slice Ab m cb] w5 fun e w' => e = .returned (.int .i64 (wroteI N st ar bs)) ∧ Two false true (fun i => i = g ∨ (Value.slice Ai m ci).ownBlock = some i) w' w.heap.size gd gm N (st.writeI N ar bs) (st.writeI N ar bs) ∧ Only (Rest w.heap.size (fun i => i = g ∨ (Value.slice Ai m ci).ownBlock = some i)) w5 w') := fun w5 h5 ho5 =>
          h5.right (fun S hd hb => rwriteI w.heap.size gm N S st ar Ab m cb w.heap.size bs w5 hd hb (HRD4.out.below (ho5.rest H4.out.base_le)) HMX.out)
        generalize wroteI N st ar bs = V1 at *
        have hVV : (V1 == V1) = true := by simp
        clear h4 hmx howni hbi y0 y1 y2 y3 CB
        have y1 : w4.cell? ⟨g, 1, none⟩ = some (ival ar) := K4.out.cell 1
        have y3 : w4.cell? ⟨g, 3, none⟩ = some (.slice Ab m cb) := K4.out.cell 3
        go_wp2_with fail
        go_region_held3 (fun w' => w'.cell? ⟨g, 1, none⟩ = some (ival ar) ∧ w'.cell? ⟨g, 3, none⟩ = some (.slice Ab m cb)) (first | go_keep | (have K5 := K4.out.rest ho5 (.inl rfl); exact ⟨K5.cell 1, K5.cell 3⟩) | (have K6 := (K4.out.rest ho5 (.inl rfl)).rest ho6 (.inl rfl); exact ⟨K6.cell 1, K6.cell 3⟩)) ((first | (go_at_call 19; refine A1.out.mono ?_; rintro e w5 ⟨rfl, h5, ho5⟩) | (go_at_call 20; refine (RW.out w5 h5 ho5).mono ?_; rintro e w6 ⟨rfl, h6, ho6⟩)))
        have HB5 : Hid (Below w.heap.size w w5) := HB4.out.trans (ho5.rest H4.out.base_le)
        have HB6 : Hid (Below w.heap.size w w6) := HB5.out.trans (ho6.rest h5.base_le)
        have HO6 : Hid (w6.ownsRow w3.heap.size 5 1 (.slice Ai m ci) m (bs.map bval)) := own_only (own_only HOI.out ho5 (fun i hi h => h.2 (.inr hi))) ho6 (fun i hi h => h.2 (.inr hi))
        have C6 := Lib.hid (spoilBytes_any Ai m ci w3.heap.size _ w6 HO6.out (by omega))
        have H6 := Lib.hid h6
        clear h5 ho5 h6 ho6 y1 y3 A1 RW
        go_wp2_with fail
        go_must (refine C6.out.mono ?_)
        rintro e w7 ⟨rfl, hb7, hg7⟩
        have H7 := Lib.hid (H6.out.other ((Only.refl _ w6).grown hg7 (fun i hi => .inl (.inr hi))))
        have HB7 : Hid (Below w.heap.size w w7) := HB6.out.trans (hb7.mono HSZ3.out)
        obtain ⟨S7, hd7⟩ := H7.out.ld
        obtain ⟨T7, hm7⟩ := H7.out.rd
        have A3 := Lib.hid (same_any _ gd _ gm N S7 T7 _ w7 hd7 hm7)
        clear hb7 hg7 hd7 hm7 C6
        go_wp2_with fail
        go_must (refine A3.out.mono ?_)
        rintro e w8 ⟨rfl, hb8⟩
        have H8 := Lib.hid (H7.out.below hb8).less
        have HB8 : Hid (Below w.heap.size w w8) := HB7.out.trans (hb8.mono H7.out.base_le)
        clear hb8
        go_wp2_with fail
        go_roundw
        case rel => exact ⟨k + 1, _, by omega, by go_num, H8.out, HB8.out⟩
        case measure => simp [intOf]; omega
      · have H2 := Lib.hid h2
        have HB := Lib.hid hbel
        have hd : n ≤ k ∨ (k < n ∧ 100 ≤ k) := by omega
        clear h2 hbel hlt
        rcases hd with hd | ⟨hd, hd2⟩
        · obtain rfl : k = n := by omega
          clear hd
          go_wp2_with fail
          go_must (refine (CK.out _).mono ?_)
          rintro e w4 ⟨rfl, hb⟩
          go_wp2_with fail
          go_ret
          exact ⟨rfl, HB.out.trans (hb.mono H2.out.base_le)⟩
        · have hkn : (k : Int) < (n : Int) := by omega
          have hk100 : decide ((k : Int) < 100) = false := by simp; omega
          clear hd2
          go_wp2_with fail
          go_must (refine (CK.out _).mono ?_)
          rintro e w4 ⟨rfl, hb⟩
          go_wp2_with fail
          go_ret
          exact ⟨rfl, HB.out.trans (hb.mono H2.out.base_le)⟩
end Go.Proofs.Ytaccefkjdggcaaa
