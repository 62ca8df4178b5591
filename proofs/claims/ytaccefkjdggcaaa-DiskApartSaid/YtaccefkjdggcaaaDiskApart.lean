/-
  DiskApart: the walk.
-/
import Derived.Test.YtaccefkjdggcaaaDiskActsFn
namespace Go.Proofs.Ytaccefkjdggcaaa
set_option linter.unusedVariables false
set_option linter.unusedSimpArgs false
open Go.RowKit
theorem Two.less' {r1 r2 : Bool} {X : Nat → Prop} {w : World} {base g1 g2 N : Nat} {s1 s2 : DSt} (h : Two r1 r2 X w base g1 g2 N s1 s2) : Two r1 r2 noX w base g1 g2 N s1 s2 := h.less
theorem other_kept (N : Nat) (Z : Nat → Nat → Int) (V : Nat → ActB) (k : Nat) : (stB N Z V (k + 1)).bytesI (1 - Z k 1 % 2) = (stB N Z V k).bytesI (1 - Z k 1 % 2) := by
  rcases (by omega : Z k 1 % 2 = 0 ∨ Z k 1 % 2 = 1) with h | h
  · rw [h]
    show ((stB N Z V (k + 1)) true).1 = ((stB N Z V k) true).1
    unfold stB
    simp only [runC]
    rw [if_neg (by unfold areaOf; simp [h])]
  · rw [h]
    show ((stB N Z V (k + 1)) false).1 = ((stB N Z V k) false).1
    unfold stB
    simp only [runC]
    rw [if_neg (by unfold areaOf; simp [h])]
set_option maxRecDepth 100000 in
set_option maxHeartbeats 8000000 in
theorem diskApart_any (A : Option Addr) (n c : Nat) (Z : Nat → Nat → Int) (V : Nat → ActB) (w : World) (hA : Acts w w.heap.size A n Z V) (hnm : n ≤ maxLen) :
    Calls Try.prog 7 #[.slice A n c] w fun e w' => e = .returned (.bool true) ∧ Below w.heap.size w w' := by
  have CK := Lib.hid known_any
  unfold maxLen at hnm
  have C1 := Lib.hid (new_any 500 (by omega) (by omega))
  have HA := Lib.hid hA
  clear hA
  obtain ⟨K, hK⟩ : ∃ K : Nat, K = min n 50 := ⟨_, rfl⟩
  have hK1 : K ≤ n := by omega
  have hK2 : K ≤ 50 := by omega
  have HK : Hid (∀ k, k < K ↔ (k < n ∧ k < 50)) := fun k => by omega
  clear hK
  go_enter Try.func7, Try.ntmps7
  go_wp2_with fail
  go_must (refine (C1.out _).mono ?_)
  rintro e w1 ⟨ga, rfl, hga, hb1, hsz1, hd1⟩
  have H1 : Hid (One false noX w1 w.heap.size ga 500 DSt.new) := One.fresh (hd1 _ (Nat.le_refl _)) hb1.size
  have HB1 := Lib.hid hb1
  clear hd1 hsz1 hb1 hga
  go_wp2_with fail
  go_must (refine (C1.out _).mono ?_)
  rintro e w2 ⟨gb, rfl, hgb, hb2, hsz2, hd2⟩
  have H2 : Hid (Two false false noX w2 w.heap.size ga gb 500 DSt.new DSt.new) := H1.out.two hb2 (hd2 _ H1.out.base_le) (Nat.le_of_eq hgb.symm)
  have HB2 : Hid (Below w.heap.size w w2) := HB1.out.trans (hb2.mono H1.out.base_le)
  clear hd2 hsz2 hb2 hgb HB1 H1
  go_wp2_with fail
  go_loopw [7] (fun i wr => ∃ p : Nat, p ≤ 2 ∧ i = .int .i64 p ∧ Two false false noX wr w.heap.size ga gb 500 (stA 500 K Z V p 0) DSt.new ∧ Below w.heap.size w wr) (fun i _ => 2 - (intOf i).toNat)
  case atStart => exact ⟨0, by omega, rfl, by rw [stA_zero]; exact H2.out, HB2.out⟩
  case round =>
    obtain ⟨p, hp, rfl, h2, hbel⟩ := hrel
    have HT := Lib.hid h2
    have HB := Lib.hid hbel
    clear H2 HB2 h2 hbel
    obtain ⟨wo, rfl⟩ : ∃ wo : World, wo = wr := ⟨_, rfl⟩
    by_cases hp2 : p < 2
    · have hp2' : (p : Int) < 2 := by omega
      go_wp2_with fail
      go_loopw [8] (fun i wr => ∃ k : Nat, k ≤ K ∧ i = .int .i64 k ∧ Two false false noX wr w.heap.size ga gb 500 (stA 500 K Z V p k) DSt.new ∧ Below w.heap.size w wr) (fun i _ => K - (intOf i).toNat)
      case atStart => exact ⟨0, by omega, rfl, HT.out, HB.out⟩
      case round =>
        obtain ⟨k, hk, rfl, h3, hbel3⟩ := hrel
        have HT3 := Lib.hid h3
        have HB3 := Lib.hid hbel3
        clear h3 hbel3 HT HB
        by_cases hkK : k < K
        · have hkn : k < n := ((HK.out k).1 hkK).1
          have hk50 : k < 50 := ((HK.out k).1 hkK).2
          obtain ⟨ad, rfl, hadb, hc, hv, hmc, hcm, hrd⟩ := (HA.out.below HB3.out) k hkn
          have z0 : wr.cell? (ad.add (k * 4)) = some (ival (Z k 0)) := by simpa using (hc 0 (by omega)).1
          have z1 : wr.cell? { block := (ad.add (k * 4)).block, off := (ad.add (k * 4)).off + 1 } = some (ival (Z k 1)) := by have := (hc 1 (by omega)).1; rw [← Go.Deep.add_add] at this; exact this
          have z2 : wr.cell? { block := (ad.add (k * 4)).block, off := (ad.add (k * 4)).off + 2 } = some (ival (Z k 2)) := by have := (hc 2 (by omega)).1; rw [← Go.Deep.add_add] at this; exact this
          have z3 : wr.cell? { block := (ad.add (k * 4)).block, off := (ad.add (k * 4)).off + 3 } = some (.slice (V k).A (V k).m (V k).c) := by have := hv; rw [← Go.Deep.add_add] at this; exact this
          have b0 := (hc 0 (by omega)).2
          have b1 := (hc 1 (by omega)).2
          have PK := Lib.hid (fun W => pick_any (Z k 1) 2 W (by omega) (by omega) b1.1 b1.2)
          have HRD := Lib.hid hrd
          have HY : Hid (Z k 1 % 2 = (p : Int) → (stA 500 K Z V p k).actI 500 (p : Int) (Z k 0) (Z k 2) (V k).bs = stA 500 K Z V p (k + 1)) := stA_yes 500 K Z V p k (by omega)
          have HN : Hid (¬ Z k 1 % 2 = (p : Int) → stA 500 K Z V p k = stA 500 K Z V p (k + 1)) := stA_no 500 K Z V p k
          have AC : Hid (∀ S, DAt false wr w.heap.size ga 500 S (stA 500 K Z V p k) → w.heap.size ≤ wr.heap.size → Calls Try.prog 27 #[.pointer (some ⟨ga, 0, none⟩), .int .i64 (p : Int), .agg #[ival (Z k 0), ival (Z k 1), ival (Z k 2), .slice (V k).A (V k).m (V k).c]] wr (DPost false w.heap.size ga 500 S wr (.tuple #[]) ((stA 500 K Z V p k).actI 500 (p : Int) (Z k 0) (Z k 2) (V k).bs))) := fun S hd hb =>
            acts_any w.heap.size ga 500 S _ (p : Int) (Z k 0) (Z k 1) (Z k 2) (V k).A (V k).m (V k).c w.heap.size (V k).bs wr hd hb hrd hb (Nat.le_trans hmc hcm) b0.1 b0.2
          clear hc hv hrd b0 b1
          generalize (stA 500 K Z V p k).actI 500 (p : Int) (Z k 0) (Z k 2) (V k).bs = stn at *
          generalize stA 500 K Z V p k = st at *
          generalize Z k 0 = kd at *
          generalize Z k 1 = ar at *
          generalize Z k 2 = nn at *
          generalize V k = x at *
          obtain ⟨Ab, m, cb, bs⟩ := x
          dsimp only at *
          have hkn' : (k : Int) < (n : Int) := by omega
          have hk50' : (k : Int) < 50 := by omega
          by_cases hbig : 4096 < m
          · have hbig' : (4096 : Int) < (m : Int) := by omega
            go_wp2_with fail
            go_must (refine (CK.out _).mono ?_)
            rintro e w4 ⟨rfl, hb⟩
            go_wp2_with fail
            go_ret
            exact ⟨rfl, HB3.out.trans (hb.mono HT3.out.base_le)⟩
          have hbig' : decide ((4096 : Int) < (m : Int)) = false := by simp; omega
          clear hbig
          by_cases hy : ar % 2 = (p : Int)
          · have hyb : (ar % 2 == (p : Int)) = true := by simpa using hy
            have A1 := HT3.out.left AC.out
            rw [HY.out hy] at A1
            have HA1 := Lib.hid A1
            clear A1 hy HN HY
            go_wp2_with fail
            go_must (refine (PK.out _).mono ?_)
            rintro e w4 ⟨rfl, rfl⟩
            go_wp2_with fail
            go_must (refine HA1.out.mono ?_)
            rintro e w5 ⟨rfl, h5, ho5⟩
            have HT5 := Lib.hid h5
            have HB5 : Hid (Below w.heap.size w w5) := HB3.out.trans (ho5.rest HT3.out.base_le)
            clear h5 ho5 z0 z1 z2 z3
            go_wp2_with fail
            go_roundw
            case rel => exact ⟨k + 1, by omega, by go_num, HT5.out, HB5.out⟩
            case measure => simp [intOf]; omega
          · have hyb : (ar % 2 == (p : Int)) = false := by simpa using hy
            have HT5 : Hid (Two false false noX wr w.heap.size ga gb 500 (stA 500 K Z V p (k + 1)) DSt.new) := by
              have := HT3.out; rw [HN.out hy] at this; exact this
            clear hy HN HY
            go_wp2_with fail
            go_must (refine (PK.out _).mono ?_)
            rintro e w4 ⟨rfl, rfl⟩
            clear z0 z1 z2 z3
            go_wp2_with fail
            go_roundw
            case rel => exact ⟨k + 1, by omega, by go_num, HT5.out, HB3.out⟩
            case measure => simp [intOf]; omega
        · obtain rfl : k = K := by omega
          have HT4 : Hid (Two false false noX wr w.heap.size ga gb 500 (stA 500 k Z V (p + 1) 0) DSt.new) := by rw [← stA_next]; exact HT3.out
          have hd : n ≤ k ∨ (k < n ∧ 50 ≤ k) := by have := HK.out k; omega
          rcases hd with hd | ⟨hd, hd2⟩
          · obtain rfl : k = n := by omega
            clear hd
            go_wp2_with fail
            go_roundw
            case rel => exact ⟨p + 1, by omega, by go_num, HT4.out, HB3.out⟩
            case measure => simp [intOf]; omega
          · have hkn : (k : Int) < (n : Int) := by omega
            have hk50 : decide ((k : Int) < 50) = false := by simp; omega
            clear hd2
            go_wp2_with fail
            go_roundw
            case rel => exact ⟨p + 1, by omega, by go_num, HT4.out, HB3.out⟩
            case measure => simp [intOf]; omega
    · obtain rfl : p = 2 := by omega
      have HT0 : Hid (Two false false noX wo w.heap.size ga gb 500 (stB 500 Z V K) (stB 500 Z V 0)) := by rw [stB_zero, ← stA_end 500 K Z V]; exact HT.out
      clear HT hp hp2
      rw [show ((2 : Nat) : Int) = 2 from rfl]
      go_wp2_with fail
      go_loopw [9] (fun i wr => ∃ k : Nat, k ≤ K ∧ i = .int .i64 k ∧ Two false false noX wr w.heap.size ga gb 500 (stB 500 Z V K) (stB 500 Z V k) ∧ Below w.heap.size w wr) (fun i _ => K - (intOf i).toNat)
      case atStart => exact ⟨0, by omega, rfl, HT0.out, HB.out⟩
      case round =>
        obtain ⟨k, hk, rfl, h3, hbel3⟩ := hrel
        have HT3 := Lib.hid h3
        have HB3 := Lib.hid hbel3
        clear h3 hbel3 HT0 HB
        by_cases hkK : k < K
        · have hkn : k < n := ((HK.out k).1 hkK).1
          have hk50 : k < 50 := ((HK.out k).1 hkK).2
          obtain ⟨ad, rfl, hadb, hc, hv, hmc, hcm, hrd⟩ := (HA.out.below HB3.out) k hkn
          have z1 : wr.cell? { block := (ad.add (k * 4)).block, off := (ad.add (k * 4)).off + 1 } = some (ival (Z k 1)) := by have := (hc 1 (by omega)).1; rw [← Go.Deep.add_add] at this; exact this
          have b0 := (hc 0 (by omega)).2
          have b1 := (hc 1 (by omega)).2
          have PK := Lib.hid (fun W => pick_any (Z k 1) 2 W (by omega) (by omega) b1.1 b1.2)
          have HAC : Hid (∀ w5, Below w.heap.size w w5 → ∃ z0 z1 z2 z3 : Prop, True) := fun _ _ => ⟨True, True, True, True, trivial⟩
          have HCE : Hid (∀ w5, Below w.heap.size w w5 → w5.cell? (ad.add (k * 4)) = some (ival (Z k 0)) ∧ w5.cell? { block := (ad.add (k * 4)).block, off := (ad.add (k * 4)).off + 1 } = some (ival (Z k 1)) ∧ w5.cell? { block := (ad.add (k * 4)).block, off := (ad.add (k * 4)).off + 2 } = some (ival (Z k 2)) ∧ w5.cell? { block := (ad.add (k * 4)).block, off := (ad.add (k * 4)).off + 3 } = some (.slice (V k).A (V k).m (V k).c)) := fun w5 hb5 => by
            obtain ⟨ad', he, _, hc5, hv5, _⟩ := (HA.out.below hb5) k hkn
            injection he with he
            subst he
            refine ⟨by simpa using (hc5 0 (by omega)).1, ?_, ?_, ?_⟩
            · have := (hc5 1 (by omega)).1; rw [← Go.Deep.add_add] at this; exact this
            · have := (hc5 2 (by omega)).1; rw [← Go.Deep.add_add] at this; exact this
            · have := hv5; rw [← Go.Deep.add_add] at this; exact this
          have AC : Hid (∀ w5, Below w.heap.size w w5 → ∀ S, DAt false w5 w.heap.size gb 500 S (stB 500 Z V k) → w.heap.size ≤ w5.heap.size → Calls Try.prog 27 #[.pointer (some ⟨gb, 0, none⟩), .int .i64 (Z k 1 % 2), .agg #[ival (Z k 0), ival (Z k 1), ival (Z k 2), .slice (V k).A (V k).m (V k).c]] w5 (DPost false w.heap.size gb 500 S w5 (.tuple #[]) (stB 500 Z V (k + 1)))) := fun w5 hb5 S hd hb => by
            have hr5 := ((HA.out.below hb5) k hkn)
            obtain ⟨_, _, _, _, _, _, _, hr5⟩ := hr5
            have := acts_any w.heap.size gb 500 S (stB 500 Z V k) (Z k 1 % 2) (Z k 0) (Z k 1) (Z k 2) (V k).A (V k).m (V k).c w.heap.size (V k).bs w5 hd hb hr5 hb (Nat.le_trans hmc hcm) b0.1 b0.2
            rwa [stB_step] at this
          have HOK := Lib.hid (other_kept 500 Z V k)
          have ha0 : 0 ≤ Z k 1 % 2 := by omega
          have ha1 : Z k 1 % 2 ≤ 1 := by omega
          clear hc hv hrd b0 b1 HAC
          generalize hstn : stB 500 Z V (k + 1) = stn at *
          have HSTN := Lib.hid hstn
          clear hstn
          generalize stB 500 Z V k = st at *
          generalize Z k 0 = kd at *
          generalize Z k 2 = nn at *
          generalize Z k 1 = ar at *
          generalize ar % 2 = al at *
          generalize V k = x at *
          obtain ⟨Ab, m, cb, bs⟩ := x
          dsimp only at *
          have hkn' : (k : Int) < (n : Int) := by omega
          have hk50' : (k : Int) < 50 := by omega
          go_wp2_with fail
          go_must (refine (PK.out _).mono ?_)
          rintro e w4 ⟨rfl, rfl⟩
          obtain ⟨Sx, hdx⟩ := HT3.out.rd
          have BX := Lib.hid (bytesI w.heap.size gb 500 Sx st (1 - al) wr hdx)
          have HLE := Lib.hid (bytesI_le hdx.ok (1 - al))
          clear hdx
          go_wp2_with fail
          go_must (refine BX.out.mono ?_)
          rintro e w5 ⟨vx, rfl, hownx, hbx⟩
          obtain ⟨Ax, cx, rfl, hcx, hcx', _⟩ := own_slice hownx
          have HT5 : Hid (Two false false (fun i => (Value.slice Ax (st.bytesI (1 - al)).length cx).ownBlock = some i) w5 w.heap.size ga gb 500 (stB 500 Z V K) st) := HT3.out.more hbx (fun i hi => .inr (hownx.lt i hi))
          have HB5 : Hid (Below w.heap.size w w5) := HB3.out.trans (hbx.mono HT3.out.base_le)
          have HOX := Lib.hid hownx
          obtain ⟨y0, y1, y2, y3⟩ := HCE.out w5 HB5.out
          have A6 := Lib.hid (HT5.out.right (AC.out w5 HB5.out))
          clear hownx hbx z1 BX
          go_wp2_with fail
          go_must (refine A6.out.mono ?_)
          rintro e w6 ⟨rfl, h6, ho6⟩
          have HT6 := Lib.hid h6
          have HB6 : Hid (Below w.heap.size w w6) := HB5.out.trans (ho6.rest HT5.out.base_le)
          have HOX6 := Lib.hid (own_only HOX.out ho6 (fun i hi h => h.2 hi))
          obtain ⟨Sy, hdy⟩ := HT6.out.rd
          have BY := bytesI w.heap.size gb 500 Sy stn (1 - al) w6 hdy
          rw [HOK.out] at BY
          have HBY := Lib.hid BY
          clear h6 ho6 y0 y1 y2 y3 A6 hdy BY HOX
          go_wp2_with fail
          go_must (refine HBY.out.mono ?_)
          rintro e w7 ⟨vy, rfl, howny, hby⟩
          obtain ⟨Ay, cy, rfl, hcy, hcy', _⟩ := own_slice howny
          have HT7 := Lib.hid (HT6.out.below hby)
          have HB7 : Hid (Below w.heap.size w w7) := HB6.out.trans (hby.mono HT6.out.base_le)
          have SB := sameBytes_any Ay Ax _ cy _ cx _ _ (st.bytesI (1 - al)) (st.bytesI (1 - al)) w7 (Reads.of_own howny) ((Reads.of_own HOX6.out).below hby) (by have := HLE.out; unfold maxLen; omega) (by have := HLE.out; unfold maxLen; omega)
          rw [show decide (st.bytesI (1 - al) = st.bytesI (1 - al)) = true by simp] at SB
          have SC := Lib.hid SB
          clear SB howny hby HBY HOX6
          go_wp2_with fail
          go_must (refine SC.out.mono ?_)
          rintro e w8 ⟨rfl, q8, rfl⟩
          have HT8 := Lib.hid ((HT7.out.below (below_drewN (Below.refl _ _) q8)).less')
          have HB8 := Lib.hid (below_drewN HB7.out q8)
          go_wp2_with fail
          go_roundw
          case rel => exact ⟨k + 1, by omega, by go_num, by rw [HSTN.out]; exact HT8.out, HB8.out⟩
          case measure => simp [intOf]; omega
        · obtain rfl : k = K := by omega
          generalize stB 500 Z V k = st at *
          have hd : n ≤ k ∨ (k < n ∧ 50 ≤ k) := by have := HK.out k; omega
          have hcond : Hid (∀ b, b = (decide (k < n) && decide ((k : Int) < 50)) → b = false) := fun b hb => by rw [hb]; simp; omega
          rcases hd with hd | ⟨hd, hd2⟩
          · obtain rfl : k = n := by omega
            clear hd
            go_wp2_with fail

            obtain ⟨S1a, hd1a⟩ := HT3.out.ld
            have B1a := Lib.hid (bytesI w.heap.size ga 500 S1a _ 0 wr hd1a)
            clear hd1a
            go_must (refine B1a.out.mono ?_)
            rintro e x1a ⟨v1a, rfl, hown1a, hb1a⟩
            obtain ⟨A1a, c1a, rfl, hc1a, hcc1a, _⟩ := own_slice hown1a
            have R1a := Lib.hid (Reads.of_own hown1a)
            have HT31a := Lib.hid (HT3.out.below hb1a)
            have HB31a : Hid (Below w.heap.size w x1a) := HB3.out.trans (hb1a.mono HT3.out.base_le)
            have L1a := Lib.hid hb1a
            have ZL1a := bytesI_le (by obtain ⟨_, h⟩ := HT3.out.ld; exact h.ok) 0
            clear hown1a hb1a
            go_wp2_with fail
            obtain ⟨S1b, hd1b⟩ := HT31a.out.rd
            have B1b := Lib.hid (bytesI w.heap.size gb 500 S1b _ 0 x1a hd1b)
            clear hd1b
            go_must (refine B1b.out.mono ?_)
            rintro e x1b ⟨v1b, rfl, hown1b, hb1b⟩
            obtain ⟨A1b, c1b, rfl, hc1b, hcc1b, _⟩ := own_slice hown1b
            have R1b := Lib.hid (Reads.of_own hown1b)
            have HT31a1b := Lib.hid (HT31a.out.below hb1b)
            have HB31a1b : Hid (Below w.heap.size w x1b) := HB31a.out.trans (hb1b.mono HT31a.out.base_le)
            have L1b := Lib.hid hb1b
            have ZL1b := bytesI_le (by obtain ⟨_, h⟩ := HT31a.out.rd; exact h.ok) 0
            clear hown1b hb1b
            go_wp2_with fail
            have SB1 := sameBytes_any A1a A1b _ c1a _ c1b _ _ (DSt.bytesI st 0) (DSt.bytesI st 0) x1b (R1a.out.below L1b.out) R1b.out (by unfold maxLen; omega) (by unfold maxLen; omega)
            rw [show decide (DSt.bytesI st 0 = DSt.bytesI st 0) = true by simp] at SB1
            have SC1 := Lib.hid SB1
            clear SB1
            go_must (refine SC1.out.mono ?_)
            rintro e y1 ⟨rfl, q1, rfl⟩
            have HT1 := Lib.hid (HT31a1b.out.below (below_drewN (Below.refl _ _) q1))
            have HB1 := Lib.hid (below_drewN HB31a1b.out q1)
            generalize x1b.drewN q1 = z1 at *
            clear ZL1a ZL1b SC1 R1a R1b L1a L1b HT31a HT31a1b HB31a HB31a1b B1a B1b
            go_wp2_with fail
            obtain ⟨S2a, hd2a⟩ := HT1.out.ld
            have B2a := Lib.hid (bytesI w.heap.size ga 500 S2a _ 1 z1 hd2a)
            clear hd2a
            go_must (refine B2a.out.mono ?_)
            rintro e x2a ⟨v2a, rfl, hown2a, hb2a⟩
            obtain ⟨A2a, c2a, rfl, hc2a, hcc2a, _⟩ := own_slice hown2a
            have R2a := Lib.hid (Reads.of_own hown2a)
            have HT12a := Lib.hid (HT1.out.below hb2a)
            have HB12a : Hid (Below w.heap.size w x2a) := HB1.out.trans (hb2a.mono HT1.out.base_le)
            have L2a := Lib.hid hb2a
            have ZL2a := bytesI_le (by obtain ⟨_, h⟩ := HT1.out.ld; exact h.ok) 1
            clear hown2a hb2a
            go_wp2_with fail
            obtain ⟨S2b, hd2b⟩ := HT12a.out.rd
            have B2b := Lib.hid (bytesI w.heap.size gb 500 S2b _ 1 x2a hd2b)
            clear hd2b
            go_must (refine B2b.out.mono ?_)
            rintro e x2b ⟨v2b, rfl, hown2b, hb2b⟩
            obtain ⟨A2b, c2b, rfl, hc2b, hcc2b, _⟩ := own_slice hown2b
            have R2b := Lib.hid (Reads.of_own hown2b)
            have HT12a2b := Lib.hid (HT12a.out.below hb2b)
            have HB12a2b : Hid (Below w.heap.size w x2b) := HB12a.out.trans (hb2b.mono HT12a.out.base_le)
            have L2b := Lib.hid hb2b
            have ZL2b := bytesI_le (by obtain ⟨_, h⟩ := HT12a.out.rd; exact h.ok) 1
            clear hown2b hb2b
            go_wp2_with fail
            have SB2 := sameBytes_any A2a A2b _ c2a _ c2b _ _ (DSt.bytesI st 1) (DSt.bytesI st 1) x2b (R2a.out.below L2b.out) R2b.out (by unfold maxLen; omega) (by unfold maxLen; omega)
            rw [show decide (DSt.bytesI st 1 = DSt.bytesI st 1) = true by simp] at SB2
            have SC2 := Lib.hid SB2
            clear SB2
            go_must (refine SC2.out.mono ?_)
            rintro e y2 ⟨rfl, q2, rfl⟩
            have HT2 := Lib.hid (HT12a2b.out.below (below_drewN (Below.refl _ _) q2))
            have HB2 := Lib.hid (below_drewN HB12a2b.out q2)
            generalize x2b.drewN q2 = z2 at *
            clear ZL2a ZL2b SC2 R2a R2b L2a L2b HT12a HT12a2b HB12a HB12a2b B2a B2b
            go_wp2_with fail
            have A5 := Lib.hid (HT2.out.left (fun S hd hb => crash_any w.heap.size ga 500 S st 3 z2 hd hb))
            go_must (refine A5.out.mono ?_)
            rintro e w5 ⟨rfl, h5, ho5⟩
            have HT5 := Lib.hid h5
            have HB5 : Hid (Below w.heap.size w w5) := HB2.out.trans (ho5.rest HT2.out.base_le)
            clear h5 ho5
            have A6 := Lib.hid (HT5.out.right (fun S hd hb => crash_any w.heap.size gb 500 S st 3 w5 hd hb))
            go_wp2_with fail
            go_must (refine A6.out.mono ?_)
            rintro e w6 ⟨rfl, h6, ho6⟩
            have HT6 := Lib.hid h6
            have HB6 : Hid (Below w.heap.size w w6) := HB5.out.trans (ho6.rest HT5.out.base_le)
            clear h6 ho6
            generalize DSt.crash st 3 = sc at *
            go_wp2_with fail
            obtain ⟨S7a, hd7a⟩ := HT6.out.ld
            have B7a := Lib.hid (bytesI w.heap.size ga 500 S7a _ 0 w6 hd7a)
            clear hd7a
            go_must (refine B7a.out.mono ?_)
            rintro e x7a ⟨v7a, rfl, hown7a, hb7a⟩
            obtain ⟨A7a, c7a, rfl, hc7a, hcc7a, _⟩ := own_slice hown7a
            have R7a := Lib.hid (Reads.of_own hown7a)
            have HT67a := Lib.hid (HT6.out.below hb7a)
            have HB67a : Hid (Below w.heap.size w x7a) := HB6.out.trans (hb7a.mono HT6.out.base_le)
            have L7a := Lib.hid hb7a
            have ZL7a := bytesI_le (by obtain ⟨_, h⟩ := HT6.out.ld; exact h.ok) 0
            clear hown7a hb7a
            go_wp2_with fail
            obtain ⟨S7b, hd7b⟩ := HT67a.out.rd
            have B7b := Lib.hid (bytesI w.heap.size gb 500 S7b _ 0 x7a hd7b)
            clear hd7b
            go_must (refine B7b.out.mono ?_)
            rintro e x7b ⟨v7b, rfl, hown7b, hb7b⟩
            obtain ⟨A7b, c7b, rfl, hc7b, hcc7b, _⟩ := own_slice hown7b
            have R7b := Lib.hid (Reads.of_own hown7b)
            have HT67a7b := Lib.hid (HT67a.out.below hb7b)
            have HB67a7b : Hid (Below w.heap.size w x7b) := HB67a.out.trans (hb7b.mono HT67a.out.base_le)
            have L7b := Lib.hid hb7b
            have ZL7b := bytesI_le (by obtain ⟨_, h⟩ := HT67a.out.rd; exact h.ok) 0
            clear hown7b hb7b
            go_wp2_with fail
            have SB7 := sameBytes_any A7a A7b _ c7a _ c7b _ _ (DSt.bytesI sc 0) (DSt.bytesI sc 0) x7b (R7a.out.below L7b.out) R7b.out (by unfold maxLen; omega) (by unfold maxLen; omega)
            rw [show decide (DSt.bytesI sc 0 = DSt.bytesI sc 0) = true by simp] at SB7
            have SC7 := Lib.hid SB7
            clear SB7
            go_must (refine SC7.out.mono ?_)
            rintro e y7 ⟨rfl, q7, rfl⟩
            have HT7 := Lib.hid (HT67a7b.out.below (below_drewN (Below.refl _ _) q7))
            have HB7 := Lib.hid (below_drewN HB67a7b.out q7)
            generalize x7b.drewN q7 = z7 at *
            clear ZL7a ZL7b SC7 R7a R7b L7a L7b HT67a HT67a7b HB67a HB67a7b B7a B7b
            go_wp2_with fail
            obtain ⟨S8a, hd8a⟩ := HT7.out.ld
            have B8a := Lib.hid (bytesI w.heap.size ga 500 S8a _ 1 z7 hd8a)
            clear hd8a
            go_must (refine B8a.out.mono ?_)
            rintro e x8a ⟨v8a, rfl, hown8a, hb8a⟩
            obtain ⟨A8a, c8a, rfl, hc8a, hcc8a, _⟩ := own_slice hown8a
            have R8a := Lib.hid (Reads.of_own hown8a)
            have HT78a := Lib.hid (HT7.out.below hb8a)
            have HB78a : Hid (Below w.heap.size w x8a) := HB7.out.trans (hb8a.mono HT7.out.base_le)
            have L8a := Lib.hid hb8a
            have ZL8a := bytesI_le (by obtain ⟨_, h⟩ := HT7.out.ld; exact h.ok) 1
            clear hown8a hb8a
            go_wp2_with fail
            obtain ⟨S8b, hd8b⟩ := HT78a.out.rd
            have B8b := Lib.hid (bytesI w.heap.size gb 500 S8b _ 1 x8a hd8b)
            clear hd8b
            go_must (refine B8b.out.mono ?_)
            rintro e x8b ⟨v8b, rfl, hown8b, hb8b⟩
            obtain ⟨A8b, c8b, rfl, hc8b, hcc8b, _⟩ := own_slice hown8b
            have R8b := Lib.hid (Reads.of_own hown8b)
            have HT78a8b := Lib.hid (HT78a.out.below hb8b)
            have HB78a8b : Hid (Below w.heap.size w x8b) := HB78a.out.trans (hb8b.mono HT78a.out.base_le)
            have L8b := Lib.hid hb8b
            have ZL8b := bytesI_le (by obtain ⟨_, h⟩ := HT78a.out.rd; exact h.ok) 1
            clear hown8b hb8b
            go_wp2_with fail
            have SB8 := sameBytes_any A8a A8b _ c8a _ c8b _ _ (DSt.bytesI sc 1) (DSt.bytesI sc 1) x8b (R8a.out.below L8b.out) R8b.out (by unfold maxLen; omega) (by unfold maxLen; omega)
            rw [show decide (DSt.bytesI sc 1 = DSt.bytesI sc 1) = true by simp] at SB8
            have SC8 := Lib.hid SB8
            clear SB8
            go_must (refine SC8.out.mono ?_)
            rintro e y8 ⟨rfl, q8, rfl⟩
            have HT8 := Lib.hid (HT78a8b.out.below (below_drewN (Below.refl _ _) q8))
            have HB8 := Lib.hid (below_drewN HB78a8b.out q8)
            generalize x8b.drewN q8 = z8 at *
            clear ZL8a ZL8b SC8 R8a R8b L8a L8b HT78a HT78a8b HB78a HB78a8b B8a B8b
            go_wp2_with fail
            go_must (refine (CK.out _).mono ?_)
            rintro e w9 ⟨rfl, hb⟩
            go_wp2_with fail
            go_ret
            exact ⟨rfl, HB8.out.trans (hb.mono HT8.out.base_le)⟩

          · have hkn : (k : Int) < (n : Int) := by omega
            have hk50 : decide ((k : Int) < 50) = false := by simp; omega
            clear hd2
            go_wp2_with fail

            obtain ⟨S1a, hd1a⟩ := HT3.out.ld
            have B1a := Lib.hid (bytesI w.heap.size ga 500 S1a _ 0 wr hd1a)
            clear hd1a
            go_must (refine B1a.out.mono ?_)
            rintro e x1a ⟨v1a, rfl, hown1a, hb1a⟩
            obtain ⟨A1a, c1a, rfl, hc1a, hcc1a, _⟩ := own_slice hown1a
            have R1a := Lib.hid (Reads.of_own hown1a)
            have HT31a := Lib.hid (HT3.out.below hb1a)
            have HB31a : Hid (Below w.heap.size w x1a) := HB3.out.trans (hb1a.mono HT3.out.base_le)
            have L1a := Lib.hid hb1a
            have ZL1a := bytesI_le (by obtain ⟨_, h⟩ := HT3.out.ld; exact h.ok) 0
            clear hown1a hb1a
            go_wp2_with fail
            obtain ⟨S1b, hd1b⟩ := HT31a.out.rd
            have B1b := Lib.hid (bytesI w.heap.size gb 500 S1b _ 0 x1a hd1b)
            clear hd1b
            go_must (refine B1b.out.mono ?_)
            rintro e x1b ⟨v1b, rfl, hown1b, hb1b⟩
            obtain ⟨A1b, c1b, rfl, hc1b, hcc1b, _⟩ := own_slice hown1b
            have R1b := Lib.hid (Reads.of_own hown1b)
            have HT31a1b := Lib.hid (HT31a.out.below hb1b)
            have HB31a1b : Hid (Below w.heap.size w x1b) := HB31a.out.trans (hb1b.mono HT31a.out.base_le)
            have L1b := Lib.hid hb1b
            have ZL1b := bytesI_le (by obtain ⟨_, h⟩ := HT31a.out.rd; exact h.ok) 0
            clear hown1b hb1b
            go_wp2_with fail
            have SB1 := sameBytes_any A1a A1b _ c1a _ c1b _ _ (DSt.bytesI st 0) (DSt.bytesI st 0) x1b (R1a.out.below L1b.out) R1b.out (by unfold maxLen; omega) (by unfold maxLen; omega)
            rw [show decide (DSt.bytesI st 0 = DSt.bytesI st 0) = true by simp] at SB1
            have SC1 := Lib.hid SB1
            clear SB1
            go_must (refine SC1.out.mono ?_)
            rintro e y1 ⟨rfl, q1, rfl⟩
            have HT1 := Lib.hid (HT31a1b.out.below (below_drewN (Below.refl _ _) q1))
            have HB1 := Lib.hid (below_drewN HB31a1b.out q1)
            generalize x1b.drewN q1 = z1 at *
            clear ZL1a ZL1b SC1 R1a R1b L1a L1b HT31a HT31a1b HB31a HB31a1b B1a B1b
            go_wp2_with fail
            obtain ⟨S2a, hd2a⟩ := HT1.out.ld
            have B2a := Lib.hid (bytesI w.heap.size ga 500 S2a _ 1 z1 hd2a)
            clear hd2a
            go_must (refine B2a.out.mono ?_)
            rintro e x2a ⟨v2a, rfl, hown2a, hb2a⟩
            obtain ⟨A2a, c2a, rfl, hc2a, hcc2a, _⟩ := own_slice hown2a
            have R2a := Lib.hid (Reads.of_own hown2a)
            have HT12a := Lib.hid (HT1.out.below hb2a)
            have HB12a : Hid (Below w.heap.size w x2a) := HB1.out.trans (hb2a.mono HT1.out.base_le)
            have L2a := Lib.hid hb2a
            have ZL2a := bytesI_le (by obtain ⟨_, h⟩ := HT1.out.ld; exact h.ok) 1
            clear hown2a hb2a
            go_wp2_with fail
            obtain ⟨S2b, hd2b⟩ := HT12a.out.rd
            have B2b := Lib.hid (bytesI w.heap.size gb 500 S2b _ 1 x2a hd2b)
            clear hd2b
            go_must (refine B2b.out.mono ?_)
            rintro e x2b ⟨v2b, rfl, hown2b, hb2b⟩
            obtain ⟨A2b, c2b, rfl, hc2b, hcc2b, _⟩ := own_slice hown2b
            have R2b := Lib.hid (Reads.of_own hown2b)
            have HT12a2b := Lib.hid (HT12a.out.below hb2b)
            have HB12a2b : Hid (Below w.heap.size w x2b) := HB12a.out.trans (hb2b.mono HT12a.out.base_le)
            have L2b := Lib.hid hb2b
            have ZL2b := bytesI_le (by obtain ⟨_, h⟩ := HT12a.out.rd; exact h.ok) 1
            clear hown2b hb2b
            go_wp2_with fail
            have SB2 := sameBytes_any A2a A2b _ c2a _ c2b _ _ (DSt.bytesI st 1) (DSt.bytesI st 1) x2b (R2a.out.below L2b.out) R2b.out (by unfold maxLen; omega) (by unfold maxLen; omega)
            rw [show decide (DSt.bytesI st 1 = DSt.bytesI st 1) = true by simp] at SB2
            have SC2 := Lib.hid SB2
            clear SB2
            go_must (refine SC2.out.mono ?_)
            rintro e y2 ⟨rfl, q2, rfl⟩
            have HT2 := Lib.hid (HT12a2b.out.below (below_drewN (Below.refl _ _) q2))
            have HB2 := Lib.hid (below_drewN HB12a2b.out q2)
            generalize x2b.drewN q2 = z2 at *
            clear ZL2a ZL2b SC2 R2a R2b L2a L2b HT12a HT12a2b HB12a HB12a2b B2a B2b
            go_wp2_with fail
            have A5 := Lib.hid (HT2.out.left (fun S hd hb => crash_any w.heap.size ga 500 S st 3 z2 hd hb))
            go_must (refine A5.out.mono ?_)
            rintro e w5 ⟨rfl, h5, ho5⟩
            have HT5 := Lib.hid h5
            have HB5 : Hid (Below w.heap.size w w5) := HB2.out.trans (ho5.rest HT2.out.base_le)
            clear h5 ho5
            have A6 := Lib.hid (HT5.out.right (fun S hd hb => crash_any w.heap.size gb 500 S st 3 w5 hd hb))
            go_wp2_with fail
            go_must (refine A6.out.mono ?_)
            rintro e w6 ⟨rfl, h6, ho6⟩
            have HT6 := Lib.hid h6
            have HB6 : Hid (Below w.heap.size w w6) := HB5.out.trans (ho6.rest HT5.out.base_le)
            clear h6 ho6
            generalize DSt.crash st 3 = sc at *
            go_wp2_with fail
            obtain ⟨S7a, hd7a⟩ := HT6.out.ld
            have B7a := Lib.hid (bytesI w.heap.size ga 500 S7a _ 0 w6 hd7a)
            clear hd7a
            go_must (refine B7a.out.mono ?_)
            rintro e x7a ⟨v7a, rfl, hown7a, hb7a⟩
            obtain ⟨A7a, c7a, rfl, hc7a, hcc7a, _⟩ := own_slice hown7a
            have R7a := Lib.hid (Reads.of_own hown7a)
            have HT67a := Lib.hid (HT6.out.below hb7a)
            have HB67a : Hid (Below w.heap.size w x7a) := HB6.out.trans (hb7a.mono HT6.out.base_le)
            have L7a := Lib.hid hb7a
            have ZL7a := bytesI_le (by obtain ⟨_, h⟩ := HT6.out.ld; exact h.ok) 0
            clear hown7a hb7a
            go_wp2_with fail
            obtain ⟨S7b, hd7b⟩ := HT67a.out.rd
            have B7b := Lib.hid (bytesI w.heap.size gb 500 S7b _ 0 x7a hd7b)
            clear hd7b
            go_must (refine B7b.out.mono ?_)
            rintro e x7b ⟨v7b, rfl, hown7b, hb7b⟩
            obtain ⟨A7b, c7b, rfl, hc7b, hcc7b, _⟩ := own_slice hown7b
            have R7b := Lib.hid (Reads.of_own hown7b)
            have HT67a7b := Lib.hid (HT67a.out.below hb7b)
            have HB67a7b : Hid (Below w.heap.size w x7b) := HB67a.out.trans (hb7b.mono HT67a.out.base_le)
            have L7b := Lib.hid hb7b
            have ZL7b := bytesI_le (by obtain ⟨_, h⟩ := HT67a.out.rd; exact h.ok) 0
            clear hown7b hb7b
            go_wp2_with fail
            have SB7 := sameBytes_any A7a A7b _ c7a _ c7b _ _ (DSt.bytesI sc 0) (DSt.bytesI sc 0) x7b (R7a.out.below L7b.out) R7b.out (by unfold maxLen; omega) (by unfold maxLen; omega)
            rw [show decide (DSt.bytesI sc 0 = DSt.bytesI sc 0) = true by simp] at SB7
            have SC7 := Lib.hid SB7
            clear SB7
            go_must (refine SC7.out.mono ?_)
            rintro e y7 ⟨rfl, q7, rfl⟩
            have HT7 := Lib.hid (HT67a7b.out.below (below_drewN (Below.refl _ _) q7))
            have HB7 := Lib.hid (below_drewN HB67a7b.out q7)
            generalize x7b.drewN q7 = z7 at *
            clear ZL7a ZL7b SC7 R7a R7b L7a L7b HT67a HT67a7b HB67a HB67a7b B7a B7b
            go_wp2_with fail
            obtain ⟨S8a, hd8a⟩ := HT7.out.ld
            have B8a := Lib.hid (bytesI w.heap.size ga 500 S8a _ 1 z7 hd8a)
            clear hd8a
            go_must (refine B8a.out.mono ?_)
            rintro e x8a ⟨v8a, rfl, hown8a, hb8a⟩
            obtain ⟨A8a, c8a, rfl, hc8a, hcc8a, _⟩ := own_slice hown8a
            have R8a := Lib.hid (Reads.of_own hown8a)
            have HT78a := Lib.hid (HT7.out.below hb8a)
            have HB78a : Hid (Below w.heap.size w x8a) := HB7.out.trans (hb8a.mono HT7.out.base_le)
            have L8a := Lib.hid hb8a
            have ZL8a := bytesI_le (by obtain ⟨_, h⟩ := HT7.out.ld; exact h.ok) 1
            clear hown8a hb8a
            go_wp2_with fail
            obtain ⟨S8b, hd8b⟩ := HT78a.out.rd
            have B8b := Lib.hid (bytesI w.heap.size gb 500 S8b _ 1 x8a hd8b)
            clear hd8b
            go_must (refine B8b.out.mono ?_)
            rintro e x8b ⟨v8b, rfl, hown8b, hb8b⟩
            obtain ⟨A8b, c8b, rfl, hc8b, hcc8b, _⟩ := own_slice hown8b
            have R8b := Lib.hid (Reads.of_own hown8b)
            have HT78a8b := Lib.hid (HT78a.out.below hb8b)
            have HB78a8b : Hid (Below w.heap.size w x8b) := HB78a.out.trans (hb8b.mono HT78a.out.base_le)
            have L8b := Lib.hid hb8b
            have ZL8b := bytesI_le (by obtain ⟨_, h⟩ := HT78a.out.rd; exact h.ok) 1
            clear hown8b hb8b
            go_wp2_with fail
            have SB8 := sameBytes_any A8a A8b _ c8a _ c8b _ _ (DSt.bytesI sc 1) (DSt.bytesI sc 1) x8b (R8a.out.below L8b.out) R8b.out (by unfold maxLen; omega) (by unfold maxLen; omega)
            rw [show decide (DSt.bytesI sc 1 = DSt.bytesI sc 1) = true by simp] at SB8
            have SC8 := Lib.hid SB8
            clear SB8
            go_must (refine SC8.out.mono ?_)
            rintro e y8 ⟨rfl, q8, rfl⟩
            have HT8 := Lib.hid (HT78a8b.out.below (below_drewN (Below.refl _ _) q8))
            have HB8 := Lib.hid (below_drewN HB78a8b.out q8)
            generalize x8b.drewN q8 = z8 at *
            clear ZL8a ZL8b SC8 R8a R8b L8a L8b HT78a HT78a8b HB78a HB78a8b B8a B8b
            go_wp2_with fail
            go_must (refine (CK.out _).mono ?_)
            rintro e w9 ⟨rfl, hb⟩
            go_wp2_with fail
            go_ret
            exact ⟨rfl, HB8.out.trans (hb.mono HT8.out.base_le)⟩

end Go.Proofs.Ytaccefkjdggcaaa
