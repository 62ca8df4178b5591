/-
  FrameForms.
-/
import Derived.Test.YtiococglmjjagaaDoorFrmWorks
namespace Go.Proofs.YtiococglmjjagaaDoor
set_option linter.unusedVariables false
set_option linter.unusedSimpArgs false
open Go.RowKit
theorem wrap_u32 (x : Int) (h0 : 0 ≤ x) (h1 : x < 4294967296) : IntKind.u32.wrap x = x := by
  simp [IntKind.wrap, IntKind.bits, IntKind.signed]; omega
theorem or4 (a b c d : UInt8) : bits .or .u32 (a.toNat : Int) ((b.toNat : Int) * 256) = ((a.toNat + 256 * b.toNat : Nat) : Int) ∧ bits .or .u32 ((a.toNat + 256 * b.toNat : Nat) : Int) ((c.toNat : Int) * 65536) = ((a.toNat + 256 * b.toNat + 65536 * c.toNat : Nat) : Int) ∧
    bits .or .u32 ((a.toNat + 256 * b.toNat + 65536 * c.toNat : Nat) : Int) ((d.toNat : Int) * 16777216) = ((a.toNat + 256 * b.toNat + 65536 * c.toNat + 16777216 * d.toNat : Nat) : Int) := by
  have ha := a.toNat_lt; have hb := b.toNat_lt; have hc := c.toNat_lt; have hd := d.toNat_lt
  have low : ∀ i x y, y < 2 ^ i → y ||| x * 2 ^ i = y + 2 ^ i * x := fun i x y h => by
    rw [Nat.or_comm, Nat.mul_comm x, ← Nat.two_pow_add_eq_or_of_lt h]; omega
  refine ⟨?_, ?_, ?_⟩
  · rw [show ((b.toNat : Int) * 256) = ((b.toNat * 256 : Nat) : Int) by simp, u32_or_nat _ _ (by omega) (by omega), show (256 : Nat) = 2 ^ 8 from rfl, low 8 _ _ (by omega)]
  · rw [show ((c.toNat : Int) * 65536) = ((c.toNat * 65536 : Nat) : Int) by simp, u32_or_nat _ _ (by omega) (by omega), show (65536 : Nat) = 2 ^ 16 from rfl, low 16 _ _ (by omega)]
  · rw [show ((d.toNat : Int) * 16777216) = ((d.toNat * 16777216 : Nat) : Int) by simp, u32_or_nat _ _ (by omega) (by omega), show (16777216 : Nat) = 2 ^ 24 from rfl, low 24 _ _ (by omega)]
theorem Reads.bytes_at {w : World} {B n : Nat} {A : Option Addr} {L : List UInt8} (h : Reads w B 1 A n (L.map bval)) (hn : 0 < n) : ∃ ad, A = some ad ∧ ad.block < B ∧ ∀ i, 0 < i → i < n → w.cell? ⟨ad.block, ad.off + i, none⟩ = some (.int .u8 ((L.getD i 0).toNat : Int)) := by
  obtain ⟨ad, hA, hb, hc⟩ := h.2 hn
  refine ⟨ad, hA, hb, fun i h0 hi => ?_⟩
  have hl := h.bytes_len
  have e : ad.add i = ⟨ad.block, ad.off + i, none⟩ := by unfold Addr.add; rw [if_neg (by omega)]
  rw [← e, hc i (bval (L.getD i 0))]
  rw [List.getElem?_map, List.getElem?_eq_getElem (by omega), List.getD_eq_getElem?_getD, List.getElem?_eq_getElem (by omega)]
  rfl
theorem be4_drop5 (L : List UInt8) (h : 9 ≤ L.length) : be4 (L.drop 5) = (L.getD 5 0).toNat + 256 * (L.getD 6 0).toNat + 65536 * (L.getD 7 0).toNat + 16777216 * (L.getD 8 0).toNat := by
  rcases L with _ | ⟨a, _ | ⟨b, _ | ⟨c, _ | ⟨d, _ | ⟨e, _ | ⟨f, _ | ⟨g, _ | ⟨i, _ | ⟨j, L⟩⟩⟩⟩⟩⟩⟩⟩⟩ <;> simp at h
  simp [be4]
set_option maxRecDepth 100000 in
set_option maxHeartbeats 8000000 in
theorem frameForms_any (A : Option Addr) (n c : Nat) (L : List UInt8) (p : Addr) (w : World) (hG : Glob p w) (hr : Reads w w.heap.size 1 A n (L.map bval)) (hn : n ≤ c) (hc : c ≤ maxLen) :
    Calls Tryd.prog 7 #[.slice A n c] w fun e w' => e = .returned (.bool true) ∧ Below w.heap.size w w' := by
  have hlt := hG.lt
  have HD : Hid (∀ W, Below w.heap.size w W → Glob p W ∧ Reads W w.heap.size 1 A n (L.map bval)) := fun W hW => ⟨hG.below hW hlt, hr.below hW⟩
  have WK : Hid (∀ W, Below w.heap.size w W → Calls Tryd.prog 10 #[] W fun e w' => e = .returned (.bool true) ∧ Below W.heap.size W w') := fun W hW => works_any p W (hG.below hW hlt)
  have WKG : Hid (∀ W, Below w.heap.size w W → Glob p W) := fun W hW => hG.below hW hlt
  have HLn := Lib.hid hr.bytes_len
  have C1 := Lib.hid (get_any A n c w.heap.size L p w hG hr (Nat.le_refl _) hn hc)
  clear hr hG
  by_cases hbig : 4096 < n
  · go_enter Tryd.func7, Tryd.ntmps7
    go_wp2_with fail
    go_must (refine (WK.out _ (Below.refl _ _)).mono ?_)
    rintro e w3 ⟨rfl, hb3⟩
    go_wp2_with fail
    go_ret
    exact ⟨rfl, hb3⟩
  by_cases hE : getE L = 0
  · obtain ⟨hok, henc, h9, hnN, hk, hb, hbl, hsum⟩ := get_forms L hE
    have hN : getN L = 9 + be4 L := by unfold getN; rw [if_pos hE]
    rw [HLn.out] at hnN
    obtain ⟨ad, rfl, hab, _⟩ := (HD.out w (Below.refl _ _)).2.bytes_at (by omega)
    have HC4 : Hid (∀ W, Below w.heap.size w W → ∀ i, 0 < i → i < n → W.cell? ⟨ad.block, ad.off + i, none⟩ = some (.int .u8 ((L.getD i 0).toNat : Int))) := fun W hW i h0 hi => by
      obtain ⟨ad', e, _, h⟩ := (HD.out W hW).2.bytes_at (by omega)
      cases e
      exact h i h0 hi
    have HR1 : Hid (∀ W, Below w.heap.size w W → Reads W w.heap.size 1 (cutA (some ad) c 4 1) 1 ([L.getD 4 0].map bval)) := fun W hW => by
      have h1 := ((HD.out W hW).2.cutA (k := 4) (cap := c) (by omega) hn).take (k := 1) (by omega)
      rw [Nat.mul_one, Nat.mul_one, ← List.map_drop, ← List.map_take] at h1
      have e : (L.drop 4).take 1 = [L.getD 4 0] := by
        rw [List.drop_eq_getElem_cons (by rw [HLn.out]; omega), List.getD_eq_getElem?_getD, List.getElem?_eq_getElem (by rw [HLn.out]; omega)]; rfl
      rwa [e] at h1
    have HR2 : Hid (∀ W, Below w.heap.size w W → Reads W w.heap.size 1 (cutA (some ad) c 9 1) (getF L).b.length ((getF L).b.map bval)) := fun W hW => by
      have h1 := ((HD.out W hW).2.cutA (k := 9) (cap := c) (by omega) hn).take (k := be4 L) (by omega)
      rw [Nat.mul_one, Nat.mul_one, ← List.map_drop, ← List.map_take, ← hb] at h1
      rw [hbl]; exact h1
    have HR3 : Hid (∀ W, Below w.heap.size w W → Reads W w.heap.size 1 (some ad) (getN L) ((L.take (getN L)).map bval)) := fun W hW => by
      have h1 := (HD.out W hW).2.take (k := getN L) (by omega)
      rwa [Nat.mul_one, ← List.map_take] at h1
    have hS5 := be4_drop5 L (by rw [HLn.out]; omega)
    obtain ⟨o1, o2, o3⟩ := or4 (L.getD 5 0) (L.getD 6 0) (L.getD 7 0) (L.getD 8 0)
    have hPE : putE (getF L) = 0 := by unfold putE; rw [if_neg (by have := hok.1; have := hok.2.1; omega), if_neg (by have := hok.2.2; omega)]
    have hPL : putL (getF L) = L.take (getN L) := by unfold putL; rw [if_pos hPE, henc]
    have C2 := C1.out
    unfold GetPost at C2
    rw [hE] at C2
    have C3 := Lib.hid C2
    have hkb := (L.getD 4 0).toNat_lt
    have h5b := (L.getD 5 0).toNat_lt
    have h6b := (L.getD 6 0).toNat_lt
    have h7b := (L.getD 7 0).toNat_lt
    have h8b := (L.getD 8 0).toNat_lt
    rw [← hsum] at hS5
    have HLT : Hid ((L.take (getN L)).length = getN L) := by show _ = _; rw [List.length_take, HLn.out]; omega
    clear C1 C2 henc hb hsum
    generalize getN L = N at *
    have HMN : Hid (N = 9 + (getF L).b.length) := by show _ = _; omega
    clear hN hbl hE
    generalize getF L = F at *
    rcases F with ⟨fk, fb⟩
    simp only at hk hS5 HR2 C3 HMN
    generalize hx4 : L.getD 4 0 = kb at *
    generalize L.take N = LN at *
    generalize hx5 : L.getD 5 0 = x5 at *
    generalize hx6 : L.getD 6 0 = x6 at *
    generalize hx7 : L.getD 7 0 = x7 at *
    generalize hx8 : L.getD 8 0 = x8 at *
    have HCK : Hid (∀ W, Below w.heap.size w W → W.cell? ⟨ad.block, ad.off + 4, none⟩ = some (.int .u8 (kb.toNat : Int))) := fun W hW => hx4 ▸ HC4.out W hW 4 (by omega) (by omega)
    have HCS : Hid (∀ W, Below w.heap.size w W → W.cell? ⟨ad.block, ad.off + 5, none⟩ = some (.int .u8 (x5.toNat : Int)) ∧ W.cell? ⟨ad.block, ad.off + 6, none⟩ = some (.int .u8 (x6.toNat : Int)) ∧ W.cell? ⟨ad.block, ad.off + 7, none⟩ = some (.int .u8 (x7.toNat : Int)) ∧ W.cell? ⟨ad.block, ad.off + 8, none⟩ = some (.int .u8 (x8.toNat : Int))) := fun W hW => by
      have h := HC4.out W hW
      exact ⟨hx5 ▸ h 5 (by omega) (by omega), hx6 ▸ h 6 (by omega) (by omega), hx7 ▸ h 7 (by omega) (by omega), hx8 ▸ h 8 (by omega) (by omega)⟩
    clear hx4 hx5 hx6 hx7 hx8 HC4 HLn HD
    have hNn : N ≤ c := by omega
    have hNI : (N : Int) ≤ (n : Int) := by omega
    have hN9I : ¬ ((N : Int) < 9) := by omega
    have hd1 : decide ((N : Int) < 9) = false := by simp; omega
    have hd2 : decide (n < N) = false := by simp; omega
    have hwN : IntKind.i64.wrap ((N : Int) - 9) = (N : Int) - 9 := IntWalk.i64_in _ (by omega)
    have hMN : ((fb.length : Int) != (N : Int) - 9) = false := by have := HMN.out; simp; omega
    have hsl45 : ∀ W, (Instr.slice 22 (.slice (some ad) n c) (some (.int .i64 4)) (some (.int .i64 5)) none).run Tryd.prog W = .ok (.slice (cutA (some ad) c 4 1) 1 (c - 4)) W := fun W => by
      have := run_cut_lh Tryd.el22 (some ad) n c (l := 4) (h := 5) (by omega) (by omega) W
      simpa using this
    have hsl9N : ∀ W, (Instr.slice 22 (.slice (some ad) n c) (some (.int .i64 9)) (some (.int .i64 (N : Int))) none).run Tryd.prog W = .ok (.slice (cutA (some ad) c 9 1) fb.length (c - 9)) W := fun W => by
      have := run_cut_lh Tryd.el22 (some ad) n c (l := 9) (h := N) (by omega) hNn W
      rw [show N - 9 = fb.length by have := HMN.out; omega] at this
      simpa using this
    have h4I : (4 : Int) < (n : Int) := by omega
    have h5I : (5 : Int) < (n : Int) := by omega
    have h6I : (6 : Int) < (n : Int) := by omega
    have h7I : (7 : Int) < (n : Int) := by omega
    have h8I : (8 : Int) < (n : Int) := by omega
    subst hk
    go_enter Tryd.func7, Tryd.ntmps7
    go_wp2_with fail
    go_must (refine C3.out.mono ?_)
    rintro e w3 ⟨v, rfl, hown, hb3⟩
    obtain ⟨A4, c4, rfl, _, hc42, _⟩ := own_slice hown
    go_wp2_with fail
    obtain ⟨w4, hw4⟩ : ∃ w4, w4 = w3.alloc (.cells #[ival (kb.toNat : Int), .slice A4 fb.length c4] 24) := ⟨_, rfl⟩
    have hb4 : Below w3.heap.size w3 w4 := by rw [hw4]; exact (Below.refl _ _).alloc (Nat.le_refl _) _
    have HK4 : Hid (Blk w4 w3.heap.size 24 #[ival (kb.toNat : Int), .slice A4 fb.length c4]) := by show Blk _ _ _ _; rw [hw4]; exact Blk.new _ _ _
    have HO4 := Lib.hid (own_below hown hb4)
    have HB4 := Lib.hid (hb3.trans (hb4.mono hb3.size))
    have hw4' : w3.alloc (.cells #[.int .i64 (kb.toNat : Int), .slice A4 fb.length c4] 24) = w4 := hw4.symm
    rw [hw4']
    generalize w3.heap.size = g3 at *
    clear hw4 hw4' hown hb3 hb4 C3
    have x0 : w4.cell? ⟨g3, 0, none⟩ = some (ival (kb.toNat : Int)) := HK4.out.cell 0
    have x1 : w4.cell? ⟨g3, 1, none⟩ = some (.slice A4 fb.length c4) := HK4.out.cell 1
    have x4 := HCK.out w4 HB4.out
    go_quiet (fail)
    have HB5 := Lib.hid (below_drewN HB4.out nq)
    have HK5 := Lib.hid (HK4.out.drewN nq)
    have HO5 := Lib.hid (own_only HO4.out ((Only.refl (fun _ => False) w4).drewN nq) (fun _ _ h => h))
    clear x0 x1 x4 HB4 HK4 HO4 hd1 hd2 hMN
    generalize w4.drewN nq = w5 at *
    have x0 : w5.cell? ⟨g3, 0, none⟩ = some (ival (kb.toNat : Int)) := HK5.out.cell 0
    have x1 : w5.cell? ⟨g3, 1, none⟩ = some (.slice A4 fb.length c4) := HK5.out.cell 1
    have P1 := put_any (kb.toNat : Int) fb A4 fb.length c4 w5.heap.size w5 ((WKG.out w5 HB5.out).tab) (Reads.of_own HO5.out) (Nat.le_refl _) (by omega)
    rw [hPE, hPL, HLT.out] at P1
    have C6 := Lib.hid P1
    clear P1 hPE hPL
    go_wp2_with fail
    go_must (refine C6.out.mono ?_)
    rintro e w6 ⟨v6, rfl, hown6, hb6⟩
    obtain ⟨A6, c6, rfl, _, hc62, _⟩ := own_slice hown6
    have HB6 := Lib.hid (HB5.out.trans (hb6.mono HB5.out.size))
    have HO6 := Lib.hid hown6
    clear hown6 hb6 C6 HB5 HK5 HO5 x0 x1
    have S1 : Hid (∀ q, Calls Tryd.prog 26 #[.slice (cutA (some ad) c 4 1) 1 (c - 4)] (w6.drewN q) fun e w' => e = .returned (.int .u32 (crcMore 0 [kb] : Nat)) ∧ w6.drewN q = w') := fun q => sum_any _ 1 (c - 4) w.heap.size [kb] _ ((WKG.out _ (below_drewN HB6.out q)).tab) (HR1.out _ (below_drewN HB6.out q)) (by decide)
    have S2 : Hid (∀ q, Calls Tryd.prog 25 #[.int .u32 (crcMore 0 [kb] : Nat), .slice (cutA (some ad) c 9 1) fb.length (c - 9)] (w6.drewN q) fun e w' => e = .returned (.int .u32 (frSum kb fb : Nat)) ∧ w6.drewN q = w') := fun q => by
      have := more_any (cutA (some ad) c 9 1) fb.length (c - 9) w.heap.size (crcMore 0 [kb]) fb (w6.drewN q) (crcMore_lt _ _) ((WKG.out _ (below_drewN HB6.out q)).tab) (HR2.out _ (below_drewN HB6.out q)) (by omega)
      rw [crcMore_append] at this
      exact this
    go_wp2_with fail
    go_quiet ((first | (go_at_call 26; exact quiet_take (S1.out _)) | (go_at_call 25; exact quiet_take (S2.out _))))
    have HB7 := Lib.hid (below_drewN HB6.out nq)
    have HO7 := Lib.hid (own_only HO6.out ((Only.refl (fun _ => False) w6).drewN nq) (fun _ _ h => h))
    clear HB6 HO6 S1 S2 hsl45 hsl9N
    generalize w6.drewN nq = w7 at *
    rw [hS5]
    clear hS5
    generalize x5.toNat + 256 * x6.toNat + 65536 * x7.toNat + 16777216 * x8.toNat = T4 at *
    generalize x5.toNat + 256 * x6.toNat + 65536 * x7.toNat = T3 at *
    generalize x5.toNat + 256 * x6.toNat = T2 at *
    have hw5 : IntKind.u32.wrap (x5.toNat : Int) = (x5.toNat : Int) := wrap_u32 _ (by omega) (by omega)
    have hw6 : IntKind.u32.wrap (x6.toNat : Int) = (x6.toNat : Int) := wrap_u32 _ (by omega) (by omega)
    have hw7 : IntKind.u32.wrap (x7.toNat : Int) = (x7.toNat : Int) := wrap_u32 _ (by omega) (by omega)
    have hw8 : IntKind.u32.wrap (x8.toNat : Int) = (x8.toNat : Int) := wrap_u32 _ (by omega) (by omega)
    have hm6 : IntKind.u32.wrap ((x6.toNat : Int) * 256) = (x6.toNat : Int) * 256 := wrap_u32 _ (by omega) (by omega)
    have hm7 : IntKind.u32.wrap ((x7.toNat : Int) * 65536) = (x7.toNat : Int) * 65536 := wrap_u32 _ (by omega) (by omega)
    have hm8 : IntKind.u32.wrap ((x8.toNat : Int) * 16777216) = (x8.toNat : Int) * 16777216 := wrap_u32 _ (by omega) (by omega)
    have hNcI : (N : Int) ≤ (c : Int) := by omega
    have q7 : Below w.heap.size w w7.drew := HB7.out.drew
    have SB : Hid (Calls Tryd.prog 14 #[.slice A6 N c6, .slice (some ad) N c] w7.drew fun e w' => e = .returned (.bool true) ∧ ∃ m, w' = w7.drew.drewN m) := by
      have := sameBytes_any A6 (some ad) N c6 N c w7.heap.size w.heap.size LN LN w7.drew (Reads.of_own HO7.out).drew (HR3.out _ q7) (by omega) (by omega)
      rwa [decide_eq_true rfl] at this
    obtain ⟨y5, y6, y7, y8⟩ := HCS.out w7 HB7.out
    clear HO7 HR1 HR2 HR3 HCK
    go_wp2_with fail
    go_region_held3 (fun W => W.cell? ⟨ad.block, ad.off + 5, none⟩ = some (.int .u8 (x5.toNat : Int)) ∧ W.cell? ⟨ad.block, ad.off + 6, none⟩ = some (.int .u8 (x6.toNat : Int)) ∧ W.cell? ⟨ad.block, ad.off + 7, none⟩ = some (.int .u8 (x7.toNat : Int)) ∧ W.cell? ⟨ad.block, ad.off + 8, none⟩ = some (.int .u8 (x8.toNat : Int))) (first | exact HCS.out _ q7 | exact HCS.out _ q8 | exact HCS.out _ q9) ((first | (go_at_call 14; refine SB.out.mono ?_; rintro e w8 ⟨rfl, m, hw8⟩; have q8 : Below w.heap.size w w8 := (by rw [hw8]; exact below_drewN q7 m); clear hw8) | (go_at_call 10; refine (WK.out w8 q8).mono ?_; rintro e w9 ⟨rfl, hb9⟩; have q9 : Below w.heap.size w w9 := q8.trans (hb9.mono q8.size)) | fail))
    go_wp2_with fail
    go_ret
    exact ⟨rfl, q9⟩
  · have hF : getF L = ⟨0, []⟩ := by unfold getF; rw [if_neg hE]
    have hN : getN L = 0 := by unfold getN; rw [if_neg hE]
    have C2 := C1.out
    unfold GetPost at C2
    rw [hF, hN] at C2
    have C3 := Lib.hid C2
    have hEI : ((getE L : Int) != 0) = true := by simp; omega
    have hEN : getE L ≠ 0 := hE
    clear C1 C2 hF hN hE
    generalize getE L = E at *
    go_enter Tryd.func7, Tryd.ntmps7
    go_wp2_with fail
    go_must (refine C3.out.mono ?_)
    rintro e w3 ⟨v, rfl, hown, hb3⟩
    obtain ⟨A4, c4, rfl, _, _, _⟩ := own_slice hown
    have HB4 : Hid (∀ O, Below w.heap.size w (w3.alloc O)) := fun O => hb3.trans (((Below.refl w3.heap.size w3).alloc (Nat.le_refl _) O).mono hb3.size)
    clear hown hb3 C3
    go_wp2_with fail
    go_must (refine (WK.out _ (HB4.out _)).mono ?_)
    rintro e w5 ⟨rfl, hb5⟩
    have HB5 := Lib.hid ((HB4.out _).trans (hb5.mono (HB4.out _).size))
    clear hb5 HB4
    go_wp2_with fail
    go_ret
    exact ⟨rfl, HB5.out⟩
end Go.Proofs.YtiococglmjjagaaDoor
