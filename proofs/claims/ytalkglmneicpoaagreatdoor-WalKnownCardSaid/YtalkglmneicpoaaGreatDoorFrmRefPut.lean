/-
  The document's Put of a frame (oxbowref04.Put).
-/
import Derived.Test.YtalkglmneicpoaaGreatDoorFrmRefSum
namespace Go.Proofs.YtalkglmneicpoaaGreatDoor
set_option linter.unusedVariables false
set_option linter.unusedSimpArgs false
open Go.RowKit
theorem four_new (n : Nat) (w : World) (hn : n < 4294967296) :
    Calls Tryz.prog 71 #[.int .u32 (n : Int)] w fun e w' => e = .returned (.slice (some ⟨w.heap.size, 0, none⟩) 4 4) ∧ w.alloc (.cells ((le4 n).map bval).toArray 5) = w' := by
  have h0 := Lib.hid (u8_of n)
  have h1 : Hid (((n : Int) / 256) % 256 = ((UInt8.ofNat (n / 256)).toNat : Int)) := by have := u8_of (n / 256); show _ = _; rw [← this]; simp
  have h2 : Hid (((n : Int) / 65536) % 256 = ((UInt8.ofNat (n / 65536)).toNat : Int)) := by have := u8_of (n / 65536); show _ = _; rw [← this]; simp
  have h3 : Hid ((n : Int) / 16777216 = ((UInt8.ofNat (n / 16777216)).toNat : Int)) := by have := u8_of (n / 16777216); show _ = _; rw [← this]; simp; omega
  have g0 : (0 : Int) ≤ n := by omega
  have g1 : (n : Int) < 4294967296 := by omega
  go_enter Tryz.func71, Tryz.ntmps71
  go_wp2_with fail
  go_ret
  refine ⟨rfl, ?_⟩
  congr 2
  have q0 := h0.out; have q1 := h1.out; have q2 := h2.out; have q3 := h3.out
  simp only [le4, List.map_cons, List.map_nil, bval]
  rw [← q0, ← q1, ← q2, ← q3]
theorem le4_at (n j : Nat) (h : j < 4) : (le4 n)[j]? = some (UInt8.ofNat (nat4 n j)) := by
  rcases (by omega : j = 0 ∨ j = 1 ∨ j = 2 ∨ j = 3) with rfl | rfl | rfl | rfl <;> simp [le4, nat4]
set_option maxRecDepth 100000 in
set_option maxHeartbeats 8000000 in
theorem refPut_any (k : Int) (bs : List UInt8) (A : Option Addr) (m c B : Nat) (w : World) (hr : Reads w B 1 A m (bs.map bval)) (hB : B ≤ w.heap.size) (hm : m ≤ maxLen) :
    Calls Tryz.prog 59 #[.agg #[ival k, .slice A m c]] w fun e w' => ∃ v, e = .returned (.tuple #[v, ival (putE ⟨k, bs⟩ : Nat)]) ∧ w'.ownsRow w.heap.size 5 1 v (putL ⟨k, bs⟩).length ((putL ⟨k, bs⟩).map bval) ∧ Below w.heap.size w w' := by
  have hl := hr.bytes_len
  have hb1 : Below w.heap.size w (w.alloc (.cells #[ival k, .slice A m c] 25)) := (Below.refl _ _).alloc (Nat.le_refl _) _
  by_cases h1 : k < 1
  · have hE : putE ⟨k, bs⟩ = 2 := by unfold putE; rw [if_pos (.inl h1)]
    have HL : Hid (putL ⟨k, bs⟩ = []) := by show _ = _; unfold putL; rw [hE]; rfl
    rw [hE, HL.out]
    have HB := Lib.hid hb1
    clear hr hE hb1
    go_enter Tryz.func59, Tryz.ntmps59
    go_wp2_with fail
    go_ret2
    exact ⟨_, rfl, World.ownsRow_nil _ _ _ _, HB.out⟩
  by_cases h2 : 255 < k
  · have hE : putE ⟨k, bs⟩ = 2 := by unfold putE; rw [if_pos (.inr h2)]
    have HL : Hid (putL ⟨k, bs⟩ = []) := by show _ = _; unfold putL; rw [hE]; rfl
    rw [hE, HL.out]
    have HB := Lib.hid hb1
    clear hr hE hb1
    go_enter Tryz.func59, Tryz.ntmps59
    go_wp2_with fail
    go_ret2
    exact ⟨_, rfl, World.ownsRow_nil _ _ _ _, HB.out⟩
  have h12 : ¬ (k < 1 ∨ 255 < k) := by omega
  by_cases h3 : 262144 < m
  · have hE : putE ⟨k, bs⟩ = 5 := by unfold putE; rw [if_neg h12, if_pos (by rw [hl]; exact h3)]
    have HL : Hid (putL ⟨k, bs⟩ = []) := by show _ = _; unfold putL; rw [hE]; rfl
    rw [hE, HL.out]
    have HB := Lib.hid hb1
    clear hr hE hb1
    go_enter Tryz.func59, Tryz.ntmps59
    go_wp2_with fail
    go_ret2
    exact ⟨_, rfl, World.ownsRow_nil _ _ _ _, HB.out⟩
  have hE : putE ⟨k, bs⟩ = 0 := by unfold putE; rw [if_neg h12, if_neg (by rw [hl]; exact h3)]
  have HL : Hid (putL ⟨k, bs⟩ = le4 m ++ kindB k :: (le4 (frSum (kindB k) bs) ++ bs)) := by show _ = _; unfold putL; rw [if_pos hE]; simp only [enc]; rw [hl]
  obtain ⟨_, hkk⟩ := kindB_ne k (by omega) (by omega)
  rw [hE, HL.out]
  generalize kindB k = kb at *
  subst hkk
  have hkb := kb.toNat_lt
  have hw8 : IntKind.u8.wrap (kb.toNat : Int) = (kb.toNat : Int) := by simp [IntKind.wrap, IntKind.bits, IntKind.signed]; omega
  have hm8 : (kb.toNat : Int) % 256 = (kb.toNat : Int) := by omega
  have hm32 : (m : Int) % 4294967296 = (m : Int) := by omega
  have HLn := Lib.hid hl
  clear hl hE h12 hm
  obtain ⟨w1, hw1⟩ : ∃ w1, w1 = w.alloc (.cells #[ival (kb.toNat : Int), .slice A m c] 25) := ⟨_, rfl⟩
  rw [← hw1] at hb1
  have HK : Hid (Blk w1 w.heap.size 25 #[ival (kb.toNat : Int), .slice A m c]) := by show Blk _ _ _ _; rw [hw1]; exact Blk.new _ _ _
  have HS1 : Hid (w1.heap.size = w.heap.size + 1) := by show _ = _; rw [hw1]; simp
  have HB1 := Lib.hid hb1
  have HRD : Hid (∀ W, Below w1.heap.size w1 W → Reads W B 1 A m (bs.map bval) ∧ W.cell? ⟨w.heap.size, 0, none⟩ = some (ival (kb.toNat : Int)) ∧ W.cell? ⟨w.heap.size, 1, none⟩ = some (.slice A m c) ∧ w.heap.size < W.heap.size) := fun W hW =>
    ⟨(hr.below (hb1.mono hB)).below (hW.mono (by have := HS1.out; omega)), (HK.out.below hW HK.out.lt).cell 0, (HK.out.below hW HK.out.lt).cell 1, by have := hW.size; have := HS1.out; omega⟩
  clear hr hb1
  go_enter Tryz.func59, Tryz.ntmps59
  go_wp2_with fail
  have hw1' : w.alloc (.cells #[.int .i64 (kb.toNat : Int), .slice A m c] 25) = w1 := hw1.symm
  rw [hw1']
  clear hw1 hw1'
  go_must (refine (four_new m w1 (by omega)).mono ?_)
  rintro e w2 ⟨rfl, hw2⟩
  have HO2 : Hid (w2.ownsRow w1.heap.size 5 1 (.slice (some ⟨w1.heap.size, 0, none⟩) 4 4) 4 ((le4 m).map bval)) := by
    show World.ownsRow _ _ _ _ _ _ _
    rw [← hw2]
    exact own_made w1 ((le4 m).map bval) 4 (base := w1.heap.size) (e := 5) (size := 1) (Nat.le_refl _) (by decide) _ (by simp) (by simp [le4])
  have HB2 : Hid (Below w1.heap.size w1 w2) := by show Below _ _ _; rw [← hw2]; exact (Below.refl _ _).alloc (Nat.le_refl _) _
  clear hw2
  have k0 : ∀ O, (w2.alloc O).cell? ⟨w.heap.size, 0, none⟩ = some (ival (kb.toNat : Int)) := fun O => (HRD.out _ (HB2.out.alloc HB2.out.size O)).2.1
  obtain ⟨_, y0, y1, _⟩ := HRD.out _ HB2.out
  go_wp2_with
    (at_builtin
     go_must (refine wpList_push w2 Tryz.el22 (.tmp 25) (.tmp 29) rfl rfl HO2.out rfl [.int .u8 (kb.toNat : Int)] rfl rfl rfl rfl (by omega) HB2.out.size ?_)
     intro v3 w3 hown3 _ _ hb3 _
     obtain ⟨hr3, z0, z1, hlt3⟩ := HRD.out _ (HB2.out.trans hb3))
  have HO3 : Hid (w3.ownsRow w1.heap.size 5 1 v3 5 ((le4 m ++ [kb]).map bval)) := by
    show World.ownsRow _ _ _ _ _ _ _
    rw [List.map_append]
    exact hown3
  have HB3 := Lib.hid (HB2.out.trans hb3)
  clear hown3 hb3 HO2 HB2 k0 y0 y1
  have C4 := Lib.hid (refFsum_any kb bs A m c B w3 hr3 (by have := HS1.out; have := HB3.out.size; omega) (by omega))
  obtain ⟨S, hS⟩ : ∃ S, frSum kb bs = S := ⟨_, rfl⟩
  have hSlt := frSum_lt kb bs
  rw [hS] at C4 hSlt
  have HSS := Lib.hid hS
  clear hS hr3
  go_wp2_with fail
  go_must (refine C4.out.mono ?_)
  rintro e w4 ⟨rfl, hb4⟩
  have HO4 := Lib.hid (own_below HO3.out hb4)
  have HB4 := Lib.hid (HB3.out.trans (hb4.mono HB3.out.size))
  have HNE : Hid (v3.ownBlock ≠ some w4.heap.size) := fun h => by have := (HO4.out.lt _ h).2; omega
  clear z0 z1 hb4 HO3 HB3 C4
  go_wp2_with fail
  go_must (refine (four_new S w4 hSlt).mono ?_)
  rintro e w5 ⟨rfl, hw5⟩
  have HK5 : Hid (Blk w5 w4.heap.size 5 ((le4 S).map bval).toArray) := by show Blk _ _ _ _; rw [← hw5]; exact Blk.new _ _ _
  have hb5 : Below w4.heap.size w4 w5 := by rw [← hw5]; exact (Below.refl _ _).alloc (Nat.le_refl _) _
  have HO5 := Lib.hid (own_below HO4.out hb5)
  have HB5 := Lib.hid (HB4.out.trans (hb5.mono HB4.out.size))
  clear hw5 hb5 HO4 HB4
  generalize w4.heap.size = g5 at *
  go_wp2_with fail
  go_loopw [4, 6] (fun v i wr => ∃ j : Nat, j ≤ 4 ∧ i = .int .i64 j ∧ wr.ownsRow w1.heap.size 5 1 v (5 + j) ((le4 m ++ [kb] ++ (le4 S).take j).map bval) ∧ Below w1.heap.size w1 wr ∧ Blk wr g5 5 ((le4 S).map bval).toArray ∧ v.ownBlock ≠ some g5) (fun _ i _ => 4 - (intOf i).toNat)
  case atStart => exact ⟨0, by omega, rfl, by simpa using HO5.out, HB5.out, HK5.out, HNE.out⟩
  case round =>
    obtain ⟨j, hj, rfl, hown, hbel, hblk, hne⟩ := hrel
    have HO := Lib.hid hown
    have HBE := Lib.hid hbel
    have HBK := Lib.hid hblk
    have HN := Lib.hid hne
    clear hown hbel hblk hne HO5 HB5 HK5 HNE
    by_cases hlt : j < 4
    · have hc : wr.cell? ⟨g5, j, none⟩ = some (.int .u8 ((UInt8.ofNat (nat4 S j)).toNat : Int)) := by
        rw [HBK.out.cell j, List.getElem?_toArray, List.getElem?_map, le4_at S j hlt]; rfl
      have HT : Hid ((le4 m ++ [kb] ++ (le4 S).take j).map bval ++ [.int .u8 ((UInt8.ofNat (nat4 S j)).toNat : Int)] = (le4 m ++ [kb] ++ (le4 S).take (j + 1)).map bval) := by
        show _ = _
        rw [le4_take S j hlt, ← List.append_assoc, List.map_append (l₂ := [UInt8.ofNat (nat4 S j)])]; rfl
      generalize UInt8.ofNat (nat4 S j) = b at *
      go_wp2_with (
        (at_builtin
         go_must (refine wpList_push wr Tryz.el22 (.tmp 38) (.tmp 43) rfl rfl HO.out rfl [.int .u8 (b.toNat : Int)] rfl rfl rfl rfl (by omega) HBE.out.size ?_)
         intro v1 w6 hown1 hg1 hv1 hb1 _))
      rw [HT.out] at hown1
      have HO1 := Lib.hid hown1
      have HB6 := Lib.hid (HBE.out.trans hb1)
      have HBK6 := Lib.hid (HBK.out.grown hg1 (fun e => HN.out e.symm))
      have HN6 : Hid (v1.ownBlock ≠ some g5) := by
        show _ ≠ _
        rcases hv1 with h | h
        · rw [h]; exact HN.out
        · rw [h]; intro e; have := HBK.out.lt; injection e with e; omega
      clear hown1 hg1 hv1 hb1 HO HBE HBK HN HT hc
      go_wp2_with fail
      go_roundw
      case rel => exact ⟨j + 1, by omega, by go_num, HO1.out, HB6.out, HBK6.out, HN6.out⟩
      case measure => simp [intOf]; omega
    · obtain rfl : j = 4 := by omega
      have HO9 : Hid (wr.ownsRow w1.heap.size 5 1 u4 9 ((le4 m ++ [kb] ++ le4 S).map bval)) := HO.out
      clear HO HBK HN
      obtain ⟨wo, rfl⟩ : ∃ wo : World, wo = wr := ⟨_, rfl⟩
      rw [show ((4 : Nat) : Int) = 4 from rfl]
      go_wp2_with fail
      go_loopw [4, 7] (fun v i w7 => ∃ q : Nat, q ≤ m ∧ i = .int .i64 q ∧ w7.ownsRow w1.heap.size 5 1 v (9 + q) ((le4 m ++ [kb] ++ le4 S ++ bs.take q).map bval) ∧ Below w1.heap.size w1 w7) (fun _ i _ => m - (intOf i).toNat)
      case atStart => exact ⟨0, by omega, rfl, by simpa using HO9.out, HBE.out⟩
      case round =>
        obtain ⟨q, hq, rfl, hown, hbel⟩ := hrel
        obtain ⟨hr, _, y1, hlt1⟩ := HRD.out _ hbel
        have HO := Lib.hid hown
        have HB7 := Lib.hid hbel
        clear hown hbel HO9 HBE
        by_cases hltq : q < m
        · have hk1 : q < bs.length := by have := HLn.out; omega
          obtain ⟨ad, rfl, hadB, hc⟩ := hr.byte hk1
          have HT : Hid ((le4 m ++ [kb] ++ le4 S ++ bs.take q).map bval ++ [.int .u8 ((bs[q]).toNat : Int)] = (le4 m ++ [kb] ++ le4 S ++ bs.take (q + 1)).map bval) := by
            show _ = _
            rw [List.take_succ_eq_append_getElem hk1, ← List.append_assoc, List.map_append (l₂ := [bs[q]])]; rfl
          clear hr
          go_wp2_with (
            (at_builtin
             go_must (refine wpList_push wr Tryz.el22 (.tmp 52) (.tmp 58) rfl rfl HO.out rfl [.int .u8 ((bs[q]).toNat : Int)] rfl rfl rfl rfl (by omega) HB7.out.size ?_)
             intro v1 w8 hown1 _ _ hb8 _))
          rw [HT.out] at hown1
          have HO1 := Lib.hid hown1
          have HB8 := Lib.hid (HB7.out.trans hb8)
          clear hown1 hb8 HO HB7 HT
          go_wp2_with fail
          go_roundw
          case rel => exact ⟨q + 1, by omega, by go_num, HO1.out, HB8.out⟩
          case measure => simp [intOf]; omega
        · obtain rfl : q = m := by omega
          clear hr
          go_wp2_with fail
          go_ret2
          refine ⟨_, rfl, ?_, HB1.out.trans (HB7.out.mono (by have := HS1.out; omega))⟩
          have e1 : (le4 q ++ kb :: (le4 S ++ bs)).length = 9 + q := by simp [le4_len, HLn.out]; omega
          have e2 : (le4 q ++ kb :: (le4 S ++ bs)).map bval = (le4 q ++ [kb] ++ le4 S ++ bs.take q).map bval := by
            rw [List.take_of_length_le (by have := HLn.out; omega)]; simp
          rw [HSS.out, e1, e2]
          exact own_base HO.out (fun g hg => by have := (HO.out.lt g hg).1; have := HS1.out; omega)
end Go.Proofs.YtalkglmneicpoaaGreatDoor
