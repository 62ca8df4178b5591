/-
  FrameBack.
-/
import Derived.Test.YtiococglmjjagaaDoorFrmForms
import Derived.Test.YtiococglmjjagaaDoorPick
import Derived.Test.YtiococglmjjagaaDoorAppW
namespace Go.Proofs.YtiococglmjjagaaDoor
set_option linter.unusedVariables false
set_option linter.unusedSimpArgs false
open Go.RowKit
def turned (f : Fr) (t : UInt8) : List UInt8 := (enc f).set 5 ((enc f).getD 5 0 ^^^ t)
set_option maxRecDepth 100000 in
set_option maxHeartbeats 8000000 in
theorem frameBack_any (k : Int) (bs : List UInt8) (A : Option Addr) (m c : Nat) (A2 : Option Addr) (n2 c2 : Nat) (xs : List UInt8) (t : UInt8) (cut : Int) (p : Addr) (w : World) (hG : Glob p w)
    (hr : Reads w w.heap.size 1 A m (bs.map bval)) (hm : m ≤ maxLen) (hr2 : Reads w w.heap.size 1 A2 n2 (xs.map bval)) (hn2 : n2 ≤ 140737488351232) (hc1 : -9223372036854775808 ≤ cut) (hc2 : cut ≤ 9223372036854775807) :
    Calls Tryd.prog 6 #[.agg #[ival k, .slice A m c], .slice A2 n2 c2, .int .u8 (t.toNat : Int), ival cut] w fun e w' => e = .returned (.bool true) ∧ Below w.heap.size w w' := by
  have hlt := hG.lt
  obtain ⟨w1, hw1⟩ : ∃ w1, w1 = w.alloc (.cells #[ival k, .slice A m c] 24) := ⟨_, rfl⟩
  have hb1 : Below w.heap.size w w1 := by rw [hw1]; exact (Below.refl _ _).alloc (Nat.le_refl _) _
  have HK1 : Hid (Blk w1 w.heap.size 24 #[ival k, .slice A m c]) := by show Blk _ _ _ _; rw [hw1]; exact Blk.new _ _ _
  have HB1 := Lib.hid hb1
  have HS1 : Hid (w1.heap.size = w.heap.size + 1) := by show _ = _; rw [hw1]; simp
  have HD : Hid (∀ W, Below w.heap.size w W → Glob p W ∧ Reads W w.heap.size 1 A m (bs.map bval) ∧ Reads W w.heap.size 1 A2 n2 (xs.map bval)) := fun W hW => ⟨hG.below hW hlt, hr.below hW, hr2.below hW⟩
  have WK : Hid (∀ W, Below w.heap.size w W → Calls Tryd.prog 10 #[] W fun e w' => e = .returned (.bool true) ∧ Below W.heap.size W w') := fun W hW => works_any p W (hG.below hW hlt)
  have hl := hr.bytes_len
  have hlx := hr2.bytes_len
  clear hb1 hG hr hr2
  by_cases hbad : k < 1 ∨ 255 < k ∨ 4096 < m
  · rcases (by omega : k < 1 ∨ (¬ k < 1 ∧ 255 < k) ∨ (¬ k < 1 ∧ ¬ 255 < k ∧ 4096 < m)) with h1 | ⟨h1, h2⟩ | ⟨h1, h2, h3⟩
    all_goals
      clear hbad
      go_enter Tryd.func6, Tryd.ntmps6
      go_wp2_with fail
      rw [← hw1]
      clear hw1
      go_must (refine (WK.out _ HB1.out).mono ?_)
      rintro e w3 ⟨rfl, hb3⟩
      have HB3 := Lib.hid (HB1.out.trans (hb3.mono HB1.out.size))
      clear hb3
      go_wp2_with fail
      go_ret
      exact ⟨rfl, HB3.out⟩
  have h1 : ¬ k < 1 := by omega
  have h2 : ¬ 255 < k := by omega
  have h3 : ¬ 4096 < m := by omega
  clear hbad
  have hok : Ok ⟨k, bs⟩ := ⟨by show 1 ≤ k; omega, by show k ≤ 255; omega, by show bs.length ≤ 262144; omega⟩
  have hPE : putE ⟨k, bs⟩ = 0 := by unfold putE; rw [if_neg (by show ¬ (k < 1 ∨ 255 < k); omega), if_neg (by show ¬ 262144 < bs.length; omega)]
  have hPL : putL ⟨k, bs⟩ = enc ⟨k, bs⟩ := by unfold putL; rw [if_pos hPE]
  have hEL : (enc ⟨k, bs⟩).length = 9 + m := by rw [enc_len]; show 9 + bs.length = _; rw [hl]
  have HGE := Lib.hid (get_enc ⟨k, bs⟩ hok)
  have HGC := Lib.hid (get_cut ⟨k, bs⟩ hok)
  have HGT : Hid (getE (turned ⟨k, bs⟩ t) = if t = 0 then 0 else 6) := get_turn ⟨k, bs⟩ hok t
  have P1 := put_any k bs A m c w.heap.size w1 (HD.out w1 HB1.out).1.tab (HD.out w1 HB1.out).2.1 HB1.out.size hm
  rw [hPE, hPL, hEL] at P1
  have C1 := Lib.hid P1
  have HTU : Hid (turned ⟨k, bs⟩ t = (enc ⟨k, bs⟩).set 5 ((enc ⟨k, bs⟩).getD 5 0 ^^^ t)) := rfl
  rw [hEL] at HGE HGC
  clear P1 hPE hPL hok
  generalize hEe : enc ⟨k, bs⟩ = E at *
  clear hEe
  have HEL := Lib.hid hEL
  clear hEL
  generalize hTT : turned ⟨k, bs⟩ t = TT at *
  clear hTT
  have hl9 : (9 : Nat) ≤ 9 + m := by omega
  go_enter Tryd.func6, Tryd.ntmps6
  go_wp2_with fail
  rw [← hw1]
  clear hw1
  generalize hNN : 9 + m = N at *
  have HNN := Lib.hid hNN
  clear hNN
  go_must (refine C1.out.mono ?_)
  rintro e w2 ⟨v, rfl, hown, hb2⟩
  obtain ⟨A3, c3, rfl, hc31, hc32, _⟩ := own_slice hown
  obtain ⟨g, cap, hv, hg1, hg2⟩ := hown.form (by omega)
  obtain ⟨rfl, rfl⟩ : A3 = some ⟨g, 0, none⟩ ∧ c3 = cap := by injection hv with h1 _ h2; exact ⟨h1, h2⟩
  have HO2 := Lib.hid hown
  have HB2 := Lib.hid (HB1.out.trans (hb2.mono HB1.out.size))
  have HK2 := Lib.hid (HK1.out.below hb2 HK1.out.lt)
  clear hown hv hb2 C1 HK1
  have hn9I : ¬ ((N : Int) < 9) := by omega
  go_wp2_with fail
  have D1 : Hid (∀ W, Below w2.heap.size w2 W → Reads W w2.heap.size 1 (some ⟨g, 0, none⟩) N (E.map bval)) := fun W hW => (Reads.of_own HO2.out).below hW
  have CC : Hid (∀ W, Below w2.heap.size w2 W → Calls Tryd.prog 24 #[.slice (some ⟨g, 0, none⟩) N c3] W fun e w' => ∃ v, e = .returned v ∧ w'.ownsRow W.heap.size 5 1 v N (E.map bval) ∧ Below W.heap.size W w') := fun W hW => copyBytes_any _ N c3 w2.heap.size E W (D1.out W hW) hW.size (by have := HNN.out; omega)
  have GB : Hid (∀ W, Below w2.heap.size w2 W → Glob p W ∧ Below w.heap.size w W) := fun W hW => ⟨(HD.out W (HB2.out.trans (hW.mono HB2.out.size))).1, HB2.out.trans (hW.mono HB2.out.size)⟩
  go_must (refine (CC.out w2 (Below.refl _ _)).mono ?_)
  rintro e w3 ⟨v3, rfl, hown3, hb3⟩
  have HO3 := Lib.hid hown3
  have q3 : Below w2.heap.size w2 w3 := hb3
  have hbb : ((N + n2) + (N + n2) / 4 + 192) * 1 ≤ 281474976710656 := by have := HNN.out; omega
  have HBN : Hid (N * 1 ≤ 140737488355328) := by have := HNN.out; show _ ≤ _; omega
  have HBB := Lib.hid hbb
  have HR3 := Lib.hid (HD.out w3 (GB.out w3 q3).2).2.2
  clear hown3 hb3 hbb
  go_wp2_with
    (at_builtin
     go_must (refine wpList_app_w Tryd.el22 (.tmp 50) (.tmp 51) rfl rfl HO3.out rfl rfl HR3.out (bval_one xs) HBB.out HBN.out q3.size ?_)
     intro v4 w4 hown4 hg4 hb4)
  obtain ⟨A4, c4, rfl, hc41, hc42, _⟩ := own_slice hown4
  rw [← List.map_append] at hown4
  have q4 : Below w2.heap.size w2 w4 := q3.trans hb4
  obtain ⟨e1, e2, e3⟩ := HGE.out xs
  have G4 := get_any A4 (N + n2) c4 w4.heap.size (E ++ xs) p w4 (GB.out w4 q4).1 (Reads.of_own hown4) (Nat.le_refl _) hc41 hc42
  unfold GetPost at G4
  rw [e1, e2, e3] at G4
  simp only [hl] at G4
  have C4 := Lib.hid G4
  clear G4 e1 e2 e3 hown4 hg4 hb4 HO3 HR3 HBB HBN q3
  go_wp2_with fail
  go_must (refine C4.out.mono ?_)
  rintro e w5 ⟨v5, rfl, hown5, hb5⟩
  obtain ⟨A5, c5, rfl, hc51, hc52, _⟩ := own_slice hown5
  have q5 : Below w2.heap.size w2 w5 := q4.trans (hb5.mono q4.size)
  have HK5 := Lib.hid (HK2.out.below q5 HK2.out.lt)
  have kk0 : ∀ O, (w5.alloc O).cell? ⟨w.heap.size, 0, none⟩ = some (ival k) := fun O => (HK5.out.alloc O).cell 0
  have kk1 : ∀ O, (w5.alloc O).cell? ⟨w.heap.size, 1, none⟩ = some (.slice A m c) := fun O => (HK5.out.alloc O).cell 1
  go_wp2_with fail
  obtain ⟨w6, hw6⟩ : ∃ w6, w6 = w5.alloc (.cells #[ival k, .slice A5 m c5] 24) := ⟨_, rfl⟩
  have hb6 : Below w5.heap.size w5 w6 := by rw [hw6]; exact (Below.refl _ _).alloc (Nat.le_refl _) _
  have HK6 : Hid (Blk w6 w5.heap.size 24 #[ival k, .slice A5 m c5]) := by show Blk _ _ _ _; rw [hw6]; exact Blk.new _ _ _
  have HO6 := Lib.hid (own_below hown5 hb6)
  have q6 : Below w2.heap.size w2 w6 := q4.trans ((hb5.trans (hb6.mono hb5.size)).mono q4.size)
  have HKF := Lib.hid (HK2.out.below q6 HK2.out.lt)
  have hw6' : w5.alloc (.cells #[.int .i64 k, .slice A5 m c5] 24) = w6 := hw6.symm
  rw [hw6']
  generalize w5.heap.size = g5 at *
  clear hw6 hw6' hown5 hb5 hb6 C4 q4 q5 HK5 kk0 kk1
  have S6 : Hid (Calls Tryd.prog 14 #[.slice A5 m c5, .slice A m c] w6 fun e w' => e = .returned (.bool true) ∧ ∃ q, w' = w6.drewN q) := by
    have := sameBytes_any A5 A m c5 m c w6.heap.size w.heap.size bs bs w6 (Reads.of_own HO6.out) (HD.out w6 (GB.out w6 q6).2).2.1 (by omega) hm
    rwa [decide_eq_true rfl] at this
  go_must (refine S6.out.mono ?_)
  rintro e w7 ⟨rfl, q, hw7⟩
  have q7 : Below w2.heap.size w2 w7 := by rw [hw7]; exact below_drewN q6 q
  clear hw7 S6 HO6 HKF q6 HK6
  have hpk := Lib.hid (pick_any cut (N : Int) w7 (by omega) (by have := HNN.out; omega) hc1 hc2)
  obtain ⟨Q, hQ⟩ : ∃ Q : Nat, cut % (N : Int) = (Q : Int) := ⟨(cut % (N : Int)).toNat, by have := Int.emod_nonneg cut (show (N : Int) ≠ 0 by omega); omega⟩
  have hQN : Q < N := by have := Int.emod_lt_of_pos cut (show (0 : Int) < (N : Int) by omega); omega
  rw [hQ] at hpk
  clear hQ
  have hQc : (Q : Int) ≤ (c3 : Int) := by omega
  have G8 := get_any (some ⟨g, 0, none⟩) Q c3 w2.heap.size (E.take Q) p w7 (GB.out w7 q7).1 (by have h := (D1.out w7 q7).take (k := Q) (by omega); rwa [Nat.mul_one, ← List.map_take] at h) q7.size (by omega) hc32
  unfold GetPost at G8
  rw [HGC.out Q hQN] at G8
  have C8 := Lib.hid G8
  clear G8
  generalize getF (E.take Q) = F8 at *
  generalize getN (E.take Q) = N8 at *
  go_wp2_with fail
  go_must (refine hpk.out.mono ?_)
  rintro e _ ⟨rfl, rfl⟩
  go_wp2_with fail
  go_must (refine C8.out.mono ?_)
  rintro e w8 ⟨v8, rfl, hown8, hb8⟩
  obtain ⟨A8, c8, rfl, _, _, _⟩ := own_slice hown8
  have HQ8 : Hid (∀ O, Below w2.heap.size w2 (w8.alloc O)) := fun O => (q7.trans (hb8.mono q7.size)).trans (((Below.refl w8.heap.size w8).alloc (Nat.le_refl _) O).mono (q7.trans (hb8.mono q7.size)).size)
  clear hown8 hb8 C8 hpk q7
  go_wp2_with fail
  go_must (refine (CC.out _ (HQ8.out _)).mono ?_)
  rintro e w9 ⟨v9, rfl, hown9, hb9⟩
  have q9 := (HQ8.out _).trans (hb9.mono (HQ8.out _).size)
  obtain ⟨A9, c9, rfl, hc91, hc92, _⟩ := own_slice hown9
  obtain ⟨g9, cap9, hv9, hg91, hg92⟩ := hown9.form (by omega)
  obtain ⟨rfl, rfl⟩ : A9 = some ⟨g9, 0, none⟩ ∧ c9 = cap9 := by injection hv9 with h1 _ h2; exact ⟨h1, h2⟩
  clear hv9
  have h5E : E[5]? = some (E.getD 5 0) := by rw [List.getD_eq_getElem?_getD, List.getElem?_eq_getElem (by rw [HEL.out]; omega)]; rfl
  have x5 : w9.cell? ⟨g9, 5, none⟩ = some (.int .u8 ((E.getD 5 0).toNat : Int)) := by rw [hown9.cellAt 5 (by omega), List.getElem?_map, h5E]; rfl
  have f5 : w9.frozen? ⟨g9, 5, none⟩ = false := hown9.frozenAt 5
  have hx5 := (E.getD 5 0).toNat_lt
  have ht5 := t.toNat_lt
  have hxor : bits .xor .u8 ((E.getD 5 0).toNat : Int) (t.toNat : Int) = ((E.getD 5 0 ^^^ t).toNat : Int) := by rw [u8_xor_nat _ _ (by omega) (by omega), UInt8.toNat_xor]
  have hst := (hown9.stored 5 (bval (E.getD 5 0 ^^^ t))).1
  rw [← List.map_set, ← HTU.out] at hst
  have q10 : Below w2.heap.size w2 (w9.setCell ⟨g9, 5, none⟩ (bval (E.getD 5 0 ^^^ t))) := q9.setCell (Nat.le_trans (HQ8.out _).size hg91) _
  have G10 := get_any (some ⟨g9, 0, none⟩) N c9 (w9.setCell ⟨g9, 5, none⟩ (bval (E.getD 5 0 ^^^ t))).heap.size TT p _ (GB.out _ q10).1 (Reads.of_own hst) (Nat.le_refl _) hc91 hc92
  unfold GetPost at G10
  rw [HGT.out] at G10
  have C10 := Lib.hid G10
  have HQ10 := Lib.hid q10
  clear G10 hst hown9 hb9 q9 q10 h5E HQ8
  generalize E.getD 5 0 ^^^ t = z5 at *
  generalize E.getD 5 0 = y5 at *
  generalize getF TT = F10 at *
  generalize getN TT = N10 at *
  have h5I : (5 : Int) < (N : Int) := by omega
  have h5N : 5 < N := by omega
  go_wp2_with fail
  go_must (refine C10.out.mono ?_)
  rintro e w11 ⟨v11, rfl, hown11, hb11⟩
  obtain ⟨A11, c11, rfl, _, _, _⟩ := own_slice hown11
  have HQ11 : Hid (∀ O, Below w2.heap.size w2 (w11.alloc O)) := fun O => (HQ10.out.trans (hb11.mono HQ10.out.size)).trans (((Below.refl w11.heap.size w11).alloc (Nat.le_refl _) O).mono (HQ10.out.trans (hb11.mono HQ10.out.size)).size)
  clear hown11 hb11 C10 HQ10 x5 f5 hxor
  by_cases ht : t = 0
  · subst ht
    have hz : ((0 : UInt8).toNat : Int) = 0 := rfl
    simp only [if_true]
    go_wp2_with fail
    go_must (refine (WK.out _ (GB.out _ (HQ11.out _)).2).mono ?_)
    rintro e w12 ⟨rfl, hb12⟩
    have HE := Lib.hid ((GB.out _ (HQ11.out _)).2.trans (hb12.mono (GB.out _ (HQ11.out _)).2.size))
    clear hb12
    go_wp2_with fail
    go_ret
    exact ⟨rfl, HE.out⟩
  · rw [if_neg ht]
    have htn : t.toNat ≠ 0 := fun h => ht (UInt8.toNat_inj.1 h)
    have htI : ((t.toNat : Int) != 0) = true := by simp; omega
    go_wp2_with fail
    go_must (refine (WK.out _ (GB.out _ (HQ11.out _)).2).mono ?_)
    rintro e w12 ⟨rfl, hb12⟩
    have HE := Lib.hid ((GB.out _ (HQ11.out _)).2.trans (hb12.mono (GB.out _ (HQ11.out _)).2.size))
    clear hb12
    go_wp2_with fail
    go_ret
    exact ⟨rfl, HE.out⟩
end Go.Proofs.YtiococglmjjagaaDoor
