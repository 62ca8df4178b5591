/-
  FramePuts: of any frame the bytes are told, in new memory, or what is wrong.
-/
import Derived.Test.YtiococglmjjagaaDoorFrmRefPut
import Derived.Test.YtiococglmjjagaaDoorFrmWorks
namespace Go.Proofs.YtiococglmjjagaaDoor
set_option linter.unusedVariables false
set_option linter.unusedSimpArgs false
open Go.RowKit
theorem putL_len (f : Fr) : (putL f).length ≤ 9 + f.b.length := by
  unfold putL; split
  · rw [enc_len]; omega
  · simp
set_option maxRecDepth 100000 in
set_option maxHeartbeats 8000000 in
theorem framePuts_any (k : Int) (bs : List UInt8) (A : Option Addr) (m c B : Nat) (p : Addr) (w : World) (hG : Glob p w) (hr : Reads w B 1 A m (bs.map bval)) (hB : B ≤ w.heap.size) (hm : m ≤ maxLen) :
    Calls Tryd.prog 3 #[.agg #[ival k, .slice A m c]] w fun e w' => e = .returned (.bool true) ∧ Below w.heap.size w w' := by
  have hlt := hG.lt
  have hb1 : Below w.heap.size w (w.alloc (.cells #[ival k, .slice A m c] 24)) := (Below.refl _ _).alloc (Nat.le_refl _) _
  obtain ⟨w1, hw1⟩ : ∃ w1, w1 = w.alloc (.cells #[ival k, .slice A m c] 24) := ⟨_, rfl⟩
  rw [← hw1] at hb1
  have HK : Hid (Blk w1 w.heap.size 24 #[ival k, .slice A m c]) := by show Blk _ _ _ _; rw [hw1]; exact Blk.new _ _ _
  have HS1 : Hid (w1.heap.size = w.heap.size + 1) := by show _ = _; rw [hw1]; simp
  have HB1 := Lib.hid hb1
  have HD : Hid (∀ W, Below w1.heap.size w1 W → Glob p W ∧ Reads W B 1 A m (bs.map bval) ∧ W.cell? ⟨w.heap.size, 0, none⟩ = some (ival k) ∧ W.cell? ⟨w.heap.size, 1, none⟩ = some (.slice A m c) ∧ Below w.heap.size w W) := fun W hW => by
    have h := hb1.trans (hW.mono (by have := HS1.out; omega))
    exact ⟨hG.below h hlt, hr.below (h.mono hB), (HK.out.below hW HK.out.lt).cell 0, (HK.out.below hW HK.out.lt).cell 1, h⟩
  have WK : Hid (∀ W, Below w1.heap.size w1 W → Calls Tryd.prog 10 #[] W fun e w' => e = .returned (.bool true) ∧ Below W.heap.size W w') := fun W hW => works_any p W (HD.out W hW).1
  have y1 : w1.cell? ⟨w.heap.size, 1, none⟩ = some (.slice A m c) := (HD.out w1 (Below.refl _ _)).2.2.2.1
  clear hr hG hb1
  by_cases hbig : 4096 < m
  · go_enter Tryd.func3, Tryd.ntmps3
    go_wp2_with fail
    have hw1' : w.alloc (.cells #[.int .i64 k, .slice A m c] 24) = w1 := hw1.symm
    rw [hw1']
    clear hw1 hw1'
    go_must (refine (WK.out _ (Below.refl _ _)).mono ?_)
    rintro e w3 ⟨rfl, hb3⟩
    go_wp2_with fail
    go_ret
    exact ⟨rfl, (HD.out _ hb3).2.2.2.2⟩
  have hB1 : B ≤ w1.heap.size := by have := HS1.out; omega
  have C1 := Lib.hid (lentBytes_any A m c B bs w1 (HD.out _ (Below.refl _ _)).2.1 hB1 (by omega))
  go_enter Tryd.func3, Tryd.ntmps3
  go_wp2_with fail
  have hw1' : w.alloc (.cells #[.int .i64 k, .slice A m c] 24) = w1 := hw1.symm
  rw [hw1']
  clear hw1 hw1'
  go_must (refine C1.out.mono ?_)
  rintro e w2 ⟨v2, rfl, hown2, hb2⟩
  obtain ⟨A2, c2, rfl, hc21, hc22, _⟩ := own_slice hown2
  have HX : Hid (∀ W, Below w2.heap.size w2 W → Reads W w2.heap.size 1 A2 (m + 5) ((bs ++ marks).map bval) ∧ Reads W w2.heap.size 1 A2 m (bs.map bval)) := fun W hW => by
    have h := (Reads.of_own hown2).below hW
    refine ⟨h, ?_⟩
    have h3 := h.take (k := m) (by omega)
    rw [Nat.mul_one, ← List.map_take] at h3
    have hl := (HD.out w1 (Below.refl _ _)).2.1.bytes_len
    rwa [List.take_append_of_le_length (by omega), List.take_of_length_le (by omega)] at h3
  have HB2 := Lib.hid hb2
  obtain ⟨_, _, z0, z1, _⟩ := HD.out w2 hb2
  have hmc : m ≤ c2 := by omega
  have hmcI : (m : Int) ≤ (c2 : Int) := by omega
  have q2 : Below w2.heap.size w2 w2.drew := (Below.refl _ _).drew
  have C2 := Lib.hid (put_any k bs A2 m c2 w2.heap.size w2.drew ((HD.out _ hb2.drew).1.tab) (HX.out _ q2).2 (Nat.le_refl _) (by omega))
  clear C1 hown2 y1
  have HPN : Hid ((putL ⟨k, bs⟩).length ≤ 1099511627000) := by have h1 := putL_len ⟨k, bs⟩; have h2 := (HD.out w1 (Below.refl _ _)).2.1.bytes_len; show _ ≤ _; simp only at h1; omega
  generalize hPL : putL ⟨k, bs⟩ = PL at *
  generalize hPE : putE ⟨k, bs⟩ = PE at *
  go_wp2_with fail
  go_region_held3 (fun w' => w'.cell? ⟨w.heap.size, 0, none⟩ = some (ival k) ∧ w'.cell? ⟨w.heap.size, 1, none⟩ = some (.slice A m c)) (first | exact ⟨(HD.out _ q3).2.2.1, (HD.out _ q3).2.2.2.1⟩ | exact ⟨z0, z1⟩) ((first | (go_at_call 12; refine C2.out.mono ?_; rintro e w3 ⟨v3, rfl, hown3, hb3⟩; have q3 : Below w1.heap.size w1 w3 := HB2.out.trans ((q2.trans hb3).mono HB2.out.size)) | fail))
  obtain ⟨A3, c3, rfl, hc31, hc32, _⟩ := own_slice hown3
  have HO3 := Lib.hid hown3
  have HB3 : Hid (Below w2.heap.size w2 w3) := q2.trans hb3
  obtain ⟨_, hr3, x0, x1, hb03⟩ := HD.out w3 q3
  have C3 := Lib.hid (refPut_any k bs A m c B w3 hr3 (Nat.le_trans hB hb03.size) hm)
  rw [hPL, hPE] at C3
  have HQ3 := Lib.hid q3
  clear hr3 hb03 q2 q3 C2 hown3 hb3 z0 z1
  go_wp2_with fail
  go_must (refine C3.out.mono ?_)
  rintro e w4 ⟨v4, rfl, hown4, hb4⟩
  obtain ⟨A4, c4, rfl, hc41, hc42, _⟩ := own_slice hown4
  have HO34 := Lib.hid (own_below HO3.out hb4)
  have HR34 : Hid (Reads w4 w4.heap.size 1 A3 PL.length (PL.map bval)) := Reads.of_own (own_below HO3.out hb4)
  have HB4 : Hid (Below w2.heap.size w2 w4) := HB3.out.trans (hb4.mono HB3.out.size)
  have HQ4 : Hid (Below w1.heap.size w1 w4) := HQ3.out.trans (hb4.mono HQ3.out.size)
  have hPLl : PL.length ≤ maxLen := by omega
  have S1 := Lib.hid (sameBytes_any A3 A4 PL.length c3 PL.length c4 w4.heap.size w4.heap.size PL PL w4 HR34.out (Reads.of_own hown4) hPLl hPLl)
  rw [decide_eq_true rfl] at S1
  have hPE2 : ((PE : Int) != (PE : Int)) = false := by simp
  have y4 : w4.cell? ⟨w.heap.size, 1, none⟩ = some (.slice A m c) := (HD.out w4 HQ4.out).2.2.2.1
  have Y4 : Hid (∀ q, (w4.drewN q).cell? ⟨w.heap.size, 1, none⟩ = some (.slice A m c)) := fun q => y4
  have S2 : Hid (∀ q, Calls Tryd.prog 15 #[.slice A2 (m + 5) c2, .slice A m c] (w4.drewN q) fun e w' => e = .returned (.bool true) ∧ ∃ m, w' = (w4.drewN q).drewN m) := fun q =>
    keptBytes_any A2 A (m + 5) c2 m c w2.heap.size B bs _ (HX.out _ (below_drewN HB4.out q)).1 (HD.out _ (below_drewN HQ4.out q)).2.1 (by omega) hc21
  clear hown4 hb4 C3 HO3 HB3 x0 x1 HR34 y4
  go_wp2_with fail
  go_must (refine S1.out.mono ?_)
  rintro e w5 ⟨rfl, q5, rfl⟩
  have y5 := Y4.out q5
  go_wp2_with fail
  go_must (refine (S2.out q5).mono ?_)
  rintro e w6 ⟨rfl, q6, rfl⟩
  have HO6 : Hid (((w4.drewN q5).drewN q6).ownsRow w2.drew.heap.size 5 1 (.slice A3 PL.length c3) PL.length (PL.map bval)) := (own_only HO34.out (((Only.refl (fun _ => False) w4).drewN q5).drewN q6) (fun _ _ h => h))
  have HB6 := Lib.hid (below_drewN (below_drewN HB4.out q5) q6)
  have HQ6 := Lib.hid (below_drewN (below_drewN HQ4.out q5) q6)
  clear HO34 HB4 HQ4 S1 S2 y5 Y4
  generalize (w4.drewN q5).drewN q6 = w6 at *
  have C6 := Lib.hid (spoil_any A3 PL.length c3 _ _ w6 HO6.out HPN.out)
  go_wp2_with fail
  go_must (refine C6.out.mono ?_)
  rintro e w7 ⟨rfl, hon7, _⟩
  have hb67 : Below w2.heap.size w6 w7 := hon7.to (fun i hi => (HO6.out.lt i hi).1) HB6.out.size
  have HB7 := Lib.hid (HB6.out.trans hb67)
  have HQ7 := Lib.hid (HQ6.out.trans (hb67.mono HB2.out.size))
  clear hon7 hb67 HO6 HB6 HQ6 C6
  have y7 : w7.cell? ⟨w.heap.size, 1, none⟩ = some (.slice A m c) := (HD.out w7 HQ7.out).2.2.2.1
  have S3 := Lib.hid (keptBytes_any A2 A (m + 5) c2 m c w2.heap.size B bs w7 (HX.out _ HB7.out).1 (HD.out _ HQ7.out).2.1 (by omega) hc21)
  go_wp2_with fail
  go_must (refine S3.out.mono ?_)
  rintro e w8 ⟨rfl, q8, rfl⟩
  have HQ8 := Lib.hid (below_drewN HQ7.out q8)
  clear y7 S3 HB7 HQ7
  generalize w7.drewN q8 = w8 at *
  go_wp2_with fail
  go_must (refine (WK.out _ HQ8.out).mono ?_)
  rintro e w9 ⟨rfl, hb9⟩
  go_wp2_with fail
  go_ret
  exact ⟨rfl, (HD.out w9 (HQ8.out.trans (hb9.mono HQ8.out.size))).2.2.2.2⟩
end Go.Proofs.YtiococglmjjagaaDoor
