/-
  The chapter's example (works).
-/
import Derived.Test.YtiococglmjjagaaDoorFrmScan
import Derived.Test.YtiococglmjjagaaDoorFrmKit
namespace Go.Proofs.YtiococglmjjagaaDoor
set_option linter.unusedVariables false
set_option linter.unusedSimpArgs false
open Go.RowKit
def E0 : List UInt8 := enc ⟨3, [7, 8]⟩
theorem e0_facts : putE ⟨3, [7, 8]⟩ = 0 ∧ putL ⟨3, [7, 8]⟩ = E0 ∧ E0.length = 11 ∧ E0[0]? = some 2 ∧ E0[4]? = some 3 ∧ E0[10]? = some 8 := by refine ⟨by decide, ?_, ?_, ?_, ?_, ?_⟩ <;> decide +kernel
theorem e0_ok : Ok ⟨3, [7, 8]⟩ := by refine ⟨?_, ?_, ?_⟩ <;> decide
theorem e0_get : getE E0 = 0 ∧ getF E0 = ⟨3, [7, 8]⟩ ∧ getN E0 = 11 := by
  have := get_enc ⟨3, [7, 8]⟩ e0_ok []
  rw [List.append_nil] at this
  exact this
theorem e0_cut : getE (E0.take 10) = 4 := get_cut ⟨3, [7, 8]⟩ e0_ok 10 (by decide +kernel)
theorem e0_scan : scan (E0 ++ E0.take 10) = ([⟨3, [7, 8]⟩], 11) := by
  have h := scan_join [⟨3, [7, 8]⟩] (fun f hf => by obtain rfl := List.mem_singleton.1 hf; exact e0_ok) (E0.take 10)
  rw [scan_no (E0.take 10) (by rw [e0_cut]; decide)] at h
  exact h
set_option maxRecDepth 100000 in
set_option maxHeartbeats 8000000 in
theorem works_any (p : Addr) (w : World) (hG : Glob p w) : Calls Tryd.prog 10 #[] w fun e w' => e = .returned (.bool true) ∧ Below w.heap.size w w' := by
  have hlt := hG.lt
  obtain ⟨w1, hw1⟩ : ∃ w1, w1 = w.alloc (.cells #[bval 7, bval 8] 5) := ⟨_, rfl⟩
  have hb1 : Below w.heap.size w w1 := by rw [hw1]; exact (Below.refl _ _).alloc (Nat.le_refl _) _
  have hs1 : w1.heap.size = w.heap.size + 1 := by rw [hw1]; simp
  have hr1 : Reads w1 (w.heap.size + 1) 1 (some ⟨w.heap.size, 0, none⟩) 2 (([7, 8] : List UInt8).map bval) := by rw [hw1]; exact Reads.new w #[bval 7, bval 8] 5 (0, 0)
  have HG1 := Lib.hid (hG.below hb1 hlt)
  have HB1 := Lib.hid hb1
  have HS1 := Lib.hid hs1
  obtain ⟨f1, f2, f3, f4, f5, f6⟩ := e0_facts
  have P1 := put_any 3 [7, 8] (some ⟨w.heap.size, 0, none⟩) 2 2 (w.heap.size + 1) w1 HG1.out.tab hr1 (by omega) (by decide)
  rw [f1, f2, f3] at P1
  have C1 := Lib.hid P1
  clear P1 hr1 hb1 hG hs1
  go_enter Tryd.func10, Tryd.ntmps10
  go_wp2_with fail
  have hw1' : w.alloc (.cells #[.int .u8 7, .int .u8 8] 5) = w1 := hw1.symm
  rw [hw1']
  clear hw1 hw1'
  go_must (refine C1.out.mono ?_)
  rintro e w2 ⟨v, rfl, hown, hb2⟩
  obtain ⟨A1, c1, rfl, hc1, hc2, _⟩ := own_slice hown
  obtain ⟨g, cap, hv, hg1, hg2⟩ := hown.form (by omega)
  obtain ⟨rfl, rfl⟩ : A1 = some ⟨g, 0, none⟩ ∧ c1 = cap := by injection hv with h1 _ h2; exact ⟨h1, h2⟩
  have HO2 := Lib.hid hown
  have HB2 := Lib.hid (HB1.out.trans (hb2.mono HB1.out.size))
  have HG2 := Lib.hid (HG1.out.below hb2 HG1.out.lt)
  have cat : ∀ j b, E0[j]? = some b → w2.cell? ⟨g, j, none⟩ = some (.int .u8 ((b : UInt8).toNat : Int)) := fun j b h => by
    have hj : j < 11 := by rw [← f3]; exact (List.getElem?_eq_some_iff.1 h).1
    rw [hown.cellAt j (by omega), List.getElem?_map, h]; rfl
  have x0 : w2.cell? ⟨g, 0, none⟩ = some (.int .u8 2) := cat 0 2 f4
  have x4 : w2.cell? ⟨g, 4, none⟩ = some (.int .u8 3) := cat 4 3 f5
  have x10 : w2.cell? ⟨g, 10, none⟩ = some (.int .u8 8) := cat 10 8 f6
  have HRb : Hid (∀ W, Below w2.heap.size w2 W → Glob p W ∧ Reads W w2.heap.size 1 (some ⟨g, 0, none⟩) 11 (E0.map bval)) := fun W hW => ⟨HG2.out.below hW HG2.out.lt, (Reads.of_own HO2.out).below hW⟩
  clear hown hb2 hv C1 cat f1 f2 f4 f5 f6
  have HC : Hid (11 ≤ c1 ∧ c1 ≤ maxLen) := ⟨hc1, hc2⟩
  have HG9 := Lib.hid e0_get
  have C2 : Hid (∀ W, Below w2.heap.size w2 W → Calls Tryd.prog 17 #[.slice (some ⟨g, 0, none⟩) 11 c1] W fun e w' => ∃ v, e = .returned (.tuple #[.agg #[ival 3, v], ival 11, ival 0]) ∧ w'.ownsRow W.heap.size 5 1 v 2 (([7, 8] : List UInt8).map bval) ∧ Below W.heap.size W w') := fun W hW => by
    obtain ⟨h1, h2⟩ := HRb.out W hW
    have := get_any (some ⟨g, 0, none⟩) 11 c1 w2.heap.size E0 p W h1 h2 hW.size HC.out.1 HC.out.2
    unfold GetPost at this
    rw [HG9.out.1, HG9.out.2.1, HG9.out.2.2] at this
    exact this
  have HG10 := Lib.hid e0_cut
  have C3 : Hid (∀ W, Below w2.heap.size w2 W → Calls Tryd.prog 17 #[.slice (some ⟨g, 0, none⟩) 10 c1] W fun e w' => ∃ k v n, e = .returned (.tuple #[.agg #[ival k, v], ival n, ival 4]) ∧ (∃ m bs, w'.ownsRow W.heap.size 5 1 v m bs) ∧ Below W.heap.size W w') := fun W hW => by
    obtain ⟨h1, h2⟩ := HRb.out W hW
    have h3 := h2.take (k := 10) (by omega)
    rw [Nat.mul_one, ← List.map_take] at h3
    have := get_any (some ⟨g, 0, none⟩) 10 c1 w2.heap.size (E0.take 10) p W h1 h3 hW.size (by have := HC.out.1; omega) HC.out.2
    unfold GetPost at this
    rw [HG10.out] at this
    exact this.mono fun e w' ⟨v, h1, h2, h3⟩ => ⟨_, v, _, h1, ⟨_, _, h2⟩, h3⟩
  go_wp2_with fail
  go_must (refine (C2.out _ (Below.refl _ _)).mono ?_)
  rintro e w3 ⟨v3, rfl, hown3, hb3⟩
  obtain ⟨A3, c3, rfl, hc31, hc32, _⟩ := own_slice hown3
  clear x0 x4 x10 C2
  have q3 : Below w2.heap.size w2 w3 := hb3
  have h10 : 10 ≤ c1 := by omega
  have h10I : (10 : Int) ≤ (c1 : Int) := by omega
  go_wp2_with fail
  obtain ⟨w4, hw4⟩ : ∃ w4, w4 = w3.alloc (.cells #[ival 3, .slice A3 2 c3] 24) := ⟨_, rfl⟩
  have hb4 : Below w3.heap.size w3 w4 := by rw [hw4]; exact (Below.refl _ _).alloc (Nat.le_refl _) _
  have HK4 : Hid (Blk w4 w3.heap.size 24 #[ival 3, .slice A3 2 c3]) := by show Blk _ _ _ _; rw [hw4]; exact Blk.new _ _ _
  have HO4 := Lib.hid (own_below hown3 hb4)
  have q4 : Below w2.heap.size w2 w4 := q3.trans (hb4.mono q3.size)
  have hw4' : w3.alloc (.cells #[.int .i64 3, .slice A3 2 c3] 24) = w4 := hw4.symm
  rw [hw4']
  generalize w3.heap.size = g3 at *
  clear hw4 hw4' hown3 hb3 hb4
  go_must (refine (C3.out w4 q4).mono ?_)
  rintro e w5 ⟨k5, v5, n5, rfl, ⟨m5, bs5, hown5⟩, hb5⟩
  obtain ⟨A5, c5, rfl, _, _, _⟩ := own_slice hown5
  go_wp2_with fail
  obtain ⟨w6, hw6⟩ : ∃ w6, w6 = w5.alloc (.cells #[ival k5, .slice A5 m5 c5] 24) := ⟨_, rfl⟩
  have hb6 : Below w5.heap.size w5 w6 := by rw [hw6]; exact (Below.refl _ _).alloc (Nat.le_refl _) _
  have hb46 : Below w4.heap.size w4 w6 := hb5.trans (hb6.mono hb5.size)
  have HK6 := Lib.hid (HK4.out.below hb46 HK4.out.lt)
  have HO6 := Lib.hid (own_below HO4.out hb46)
  have q6 : Below w2.heap.size w2 w6 := q4.trans (hb46.mono q4.size)
  have hw6' : w5.alloc (.cells #[.int .i64 k5, .slice A5 m5 c5] 24) = w6 := hw6.symm
  rw [hw6']
  clear hw6 hw6' hown5 hb5 hb6 hb46 HK4 HO4 q3 q4 C3
  generalize w5.heap.size = g5 at *
  have q7 : Below w2.heap.size w2 w6.drew := q6.drew
  have D1 : Hid (Calls Tryd.prog 24 #[.slice (some ⟨g, 0, none⟩) 11 c1] w6.drew fun e w' => ∃ v, e = .returned v ∧ w'.ownsRow w6.drew.heap.size 5 1 v 11 (E0.map bval) ∧ Below w6.drew.heap.size w6.drew w') := copyBytes_any _ 11 c1 w2.heap.size E0 w6.drew (HRb.out _ q7).2 q7.size (by omega)
  have D2 : Hid (∀ W, Below w2.heap.size w2 W → Reads W w2.heap.size 1 (some ⟨g, 0, none⟩) 10 ((E0.take 10).map bval)) := fun W hW => by
    have h3 := (HRb.out W hW).2.take (k := 10) (by omega)
    rw [Nat.mul_one, ← List.map_take] at h3
    exact h3
  have HSC := Lib.hid e0_scan
  have D3 : Hid (∀ W A c, Below w2.heap.size w2 W → 21 ≤ c → c ≤ maxLen → Reads W W.heap.size 1 A 21 ((E0 ++ E0.take 10).map bval) → Calls Tryd.prog 19 #[.slice A 21 c] W fun e w' => ∃ v, e = .returned (.tuple #[v, ival 11]) ∧ (∃ xs, w'.ownsRow W.heap.size 24 2 v 1 xs) ∧ Below W.heap.size W w') := fun W A c hW h1 h2 hr => by
    have := scan_any A 21 c W.heap.size (E0 ++ E0.take 10) p W (HRb.out W hW).1 hr (Nat.le_refl _) h1 h2 (by omega)
    refine this.mono fun e w' ⟨v, G, he, hf, hm, hb⟩ => ?_
    rw [HSC.out] at he hm
    have hl : G.length = 1 := by have := congrArg List.length hm; simpa using this
    have hown := hf.own
    rw [hl] at hown
    exact ⟨v, he, ⟨_, hown⟩, hb⟩
  go_region_held3 (fun _ => True) (trivial) ((first | (go_at_call 24; refine D1.out.mono ?_; rintro e w7 ⟨v7, rfl, hown7, hb7⟩; have q8 : Below w2.heap.size w2 w7 := q7.trans (hb7.mono q7.size)) | (refine step_app Tryd.el22 (.tmp 57) (.tmp 59) rfl rfl hown7 rfl rfl (D2.out w7 q8) (bval_one _) (by omega) hb7.size ?_; intro v8 w8 hown8 hg8 hv8 hb8; have q9 : Below w2.heap.size w2 w8 := q7.trans ((hb7.trans hb8).mono q7.size); obtain ⟨A8, c8, rfl, hc81, hc82, _⟩ := own_slice hown8) | (go_at_call 19; refine (D3.out w8 A8 c8 q9 hc81 hc82 (by rw [List.map_append]; exact Reads.of_own hown8)).mono ?_; rintro e w9 ⟨v9, rfl, ⟨xs9, hown9⟩, hb9⟩; obtain ⟨A9, c9, rfl, _, _, _⟩ := own_slice hown9; have q10 : Below w2.heap.size w2 w9 := q9.trans (hb9.mono q9.size); have hb69 : Below w6.drew.heap.size w6.drew w9 := (hb7.trans hb8).trans (hb9.mono (Nat.le_trans hb7.size hb8.size))) | fail))
  have K9 := Lib.hid (HK6.out.drew.below hb69 HK6.out.lt)
  have O9 := Lib.hid (own_below (own_only HO6.out (Only.refl (fun _ => False) w6).drew (fun _ _ h => h)) hb69)
  have B9 := Lib.hid (HB2.out.trans (q10.mono HB2.out.size))
  clear q6 q7 q8 q9 q10 hb7 hb8 hb9 hb69 hown7 hown8 hown9 hg8 hv8 D1 D2 D3 HK6 HO6 HRb
  have y0 : ∀ O, (w9.alloc O).cell? ⟨g3, 0, none⟩ = some (ival 3) := fun O => (K9.out.alloc O).cell 0
  have y1 : ∀ O, (w9.alloc O).cell? ⟨g3, 1, none⟩ = some (.slice A3 2 c3) := fun O => (K9.out.alloc O).cell 1
  have z0 : w9.cell? ⟨g3, 0, none⟩ = some (ival 3) := K9.out.cell 0
  have z1 : w9.cell? ⟨g3, 1, none⟩ = some (.slice A3 2 c3) := K9.out.cell 1
  have C7 : Hid (Calls Tryd.prog 14 #[.slice A3 2 c3, .slice (some ⟨w9.heap.size, 0, none⟩) 2 2] (w9.alloc (.cells #[bval 7, bval 8] 5)) fun e w' => e = .returned (.bool true) ∧ ∃ m, w' = (w9.alloc (.cells #[bval 7, bval 8] 5)).drewN m) := by
    have hr := (Reads.of_own O9.out).alloc (Nat.le_refl _) (.cells #[bval 7, bval 8] 5)
    have := sameBytes_any A3 (some ⟨w9.heap.size, 0, none⟩) 2 c3 2 2 w9.heap.size (w9.heap.size + 1) [7, 8] [7, 8] (w9.alloc (.cells #[bval 7, bval 8] 5)) hr (Reads.new w9 #[bval 7, bval 8] 5 (0, 0)) (by decide) (by decide)
    exact this
  have B10 := Lib.hid (B9.out.trans (((Below.refl w9.heap.size w9).alloc (Nat.le_refl _) (.cells #[bval 7, bval 8] 5)).mono B9.out.size))
  go_wp2_with fail
  go_must (refine C7.out.mono ?_)
  rintro e w11 ⟨rfl, m, rfl⟩
  go_wp2_with fail
  go_ret
  exact ⟨rfl, below_drewN B10.out m⟩
end Go.Proofs.YtiococglmjjagaaDoor
