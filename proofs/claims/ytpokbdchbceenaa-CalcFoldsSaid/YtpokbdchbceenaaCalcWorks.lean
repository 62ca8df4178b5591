/-
  The chapter's examples hold.
-/
import Derived.Test.YtpokbdchbceenaaCalcWindow
import Derived.Test.YtpokbdchbceenaaCalcFan
import Derived.Test.YtpokbdchbceenaaCalcCheck3
namespace Go.Proofs.Ytpokbdchbceenaa
set_option linter.unusedVariables false
set_option linter.unusedSimpArgs false
open Go.RowKit
set_option maxRecDepth 100000 in
set_option maxHeartbeats 4000000 in
theorem works_any (w : World) :
    Calls Try.prog 9 #[] w fun e w' => e = .returned (.bool true) ∧ Below w.heap.size w w' := by
  have C1 : Hid (∀ W, Calls Try.prog 13 #[fnV 1 2 0, cellV 0 0, .int .i64 3] W fun e w' => e = .returned (.tuple #[cellV 3 1, ival 0, .bool false]) ∧ Below W.heap.size W w') := fun W => by
    simpa [winV, foldV] using window_any 1 0 2 0 0 3 W (by omega) (by omega) (by omega)
  have C2 : Hid (∀ W, Calls Try.prog 13 #[fnV 1 2 0, cellV 3 1, .int .i64 4] W fun e w' => e = .returned (.tuple #[cellV 0 0, ival 7, .bool true]) ∧ Below W.heap.size W w') := fun W => by
    have := window_any 1 1 2 0 3 4 W (by omega) (by omega) (by omega)
    rw [show winV 2 (foldV 1 3 1 4) ((1 : Nat) + 1) = .tuple #[cellV 0 0, ival 7, .bool true] by simp [winV, foldV, wrap64]] at this
    exact this
  have M1 : Hid (∀ W, Calls Try.prog 14 #[fnV 5 3 0, .int .i64 (-7)] W fun e w' => e = .returned (.int .i64 2) ∧ Below W.heap.size W w') := fun W => by
    simpa using map_mod 3 0 (-7) W (by omega) (by omega) (by omega) (by omega)
  have M2 : Hid (∀ W, Calls Try.prog 14 #[fnV 3 5 0, .int .i64 6] W fun e w' => e = .returned (.int .i64 3) ∧ Below W.heap.size W w') := fun W => map_xor 5 0 6 W
  have M3 : Hid (∀ W, Calls Try.prog 14 #[fnV 4 0 0, .int .i64 5] W fun e w' => e = .returned (.int .i64 (-5)) ∧ Below W.heap.size W w') := fun W => by
    have := map_neg 0 0 5 W
    rwa [show wrap64 (-5) = -5 by simp [wrap64]] at this
  have F1 : Hid (∀ W, Calls Try.prog 15 #[fnV 0 3 10, .int .i64 1] W fun e w' => ∃ x, e = .returned x ∧ w'.ownsRow W.heap.size 3 1 x 3 (([1, 11, 21] : List Int).map ival) ∧ Below W.heap.size W w') := fun W => by
    have := fan_any 0 10 1 3 W (by omega)
    rwa [show fanL 10 1 3 = [1, 11, 21] by simp [fanL, wrap64, List.range_succ]] at this
  have E1 : Hid (∀ W, Calls Try.prog 7 #[.int .i64 9, fnV 0 0 0] W fun e w' => e = .returned (.int .i64 2) ∧ Below W.heap.size W w') := fun W => by
    have := check_any 9 0 0 0 W (by omega) (by omega)
    rwa [show checkV 9 0 0 0 = 2 by decide] at this
  have E2 : Hid (∀ W, Calls Try.prog 7 #[.int .i64 5, fnV 1 0 0] W fun e w' => e = .returned (.int .i64 0) ∧ Below W.heap.size W w') := fun W => by
    have := check_any 5 1 0 0 W (by omega) (by omega)
    rwa [show checkV 5 1 0 0 = 0 by decide] at this
  go_enter Try.func9, Try.ntmps9
  go_wp2_with fail
  go_must (refine (C1.out _).mono ?_)
  rintro e w1 ⟨rfl, hb1⟩
  have k1 : Blk w1 w.heap.size 23 #[ival 1, ival 2, ival 0] := (Blk.new w _ _).below hb1 (by simp)
  have x1 : ∀ O, (w1.alloc O).cell? ⟨w.heap.size, 0, none⟩ = some (ival 1) := fun O => (k1.alloc O).cell 0
  have x2 : ∀ O, (w1.alloc O).cell? ⟨w.heap.size, 1, none⟩ = some (ival 2) := fun O => (k1.alloc O).cell 1
  have x3 : ∀ O, (w1.alloc O).cell? ⟨w.heap.size, 2, none⟩ = some (ival 0) := fun O => (k1.alloc O).cell 2
  have HB1 := Lib.hid (((Below.refl w.heap.size w).alloc (Nat.le_refl _) _).trans (hb1.mono (by simp)))
  have hsz := hb1.size
  simp only [World.size_alloc] at hsz
  have H1 := Lib.hid hb1
  have K1 := Lib.hid k1
  clear hb1 k1
  go_wp2_with fail
  go_must (refine (C2.out _).mono ?_)
  rintro e w2 ⟨rfl, hb2⟩
  have k2 : Blk w2 w1.heap.size 31 #[ival 3, ival 1] := (Blk.new w1 _ _).below hb2 (by simp)
  clear x1 x2 x3
  have HB2 := Lib.hid ((HB1.out.alloc (show w.heap.size ≤ w1.heap.size by omega) (.cells #[ival 3, ival 1] 31)).trans (hb2.mono (by simp; omega)))
  have hsz2 := hb2.size
  simp only [World.size_alloc] at hsz2
  have K2 := Lib.hid (k2.alloc (.cells #[ival 0, ival 0] 31))
  have K5 := Lib.hid (Blk.new w2 31 #[ival 0, ival 0])
  have HB := Lib.hid (HB2.out.alloc (show w.heap.size ≤ w2.heap.size by omega) (.cells #[ival 0, ival 0] 31))
  have hz3 : w.heap.size ≤ (w2.alloc (.cells #[ival 0, ival 0] 31)).heap.size := by simp; omega
  clear hb2 k2 HB2 HB1 C1 C2 H1 K1
  go_wp2_with fail
  generalize w2.alloc (.cells #[ival 0, ival 0] 31) = w3 at *
  generalize w2.heap.size = g5 at *
  generalize w1.heap.size = g2 at *
  go_must (refine (M1.out _).mono ?_)
  rintro e w4 ⟨rfl, hb⟩
  replace K2 := Lib.hid (K2.out.below hb K2.out.lt)
  replace K5 := Lib.hid (K5.out.below hb K5.out.lt)
  replace HB := Lib.hid (HB.out.trans (hb.mono hz3))
  have hz4 := Nat.le_trans hz3 hb.size
  clear hb hz3
  go_wp2_with fail
  go_must (refine (M2.out _).mono ?_)
  rintro e w5 ⟨rfl, hb⟩
  replace K2 := Lib.hid (K2.out.below hb K2.out.lt)
  replace K5 := Lib.hid (K5.out.below hb K5.out.lt)
  replace HB := Lib.hid (HB.out.trans (hb.mono hz4))
  have hz5 := Nat.le_trans hz4 hb.size
  clear hb hz4
  go_wp2_with fail
  go_must (refine (M3.out _).mono ?_)
  rintro e w6 ⟨rfl, hb⟩
  replace K2 := Lib.hid (K2.out.below hb K2.out.lt)
  replace K5 := Lib.hid (K5.out.below hb K5.out.lt)
  replace HB := Lib.hid (HB.out.trans (hb.mono hz5))
  have hz6 := Nat.le_trans hz5 hb.size
  clear hb hz5
  go_wp2_with fail
  go_must (refine (F1.out _).mono ?_)
  rintro e w7 ⟨x, rfl, hown, hb⟩
  obtain ⟨A, c, rfl, hc1, hc2, -⟩ := own_slice hown
  replace K2 := Lib.hid (K2.out.below hb K2.out.lt)
  replace K5 := Lib.hid (K5.out.below hb K5.out.lt)
  replace HB := Lib.hid (HB.out.trans (hb.mono hz6))
  have hz7 := Nat.le_trans hz6 hb.size
  have HR := Lib.hid (Reads.of_own hown)
  clear hb hz6 hown
  go_wp2_with fail
  go_must (refine (sameInts_any A _ 3 c 3 3 w7.heap.size (w7.heap.size + 1) [1, 11, 21] [1, 11, 21] _ (HR.out.alloc (Nat.le_refl _) _) (Reads.new _ _ _ _) (by simp [maxLen]) (by simp [maxLen])).mono ?_)
  rintro e w8 ⟨rfl, m, rfl⟩
  replace K2 := Lib.hid (((K2.out.alloc (.cells #[ival 1, ival 11, ival 21] 3)).drewN m))
  replace K5 := Lib.hid (((K5.out.alloc (.cells #[ival 1, ival 11, ival 21] 3)).drewN m))
  replace HB := Lib.hid (below_drewN (HB.out.alloc hz7 (.cells #[ival 1, ival 11, ival 21] 3)) m)
  have hz8 : w.heap.size ≤ ((w7.alloc (.cells #[ival 1, ival 11, ival 21] 3)).drewN m).heap.size := by
    show _ ≤ (w7.alloc _).heap.size; simp; omega
  have b1 := K2.out.cell 0
  have b2 := K2.out.cell 1
  have b3 := K5.out.cell 0
  have b4 := K5.out.cell 1
  go_wp2_with fail
  clear b1 b2 b3 b4
  go_must (refine (E1.out _).mono ?_)
  rintro e w9 ⟨rfl, hb⟩
  replace HB := Lib.hid (HB.out.trans (hb.mono hz8))
  have hz9 := Nat.le_trans hz8 hb.size
  clear hb hz8 hz7
  go_wp2_with fail
  go_must (refine (E2.out _).mono ?_)
  rintro e w10 ⟨rfl, hb⟩
  replace HB := Lib.hid (HB.out.trans (hb.mono hz9))
  clear hb hz9
  go_wp2_with fail
  go_ret
  exact ⟨rfl, HB.out⟩
end Go.Proofs.Ytpokbdchbceenaa
