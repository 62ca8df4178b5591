/-
  The walk of AlignOpens.
-/
import Derived.Test.YtcikjghinjdmmaaAlignBar
import Derived.Test.YtcikjghinjdmmaaAlignWide
namespace Go.Proofs.Ytcikjghinjdmmaa
set_option linter.unusedVariables false
set_option linter.unusedSimpArgs false
open Go.RowKit

theorem noneL_get (I : Nat) (h : I < noneL.length) : noneL[I] = false := List.getElem_replicate h
theorem one_set_count (I : Nat) (h : I < 96) : (noneL.set I true).count true = 1 := by
  rw [count_set noneL I (by simp [noneL]; omega) (noneL_get _ _)]
  simp [noneL, List.count_replicate]
theorem opens_first (n I : Nat) (a : Int) (hn : 2 ≤ n) (hn96 : n ≤ 96) (hI : I < n) : alBar n alNew (I : Int) a = ((noneL.set I true, some a, none), false) := by
  unfold alBar
  have hb : alBl alNew (I : Int) a = noneL.set I true := by simp [alBl, alFresh, alNew, noneL]
  rw [if_neg (by simp [alRefuses, alNew]; omega), hb, one_set_count I (by omega), if_pos (by omega)]
  rfl
theorem set_blocked (I K : Nat) (aw la : Option Int) (hI : I < 96) : alBlocked (noneL.set I true, aw, la) (K : Int) = decide (I = K) := by
  unfold alBlocked
  simp only [Int.toNat_natCast, List.getElem?_set]
  by_cases h : I = K
  · subst h; simp [noneL, hI]
  · simp only [h, if_false, noneL, List.getElem?_replicate]
    by_cases h2 : K < 96 <;> simp [h2]
theorem opens_less (n I K : Nat) (a b : Int) (h : b < a) : alBar n (noneL.set I true, some a, none) (K : Int) b = ((noneL.set I true, some a, none), false) := by
  unfold alBar
  rw [if_pos (by simp [alRefuses, h])]
theorem opens_more (n I K : Nat) (a b : Int) (h : a < b) (hn : 2 ≤ n) (hn96 : n ≤ 96) (hK : K < n) : alBar n (noneL.set I true, some a, none) (K : Int) b = ((noneL.set K true, some b, none), false) := by
  unfold alBar
  have hb : alBl (noneL.set I true, some a, none) (K : Int) b = noneL.set K true := by simp [alBl, alFresh, h, noneL]
  rw [if_neg (by simp [alRefuses]; omega), hb, one_set_count K (by omega), if_pos (by omega)]
theorem opens_same (n I : Nat) (a : Int) (hn : 2 ≤ n) (hn96 : n ≤ 96) (hI : I < n) : alBar n (noneL.set I true, some a, none) (I : Int) a = ((noneL.set I true, some a, none), false) := by
  unfold alBar
  have hb : alBl (noneL.set I true, some a, none) (I : Int) a = noneL.set I true := by simp [alBl, alFresh]
  rw [if_neg (by simp [alRefuses]; omega), hb, one_set_count I (by omega), if_pos (by omega)]
theorem two_set_count (I K : Nat) (h : I < 96) (hk : K < 96) (hne : I ≠ K) : ((noneL.set I true).set K true).count true = 2 := by
  rw [count_set _ K (by simp [noneL]; omega) (by rw [List.getElem_set_ne hne]; exact noneL_get _ _), one_set_count I h]
theorem opens_other (n I K : Nat) (a : Int) (hn : 2 ≤ n) (hn96 : n ≤ 96) (hI : I < n) (hK : K < n) (hne : I ≠ K) :
    alBar n (noneL.set I true, some a, none) (K : Int) a = if 2 < n then (((noneL.set I true).set K true, some a, none), false) else ((noneL, none, some a), true) := by
  unfold alBar
  have hb : alBl (noneL.set I true, some a, none) (K : Int) a = (noneL.set I true).set K true := by simp [alBl, alFresh]
  rw [if_neg (by simp [alRefuses]; omega), hb, two_set_count I K (by omega) (by omega) hne]
theorem other_blocked (I K : Nat) (aw la : Option Int) (hI : I < 96) (hne : I ≠ K) : alBlocked ((noneL.set I true).set K true, aw, la) (I : Int) = true := by
  unfold alBlocked
  simp only [Int.toNat_natCast, List.getElem?_set_ne (Ne.symm hne), List.getElem?_set_self']
  simp [noneL, hI]

set_option maxRecDepth 100000 in
set_option maxHeartbeats 2000000 in
theorem alignOpens_any (n0 i0 k0 a b : Int) (w : World) (l0 : -9223372036854775808 ≤ n0) (h0 : n0 ≤ 9223372036854775807) (l1 : -9223372036854775808 ≤ i0) (h1 : i0 ≤ 9223372036854775807) (l2 : -9223372036854775808 ≤ k0) (h2 : k0 ≤ 9223372036854775807) :
    Calls Try.prog 6 #[.int .i64 n0, .int .i64 i0, .int .i64 k0, .int .i64 a, .int .i64 b] w fun e w' => e = .returned (.bool true) ∧ Below w.heap.size w w' := by
  have P1 := pick_any n0 63 w (by omega) (by omega) l0 h0
  obtain ⟨n1, hn1⟩ := Int.eq_ofNat_of_zero_le (show 0 ≤ n0 % 63 by omega)
  have hn2 : n1 < 63 := by omega
  rw [hn1] at P1
  obtain ⟨n, hn⟩ : ∃ n, n = n1 + 2 := ⟨_, rfl⟩
  have hni : (2 : Int) + (n1 : Int) = (n : Int) := by omega
  have hnn : 2 ≤ n := by omega
  have hn96 : n ≤ 96 := by omega
  clear hn1 hn hn2
  have P2 := pick_any i0 (n : Int) w (by omega) (by omega) l1 h1
  have q0 := Int.emod_nonneg i0 (show (n : Int) ≠ 0 by omega)
  have q1 := Int.emod_lt_of_pos i0 (show 0 < (n : Int) by omega)
  obtain ⟨I, hI⟩ := Int.eq_ofNat_of_zero_le q0
  rw [hI] at P2 q1
  have hIn : I < n := by omega
  have P3 := pick_any k0 (n : Int) w (by omega) (by omega) l2 h2
  have q2 := Int.emod_nonneg k0 (show (n : Int) ≠ 0 by omega)
  have q3 := Int.emod_lt_of_pos k0 (show 0 < (n : Int) by omega)
  obtain ⟨K, hK⟩ := Int.eq_ofNat_of_zero_le q2
  rw [hK] at P3 q3
  have hKn : K < n := by omega
  have C0 := Lib.hid (new_al n w)
  have HP1 := Lib.hid P1
  have HP2 := Lib.hid P2
  have HP3 := Lib.hid P3
  clear P1 P2 P3 q0 q1 q2 q3 hI hK l0 h0 l1 h1 l2 h2
  go_enter Try.func6, Try.ntmps6
  go_wp2_with fail
  go_must (refine HP1.out.mono ?_)
  rintro e w1 ⟨rfl, rfl⟩
  go_wp2_with fail
  go_must (refine HP2.out.mono ?_)
  rintro e w1 ⟨rfl, rfl⟩
  go_wp2_with fail
  go_must (refine HP3.out.mono ?_)
  rintro e w1 ⟨rfl, rfl⟩
  go_wp2_with fail
  go_must (refine C0.out.mono ?_)
  rintro e w1 ⟨rfl, hr1, hb1⟩
  have B1 := bar_any w.heap.size n alNew none none (I : Int) a w1 hn96 hr1
  rw [opens_first n I a hnn hn96 hIn] at B1
  have D1 := Lib.hid B1
  clear B1 hr1
  go_wp2_with fail
  go_must (refine D1.out.mono ?_)
  rintro e w2 ⟨ap2, lp2, rfl, hr2, hg2, _, _⟩
  have hb2 := hb1.trans (only_below_of hg2 (Nat.le_refl _) hb1.size)
  have B2 := blocked_any w.heap.size n _ ap2 lp2 (I : Int) w2 hr2
  rw [set_blocked I I _ _ (by omega), decide_eq_true rfl] at B2
  have D2 := Lib.hid B2
  have HR2 := Lib.hid hr2
  clear B2 hr2 hg2 D1
  go_wp2_with fail
  go_must (refine D2.out.mono ?_)
  rintro e w3 ⟨rfl, rfl⟩
  rcases (show b < a ∨ a < b ∨ a = b by omega) with hba | hab | rfl
  · -- a lesser one
    have t1 : decide (b < a) = true := by simpa using hba
    have B3 := bar_any w.heap.size n _ ap2 lp2 (K : Int) b w2 hn96 HR2.out
    rw [opens_less n I K a b hba] at B3
    have D3 := Lib.hid B3
    clear B3
    go_wp2_with fail
    go_must (refine D3.out.mono ?_)
    rintro e w4 ⟨ap4, lp4, rfl, hr4, hg4, _, _⟩
    have hb4 := hb2.trans (only_below_of hg4 (Nat.le_refl _) hb2.size)
    have B4 := blocked_any w.heap.size n _ ap4 lp4 (I : Int) w4 hr4
    have B5 := blocked_any w.heap.size n _ ap4 lp4 (K : Int) w4 hr4
    rw [set_blocked I I _ _ (by omega), decide_eq_true rfl] at B4
    rw [set_blocked I K _ _ (by omega)] at B5
    have D4 := Lib.hid B4
    have D5 := Lib.hid B5
    have DK := Lib.hid (known_any w4)
    clear B4 B5 hr4 hg4
    go_wp2_with fail
    go_must (refine D4.out.mono ?_)
    rintro e w5 ⟨rfl, rfl⟩
    by_cases hik : I = K
    · subst hik
      go_wp2_with fail
      go_must (refine DK.out.mono ?_)
      rintro e w5 ⟨rfl, hb5⟩
      go_wp2_with fail
      go_ret
      exact ⟨rfl, hb4.trans (hb5.mono hb4.size)⟩
    · have t2 : (K == I) = false := by simp; omega
      have t3 : decide (I = K) = false := by simpa using hik
      rw [t3] at D5
      clear t3
      go_wp2_with fail
      go_must (refine D5.out.mono ?_)
      rintro e w5 ⟨rfl, rfl⟩
      go_wp2_with fail
      go_must (refine DK.out.mono ?_)
      rintro e w5 ⟨rfl, hb5⟩
      go_wp2_with fail
      go_ret
      exact ⟨rfl, hb4.trans (hb5.mono hb4.size)⟩
  · -- a greater one
    have t1 : decide (b < a) = false := by simp; omega
    have t1' : decide (a < b) = true := by simpa using hab
    have B3 := bar_any w.heap.size n _ ap2 lp2 (K : Int) b w2 hn96 HR2.out
    rw [opens_more n I K a b hab hnn hn96 hKn] at B3
    have D3 := Lib.hid B3
    clear B3
    go_wp2_with fail
    go_must (refine D3.out.mono ?_)
    rintro e w4 ⟨ap4, lp4, rfl, hr4, hg4, _, _⟩
    have hb4 := hb2.trans (only_below_of hg4 (Nat.le_refl _) hb2.size)
    have B4 := blocked_any w.heap.size n _ ap4 lp4 (K : Int) w4 hr4
    have B5 := blocked_any w.heap.size n _ ap4 lp4 (I : Int) w4 hr4
    rw [set_blocked K K _ _ (by omega), decide_eq_true rfl] at B4
    rw [set_blocked K I _ _ (by omega)] at B5
    have D4 := Lib.hid B4
    have D5 := Lib.hid B5
    have DK := Lib.hid (known_any w4)
    clear B4 B5 hr4 hg4
    go_wp2_with fail
    go_must (refine D4.out.mono ?_)
    rintro e w5 ⟨rfl, rfl⟩
    by_cases hik : I = K
    · subst hik
      go_wp2_with fail
      go_must (refine DK.out.mono ?_)
      rintro e w5 ⟨rfl, hb5⟩
      go_wp2_with fail
      go_ret
      exact ⟨rfl, hb4.trans (hb5.mono hb4.size)⟩
    · have t2 : (K == I) = false := by simp; omega
      have t3 : decide (K = I) = false := by simp; omega
      rw [t3] at D5
      clear t3
      go_wp2_with fail
      go_must (refine D5.out.mono ?_)
      rintro e w5 ⟨rfl, rfl⟩
      go_wp2_with fail
      go_must (refine DK.out.mono ?_)
      rintro e w5 ⟨rfl, hb5⟩
      go_wp2_with fail
      go_ret
      exact ⟨rfl, hb4.trans (hb5.mono hb4.size)⟩
  · -- the same one
    by_cases hik : I = K
    · subst hik
      have B3 := bar_any w.heap.size n _ ap2 lp2 (I : Int) a w2 hn96 HR2.out
      rw [opens_same n I a hnn hn96 hIn] at B3
      have D3 := Lib.hid B3
      clear B3
      go_wp2_with fail
      go_must (refine D3.out.mono ?_)
      rintro e w4 ⟨ap4, lp4, rfl, hr4, hg4, _, _⟩
      have hb4 := hb2.trans (only_below_of hg4 (Nat.le_refl _) hb2.size)
      have B4 := blocked_any w.heap.size n _ ap4 lp4 (I : Int) w4 hr4
      rw [set_blocked I I _ _ (by omega), decide_eq_true rfl] at B4
      have D4 := Lib.hid B4
      have DK := Lib.hid (known_any w4)
      clear B4 hr4 hg4
      by_cases hn2 : n = 2
      · have t5 : (n == 2) = true := by simpa using hn2
        have t5' : ((n : Int) == 2) = true := by simp; omega
        go_wp2_with fail
        go_must (refine D4.out.mono ?_)
        rintro e w5 ⟨rfl, rfl⟩
        go_wp2_with fail
        go_must (refine DK.out.mono ?_)
        rintro e w5 ⟨rfl, hb5⟩
        go_wp2_with fail
        go_ret
        exact ⟨rfl, hb4.trans (hb5.mono hb4.size)⟩
      · have t5' : ((n : Int) == 2) = false := by simp; omega
        go_wp2_with fail
        go_must (refine D4.out.mono ?_)
        rintro e w5 ⟨rfl, rfl⟩
        go_wp2_with fail
        go_must (refine DK.out.mono ?_)
        rintro e w5 ⟨rfl, hb5⟩
        go_wp2_with fail
        go_ret
        exact ⟨rfl, hb4.trans (hb5.mono hb4.size)⟩
    · have B3 := bar_any w.heap.size n _ ap2 lp2 (K : Int) a w2 hn96 HR2.out
      rw [opens_other n I K a hnn hn96 hIn hKn hik] at B3
      have t2 : (K != I) = true := by simp; omega
      have t2' : ((K : Int) != (I : Int)) = true := by simp; omega
      by_cases hn2 : 2 < n
      · rw [if_pos hn2] at B3
        have D3 := Lib.hid B3
        clear B3
        have t5' : ((n : Int) == 2) = false := by simp; omega
        go_wp2_with fail
        go_must (refine D3.out.mono ?_)
        rintro e w4 ⟨ap4, lp4, rfl, hr4, hg4, _, _⟩
        have hb4 := hb2.trans (only_below_of hg4 (Nat.le_refl _) hb2.size)
        have B4 := blocked_any w.heap.size n _ ap4 lp4 (I : Int) w4 hr4
        rw [other_blocked I K _ _ (by omega) hik] at B4
        have D4 := Lib.hid B4
        have DK := Lib.hid (known_any w4)
        clear B4 hr4 hg4
        go_wp2_with fail
        go_must (refine D4.out.mono ?_)
        rintro e w5 ⟨rfl, rfl⟩
        go_wp2_with fail
        go_must (refine DK.out.mono ?_)
        rintro e w5 ⟨rfl, hb5⟩
        go_wp2_with fail
        go_ret
        exact ⟨rfl, hb4.trans (hb5.mono hb4.size)⟩
      · rw [if_neg hn2] at B3
        have D3 := Lib.hid B3
        clear B3
        have t5' : ((n : Int) == 2) = true := by simp; omega
        go_wp2_with fail
        go_must (refine D3.out.mono ?_)
        rintro e w4 ⟨ap4, lp4, rfl, hr4, hg4, _, _⟩
        have hb4 := hb2.trans (only_below_of hg4 (Nat.le_refl _) hb2.size)
        have B4 := blocked_any w.heap.size n _ ap4 lp4 (I : Int) w4 hr4
        rw [noneL_blocked] at B4
        have D4 := Lib.hid B4
        have DK := Lib.hid (known_any w4)
        clear B4 hr4 hg4
        go_wp2_with fail
        go_must (refine D4.out.mono ?_)
        rintro e w5 ⟨rfl, rfl⟩
        go_wp2_with fail
        go_must (refine DK.out.mono ?_)
        rintro e w5 ⟨rfl, hb5⟩
        go_wp2_with fail
        go_ret
        exact ⟨rfl, hb4.trans (hb5.mono hb4.size)⟩
end Go.Proofs.Ytcikjghinjdmmaa
