/-
  The walk of AlignWide.
-/
import Derived.Test.YtcikjghinjdmmaaAlignBar
import Derived.Test.YtcikjghinjdmmaaAlignOne
namespace Go.Proofs.Ytcikjghinjdmmaa
set_option linter.unusedVariables false
set_option linter.unusedSimpArgs false
open Go.RowKit

/-- Which input brings the i-th barrier. -/
def kf (n f : Nat) (back : Bool) (i : Nat) : Nat := if back then n - 1 - (f + i) % n else (f + i) % n
theorem mod_inj (n f i j : Nat) (hi : i < n) (hj : j < n) (hf : f < n) (h : (f + i) % n = (f + j) % n) : i = j := by
  by_cases h1 : f + i < n <;> by_cases h2 : f + j < n
  · rw [Nat.mod_eq_of_lt h1, Nat.mod_eq_of_lt h2] at h; omega
  · rw [Nat.mod_eq_of_lt h1, Nat.mod_eq_sub_mod (by omega), Nat.mod_eq_of_lt (by omega)] at h; omega
  · rw [Nat.mod_eq_of_lt h2, Nat.mod_eq_sub_mod (by omega), Nat.mod_eq_of_lt (by omega)] at h; omega
  · rw [Nat.mod_eq_sub_mod (by omega), Nat.mod_eq_of_lt (by omega), Nat.mod_eq_sub_mod (by omega), Nat.mod_eq_of_lt (by omega)] at h; omega
theorem kf_lt (n f : Nat) (back : Bool) (i : Nat) (hn : 0 < n) : kf n f back i < n := by
  unfold kf
  have := Nat.mod_lt (f + i) hn
  split <;> omega
theorem kf_inj (n f : Nat) (back : Bool) (i j : Nat) (hi : i < n) (hj : j < n) (hf : f < n) (h : kf n f back i = kf n f back j) : i = j := by
  have h1 := Nat.mod_lt (f + i) (show 0 < n by omega)
  have h2 := Nat.mod_lt (f + j) (show 0 < n by omega)
  unfold kf at h
  cases back
  · exact mod_inj n f i j hi hj hf (by simpa using h)
  · refine mod_inj n f i j hi hj hf ?_
    simp at h; omega
def wideL (n f : Nat) (back : Bool) : Nat → List Bool
  | 0 => noneL
  | i + 1 => (wideL n f back i).set (kf n f back i) true
theorem wideL_length (n f : Nat) (back : Bool) (i : Nat) : (wideL n f back i).length = 96 := by
  induction i with
  | zero => simp [wideL, noneL]
  | succ i ih => simp [wideL, ih]
theorem wideL_get (n f : Nat) (back : Bool) (i j : Nat) (hij : i ≤ j) (hj : j < n) (hf : f < n) (hn : n ≤ 96) : (wideL n f back i)[kf n f back j]? = some false := by
  induction i with
  | zero => have := kf_lt n f back j (by omega); simp only [wideL, noneL, List.getElem?_replicate]; rw [if_pos (by omega)]
  | succ i ih =>
    rw [wideL, List.getElem?_set_ne, ih (by omega)]
    intro h
    have := kf_inj n f back i j (by omega) hj hf h
    omega
theorem wideL_count (n f : Nat) (back : Bool) (i : Nat) (hi : i ≤ n) (hf : f < n) (hn : n ≤ 96) : (wideL n f back i).count true = i := by
  induction i with
  | zero => simp [wideL, noneL, List.count_replicate]
  | succ i ih =>
    have hk := kf_lt n f back i (by omega)
    have hl : kf n f back i < (wideL n f back i).length := by rw [wideL_length]; omega
    have hg := wideL_get n f back i i (Nat.le_refl _) (by omega) hf hn
    rw [List.getElem?_eq_getElem hl] at hg
    injection hg with hg
    rw [wideL, count_set _ _ hl hg, ih (by omega)]
def wideS (n f : Nat) (back : Bool) (no : Int) (i : Nat) : AlSt := (wideL n f back i, if i = 0 then none else some no, none)
theorem wide_bar (n f : Nat) (back : Bool) (no : Int) (i : Nat) (hi : i < n) (hf : f < n) (hn : n ≤ 96) :
    alBar n (wideS n f back no i) ((kf n f back i : Nat) : Int) no = if i + 1 < n then (wideS n f back no (i + 1), false) else ((noneL, none, some no), true) := by
  have hk := kf_lt n f back i (by omega)
  have hb : alBl (wideS n f back no i) ((kf n f back i : Nat) : Int) no = wideL n f back (i + 1) := by
    unfold alBl
    by_cases h0 : i = 0
    · subst h0; simp [wideS, alFresh, wideL, noneL]
    · simp [wideS, alFresh, h0, wideL]
  unfold alBar
  rw [if_neg, hb, wideL_count n f back (i + 1) (by omega) hf hn]
  · by_cases h1 : i + 1 < n
    · rw [if_pos h1, if_pos h1]; simp [wideS]
    · rw [if_neg h1, if_neg h1]
  · unfold alRefuses wideS
    by_cases h0 : i = 0
    · simp [h0]; have := kf_lt n f back 0 (by omega); omega
    · simp [h0]; omega
theorem wide_blocked (n f : Nat) (back : Bool) (no : Int) (i : Nat) (hi : i < n) (hf : f < n) (hn : n ≤ 96) : alBlocked (wideS n f back no i) ((kf n f back i : Nat) : Int) = false := by
  unfold alBlocked wideS
  simp [wideL_get n f back i i (Nat.le_refl _) hi hf hn]
theorem wide_blocked2 (n f : Nat) (back : Bool) (no : Int) (i : Nat) (hi : i < n) (hf : f < n) (hn : n ≤ 96) : alBlocked (wideS n f back no (i + 1)) ((kf n f back i : Nat) : Int) = true := by
  have hk := kf_lt n f back i (by omega)
  unfold alBlocked wideS
  rw [wideL, List.getElem?_set]
  have : kf n f back i < 96 := by omega
  simp [wideL_length, this]

set_option maxRecDepth 100000 in
set_option maxHeartbeats 2000000 in
theorem alignWide_any (n0 f0 : Int) (back : Bool) (no : Int) (w : World) (l0 : -9223372036854775808 ≤ n0) (h0 : n0 ≤ 9223372036854775807) (l1 : -9223372036854775808 ≤ f0) (h1 : f0 ≤ 9223372036854775807) :
    Calls Try.prog 8 #[.int .i64 n0, .int .i64 f0, .bool back, .int .i64 no] w fun e w' => e = .returned (.bool true) ∧ Below w.heap.size w w' := by
  have P1 := pick_any n0 96 w (by omega) (by omega) l0 h0
  obtain ⟨n1, hn1⟩ := Int.eq_ofNat_of_zero_le (show 0 ≤ n0 % 96 by omega)
  have hn2 : n1 < 96 := by omega
  rw [hn1] at P1
  obtain ⟨n, hn⟩ : ∃ n, n = n1 + 1 := ⟨_, rfl⟩
  have hni : (1 : Int) + (n1 : Int) = (n : Int) := by omega
  have hnn : 1 ≤ n := by omega
  have hn96 : n ≤ 96 := by omega
  clear hn1 hn hn2
  have C0 := Lib.hid (new_al n w)
  have P2 := fun W => pick_any f0 (n : Int) W (by omega) (by omega) l1 h1
  have q0 := Int.emod_nonneg f0 (show (n : Int) ≠ 0 by omega)
  have q1 := Int.emod_lt_of_pos f0 (show 0 < (n : Int) by omega)
  obtain ⟨f, hf⟩ := Int.eq_ofNat_of_zero_le q0
  rw [hf] at P2 q1
  have hfn : f < n := by omega
  have HP1 := Lib.hid P1
  have HP2 := Lib.hid P2
  clear P1 P2 q0 q1 hf l0 h0 l1 h1
  go_enter Try.func8, Try.ntmps8
  go_wp2_with fail
  go_must (refine HP1.out.mono ?_)
  rintro e w1 ⟨rfl, rfl⟩
  go_wp2_with fail
  go_must (refine C0.out.mono ?_)
  rintro e w1 ⟨rfl, hr1, hb1⟩
  have HR1 := Lib.hid hr1
  clear hr1
  go_wp2_with fail
  go_must (refine (HP2.out _).mono ?_)
  rintro e w2 ⟨rfl, rfl⟩
  go_wp2_with fail
  go_loopw [10] (fun i wr => ∃ (k : Nat) (ap lp : Option Addr), k ≤ n ∧ i = .int .i64 k ∧ AlRep wr w.heap.size n (if k < n then wideS n f back no k else (noneL, none, some no)) ap lp ∧ Below w.heap.size w wr) (fun i _ => n - (intOf i).toNat)
  case atStart => exact ⟨0, none, none, by omega, rfl, by rw [if_pos (by omega)]; exact HR1.out, hb1⟩
  case round =>
    obtain ⟨k, ap, lp, hk, rfl, hrep, hbel⟩ := hrel
    clear HR1
    by_cases hlt : k < n
    · rw [if_pos hlt] at hrep
      have HRep := Lib.hid hrep
      clear hrep
      cases back
      · have hE : ((f : Int) + (k : Int)) % (n : Int) = ((kf n f false k : Nat) : Int) := by
          have := Nat.mod_lt (f + k) (show 0 < n by omega)
          simp [kf]
        have B1 := blocked_any w.heap.size n (wideS n f false no k) ap lp (((f : Int) + (k : Int)) % (n : Int)) wr HRep.out
        have hB1 : alBlocked (wideS n f false no k) (((f : Int) + (k : Int)) % (n : Int)) = false := by rw [hE]; exact wide_blocked n f false no k hlt hfn hn96
        rw [hB1] at B1
        have D1 := Lib.hid B1
        have B2 := bar_any w.heap.size n (wideS n f false no k) ap lp (((f : Int) + (k : Int)) % (n : Int)) no wr hn96 HRep.out
        have hB2 : alBar n (wideS n f false no k) (((f : Int) + (k : Int)) % (n : Int)) no = if k + 1 < n then (wideS n f false no (k + 1), false) else ((noneL, none, some no), true) := by rw [hE]; exact wide_bar n f false no k hlt hfn hn96
        rw [hB2] at B2
        have he0 := Int.emod_nonneg ((f : Int) + (k : Int)) (show (n : Int) ≠ 0 by omega)
        have he1 := Int.emod_lt_of_pos ((f : Int) + (k : Int)) (show 0 < (n : Int) by omega)
        by_cases hk1 : k + 1 < n
        · rw [if_pos hk1] at B2
          have D2 := Lib.hid B2
          have hB3 : Hid (alBlocked (wideS n f false no (k + 1)) (((f : Int) + (k : Int)) % (n : Int)) = true) := by show _ = _; rw [hE]; exact wide_blocked2 n f false no k hlt hfn hn96
          clear B1 B2 hB1 hB2 hE
          have t1 : ((k : Int) == (n : Int) - 1) = false := by simp; omega
          have t2 : decide ((k : Int) < (n : Int) - 1) = true := by simp; omega
          go_wp2_with fail
          go_must (refine D1.out.mono ?_)
          rintro e w2 ⟨rfl, rfl⟩
          go_wp2_with fail
          go_must (refine D2.out.mono ?_)
          rintro e w2 ⟨ap2, lp2, rfl, hr2, hg2, _, _⟩
          have hb2 := hbel.trans (only_below_of hg2 (Nat.le_refl _) hbel.size)
          have B3 := blocked_any w.heap.size n _ ap2 lp2 (((f : Int) + (k : Int)) % (n : Int)) w2 hr2
          rw [hB3.out] at B3
          have D3 := Lib.hid B3
          have HR2 := Lib.hid hr2
          clear B3 hr2 hg2
          go_wp2_with fail
          go_must (refine D3.out.mono ?_)
          rintro e w3 ⟨rfl, rfl⟩
          clear he0 he1
          go_wp2_with fail
          go_roundw
          case rel => exact ⟨k + 1, ap2, lp2, by omega, by go_num, by rw [if_pos hk1]; exact HR2.out, hb2⟩
          case measure => simp [intOf]; omega
        · rw [if_neg hk1] at B2
          have D2 := Lib.hid B2
          clear B1 B2 hB1 hB2 hE
          have t1 : ((k : Int) == (n : Int) - 1) = true := by simp; omega
          have t2 : decide ((k : Int) < (n : Int) - 1) = false := by simp; omega
          go_wp2_with fail
          go_must (refine D1.out.mono ?_)
          rintro e w2 ⟨rfl, rfl⟩
          go_wp2_with fail
          go_must (refine D2.out.mono ?_)
          rintro e w2 ⟨ap2, lp2, rfl, hr2, hg2, _, _⟩
          have hb2 := hbel.trans (only_below_of hg2 (Nat.le_refl _) hbel.size)
          have B3 := blocked_any w.heap.size n _ ap2 lp2 (((f : Int) + (k : Int)) % (n : Int)) w2 hr2
          rw [noneL_blocked] at B3
          have D3 := Lib.hid B3
          have HR2 := Lib.hid hr2
          clear B3 hr2 hg2
          go_wp2_with fail
          go_must (refine D3.out.mono ?_)
          rintro e w3 ⟨rfl, rfl⟩
          clear he0 he1
          go_wp2_with fail
          go_roundw
          case rel => exact ⟨k + 1, ap2, lp2, by omega, by go_num, by rw [if_neg hk1]; exact HR2.out, hb2⟩
          case measure => simp [intOf]; omega
      · have hE : (n : Int) - 1 - ((f : Int) + (k : Int)) % (n : Int) = ((kf n f true k : Nat) : Int) := by
          have := Nat.mod_lt (f + k) (show 0 < n by omega)
          simp only [kf, if_true]; rw [← Int.natCast_add, ← Int.natCast_emod]; omega
        have B1 := blocked_any w.heap.size n (wideS n f true no k) ap lp ((n : Int) - 1 - ((f : Int) + (k : Int)) % (n : Int)) wr HRep.out
        have hB1 : alBlocked (wideS n f true no k) ((n : Int) - 1 - ((f : Int) + (k : Int)) % (n : Int)) = false := by rw [hE]; exact wide_blocked n f true no k hlt hfn hn96
        rw [hB1] at B1
        have D1 := Lib.hid B1
        have B2 := bar_any w.heap.size n (wideS n f true no k) ap lp ((n : Int) - 1 - ((f : Int) + (k : Int)) % (n : Int)) no wr hn96 HRep.out
        have hB2 : alBar n (wideS n f true no k) ((n : Int) - 1 - ((f : Int) + (k : Int)) % (n : Int)) no = if k + 1 < n then (wideS n f true no (k + 1), false) else ((noneL, none, some no), true) := by rw [hE]; exact wide_bar n f true no k hlt hfn hn96
        rw [hB2] at B2
        have he0 := Int.emod_nonneg ((f : Int) + (k : Int)) (show (n : Int) ≠ 0 by omega)
        have he1 := Int.emod_lt_of_pos ((f : Int) + (k : Int)) (show 0 < (n : Int) by omega)
        by_cases hk1 : k + 1 < n
        · rw [if_pos hk1] at B2
          have D2 := Lib.hid B2
          have hB3 : Hid (alBlocked (wideS n f true no (k + 1)) ((n : Int) - 1 - ((f : Int) + (k : Int)) % (n : Int)) = true) := by show _ = _; rw [hE]; exact wide_blocked2 n f true no k hlt hfn hn96
          clear B1 B2 hB1 hB2 hE
          have t1 : ((k : Int) == (n : Int) - 1) = false := by simp; omega
          have t2 : decide ((k : Int) < (n : Int) - 1) = true := by simp; omega
          go_wp2_with fail
          go_must (refine D1.out.mono ?_)
          rintro e w2 ⟨rfl, rfl⟩
          go_wp2_with fail
          go_must (refine D2.out.mono ?_)
          rintro e w2 ⟨ap2, lp2, rfl, hr2, hg2, _, _⟩
          have hb2 := hbel.trans (only_below_of hg2 (Nat.le_refl _) hbel.size)
          have B3 := blocked_any w.heap.size n _ ap2 lp2 ((n : Int) - 1 - ((f : Int) + (k : Int)) % (n : Int)) w2 hr2
          rw [hB3.out] at B3
          have D3 := Lib.hid B3
          have HR2 := Lib.hid hr2
          clear B3 hr2 hg2
          go_wp2_with fail
          go_must (refine D3.out.mono ?_)
          rintro e w3 ⟨rfl, rfl⟩
          clear he0 he1
          go_wp2_with fail
          go_roundw
          case rel => exact ⟨k + 1, ap2, lp2, by omega, by go_num, by rw [if_pos hk1]; exact HR2.out, hb2⟩
          case measure => simp [intOf]; omega
        · rw [if_neg hk1] at B2
          have D2 := Lib.hid B2
          clear B1 B2 hB1 hB2 hE
          have t1 : ((k : Int) == (n : Int) - 1) = true := by simp; omega
          have t2 : decide ((k : Int) < (n : Int) - 1) = false := by simp; omega
          go_wp2_with fail
          go_must (refine D1.out.mono ?_)
          rintro e w2 ⟨rfl, rfl⟩
          go_wp2_with fail
          go_must (refine D2.out.mono ?_)
          rintro e w2 ⟨ap2, lp2, rfl, hr2, hg2, _, _⟩
          have hb2 := hbel.trans (only_below_of hg2 (Nat.le_refl _) hbel.size)
          have B3 := blocked_any w.heap.size n _ ap2 lp2 ((n : Int) - 1 - ((f : Int) + (k : Int)) % (n : Int)) w2 hr2
          rw [noneL_blocked] at B3
          have D3 := Lib.hid B3
          have HR2 := Lib.hid hr2
          clear B3 hr2 hg2
          go_wp2_with fail
          go_must (refine D3.out.mono ?_)
          rintro e w3 ⟨rfl, rfl⟩
          clear he0 he1
          go_wp2_with fail
          go_roundw
          case rel => exact ⟨k + 1, ap2, lp2, by omega, by go_num, by rw [if_neg hk1]; exact HR2.out, hb2⟩
          case measure => simp [intOf]; omega
    · rw [if_neg hlt] at hrep
      have B1 := bar_any w.heap.size n (noneL, none, some no) ap lp (f : Int) no wr hn96 hrep
      have hB1 : alBar n (noneL, none, some no) (f : Int) no = ((noneL, none, some no), false) := by
        unfold alBar; rw [if_pos (by simp [alRefuses])]
      rw [hB1] at B1
      have D1 := Lib.hid B1
      clear B1 hB1 hrep
      go_wp2_with fail
      go_must (refine D1.out.mono ?_)
      rintro e w2 ⟨ap2, lp2, rfl, hr2, hg2, _, _⟩
      have hb2 := hbel.trans (only_below_of hg2 (Nat.le_refl _) hbel.size)
      have B2 := blocked_any w.heap.size n _ ap2 lp2 (f : Int) w2 hr2
      rw [noneL_blocked] at B2
      have D2 := Lib.hid B2
      have DK := Lib.hid (known_any w2)
      clear B2 hr2 hg2
      go_wp2_with fail
      go_must (refine D2.out.mono ?_)
      rintro e w3 ⟨rfl, rfl⟩
      go_wp2_with fail
      go_must (refine DK.out.mono ?_)
      rintro e w4 ⟨rfl, hb4⟩
      go_wp2_with fail
      go_ret
      exact ⟨rfl, hb2.trans (hb4.mono hb2.size)⟩
end Go.Proofs.Ytcikjghinjdmmaa
