/-
  The walk of AlignFair.
-/
import Derived.Test.YtcikjghinjdmmaaAlignWide
import Derived.Test.YtcikjghinjdmmaaStructs
import Derived.StillTailTactics
namespace Go.Proofs.Ytcikjghinjdmmaa
set_option linter.unusedVariables false
set_option linter.unusedSimpArgs false
open Go.RowKit

/-- Nothing that came is above what an input brings next. -/
def lowS (s : AlSt) : Prop := (∀ a, s.2.1 = some a → a < 2000) ∧ (∀ a, s.2.2 = some a → a < 2000)
theorem lowS_new : lowS alNew := ⟨fun a h => by simp [alNew] at h, fun a h => by simp [alNew] at h⟩
theorem lowS_bar (n : Nat) (s : AlSt) (i no : Int) (h : lowS s) (hno : no < 2000) : lowS (alBar n s i no).1 := by
  unfold alBar
  split
  · exact h
  · split
    · exact ⟨fun a ha => by simp at ha; omega, h.2⟩
    · exact ⟨fun a ha => by simp at ha, fun a ha => by simp at ha; omega⟩
theorem not_refused (n : Nat) (bl : List Bool) (aw la : Option Int) (I : Nat) (no : Int) (hI : I < n) (h1 : ∀ a, la = some a → a < no) (h2 : ∀ a, aw = some a → a ≤ no) : alRefuses n (bl, aw, la) (I : Int) no = false := by
  cases aw with
  | none =>
    cases la with
    | none => simp [alRefuses]; omega
    | some l => have := h1 l rfl; simp [alRefuses]; omega
  | some a =>
    have := h2 a rfl
    cases la with
    | none => simp [alRefuses]; omega
    | some l => have := h1 l rfl; simp [alRefuses]; omega
def fairS (s : AlSt) (n f k : Nat) : AlSt := if k = 0 then s else (wideL n f false k, some 2000, s.2.2)
theorem fair_bar (s : AlSt) (n f k : Nat) (hs : lowS s) (hk : k < n) (hf : f < n) (hn : n ≤ 96) :
    alBar n (fairS s n f k) ((kf n f false k : Nat) : Int) 2000 = if k + 1 < n then (fairS s n f (k + 1), false) else ((noneL, none, some 2000), true) := by
  have hkf := kf_lt n f false k (by omega)
  obtain ⟨bl, aw, la⟩ := s
  have hla : ∀ a, la = some a → a < 2000 := hs.2
  have haw : ∀ a, aw = some a → a < 2000 := hs.1
  have hb : alBl (fairS (bl, aw, la) n f k) ((kf n f false k : Nat) : Int) 2000 = wideL n f false (k + 1) := by
    unfold alBl
    by_cases h0 : k = 0
    · subst h0
      have : alFresh (bl, aw, la) 2000 = true := by
        cases aw with
        | none => rfl
        | some a => have := haw a rfl; simp [alFresh, this]
      simp [fairS, this, wideL, noneL]
    · simp [fairS, alFresh, h0, wideL]
  have hr : alRefuses n (fairS (bl, aw, la) n f k) ((kf n f false k : Nat) : Int) 2000 = false := by
    unfold fairS
    by_cases h0 : k = 0
    · subst h0
      rw [if_pos rfl]
      exact not_refused n bl aw la _ 2000 hkf hla (fun a h => Int.le_of_lt (haw a h))
    · rw [if_neg h0]
      exact not_refused n _ _ la _ 2000 hkf hla (fun a h => by injection h with h; omega)
  unfold alBar
  rw [hr, hb, wideL_count n f false (k + 1) (by omega) hf hn]
  simp only [Bool.false_eq_true, if_false]
  by_cases h1 : k + 1 < n
  · rw [if_pos h1, if_pos h1]
    by_cases h0 : k = 0
    · simp [fairS, h0]
    · simp [fairS, h0]
  · rw [if_neg h1, if_neg h1]
theorem fair_blocked (s : AlSt) (n f k : Nat) (hk : k < n) (hf : f < n) (hn : n ≤ 96) : alBlocked (fairS s n f (k + 1)) ((kf n f false k : Nat) : Int) = true := by
  have := wide_blocked2 n f false 2000 k hk hf hn
  simpa [fairS, wideS, alBlocked] using this
theorem kf_step (n f k : Nat) (hn : 0 < n) : (kf n f false k + 1) % n = kf n f false (k + 1) := by
  simp [kf, Nat.add_assoc]
theorem fair_open (s : AlSt) (n f k : Nat) (hk : k + 1 < n) (hf : f < n) (hn : n ≤ 96) : alBlocked (fairS s n f (k + 1)) ((kf n f false (k + 1) : Nat) : Int) = false := by
  have := wideL_get n f false (k + 1) (k + 1) (Nat.le_refl _) hk hf hn
  simp [fairS, alBlocked, this]
theorem refused (n : Nat) (i no : Int) (h : no ≤ 2000) : alBar n (noneL, none, some 2000) i no = ((noneL, none, some 2000), false) := by
  unfold alBar
  rw [if_pos (by simp [alRefuses, h])]

set_option maxRecDepth 100000 in
set_option maxHeartbeats 2000000 in
theorem alignFair_any (n0 : Int) (A : Option Addr) (N c : Nat) (Z : Nat → Nat → Int) (f0 : Int) (w : World) (l0 : -9223372036854775808 ≤ n0) (h0 : n0 ≤ 9223372036854775807) (l1 : -9223372036854775808 ≤ f0) (h1 : f0 ≤ 9223372036854775807)
    (ht : Tab w w.heap.size 2 A N Z) (hm : N ≤ maxLen) :
    Calls Try.prog 5 #[.int .i64 n0, .slice A N c, .int .i64 f0] w fun e w' => e = .returned (.bool true) ∧ Below w.heap.size w w' := by
  have P1 := pick_any n0 64 w (by omega) (by omega) l0 h0
  unfold maxLen at hm
  obtain ⟨n1, hn1⟩ := Int.eq_ofNat_of_zero_le (show 0 ≤ n0 % 64 by omega)
  have hn2 : n1 < 64 := by omega
  rw [hn1] at P1
  obtain ⟨n, hn⟩ : ∃ n, n = n1 + 1 := ⟨_, rfl⟩
  have hni : (1 : Int) + (n1 : Int) = (n : Int) := by omega
  have hnn : 1 ≤ n := by omega
  have hn96 : n ≤ 96 := by omega
  clear hn1 hn hn2
  have C0 := Lib.hid (new_al n w)
  have P2 := fun W => pick_any f0 (n : Int) W (by omega) (by omega) l1 h1
  have q0 := Int.emod_nonneg f0 (show (n : Int) ≠ 0 by omega)
  have q1 := Int.emod_lt_of_pos f0 (show 0 < (n : Int) by omega)
  obtain ⟨f, hf⟩ := Int.eq_ofNat_of_zero_le q0
  rw [hf] at P2 q1
  have hfn : f < n := by omega
  have HP1 := Lib.hid P1
  have HP2 := Lib.hid P2
  have HT := Lib.hid ht
  clear P1 P2 q0 q1 hf l0 h0 l1 h1 ht
  go_enter Try.func5, Try.ntmps5
  go_wp2_with fail
  go_must (refine HP1.out.mono ?_)
  rintro e w1 ⟨rfl, rfl⟩
  go_wp2_with fail
  go_must (refine C0.out.mono ?_)
  rintro e w1 ⟨rfl, hr1, hb1⟩
  have HR1 := Lib.hid hr1
  clear hr1
  go_wp2_with fail
  go_loopw [8] (fun i wr => ∃ (k : Nat) (s : AlSt) (ap lp : Option Addr), k ≤ N ∧ k ≤ 300 ∧ i = .int .i64 k ∧ AlRep wr w.heap.size n s ap lp ∧ lowS s ∧ Below w.heap.size w wr) (fun i _ => 300 - (intOf i).toNat)
  case atStart => exact ⟨0, alNew, none, none, by omega, by omega, rfl, HR1.out, lowS_new, hb1⟩
  case round =>
    obtain ⟨k, s, ap, lp, hk, hk3, rfl, hrep, hlow, hbel⟩ := hrel
    clear HR1
    have HRep := Lib.hid hrep
    have HLow := Lib.hid hlow
    clear hrep hlow
    by_cases hgo : k < N ∧ k < 300
    · obtain ⟨hlt, hlt3⟩ := hgo
      obtain ⟨ad, rfl, _, hc⟩ := (HT.out.below hbel) k hlt
      obtain ⟨hc0, lo0, hi0⟩ := hc 0 (by omega)
      obtain ⟨hc1, lo1, hi1⟩ := hc 1 (by omega)
      clear hc
      have hk3' : (k : Int) < 300 := by omega
      generalize Z k 0 = z0 at *
      generalize Z k 1 = z1 at *
      have hc0' : wr.cell? (ad.add (k * 2)) = some (ival z0) := hc0
      have hc1' : wr.cell? { block := (ad.add (k * 2)).block, off := (ad.add (k * 2)).off + 1 } = some (ival z1) := by rw [← Go.Deep.add_add] at hc1; exact hc1
      clear hc0 hc1
      have ht1 : Int.tmod z1 1001 < 1001 := Int.tmod_lt_of_pos _ (by omega)
      have C1 : ∀ m, Calls Try.prog 13 #[.pointer (some ⟨w.heap.size, 0, none⟩), .int .i64 z0, .int .i64 (Int.tmod z1 1001)] (wr.drewN m) (AlPost (wr.drewN m) w.heap.size n (alBar n s z0 (Int.tmod z1 1001)) ap lp) := fun m => bar_any w.heap.size n s ap lp z0 (Int.tmod z1 1001) (wr.drewN m) hn96 (HRep.out.drewN m)
      have D1 := Lib.hid C1
      have HL2 := Lib.hid (lowS_bar n s z0 (Int.tmod z1 1001) HLow.out (by omega))
      clear C1 ht1
      go_wp2_with fail
      go_still_tail 12, (by kernel_rfl)
      change wpList _ _ _ _ _ (wr.drewN 1)
      go_wp2_with fail
      go_must (refine (D1.out 1).mono ?_)
      rintro e w2 ⟨ap2, lp2, rfl, hr2, hg2, _, _⟩
      have hb2 := (below_drewN hbel 1).trans (only_below_of hg2 (Nat.le_refl _) (below_drewN hbel 1).size)
      have HR2 := Lib.hid hr2
      clear hr2 hg2
      go_wp2_with fail
      go_roundw
      case rel => exact ⟨k + 1, _, ap2, lp2, by omega, by omega, by go_num, HR2.out, HL2.out, hb2⟩
      case measure => simp [intOf]; omega
    · have hd : N ≤ k ∨ (k < N ∧ decide ((k : Int) < 300) = false) := by
        by_cases h : k < N
        · exact .inr ⟨h, by simp; omega⟩
        · exact .inl (by omega)
      clear hgo HT hm
      rcases hd with hd | ⟨hd, hd3⟩ <;>
      ( go_wp2_with fail
        go_must (refine (HP2.out _).mono ?_)
        rintro e w2 ⟨rfl, rfl⟩
        go_wp2_with fail
        clear hd hk hk3
        go_loopw [9, 10] (fun j x wx => ∃ (K : Nat) (ap lp : Option Addr), K ≤ n ∧ j = .int .i64 K ∧ AlRep wx w.heap.size n (if K < n then fairS s n f K else (noneL, none, some 2000)) ap lp ∧ Below w.heap.size w wx) (fun j _ _ => n - (intOf j).toNat)
        case atStart => exact ⟨0, ap, lp, by omega, rfl, by rw [if_pos (by omega)]; exact HRep.out, hbel⟩
        case round =>
          obtain ⟨K, ap3, lp3, hK, rfl, hrep3, hbel3⟩ := hrel
          clear HRep hbel
          by_cases hlt : K < n
          · rw [if_pos hlt] at hrep3
            have HR3 := Lib.hid hrep3
            clear hrep3
            have hE : ((f : Int) + (K : Int)) % (n : Int) = ((kf n f false K : Nat) : Int) := by
              simp [kf]
            have hE3 : ((f : Int) + (K : Int) + 1) % (n : Int) = ((kf n f false (K + 1) : Nat) : Int) := by
              simp [kf, Int.add_assoc]
            have he0 := Int.emod_nonneg ((f : Int) + (K : Int)) (show (n : Int) ≠ 0 by omega)
            have he1 := Int.emod_lt_of_pos ((f : Int) + (K : Int)) (show 0 < (n : Int) by omega)
            have B1 := bar_any w.heap.size n (fairS s n f K) ap3 lp3 (((f : Int) + (K : Int)) % (n : Int)) 2000 wr hn96 HR3.out
            have hB1 : alBar n (fairS s n f K) (((f : Int) + (K : Int)) % (n : Int)) 2000 = _ := (congrArg (fun z => alBar n (fairS s n f K) z 2000) hE).trans (fair_bar s n f K HLow.out hlt hfn hn96)
            rw [hB1] at B1
            by_cases hk1 : K + 1 < n
            · rw [if_pos hk1] at B1
              have D1 := Lib.hid B1
              have hB2 : Hid (alBlocked (fairS s n f (K + 1)) (((f : Int) + (K : Int)) % (n : Int)) = true) := by show _ = _; rw [hE]; exact fair_blocked s n f K hlt hfn hn96
              have hB3 : Hid (alBlocked (fairS s n f (K + 1)) (((f : Int) + (K : Int) + 1) % (n : Int)) = false) := by show _ = _; rw [hE3]; exact fair_open s n f K hk1 hfn hn96
              clear B1 hB1 hE hE3
              have t1 : ((K : Int) == (n : Int) - 1) = false := by simp; omega
              have t2 : decide ((K : Int) < (n : Int) - 1) = true := by simp; omega
              go_wp2_with fail
              go_must (refine D1.out.mono ?_)
              rintro e w3 ⟨ap4, lp4, rfl, hr4, hg4, _, _⟩
              have hb4 := hbel3.trans (only_below_of hg4 (Nat.le_refl _) hbel3.size)
              have B2 := blocked_any w.heap.size n _ ap4 lp4 (((f : Int) + (K : Int)) % (n : Int)) w3 hr4
              have B3 := blocked_any w.heap.size n _ ap4 lp4 (((f : Int) + (K : Int) + 1) % (n : Int)) w3 hr4
              rw [hB2.out] at B2
              rw [hB3.out] at B3
              have D2 := Lib.hid B2
              have D3 := Lib.hid B3
              have HR4 := Lib.hid hr4
              clear B2 B3 hr4 hg4
              go_wp2_with fail
              go_must (refine D2.out.mono ?_)
              rintro e w4 ⟨rfl, rfl⟩
              go_wp2_with fail
              go_must (refine D3.out.mono ?_)
              rintro e w4 ⟨rfl, rfl⟩
              clear he0 he1
              go_wp2_with fail
              go_roundw
              case rel => exact ⟨K + 1, ap4, lp4, by omega, by go_num, by rw [if_pos hk1]; exact HR4.out, hb4⟩
              case measure => simp [intOf]; omega
            · rw [if_neg hk1] at B1
              have D1 := Lib.hid B1
              clear B1 hB1 hE hE3
              have t1 : ((K : Int) == (n : Int) - 1) = true := by simp; omega
              have t2 : decide ((K : Int) < (n : Int) - 1) = false := by simp; omega
              go_wp2_with fail
              go_must (refine D1.out.mono ?_)
              rintro e w3 ⟨ap4, lp4, rfl, hr4, hg4, _, _⟩
              have hb4 := hbel3.trans (only_below_of hg4 (Nat.le_refl _) hbel3.size)
              have HR4 := Lib.hid hr4
              clear hr4 hg4 he0 he1
              go_wp2_with fail
              go_roundw
              case rel => exact ⟨K + 1, ap4, lp4, by omega, by go_num, by rw [if_neg hk1]; exact HR4.out, hb4⟩
              case measure => simp [intOf]; omega
          · rw [if_neg hlt] at hrep3
            have B1 := bar_any w.heap.size n (noneL, none, some 2000) ap3 lp3 (f : Int) 2000 wr hn96 hrep3
            rw [refused n _ 2000 (by omega)] at B1
            have D1 := Lib.hid B1
            clear B1 hrep3
            go_wp2_with fail
            go_must (refine D1.out.mono ?_)
            rintro e w3 ⟨ap4, lp4, rfl, hr4, hg4, _, _⟩
            have hb4 := hbel3.trans (only_below_of hg4 (Nat.le_refl _) hbel3.size)
            have B2 := bar_any w.heap.size n (noneL, none, some 2000) ap4 lp4 (f : Int) 1999 w3 hn96 hr4
            rw [refused n _ 1999 (by omega)] at B2
            have D2 := Lib.hid B2
            clear B2 hr4 hg4
            go_wp2_with fail
            go_must (refine D2.out.mono ?_)
            rintro e w4 ⟨ap5, lp5, rfl, hr5, hg5, _, _⟩
            have hb5 := hb4.trans (only_below_of hg5 (Nat.le_refl _) hb4.size)
            have B3 := blocked_any w.heap.size n _ ap5 lp5 (f : Int) w4 hr5
            rw [noneL_blocked] at B3
            have D3 := Lib.hid B3
            have DK := Lib.hid (known_any w4)
            clear B3 hr5 hg5
            go_wp2_with fail
            go_must (refine D3.out.mono ?_)
            rintro e w5 ⟨rfl, rfl⟩
            go_wp2_with fail
            go_must (refine DK.out.mono ?_)
            rintro e w6 ⟨rfl, hb6⟩
            go_wp2_with fail
            go_ret
            exact ⟨rfl, hb5.trans (hb6.mono hb5.size)⟩)
end Go.Proofs.Ytcikjghinjdmmaa
