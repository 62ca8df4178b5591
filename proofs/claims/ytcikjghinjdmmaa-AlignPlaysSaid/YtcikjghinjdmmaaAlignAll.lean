/-
  The walk of AlignAll.
-/
import Derived.Test.YtcikjghinjdmmaaAlignFair
namespace Go.Proofs.Ytcikjghinjdmmaa
set_option linter.unusedVariables false
set_option linter.unusedSimpArgs false
open Go.RowKit

theorem Tab.two {W : World} {B : Nat} {A : Option Addr} {N : Nat} {Z : Nat → Nat → Int} (h : Tab W B 2 A N Z) {i : Nat} (hi : i < N) :
    ∃ ad, A = some ad ∧ ad.block < B ∧ W.cell? (ad.add (i * 2)) = some (ival (Z i 0)) ∧ W.cell? { block := (ad.add (i * 2)).block, off := (ad.add (i * 2)).off + 1 } = some (ival (Z i 1)) := by
  obtain ⟨ad, hA, hB, hc⟩ := h i hi
  refine ⟨ad, hA, hB, (hc 0 (by omega)).1, ?_⟩
  have := (hc 1 (by omega)).1
  rw [← Go.Deep.add_add] at this
  exact this
theorem full_of (bl : List Bool) (n : Nat) (h : ∀ k, bl[k]? = some true → k < n) (hc : n ≤ bl.count true) (k : Nat) (hk : k < n) : bl[k]? = some true := by
  have h1 : bl.count true = (bl.take n).count true + (bl.drop n).count true := by rw [← List.count_append, List.take_append_drop]
  have h2 : (bl.drop n).count true = 0 := by
    rw [List.count_eq_zero]
    intro hm
    obtain ⟨j, hj⟩ := List.mem_iff_getElem?.1 hm
    rw [List.getElem?_drop] at hj
    have := h _ hj
    omega
  have h3 : (bl.take n).length ≤ n := by simp; omega
  have h4 := List.count_le_length (a := true) (l := bl.take n)
  have h5 : (bl.take n).count true = (bl.take n).length := by omega
  have h6 := List.count_eq_length.1 h5
  have hl : k < (bl.take n).length := by omega
  have h7 := h6 _ (List.getElem_mem hl)
  have h8 : (bl.take n)[k]? = some (bl.take n)[k] := List.getElem?_eq_getElem hl
  rw [← h7, List.getElem?_take_of_lt hk] at h8
  exact h8
/-- Which inputs brought what since the last one that was complete. -/
def allI (n : Nat) (Z : Nat → Nat → Int) (fr i : Nat) (s : AlSt) (last : Int) (any : Bool) : Prop :=
  (∀ k, s.1[k]? = some true → k < n ∧ ∃ j, fr ≤ j ∧ j < i ∧ Z j 0 = (k : Int) ∧ s.2.1 = some (Z j 1)) ∧ s.1.count true < n ∧ s.2.2 = if any then some last else none
theorem none_true (k : Nat) : noneL[k]? ≠ some true := by
  unfold noneL
  rw [List.getElem?_replicate]
  split <;> simp
theorem noneL_count : noneL.count true = 0 := by simp [noneL, List.count_replicate]
theorem allI_new (n : Nat) (Z : Nat → Nat → Int) (hn : 0 < n) : allI n Z 0 0 alNew 0 false :=
  ⟨fun k h => absurd h (none_true k), by show noneL.count true < n; rw [noneL_count]; exact hn, rfl⟩
theorem allI_step (n : Nat) (Z : Nat → Nat → Int) (fr i : Nat) (s : AlSt) (last : Int) (any : Bool) (hfi : fr ≤ i) (hn : 0 < n) (hl : s.1.length = 96) (h : allI n Z fr i s last any) :
    (∃ s', alBar n s (Z i 0) (Z i 1) = (s', false) ∧ allI n Z fr (i + 1) s' last any) ∨
    (alBar n s (Z i 0) (Z i 1) = ((noneL, none, some (Z i 1)), true) ∧ (any = true → last < Z i 1) ∧ ∀ k, k < n → ∃ j, fr ≤ j ∧ j ≤ i ∧ Z j 0 = (k : Int) ∧ Z j 1 = Z i 1) := by
  obtain ⟨ht, hc, hla⟩ := h
  unfold alBar
  by_cases hr : alRefuses n s (Z i 0) (Z i 1) = true
  · rw [if_pos hr]
    refine .inl ⟨s, rfl, fun k hk => ?_, hc, hla⟩
    obtain ⟨h1, j, h2, h3, h4⟩ := ht k hk
    exact ⟨h1, j, h2, by omega, h4⟩
  · rw [if_neg hr]
    obtain ⟨bl, aw, la⟩ := s
    have hr' : alRefuses n (bl, aw, la) (Z i 0) (Z i 1) = false := by simpa using hr
    unfold alRefuses at hr'
    rw [Bool.or_eq_false_iff, Bool.or_eq_false_iff, Bool.or_eq_false_iff] at hr'
    obtain ⟨⟨⟨r1, r2⟩, r3⟩, r4⟩ := hr'
    have r1' : ¬ Z i 0 < 0 := by simpa using r1
    have r2' : ¬ (n : Int) ≤ Z i 0 := by simpa using r2
    obtain ⟨I, hI⟩ := Int.eq_ofNat_of_zero_le (show 0 ≤ Z i 0 by omega)
    have hIn : I < n := by omega
    have hall : ∀ k, (alBl (bl, aw, la) (Z i 0) (Z i 1))[k]? = some true → k < n ∧ ∃ j, fr ≤ j ∧ j < i + 1 ∧ Z j 0 = (k : Int) ∧ (some (Z i 1) : Option Int) = some (Z j 1) := by
      intro k hk
      unfold alBl at hk
      rw [hI] at hk
      simp only [Int.toNat_natCast] at hk
      rw [List.getElem?_set] at hk
      by_cases hIk : I = k
      · subst hIk
        exact ⟨hIn, i, hfi, by omega, hI, rfl⟩
      · rw [if_neg hIk] at hk
        by_cases hf : alFresh (bl, aw, la) (Z i 1) = true
        · rw [if_pos hf] at hk
          exact absurd hk (none_true k)
        · rw [if_neg hf] at hk
          obtain ⟨h1, j, h2, h3, h4, h5⟩ := ht k hk
          refine ⟨h1, j, h2, by omega, h4, ?_⟩
          have h5' : aw = some (Z j 1) := h5
          subst h5'
          have hf' : ¬ Z j 1 < Z i 1 := by simpa [alFresh] using hf
          have r4' : ¬ Z i 1 < Z j 1 := by simpa using r4
          congr 1
          omega
    by_cases hcn : (alBl (bl, aw, la) (Z i 0) (Z i 1)).count true < n
    · rw [if_pos hcn]
      exact .inl ⟨_, rfl, hall, hcn, hla⟩
    · rw [if_neg hcn]
      refine .inr ⟨rfl, fun ha => ?_, fun k hk => ?_⟩
      · have hla' : la = some last := by simpa [ha] using hla
        subst hla'
        have : ¬ Z i 1 ≤ last := by simpa using r3
        omega
      · obtain ⟨_, j, h1, h2, h3, h4⟩ := hall k (full_of _ n (fun k hk => (hall k hk).1) (by omega) k hk)
        injection h4 with h4
        exact ⟨j, h1, by omega, h3, h4.symm⟩
theorem allI_done (n : Nat) (Z : Nat → Nat → Int) (i : Nat) (z : Int) (hn : 0 < n) : allI n Z i i (noneL, none, some z) z true :=
  ⟨fun k h => absurd h (none_true k), by show noneL.count true < n; rw [noneL_count]; exact hn, rfl⟩
/-- How many of the first k are blocked. -/
def blk (s : AlSt) (k : Nat) : Nat := (s.1.take k).count true
theorem blk_succ (s : AlSt) (k : Nat) : blk s (k + 1) = blk s k + (if alBlocked s (k : Int) = true then 1 else 0) := by
  unfold blk alBlocked
  rw [List.take_add_one, List.count_append]
  cases h : s.1[k]? with
  | none => simp [h]
  | some b => cases b <;> simp [h]
theorem blk_le (s : AlSt) (k : Nat) : blk s k ≤ s.1.count true := (List.take_sublist k s.1).count_le true

set_option maxRecDepth 100000 in
set_option maxHeartbeats 8000000 in
theorem alignAll_any (n0 : Int) (A : Option Addr) (N c : Nat) (Z : Nat → Nat → Int) (w : World) (l0 : -9223372036854775808 ≤ n0) (h0 : n0 ≤ 9223372036854775807)
    (ht : Tab w w.heap.size 2 A N Z) (hm : N ≤ maxLen) :
    Calls Try.prog 4 #[.int .i64 n0, .slice A N c] w fun e w' => e = .returned (.bool true) ∧ Below w.heap.size w w' := by
  have P1 := pick_any n0 64 w (by omega) (by omega) l0 h0
  unfold maxLen at hm
  obtain ⟨n1, hn1⟩ := Int.eq_ofNat_of_zero_le (show 0 ≤ n0 % 64 by omega)
  have hn2 : n1 < 64 := by omega
  rw [hn1] at P1
  obtain ⟨n, hn⟩ : ∃ n, n = n1 + 1 := ⟨_, rfl⟩
  have hni : (1 : Int) + (n1 : Int) = (n : Int) := by omega
  have hnn : 1 ≤ n := by omega
  have hn96 : n ≤ 96 := by omega
  clear hn1 hn hn2
  have C0 := Lib.hid (new_al n w)
  have HP1 := Lib.hid P1
  have HT := Lib.hid ht
  clear P1 l0 h0 ht
  go_enter Try.func4, Try.ntmps4
  go_wp2_with fail
  go_must (refine HP1.out.mono ?_)
  rintro e w1 ⟨rfl, rfl⟩
  go_wp2_with fail
  go_must (refine C0.out.mono ?_)
  rintro e w1 ⟨rfl, hr1, hb1⟩
  have HR1 := Lib.hid hr1
  clear hr1
  go_wp2_with fail
  go_loopw [6, 7, 8, 9, 10, 11, 12, 13, 14, 15] (fun last from_ any i x1 x2 x3 x4 x5 x6 wr => ∃ (k fr : Nat) (s : AlSt) (la : Int) (an : Bool) (ap lp : Option Addr), k ≤ N ∧ k ≤ 300 ∧ fr ≤ k ∧ last = .int .i64 la ∧ from_ = .int .i64 fr ∧ any = .bool an ∧ i = .int .i64 k ∧ AlRep wr w.heap.size n s ap lp ∧ allI n Z fr k s la an ∧ Below w.heap.size w wr) (fun _ _ _ i _ _ _ _ _ _ _ => 300 - (intOf i).toNat)
  case atStart => exact ⟨0, 0, alNew, 0, false, none, none, by omega, by omega, by omega, rfl, rfl, rfl, rfl, HR1.out, allI_new n Z hnn, hb1⟩
  case round =>
    obtain ⟨k, fr, s, la, an, ap, lp, hk, hk3, hfr, rfl, rfl, rfl, rfl, hrep, hall, hbel⟩ := hrel
    clear HR1
    have HRep := Lib.hid hrep
    have HAll := Lib.hid hall
    clear hrep hall
    by_cases hgo : k < N ∧ k < 300
    · obtain ⟨hlt, hlt3⟩ := hgo
      obtain ⟨ad, rfl, _, hc0, hc1⟩ := (HT.out.below hbel).two hlt
      have hk3' : (k : Int) < 300 := by omega
      have C1 : ∀ m, Calls Try.prog 13 #[.pointer (some ⟨w.heap.size, 0, none⟩), .int .i64 (Z k 0), .int .i64 (Z k 1)] (wr.drewN m) (AlPost (wr.drewN m) w.heap.size n (alBar n s (Z k 0) (Z k 1)) ap lp) := fun m => bar_any w.heap.size n s ap lp (Z k 0) (Z k 1) (wr.drewN m) hn96 (HRep.out.drewN m)
      have hst := allI_step n Z fr k s la an hfr hnn HRep.out.1 HAll.out
      have H1 : ∃ s' b, alBar n s (Z k 0) (Z k 1) = (s', b) ∧ ((b = false ∧ allI n Z fr (k + 1) s' la an) ∨ (b = true ∧ s' = (noneL, none, some (Z k 1)) ∧ (an = true → la < Z k 1) ∧ ∀ q, q < n → ∃ j, fr ≤ j ∧ j ≤ k ∧ Z j 0 = (q : Int) ∧ Z j 1 = Z k 1)) := by
        rcases hst with ⟨s', h1, h2⟩ | ⟨h1, h2, h3⟩
        · exact ⟨s', false, h1, .inl ⟨rfl, h2⟩⟩
        · exact ⟨_, true, h1, .inr ⟨rfl, rfl, h2, h3⟩⟩
      obtain ⟨s', b, hsb, hst'⟩ := H1
      rw [hsb] at C1
      have D1 := Lib.hid C1
      have HSt := Lib.hid hst'
      clear C1 hst hst' hsb HAll HRep
      generalize hz0 : Z k 0 = z0 at *
      generalize hz1 : Z k 1 = z1 at *
      have HZ1 := Lib.hid hz1
      clear hz0 hz1
      go_wp2_with fail
      go_still_tail 11, (by kernel_rfl)
      change wpList _ _ _ _ _ (wr.drewN 1)
      go_wp2_with fail
      go_must (refine (D1.out 1).mono ?_)
      rintro e w2 ⟨ap2, lp2, rfl, hr2, hg2, _, _⟩
      have hb2 := (below_drewN hbel 1).trans (only_below_of hg2 (Nat.le_refl _) (below_drewN hbel 1).size)
      have HR2 := Lib.hid hr2
      clear hr2 hg2
      go_wp2_with fail
      go_loopw [11, 12] (fun bl i wr => ∃ q : Nat, q ≤ n ∧ bl = .int .i64 (blk s' q : Nat) ∧ i = .int .i64 q ∧ wr = w2) (fun _ i _ => n - (intOf i).toNat)
      case atStart => exact ⟨0, by omega, rfl, rfl, rfl⟩
      case round =>
        obtain ⟨q, hq, rfl, rfl, rfl⟩ := hrel
        by_cases hqn : q < n
        · have B1 := blocked_any w.heap.size n s' ap2 lp2 (q : Int) wr HR2.out
          have hbs := blk_succ s' q
          have hbl := blk_le s' q
          have hcl := List.count_le_length (a := true) (l := s'.1)
          rw [HR2.out.1] at hcl
          by_cases hbq : alBlocked s' (q : Int) = true
          · rw [hbq] at B1
            rw [if_pos hbq] at hbs
            have D2 := Lib.hid B1
            have HBS := Lib.hid hbs
            have hb96 : blk s' q ≤ 96 := by omega
            clear B1 hbs hbl hcl hbq
            go_wp2_with fail
            go_must (refine D2.out.mono ?_)
            rintro e w3 ⟨rfl, rfl⟩
            go_wp2_with fail
            go_roundw
            case rel => exact ⟨q + 1, by omega, by rw [HBS.out]; go_num, by go_num, trivial⟩
            case measure => simp [intOf]; omega
          · have hbq' : alBlocked s' (q : Int) = false := by simpa using hbq
            rw [hbq'] at B1
            rw [if_neg hbq] at hbs
            have D2 := Lib.hid B1
            have HBS := Lib.hid hbs
            clear B1 hbs hbl hcl hbq hbq'
            go_wp2_with fail
            go_must (refine D2.out.mono ?_)
            rintro e w3 ⟨rfl, rfl⟩
            go_wp2_with fail
            go_roundw
            case rel => exact ⟨q + 1, by omega, by rw [HBS.out]; rfl, by go_num, trivial⟩
            case measure => simp [intOf]; omega
        · obtain rfl : n = q := by omega
          have hc0' := (HT.out.below hb2).two hlt
          obtain ⟨ad', hae, _, hc0', hc1'⟩ := hc0'
          injection hae with hae
          subst hae
          rw [HZ1.out] at hc1'
          clear hc0' hc0 hc1 hqn
          have HBL := Lib.hid (blk_le s' n)
          rcases HSt.out with ⟨rfl, hall'⟩ | ⟨rfl, hs', hgr, hex⟩
          · have hbn : blk s' n < n := by have := HBL.out; have := hall'.2.1; omega
            have HA := Lib.hid hall'
            generalize blk s' n = bq at *
            have t1 : ((bq : Int) == (n : Int)) = false := by simp; omega
            have t2 : (bq == n) = false := by simp; omega
            clear hall' HSt
            go_wp2_with fail
            go_roundw
            case rel => exact ⟨k + 1, fr, s', la, an, ap2, lp2, by omega, by omega, by omega, rfl, rfl, rfl, by go_num, HR2.out, HA.out, hb2⟩
            case measure => simp [intOf]; omega
          · have hb0 : blk s' n = 0 := by
              have := HBL.out
              rw [hs'] at this ⊢
              have h0 : (noneL, (none : Option Int), some z1).1.count true = 0 := noneL_count
              omega
            rw [show ((blk s' n : Nat) : Int) = (0 : Int) by rw [hb0]; rfl]
            have t1 : ((0 : Int) == (n : Int)) = false := by simp; omega
            have t2 : (0 == n) = false := by simp; omega
            have t3 : (an && decide (z1 ≤ la)) = false := by
              cases an with
              | false => rfl
              | true => have := hgr rfl; simp; omega
            have HEX := Lib.hid hex
            subst hs'
            clear hex hb0 HBL HSt hgr
            cases an <;>
            ( try simp only [Bool.true_and] at t3
              go_wp2_with fail
              go_loopw [13, 14, 15] (fun q x y wx => ∃ Q : Nat, Q ≤ n ∧ q = .int .i64 Q ∧ AlRep wx w.heap.size n (noneL, none, some z1) ap2 lp2 ∧ Below w.heap.size w wx) (fun q _ _ _ => n - (intOf q).toNat)
              case atStart => exact ⟨0, by omega, rfl, HR2.out, hb2⟩
              case round =>
                obtain ⟨Q, hQ, rfl, hr3, hb3⟩ := hrel
                have HR3 := Lib.hid hr3
                clear HR2 hb2 hr3 hc1'
                by_cases hQn : Q < n
                · go_wp2_with fail
                  go_loopw [14, 15] (fun br j wx => ∃ (J : Nat) (bb : Bool), fr ≤ J ∧ J ≤ k + 1 ∧ br = .bool bb ∧ j = .int .i64 J ∧ Hid (bb = false → ∀ j', fr ≤ j' → j' < J → ¬ (Z j' 0 = (Q : Int) ∧ Z j' 1 = z1)) ∧ AlRep wx w.heap.size n (noneL, none, some z1) ap2 lp2 ∧ Below w.heap.size w wx) (fun _ j _ => k + 1 - (intOf j).toNat)
                  case atStart => exact ⟨fr, false, by omega, by omega, rfl, rfl, fun _ j' h1 h2 => absurd h2 (by omega), HR3.out, hb3⟩
                  case round =>
                    obtain ⟨J, bb, hJ1, hJ2, rfl, rfl, hbb, hr4, hb4⟩ := hrel
                    have HR4 := Lib.hid hr4
                    clear HR3 hb3 hr4
                    obtain ⟨ad3, hae3, _, _, hc1'⟩ := (HT.out.below hb4).two hlt
                    injection hae3 with hae3
                    subst hae3
                    rw [HZ1.out] at hc1'
                    by_cases hJk : J ≤ k
                    · obtain ⟨ad2, hae2, _, hd0, hd1⟩ := (HT.out.below hb4).two (i := J) (by omega)
                      injection hae2 with hae2
                      subst hae2
                      have hJN : J < N := by omega
                      generalize hy0 : Z J 0 = y0 at *
                      generalize hy1 : Z J 1 = y1 at *
                      have HY0 := Lib.hid hy0
                      have HY1 := Lib.hid hy1
                      clear hy0 hy1
                      have hend : ∀ b2 : Bool, (b2 = false → bb = false ∧ ¬ (y0 = (Q : Int) ∧ y1 = z1)) → Hid (b2 = false → ∀ j', fr ≤ j' → j' < J + 1 → ¬ (Z j' 0 = (Q : Int) ∧ Z j' 1 = z1)) := by
                        intro b2 hb2' hb3 j' h1 h2
                        obtain ⟨h3, h4⟩ := hb2' hb3
                        by_cases hj : j' = J
                        · subst hj
                          rw [HY0.out, HY1.out]
                          exact h4
                        · exact hbb.out h3 j' h1 (by omega)
                      have HEND := Lib.hid hend
                      clear hend
                      cases bb
                      · by_cases e0 : y0 = (Q : Int)
                        · by_cases e1 : y1 = z1
                          · have t4 : (y0 == (Q : Int)) = true := by simp [e0]
                            have t5 : (y1 == z1) = true := by simp [e1]
                            clear e0 e1
                            go_wp2_with fail
                            go_quiet (fail)
                            go_wp2_with fail
                            go_roundw
                            case rel => exact ⟨J + 1, true, by omega, by omega, rfl, by go_num, HEND.out true (fun h => by cases h), HR4.out.drewN _, below_drewN hb4 _⟩
                            case measure => simp [intOf]; omega
                          · have t4 : (y0 == (Q : Int)) = true := by simp [e0]
                            have t5 : (y1 == z1) = false := by simpa using e1
                            have HE := Lib.hid e1
                            clear e0 e1
                            go_wp2_with fail
                            go_quiet (fail)
                            go_wp2_with fail
                            go_roundw
                            case rel => exact ⟨J + 1, false, by omega, by omega, rfl, by go_num, HEND.out false (fun h => ⟨by trivial, fun h => HE.out h.2⟩), HR4.out.drewN _, below_drewN hb4 _⟩
                            case measure => simp [intOf]; omega
                        · have t4 : (y0 == (Q : Int)) = false := by simpa using e0
                          have HE := Lib.hid e0
                          clear e0
                          go_wp2_with fail
                          go_quiet (fail)
                          go_wp2_with fail
                          go_roundw
                          case rel => exact ⟨J + 1, false, by omega, by omega, rfl, by go_num, HEND.out false (fun h => ⟨by trivial, fun h => HE.out h.1⟩), HR4.out.drewN _, below_drewN hb4 _⟩
                          case measure => simp [intOf]; omega
                      · go_wp2_with fail
                        go_quiet (fail)
                        go_wp2_with fail
                        go_roundw
                        case rel => exact ⟨J + 1, true, by omega, by omega, rfl, by go_num, HEND.out true (fun h => by cases h), HR4.out.drewN _, below_drewN hb4 _⟩
                        case measure => simp [intOf]; omega
                    · have hbt : bb = true := by
                        cases bb with
                        | true => rfl
                        | false =>
                          obtain ⟨j, h1, h2, h3, h4⟩ := HEX.out Q hQn
                          exact absurd ⟨h3, h4⟩ (hbb.out rfl j h1 (by omega))
                      subst hbt
                      clear hbb
                      have hkJ : k < J := by omega
                      go_wp2_with fail
                      go_roundw
                      case rel => exact ⟨Q + 1, by omega, by go_num, HR4.out, hb4⟩
                      case measure => simp [intOf]; omega
                · have hQe : n ≤ Q := by omega
                  obtain ⟨ad3, hae3, _, _, hc1'⟩ := (HT.out.below hb3).two hlt
                  injection hae3 with hae3
                  subst hae3
                  rw [HZ1.out] at hc1'
                  go_wp2_with fail
                  go_roundw
                  case rel => exact ⟨k + 1, k + 1, _, z1, true, ap2, lp2, by omega, by omega, by omega, rfl, by go_num, rfl, by go_num, HR3.out, allI_done n Z (k + 1) z1 hnn, hb3⟩
                  case measure => simp [intOf]; omega)
    · have hd : N ≤ k ∨ (k < N ∧ decide ((k : Int) < 300) = false) := by
        by_cases h : k < N
        · exact .inr ⟨h, by simp; omega⟩
        · exact .inl (by omega)
      have DK := Lib.hid (known_any wr)
      clear hgo HT hm
      rcases hd with hd | ⟨hd, hd3⟩ <;>
      ( go_wp2_with fail
        go_must (refine DK.out.mono ?_)
        rintro e w2 ⟨rfl, hb2⟩
        go_wp2_with fail
        go_ret
        exact ⟨rfl, hbel.trans (hb2.mono hbel.size)⟩)
end Go.Proofs.Ytcikjghinjdmmaa
