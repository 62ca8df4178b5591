/-
  The walk of PlaceEven.
-/
import Derived.Test.YtfejfobkekkgkaaPlaceLaws
namespace Go.Proofs.Ytfejfobkekkgkaa
set_option linter.unusedVariables false
set_option linter.unusedSimpArgs false
open Go.RowKit

/-- How many of the first t numbers leave j over, by k. -/
def cnt (k : Nat) : Nat → Nat → Nat
  | 0, _ => 0
  | t + 1, j => cnt k t j + if t % k = j then 1 else 0
theorem cnt_eq (k t j : Nat) (hk : 1 ≤ k) (hj : j < k) : cnt k t j = t / k + if j < t % k then 1 else 0 := by
  induction t with
  | zero => simp [cnt]
  | succ t ih =>
    rw [cnt, ih]
    have hr := Nat.mod_lt t (show 0 < k by omega)
    have hd := Nat.div_add_mod t k
    by_cases h : t % k + 1 < k
    · have h1 : (t + 1) % k = t % k + 1 := by
        rw [Nat.add_mod]; rw [show 1 % k = 1 from Nat.mod_eq_of_lt (by omega)]; exact Nat.mod_eq_of_lt h
      have h2 : (t + 1) / k = t / k := by
        rw [Nat.div_eq_iff (by omega)]
        have e : t / k * k = k * (t / k) := Nat.mul_comm _ _
        omega
      rw [h1, h2]
      by_cases h3 : j < t % k
      · rw [if_pos h3, if_neg (by omega), if_pos (by omega)]
      · by_cases h4 : t % k = j
        · rw [if_neg h3, if_pos h4, if_pos (by omega)]
        · rw [if_neg h3, if_neg h4, if_neg (by omega)]
    · have h0 : t % k + 1 = k := by omega
      have h3 : t + 1 = k * (t / k + 1) := by rw [Nat.mul_add]; omega
      have h1 : (t + 1) % k = 0 := by rw [h3]; exact Nat.mul_mod_right _ _
      have h2 : (t + 1) / k = t / k + 1 := by rw [h3]; exact Nat.mul_div_cancel_left _ (by omega)
      rw [h1, h2]
      by_cases h4 : j < t % k
      · rw [if_pos h4, if_neg (by omega), if_neg (by omega)]
      · rw [if_neg h4, if_pos (by omega), if_neg (by omega)]
theorem cnt_le (k s t j : Nat) (hk : 1 ≤ k) (hj : j < k) (h : t ≤ k * s) : cnt k t j ≤ s := by
  rw [cnt_eq k t j hk hj]
  have hd := Nat.div_add_mod t k
  have h1 : t / k ≤ s := Nat.div_le_of_le_mul h
  by_cases h2 : t / k = s
  · rw [h2] at hd
    rw [if_neg (by omega)]
    omega
  · split <;> omega
theorem cnt_le_zero (k t j : Nat) (hk : 1 ≤ k) (hj : j < k) : cnt k t j ≤ cnt k t 0 ∧ cnt k t 0 ≤ cnt k t j + 1 := by
  rw [cnt_eq k t j hk hj, cnt_eq k t 0 hk (by omega)]
  split <;> split <;> omega
def cnts (k t : Nat) : List Value := (List.range k).map fun j => ival (cnt k t j : Nat)
theorem cnts_length (k t : Nat) : (cnts k t).length = k := by simp [cnts]
theorem cnts_get (k t j : Nat) (h : j < k) : (cnts k t)[j]? = some (ival (cnt k t j : Nat)) := by
  unfold cnts; rw [List.getElem?_map, List.getElem?_range h]; rfl
theorem cnts_zero (k : Nat) : cnts k 0 = List.replicate k (ival 0) := by
  apply List.ext_getElem
  · simp [cnts]
  · intro i h1 h2; simp [cnts, cnt]
theorem cnts_succ (k t r : Nat) (hr : t % k = r) (h : r < k) : (cnts k t).set r (ival ((cnt k t r : Nat) + 1)) = cnts k (t + 1) := by
  apply List.ext_getElem?
  intro i
  rw [List.getElem?_set, cnts_length]
  by_cases hi : r = i
  · subst hi
    rw [if_pos rfl, if_pos h, cnts_get _ _ _ h, cnt, if_pos hr]
    simp
  · rw [if_neg hi]
    rcases Nat.lt_or_ge i k with hik | hik
    · rw [cnts_get _ _ _ hik, cnts_get _ _ _ hik, cnt, if_neg (by omega)]
      simp
    · rw [List.getElem?_eq_none (by rw [cnts_length]; omega), List.getElem?_eq_none (by rw [cnts_length]; omega)]

set_option maxRecDepth 100000 in
set_option maxHeartbeats 2000000 in
theorem placeEven_any (t0 k0 s0 : Int) (w : World) (b1 : -9223372036854775808 ≤ t0) (b2 : t0 ≤ 9223372036854775807) (b3 : -9223372036854775808 ≤ k0) (b4 : k0 ≤ 9223372036854775807) (b5 : -9223372036854775808 ≤ s0) (b6 : s0 ≤ 9223372036854775807) :
    Calls Try.prog 4 #[.int .i64 t0, .int .i64 k0, .int .i64 s0] w fun e w' => e = .returned (.bool true) ∧ Below w.heap.size w w' := by
  have P1 := pick_any k0 8 w (by omega) (by omega) b3 b4
  have P2 := pick_any s0 16 w (by omega) (by omega) b5 b6
  obtain ⟨k1, hk1⟩ := Int.eq_ofNat_of_zero_le (show 0 ≤ k0 % 8 by omega)
  obtain ⟨s1, hs1⟩ := Int.eq_ofNat_of_zero_le (show 0 ≤ s0 % 16 by omega)
  have hk2 : k1 < 8 := by omega
  have hs2 : s1 < 16 := by omega
  rw [hk1] at P1
  rw [hs1] at P2
  obtain ⟨K, hK⟩ : ∃ K, K = k1 + 1 := ⟨_, rfl⟩
  obtain ⟨S, hS⟩ : ∃ S, S = s1 + 1 := ⟨_, rfl⟩
  have hKi : (1 : Int) + (k1 : Int) = (K : Int) := by omega
  have hSi : (1 : Int) + (s1 : Int) = (S : Int) := by omega
  have hK1 : 1 ≤ K := by omega
  have hK2 : K ≤ 8 := by omega
  have hS1 : 1 ≤ S := by omega
  have hS2 : S ≤ 16 := by omega
  clear hk1 hs1 hK hS hk2 hs2
  have hm := mul_bd hK2 hS2
  have hx : (K : Int) * (S : Int) = ((K * S : Nat) : Int) := (Int.natCast_mul K S).symm
  obtain ⟨KS, hKS⟩ : ∃ KS, KS = K * S := ⟨_, rfl⟩
  rw [← hKS] at hm hx
  have P3 := pick_any t0 ((KS : Int) + 1) w (by omega) (by omega) b1 b2
  have hp0 := Int.emod_nonneg t0 (show (KS : Int) + 1 ≠ 0 by omega)
  have hp1 := Int.emod_lt_of_pos t0 (show 0 < (KS : Int) + 1 by omega)
  obtain ⟨T, hT⟩ := Int.eq_ofNat_of_zero_le hp0
  rw [hT] at P3 hp1
  have hTK : T ≤ KS := by omega
  have HP1 := Lib.hid P1
  have HP2 := Lib.hid P2
  have HP3 := Lib.hid P3
  have HKS := Lib.hid hKS
  have C1 := Lib.hid (place_ok T K S w hK1 hK2 hS1 hS2 (by omega))
  clear P1 P2 P3 hp0 hp1 hT hKS b1 b2 b3 b4 b5 b6
  have hmk := fun W => run_make_one Try.mkInts rfl K (by omega) (by omega) W
  go_enter Try.func4, Try.ntmps4
  go_wp2_with fail
  go_must (refine HP1.out.mono ?_)
  rintro e w1 ⟨rfl, rfl⟩
  go_wp2_with fail
  go_must (refine HP2.out.mono ?_)
  rintro e w1 ⟨rfl, rfl⟩
  go_wp2_with fail
  go_must (refine HP3.out.mono ?_)
  rintro e w1 ⟨rfl, rfl⟩
  go_wp2_with fail
  go_must (refine C1.out.mono ?_)
  rintro e w1 ⟨v1, rfl, hown1, hb1⟩
  obtain ⟨A1, c1, rfl, hc1, hc1', hA1⟩ := own_slice hown1
  have HR1 := Lib.hid (Reads.of_own hown1)
  clear hown1
  go_wp2_with fail
  have HO := Lib.hid (own_made_one (e := 3) w1 (Value.int .i64 0) rfl K (Nat.le_refl _) (by unfold maxLen; omega))
  have HB : Hid (Below w1.heap.size w1 (w1.alloc (.cells (madeCells #[Value.int .i64 0] K) 3))) := (Below.refl _ _).alloc (Nat.le_refl _) _
  rw [show List.replicate K (Value.int .i64 0) = cnts K 0 from (cnts_zero K).symm] at HO
  generalize w1.alloc (.cells (madeCells #[Value.int .i64 0] K) 3) = w2 at *
  have hTc : T ≤ 128 := by omega
  clear hmk C1 HP1 HP2 HP3
  go_loopw [10] (fun i wr => ∃ j : Nat, j ≤ T ∧ i = .int .i64 j ∧ wr.ownsRow w1.heap.size 3 1 (.slice (some ⟨w1.heap.size, 0, none⟩) K K) K (cnts K j) ∧ Below w1.heap.size w1 wr) (fun i _ => T - (intOf i).toNat)
  case atStart => exact ⟨0, by omega, rfl, HO.out, HB.out⟩
  case round =>
    obtain ⟨j, hj, rfl, ho, hbel⟩ := hrel
    have Ho := Lib.hid ho
    clear ho HO HB
    by_cases hlt : j < T
    · have hjl : j < (placeL T K).length := by rw [placeL_length]; omega
      obtain ⟨ad, rfl, _, hc⟩ := (HR1.out.below hbel).int hjl
      have hg : (placeL T K)[j] = ((j % K : Nat) : Int) := by simp [placeL]
      rw [hg] at hc
      have hr := Nat.mod_lt j (show 0 < K by omega)
      have HS := Lib.hid (cnts_succ K j (j % K) rfl hr)
      have hca : w1.heap.size = w1.heap.size → _ := fun _ => (Ho.out.cellAt (j % K) (by omega)).trans (cnts_get K j (j % K) hr)
      have hca := hca rfl
      have hfa := Ho.out.frozenAt (j % K)
      have hcb : cnt K j (j % K) ≤ 128 := by
        have h1 := cnt_eq K j (j % K) hK1 hr
        have h2 := Nat.div_le_self j K
        split at h1 <;> omega
      generalize hrr : j % K = r at *
      clear hrr hg hjl
      generalize cnt K j r = m at *
      have hr0 : (0 : Int) ≤ (r : Int) := by omega
      have hr1 : (r : Int) < (K : Int) := by omega
      have hd1 : decide ((r : Int) < 0) = false := by simp
      have hd2 : decide (K ≤ r) = false := by simp; omega
      go_wp2_with fail
      have ho2 := (Ho.out.stored r (.int .i64 ((m : Int) + 1))).1
      have HS2 : Hid ((cnts K j).set r (.int .i64 ((m : Int) + 1)) = cnts K (j + 1)) := HS.out
      rw [HS2.out] at ho2
      have hbel2 := hbel.setCell (p := ⟨w1.heap.size, r, none⟩) (Nat.le_refl _) (.int .i64 ((m : Int) + 1))
      go_roundw
      case rel => exact ⟨j + 1, by omega, by go_num, ho2, hbel2⟩
      case measure => simp [intOf]; omega
    · obtain rfl : j = T := by omega
      go_wp2_with fail
      go_loopw [11] (fun i wx => ∃ q m : Nat, q ≤ K ∧ i = .int .i64 q ∧ wx = wr.drewN m) (fun i _ => K - (intOf i).toNat)
      case atStart => exact ⟨0, 0, by omega, rfl, rfl⟩
      case round =>
        obtain ⟨q, m, hq, rfl, rfl⟩ := hrel
        by_cases hlt2 : q < K
        · have hca := (Ho.out.cellAt q (by omega)).trans (cnts_get K j q hlt2)
          have hc0 := (Ho.out.cellAt 0 (by omega)).trans (cnts_get K j 0 (by omega))
          have h1 := cnt_le K S j q hK1 hlt2 (by have := HKS.out; omega)
          obtain ⟨h2, h3⟩ := cnt_le_zero K j q hK1 hlt2
          have h4 := cnt_le K S j 0 hK1 (by omega) (by have := HKS.out; omega)
          generalize cnt K j q = x at *
          generalize cnt K j 0 = y at *
          have hd1 : decide (S < x) = false := by simp; omega
          have hd2 : decide (y < x) = false := by simp; omega
          have hw : IntKind.i64.wrap ((y : Int) - (x : Int)) = (y : Int) - (x : Int) := IntWalk.i64_in _ (by omega)
          have hd3 : decide ((1 : Int) < (y : Int) - (x : Int)) = false := by simp; omega
          have hq1 : (q : Int) < (K : Int) := by omega
          have hk0 : (0 : Int) < (K : Int) := by omega
          have hq0 : (0 : Int) ≤ (q : Int) := by omega
          clear h1 h2 h3 h4
          go_wp2_with fail
          go_quiet (fail)
          go_wp2_with fail
          go_roundw
          case rel => exact ⟨q + 1, _, by omega, by go_num, rfl⟩
          case measure => simp [intOf]; omega
        · have hbel' : Below w.heap.size w (wr.drewN m) := below_drewN (hb1.trans (hbel.mono hb1.size)) m
          by_cases hfull : j = KS
          · have C2 := Lib.hid (place_full (j + 1) K S (wr.drewN m) hK1 hK2 hS1 hS2 (by have := HKS.out; omega) (by omega))
            have C3 := Lib.hid (fun W => known_any W)
            rw [show ((j + 1 : Nat) : Int) = (j : Int) + 1 from by omega] at C2
            have hee : ((j : Int) == (KS : Int)) = true := by simp [hfull]
            clear hfull
            go_wp2_with fail
            go_must (refine C2.out.mono ?_)
            rintro e w5 ⟨rfl, rfl⟩
            go_wp2_with fail
            go_must (refine (C3.out _).mono ?_)
            rintro e w5 ⟨rfl, hb5⟩
            go_wp2_with fail
            go_ret
            exact ⟨rfl, hbel'.trans (hb5.mono hbel'.size)⟩
          · have C2 := Lib.hid (place_ok (j + 1) K S (wr.drewN m) hK1 hK2 hS1 hS2 (by have := HKS.out; omega))
            have C3 := Lib.hid (fun W => known_any W)
            rw [show ((j + 1 : Nat) : Int) = (j : Int) + 1 from by omega] at C2
            have hee : ((j : Int) == (KS : Int)) = false := by simp; omega
            have HRw := Lib.hid ((HR1.out.below hbel).drewN m)
            clear hfull
            go_wp2_with fail
            go_must (refine C2.out.mono ?_)
            rintro e w5 ⟨v5, rfl, hown5, hb5⟩
            obtain ⟨A5, c5, rfl, hc5, hc5', _⟩ := own_slice hown5
            have hjc : j ≤ c5 := by omega
            have hr5 : Reads w5 w5.heap.size 1 A5 j ((placeL j K).map ival) := by
              have := (Reads.of_own hown5).take (k := j) (by omega)
              have e : (placeL (j + 1) K).take j = placeL j K := by rw [placeL_succ, List.take_append_of_le_length (by rw [placeL_length]; omega), List.take_of_length_le (by rw [placeL_length]; omega)]
              simpa [← List.map_take, e] using this
            have hrl : Reads w5 w1.heap.size 1 A1 j ((placeL j K).map ival) := HRw.out.below (hb5.mono hbel.size)
            have C4 := Lib.hid (sameInts_any A5 A1 j c5 j c1 _ _ (placeL j K) (placeL j K) w5 hr5 hrl (by unfold maxLen; omega) (by unfold maxLen; omega))
            have hdd : decide (placeL j K = placeL j K) = true := by simp
            clear hown5 hr5 hrl
            go_wp2_with fail
            go_must (refine C4.out.mono ?_)
            rintro e w6 ⟨rfl, m6, rfl⟩
            go_wp2_with fail
            go_must (refine (C3.out _).mono ?_)
            rintro e w7 ⟨rfl, hb7⟩
            go_wp2_with fail
            go_ret
            have hb57 := hbel'.trans (hb5.mono hbel'.size)
            exact ⟨rfl, (below_drewN hb57 m6).trans (hb7.mono hb57.size)⟩
end Go.Proofs.Ytfejfobkekkgkaa
