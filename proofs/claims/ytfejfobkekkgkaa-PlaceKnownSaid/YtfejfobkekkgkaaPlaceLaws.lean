/-
  The walks of PlacePuts and PlaceEven.
-/
import Derived.Test.YtfejfobkekkgkaaPlace
namespace Go.Proofs.Ytfejfobkekkgkaa
set_option linter.unusedVariables false
set_option linter.unusedSimpArgs false
open Go.RowKit

def placeR (t k s : Int) : List Int × Int := if BadPlace t k s then ([], 1) else if k * s < t then ([], 13) else (placeL t.toNat k.toNat, 0)
theorem placeR_len (t k s : Int) : (placeR t k s).1.length ≤ 128 := by
  unfold placeR
  split
  · simp
  · rename_i h
    split
    · simp
    · rename_i h2
      simp only [BadPlace, not_or, Int.not_lt] at h
      rw [placeL_length]
      have : k * s ≤ 8 * 16 := Int.mul_le_mul (by omega) (by omega) (by omega) (by omega)
      omega

theorem place_all (t k s : Int) (w : World) (ht : t ≤ 9223372036854775807) :
    Calls Try.prog 6 #[.int .i64 t, .int .i64 k, .int .i64 s] w fun e w' => ∃ v, e = .returned (.tuple #[v, .int .i64 (placeR t k s).2]) ∧ w'.ownsRow w.heap.size 3 1 v (placeR t k s).1.length ((placeR t k s).1.map ival) ∧ Below w.heap.size w w' := by
  by_cases h : BadPlace t k s
  · have e : placeR t k s = ([], 1) := by unfold placeR; rw [if_pos h]
    rw [e]
    exact (place_bad t k s w h).mono fun _ _ ⟨he, hw⟩ => ⟨_, he, World.ownsRow_nil _ _ _ _, hw ▸ Below.refl _ _⟩
  · have h' := h
    simp only [BadPlace, not_or, Int.not_lt] at h'
    obtain ⟨T, rfl⟩ := Int.eq_ofNat_of_zero_le (show 0 ≤ t by omega)
    obtain ⟨K, rfl⟩ := Int.eq_ofNat_of_zero_le (show 0 ≤ k by omega)
    obtain ⟨S, rfl⟩ := Int.eq_ofNat_of_zero_le (show 0 ≤ s by omega)
    by_cases h2 : K * S < T
    · have e : placeR T K S = ([], 13) := by unfold placeR; rw [if_neg h, if_pos (by rw [← Int.natCast_mul]; omega)]
      rw [e]
      exact (place_full T K S w (by omega) (by omega) (by omega) (by omega) h2 ht).mono fun _ _ ⟨he, hw⟩ => ⟨_, he, World.ownsRow_nil _ _ _ _, hw ▸ Below.refl _ _⟩
    · have e : placeR T K S = (placeL T K, 0) := by unfold placeR; rw [if_neg h, if_neg (by rw [← Int.natCast_mul]; omega)]; simp
      rw [e]
      exact (place_ok T K S w (by omega) (by omega) (by omega) (by omega) (by omega)).mono fun _ _ ⟨v, he, ho, hw⟩ => ⟨v, he, by rw [placeL_length]; exact ho, hw⟩
theorem refPlace_all (t k s : Int) (w : World) (ht : t ≤ 9223372036854775807) :
    Calls Try.prog 7 #[.int .i64 t, .int .i64 k, .int .i64 s] w fun e w' => ∃ v, e = .returned (.tuple #[v, .int .i64 (placeR t k s).2]) ∧ w'.ownsRow w.heap.size 3 1 v (placeR t k s).1.length ((placeR t k s).1.map ival) ∧ Below w.heap.size w w' := by
  by_cases h : BadPlace t k s
  · have e : placeR t k s = ([], 1) := by unfold placeR; rw [if_pos h]
    rw [e]
    exact (refPlace_bad t k s w h).mono fun _ _ ⟨he, hw⟩ => ⟨_, he, World.ownsRow_nil _ _ _ _, hw ▸ Below.refl _ _⟩
  · have h' := h
    simp only [BadPlace, not_or, Int.not_lt] at h'
    obtain ⟨T, rfl⟩ := Int.eq_ofNat_of_zero_le (show 0 ≤ t by omega)
    obtain ⟨K, rfl⟩ := Int.eq_ofNat_of_zero_le (show 0 ≤ k by omega)
    obtain ⟨S, rfl⟩ := Int.eq_ofNat_of_zero_le (show 0 ≤ s by omega)
    by_cases h2 : K * S < T
    · have e : placeR T K S = ([], 13) := by unfold placeR; rw [if_neg h, if_pos (by rw [← Int.natCast_mul]; omega)]
      rw [e]
      exact (refPlace_full T K S w (by omega) (by omega) (by omega) (by omega) h2 ht).mono fun _ _ ⟨he, hw⟩ => ⟨_, he, World.ownsRow_nil _ _ _ _, hw ▸ Below.refl _ _⟩
    · have e : placeR T K S = (placeL T K, 0) := by unfold placeR; rw [if_neg h, if_neg (by rw [← Int.natCast_mul]; omega)]; simp
      rw [e]
      exact (refPlace_ok T K S w (by omega) (by omega) (by omega) (by omega) (by omega)).mono fun _ _ ⟨v, he, ho, hw⟩ => ⟨v, he, by rw [placeL_length]; exact ho, hw⟩

set_option maxRecDepth 100000 in
set_option maxHeartbeats 1000000 in
theorem placePuts_any (t k s : Int) (w : World) (ht : t ≤ 9223372036854775807) :
    Calls Try.prog 3 #[.int .i64 t, .int .i64 k, .int .i64 s] w fun e w' => e = .returned (.bool true) ∧ Below w.heap.size w w' := by
  have C1 := Lib.hid (fun W => place_all t k s W ht)
  have C2 := Lib.hid (fun W => refPlace_all t k s W ht)
  have hl := placeR_len t k s
  generalize (placeR t k s).1 = L at *
  generalize (placeR t k s).2 = E at *
  have hL : L.length ≤ maxLen := by unfold maxLen; omega
  go_enter Try.func3, Try.ntmps3
  go_wp2_with fail
  go_must (refine (C1.out _).mono ?_)
  rintro e w1 ⟨v1, rfl, hown1, hb1⟩
  obtain ⟨A1, c1, rfl, hc1, hc1', _⟩ := own_slice hown1
  have A1lt := Lib.hid (fun g h => (hown1.lt g h).2)
  go_wp2_with fail
  go_must (refine (C2.out _).mono ?_)
  rintro e w2 ⟨v2, rfl, hown2, hb2⟩
  obtain ⟨A2, c2, rfl, hc2, hc2', _⟩ := own_slice hown2
  have hr1 := (Reads.of_own hown1).below hb2
  have hr2 := Reads.of_own hown2
  have C3 := Lib.hid (sameInts_any A1 A2 L.length c1 L.length c2 _ _ L L w2 hr1 hr2 hL hL)
  have hE : (E != E) = false := by simp
  have Hown1 := Lib.hid (own_below hown1 hb2)
  have Hown2 := Lib.hid hown2
  have hb12 := hb1.trans (hb2.mono hb1.size)
  clear hr1 hr2 hown1 hown2
  go_wp2_with fail
  go_must (refine C3.out.mono ?_)
  rintro e w3 ⟨rfl, m, rfl⟩
  have hdec : decide (L = L) = true := by simp
  have C4 := Lib.hid (spoilInts_any A1 L.length c1 _ _ (w2.drewN m) Hown1.out (by omega))
  go_wp2_with fail
  go_must (refine C4.out.mono ?_)
  rintro e w4 ⟨rfl, hb4, hg4⟩
  have hown4 := (show (w2.drewN m).ownsRow _ _ _ _ _ _ from Hown2.out).kept hg4 (own_above Hown2.out (fun g hg => by have := (Hown1.out.lt g hg).2; have := (A1lt.out g hg); omega))
  have hb4' : Below w.heap.size w w4 := (below_drewN hb12 m).trans hb4
  have Hown4 := Lib.hid hown4
  clear hown4 C3 C4
  go_wp2_with fail
  go_must (refine (C1.out _).mono ?_)
  rintro e w5 ⟨v5, rfl, hown5, hb5⟩
  obtain ⟨A5, c5, rfl, hc5, hc5', _⟩ := own_slice hown5
  have hb5' := hb4'.trans (hb5.mono hb4'.size)
  have C6 := Lib.hid (sameInts_any A5 A2 L.length c5 L.length c2 _ _ L L w5 (Reads.of_own hown5) (Reads.of_own (own_below Hown4.out hb5)) hL hL)
  have C7 := Lib.hid (fun m => known_any (w5.drewN m))
  clear hown5
  go_wp2_with fail
  go_must (refine C6.out.mono ?_)
  rintro e w6 ⟨rfl, m6, rfl⟩
  go_wp2_with fail
  go_must (refine (C7.out m6).mono ?_)
  rintro e w7 ⟨rfl, hb7⟩
  go_wp2
  go_ret
  exact ⟨rfl, (below_drewN hb5' m6).trans (hb7.mono hb5'.size)⟩
end Go.Proofs.Ytfejfobkekkgkaa
