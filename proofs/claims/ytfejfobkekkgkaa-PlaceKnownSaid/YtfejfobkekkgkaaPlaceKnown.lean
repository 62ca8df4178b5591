/-
  The walk of PlaceKnown.
-/
import Derived.Test.YtfejfobkekkgkaaPlaceLaws
import Derived.Deep.RegionHeld3
namespace Go.Proofs.Ytfejfobkekkgkaa
set_option linter.unusedVariables false
set_option linter.unusedSimpArgs false
open Go.RowKit

def endsL : List Int := [-9223372036854775808, -1, 0, 1, 2, 8, 9, 16, 17, 128, 129, 9223372036854775807]
theorem endsL_bd (z : Int) (h : z ∈ endsL) : -9223372036854775808 ≤ z ∧ z ≤ 9223372036854775807 := by
  simp [endsL] at h
  omega

set_option maxRecDepth 100000 in
set_option maxHeartbeats 2000000 in
theorem placeKnown_any (w : World) :
    Calls Try.prog 5 #[] w fun e w' => e = .returned (.bool true) ∧ Below w.heap.size w w' := by
  have HR : Hid (Reads (w.alloc (.cells #[.int .i64 (-9223372036854775808), .int .i64 (-1), .int .i64 0, .int .i64 1, .int .i64 2, .int .i64 8, .int .i64 9, .int .i64 16, .int .i64 17, .int .i64 128, .int .i64 129, .int .i64 9223372036854775807] 3)) (w.heap.size + 1) 1 (some ⟨w.heap.size, 0, none⟩) 12 (endsL.map ival)) := Reads.new _ _ _ _
  have HB : Hid (Below w.heap.size w (w.alloc (.cells #[.int .i64 (-9223372036854775808), .int .i64 (-1), .int .i64 0, .int .i64 1, .int .i64 2, .int .i64 8, .int .i64 9, .int .i64 16, .int .i64 17, .int .i64 128, .int .i64 129, .int .i64 9223372036854775807] 3))) := (Below.refl _ _).alloc (Nat.le_refl _) _
  have HS : Hid (w.heap.size + 1 ≤ (w.alloc (.cells #[.int .i64 (-9223372036854775808), .int .i64 (-1), .int .i64 0, .int .i64 1, .int .i64 2, .int .i64 8, .int .i64 9, .int .i64 16, .int .i64 17, .int .i64 128, .int .i64 129, .int .i64 9223372036854775807] 3)).heap.size) := by show _ ≤ _; simp
  go_enter Try.func5, Try.ntmps5
  go_wp2_with fail
  generalize w.alloc (.cells #[.int .i64 (-9223372036854775808), .int .i64 (-1), .int .i64 0, .int .i64 1, .int .i64 2, .int .i64 8, .int .i64 9, .int .i64 16, .int .i64 17, .int .i64 128, .int .i64 129, .int .i64 9223372036854775807] 3) = w1 at *
  go_loopw [2] (fun i wr => ∃ a : Nat, a ≤ 12 ∧ i = .int .i64 a ∧ Below (w.heap.size + 1) w1 wr) (fun i _ => 12 - (intOf i).toNat)
  case atStart => exact ⟨0, by omega, rfl, Below.refl _ _⟩
  case round =>
    obtain ⟨a, ha, rfl, hbel⟩ := hrel
    by_cases hlt : a < 12
    · have hda : decide ((a : Int) < 12) = true := by simp; omega
      have ha12 : (a : Int) < 12 := by omega
      have ha0 : (0 : Int) ≤ (a : Int) := by omega
      go_wp2_with fail
      go_loopw [3] (fun i wr => ∃ b : Nat, b ≤ 12 ∧ i = .int .i64 b ∧ Below (w.heap.size + 1) w1 wr) (fun i _ => 12 - (intOf i).toNat)
      case atStart => exact ⟨0, by omega, rfl, hbel⟩
      case round =>
        obtain ⟨b, hb, rfl, hbel2⟩ := hrel
        clear hbel
        by_cases hltb : b < 12
        · have hdb : decide ((b : Int) < 12) = true := by simp; omega
          have hb12 : (b : Int) < 12 := by omega
          have hb0 : (0 : Int) ≤ (b : Int) := by omega
          go_wp2_with fail
          go_loopw [4] (fun i wr => ∃ c : Nat, c ≤ 12 ∧ i = .int .i64 c ∧ Below (w.heap.size + 1) w1 wr) (fun i _ => 12 - (intOf i).toNat)
          case atStart => exact ⟨0, by omega, rfl, hbel2⟩
          case round =>
            obtain ⟨c, hc, rfl, hbel3⟩ := hrel
            clear hbel2
            by_cases hltc : c < 12
            · obtain ⟨t, hta, hca⟩ := (HR.out.below hbel3).int_mem (k := a) (by show a < 12; omega)
              obtain ⟨k, htb, hcb⟩ := (HR.out.below hbel3).int_mem (k := b) (by show b < 12; omega)
              obtain ⟨s, htc, hcc⟩ := (HR.out.below hbel3).int_mem (k := c) (by show c < 12; omega)
              replace hta := endsL_bd t hta
              replace htb := endsL_bd k htb
              replace htc := endsL_bd s htc
              have C1 := Lib.hid (place_all t k s wr.drew hta.2)
              go_wp2_with fail
              go_region_held3 (fun w' => w'.cell? ⟨w.heap.size, a, none⟩ = some (.int .i64 t) ∧ w'.cell? ⟨w.heap.size, b, none⟩ = some (.int .i64 k) ∧ w'.cell? ⟨w.heap.size, c, none⟩ = some (.int .i64 s)) (first | go_keep | (rename_i hbw; exact ⟨(hb5.cell (p := ⟨w.heap.size, a, none⟩) (Nat.lt_of_lt_of_le (Nat.lt_succ_self _) (Nat.le_trans HS.out hbel3.size))).trans hca, (hb5.cell (p := ⟨w.heap.size, b, none⟩) (Nat.lt_of_lt_of_le (Nat.lt_succ_self _) (Nat.le_trans HS.out hbel3.size))).trans hcb, (hb5.cell (p := ⟨w.heap.size, c, none⟩) (Nat.lt_of_lt_of_le (Nat.lt_succ_self _) (Nat.le_trans HS.out hbel3.size))).trans hcc⟩)) (((go_at_call 6; refine C1.out.mono ?_; rintro e w5 ⟨v5, rfl, hown5, hb5⟩)))
              obtain ⟨hca5, hcb5, hcc5⟩ := ‹_ ∧ _ ∧ _›
              obtain ⟨A5, c5, rfl, hc5, hc5', _⟩ := own_slice hown5
              have hl := placeR_len t k s
              have hbel5 : Below (w.heap.size + 1) w1 w5 := (hbel3.drew).trans (hb5.mono (Nat.le_trans HS.out hbel3.size))
              clear hown5 hb5 hca hcb hcc C1
              by_cases hbad : BadPlace t k s
              · have e : placeR t k s = ([], 1) := by unfold placeR; rw [if_pos hbad]
                rw [e]
                have hcases : t < 0 ∨ (0 ≤ t ∧ k < 1) ∨ (0 ≤ t ∧ 1 ≤ k ∧ 8 < k) ∨ (0 ≤ t ∧ 1 ≤ k ∧ k ≤ 8 ∧ s < 1) ∨ (0 ≤ t ∧ 1 ≤ k ∧ k ≤ 8 ∧ 1 ≤ s ∧ 16 < s) := by unfold BadPlace at hbad; omega
                clear hbad e hl hc5
                rcases hcases with h | ⟨h1, h⟩ | ⟨h1, h2, h⟩ | ⟨h1, h2, h3, h⟩ | ⟨h1, h2, h3, h4, h⟩
                rotate_left 4
                have hx8 : decide (s ≤ 16) = false := by simp; omega
                all_goals
                  go_wp2_with fail
                  go_quiet (fail)
                  go_wp2_with fail
                  go_roundw
                  case rel => exact ⟨c + 1, by omega, by go_num, below_drewN hbel5 _⟩
                  case measure => simp [intOf]; omega
              · have h' := hbad
                simp only [BadPlace, not_or, Int.not_lt] at h'
                obtain ⟨h1, h2, h3, h4, h5⟩ := h'
                have hm1 : k * s ≤ 8 * 16 := Int.mul_le_mul (by omega) (by omega) (by omega) (by omega)
                have hm0 : 0 ≤ k * s := Int.mul_nonneg (by omega) (by omega)
                have hw : IntKind.i64.wrap (k * s) = k * s := IntWalk.i64_in _ (by omega)
                have hx8 : decide (s ≤ 16) = true := by simp; omega
                by_cases hfull : k * s < t
                · have e : placeR t k s = ([], 13) := by unfold placeR; rw [if_neg hbad, if_pos hfull]
                  rw [e]
                  have hd : decide (t ≤ k * s) = false := by simp; omega
                  clear hbad e hl hc5 hfull
                  generalize hks : k * s = ks at *
                  clear hm1 hm0
                  go_wp2_with fail
                  go_quiet (fail)
                  go_wp2_with fail
                  go_roundw
                  case rel => exact ⟨c + 1, by omega, by go_num, below_drewN hbel5 _⟩
                  case measure => simp [intOf]; omega
                · have e : placeR t k s = (placeL t.toNat k.toNat, 0) := by unfold placeR; rw [if_neg hbad, if_neg hfull]
                  rw [e]
                  have hd : decide (t ≤ k * s) = true := by simp; omega
                  have hlt2 : ((t.toNat : Int) != t) = false := by simp; omega
                  simp only [placeL_length]
                  clear hbad e hl hc5 hfull
                  generalize hks : k * s = ks at *
                  clear hm1 hm0
                  go_wp2_with fail
                  go_quiet (fail)
                  go_wp2_with fail
                  go_roundw
                  case rel => exact ⟨c + 1, by omega, by go_num, below_drewN hbel5 _⟩
                  case measure => simp [intOf]; omega
            · go_wp2_with fail
              go_roundw
              case rel => exact ⟨b + 1, by omega, by go_num, hbel3⟩
              case measure => simp [intOf]; omega
        · go_wp2_with fail
          go_roundw
          case rel => exact ⟨a + 1, by omega, by go_num, hbel2⟩
          case measure => simp [intOf]; omega
    · have C3 := Lib.hid (known_any wr)
      go_wp2_with fail
      go_must (refine C3.out.mono ?_)
      rintro e w7 ⟨rfl, hb7⟩
      go_wp2_with fail
      go_ret
      have hs1 := Nat.le_trans HS.out hbel.size
      exact ⟨rfl, (HB.out.trans (hbel.mono (Nat.le_succ _))).trans (hb7.mono (by omega))⟩
end Go.Proofs.Ytfejfobkekkgkaa
