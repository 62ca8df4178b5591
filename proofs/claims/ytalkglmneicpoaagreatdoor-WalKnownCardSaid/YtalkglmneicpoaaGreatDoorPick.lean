/-
  Pick: a number from 0 on, below another one.
-/
import Derived.Test.YtalkglmneicpoaaGreatDoorMem
namespace Go.Proofs.YtalkglmneicpoaaGreatDoor
set_option linter.unusedVariables false
set_option linter.unusedSimpArgs false
open Go.RowKit

set_option maxRecDepth 100000 in
set_option maxHeartbeats 400000 in
theorem pick_any (n m : Int) (w : World) (hm : 1 ≤ m) (hm2 : m ≤ 4611686018427387904) (hn : -9223372036854775808 ≤ n) (hn2 : n ≤ 9223372036854775807) :
    Calls Tryz.prog 28 #[.int .i64 n, .int .i64 m] w fun e w' => e = .returned (.int .i64 (n % m)) ∧ w = w' := by
  have h1 := Int.emod_nonneg n (show m ≠ 0 by omega)
  have h2 := Int.emod_lt_of_pos n (show 0 < m by omega)
  have hlt : decide (m < 1) = false := by simp; omega
  by_cases h0 : 0 ≤ n
  · have h3 : decide (n % m < 0) = false := by simp; omega
    go_enter Tryz.func28, Tryz.ntmps28
    go_wp2
    go_ret
    exact ⟨rfl, rfl⟩
  · have ht : n.tmod m = -((-n) % m) := by
      rw [← Int.neg_neg n, Int.neg_tmod, Int.tmod_eq_emod_of_nonneg (by omega)]; simp
    have h4 := Int.emod_nonneg (-n) (show m ≠ 0 by omega)
    have h5 := Int.emod_lt_of_pos (-n) (show 0 < m by omega)
    by_cases hz : (-n) % m = 0
    · have hd : m ∣ n := by rw [← Int.dvd_neg]; exact Int.dvd_of_emod_eq_zero hz
      have ht0 : n.tmod m = 0 := by rw [ht, hz]; rfl
      have HE : Hid (n % m = 0) := Int.emod_eq_zero_of_dvd hd
      clear ht hz h1 h2
      go_enter Tryz.func28, Tryz.ntmps28
      go_wp2
      go_ret
      exact ⟨by rw [HE.out]; rfl, rfl⟩
    · have HE : Hid (n % m = n.tmod m + m) := by
        show _ = _
        rw [ht]
        have e : n = -((-n) % m) + m * (-((-n) / m)) := by
          have := Int.emod_add_mul_ediv (-n) m
          rw [Int.mul_neg]; omega
        have e2 : n % m = (-((-n) % m) + m) % m := by
          rw [Int.add_emod_right]
          conv => lhs; rw [e]
          rw [Int.add_mul_emod_self_left]
        rw [e2]
        exact Int.emod_eq_of_lt (by omega) (by omega)
      have ht1 : n.tmod m < 0 := by omega
      have ht2 : -4611686018427387904 ≤ n.tmod m := by omega
      clear ht hz h1 h2 h4 h5
      go_enter Tryz.func28, Tryz.ntmps28
      go_wp2
      go_ret
      exact ⟨by rw [HE.out]; rfl, rfl⟩
end Go.Proofs.YtalkglmneicpoaaGreatDoor
