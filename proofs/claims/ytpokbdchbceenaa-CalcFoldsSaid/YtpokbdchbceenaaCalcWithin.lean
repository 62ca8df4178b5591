/-
  calc.within and calc.none.
-/
import Derived.Test.YtpokbdchbceenaaCalcMap
namespace Go.Proofs.Ytpokbdchbceenaa
set_option linter.unusedVariables false
set_option linter.unusedSimpArgs false
open Go.RowKit
set_option maxRecDepth 100000 in
set_option maxHeartbeats 1000000 in
theorem within_any (n lo hi : Int) (w : World) :
    Calls Try.prog 16 #[.int .i64 n, .int .i64 lo, .int .i64 hi] w fun e w' => e = .returned (.bool (decide (lo ≤ n) && decide (n ≤ hi))) ∧ w = w' := by
  by_cases h : lo ≤ n
  · have h1 : decide (lo ≤ n) = true := by simpa using h
    have HE : Hid ((decide (lo ≤ n) && decide (n ≤ hi)) = decide (n ≤ hi)) := by show _ = _; rw [h1]; rfl
    clear h
    go_enter Try.func16, Try.ntmps16
    go_wp2_with fail
    go_ret
    exact ⟨ret_bool HE.out.symm, rfl⟩
  · have h1 : decide (lo ≤ n) = false := by simpa using h
    have HE : Hid ((decide (lo ≤ n) && decide (n ≤ hi)) = false) := by show _ = _; rw [h1]; rfl
    clear h
    go_enter Try.func16, Try.ntmps16
    go_wp2_with fail
    go_ret
    exact ⟨ret_bool HE.out.symm, rfl⟩
end Go.Proofs.Ytpokbdchbceenaa
