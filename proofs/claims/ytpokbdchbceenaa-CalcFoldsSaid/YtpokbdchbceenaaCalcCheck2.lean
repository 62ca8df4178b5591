/-
  calc.right of the other kinds; calc.Check.
-/
import Derived.Test.YtpokbdchbceenaaCalcCheck
namespace Go.Proofs.Ytpokbdchbceenaa
set_option linter.unusedVariables false
set_option linter.unusedSimpArgs false
open Go.RowKit
set_option maxRecDepth 100000 in
set_option maxHeartbeats 2000000 in
theorem right_else (kind op a b : Int) (w : World) (h2 : kind ≠ 2) (h3 : kind ≠ 3) (h4 : kind ≠ 4) (h5 : kind ≠ 5) (h6 : kind ≠ 6) :
    Calls Try.prog 17 #[.int .i64 kind, fnV op a b] w fun e w' => e = .returned (.bool (okFn kind op a b)) ∧ Below w.heap.size w w' := by
  have HE : Hid (okFn kind op a b = decide (op = 0 ∧ a = 0 ∧ b = 0)) := by show _ = _; unfold okFn; rw [if_neg h2, if_neg h3, if_neg h4, if_neg h5, if_neg h6]
  have t2 : (kind == 2) = false := by simpa using h2
  have t3 : (kind == 3) = false := by simpa using h3
  have t4 : (kind == 4) = false := by simpa using h4
  have t5 : (kind == 5) = false := by simpa using h5
  have t6 : (kind == 6) = false := by simpa using h6
  have C := Lib.hid (none_any op a b)
  clear h2 h3 h4 h5 h6
  go_enter Try.func17, Try.ntmps17
  go_wp2_with fail
  go_must (refine (C.out _).mono ?_)
  rintro e w1 ⟨rfl, hb1⟩
  go_wp2_with fail
  go_ret
  exact ⟨ret_bool (by rw [HE.out]; simp), ((Below.refl _ _).alloc (Nat.le_refl _) _).trans (hb1.mono (by simp))⟩
end Go.Proofs.Ytpokbdchbceenaa
