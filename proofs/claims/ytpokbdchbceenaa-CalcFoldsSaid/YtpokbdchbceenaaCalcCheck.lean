/-
  calc.none, calc.right, calc.Check.
-/
import Derived.Test.YtpokbdchbceenaaCalcWithin
namespace Go.Proofs.Ytpokbdchbceenaa
set_option linter.unusedVariables false
set_option linter.unusedSimpArgs false
open Go.RowKit
set_option maxRecDepth 100000 in
set_option maxHeartbeats 1000000 in
theorem none_any (op a b : Int) (w : World) :
    Calls Try.prog 19 #[fnV op a b] w fun e w' => e = .returned (.bool (decide (op = 0 ∧ a = 0 ∧ b = 0))) ∧ Below w.heap.size w w' := by
  go_enter Try.func19, Try.ntmps19
  go_wp2_with fail
  all_goals
    go_ret
    exact ⟨ret_bool (by simp [*]), (Below.refl _ _).alloc (Nat.le_refl _) _⟩
def okFn (kind op a b : Int) : Bool :=
  if kind = 2 then decide (1 ≤ op ∧ op ≤ 7 ∧ b = 0 ∧ (op = 5 → 1 ≤ a) ∧ (op = 4 → a = 0))
  else if kind = 3 then decide ((op = 1 ∧ b = 0) ∨ ((op = 2 ∨ op = 3) ∧ 1 ≤ a ∧ 0 ≤ b ∧ b < a))
  else if kind = 4 then decide (op = 0 ∧ 0 ≤ a ∧ a ≤ 4)
  else if kind = 5 then decide (1 ≤ op ∧ op ≤ 4 ∧ a = 0 ∧ b = 0)
  else if kind = 6 then decide (1 ≤ op ∧ op ≤ 4 ∧ 1 ≤ a ∧ a ≤ 16 ∧ b = 0)
  else decide (op = 0 ∧ a = 0 ∧ b = 0)
set_option maxRecDepth 100000 in
set_option maxHeartbeats 2000000 in
theorem right_2 (op a b : Int) (w : World) (l : -9223372036854775808 ≤ a) (h : a ≤ 9223372036854775807) :
    Calls Try.prog 17 #[.int .i64 2, fnV op a b] w fun e w' => e = .returned (.bool (okFn 2 op a b)) ∧ Below w.heap.size w w' := by
  go_enter Try.func17, Try.ntmps17
  go_wp2_with (first | (go_at_call 16; refine (within_any _ _ _ _).mono ?_; rintro e w1 ⟨rfl, rfl⟩))
  all_goals
    go_ret
    exact ⟨ret_bool (by rw [Bool.eq_iff_iff]; simp_all [okFn] <;> first | done | omega), (Below.refl _ _).alloc (Nat.le_refl _) _⟩
set_option maxRecDepth 100000 in
set_option maxHeartbeats 2000000 in
theorem right_3 (op a b : Int) (w : World) (l : -9223372036854775808 ≤ a) (h : a ≤ 9223372036854775807) :
    Calls Try.prog 17 #[.int .i64 3, fnV op a b] w fun e w' => e = .returned (.bool (okFn 3 op a b)) ∧ Below w.heap.size w w' := by
  go_enter Try.func17, Try.ntmps17
  go_wp2_with (first | (go_at_call 16; refine (within_any _ _ _ _).mono ?_; rintro e w1 ⟨rfl, rfl⟩))
  all_goals
    go_ret
    exact ⟨ret_bool (by rw [Bool.eq_iff_iff]; simp_all [okFn] <;> first | done | omega), (Below.refl _ _).alloc (Nat.le_refl _) _⟩
set_option maxRecDepth 100000 in
set_option maxHeartbeats 2000000 in
theorem right_4 (op a b : Int) (w : World) (l : -9223372036854775808 ≤ a) (h : a ≤ 9223372036854775807) :
    Calls Try.prog 17 #[.int .i64 4, fnV op a b] w fun e w' => e = .returned (.bool (okFn 4 op a b)) ∧ Below w.heap.size w w' := by
  go_enter Try.func17, Try.ntmps17
  go_wp2_with (first | (go_at_call 16; refine (within_any _ _ _ _).mono ?_; rintro e w1 ⟨rfl, rfl⟩))
  all_goals
    go_ret
    exact ⟨ret_bool (by rw [Bool.eq_iff_iff]; simp_all [okFn] <;> first | done | omega), (Below.refl _ _).alloc (Nat.le_refl _) _⟩
set_option maxRecDepth 100000 in
set_option maxHeartbeats 2000000 in
theorem right_5 (op a b : Int) (w : World) (l : -9223372036854775808 ≤ a) (h : a ≤ 9223372036854775807) :
    Calls Try.prog 17 #[.int .i64 5, fnV op a b] w fun e w' => e = .returned (.bool (okFn 5 op a b)) ∧ Below w.heap.size w w' := by
  go_enter Try.func17, Try.ntmps17
  go_wp2_with (first | (go_at_call 16; refine (within_any _ _ _ _).mono ?_; rintro e w1 ⟨rfl, rfl⟩))
  all_goals
    go_ret
    exact ⟨ret_bool (by rw [Bool.eq_iff_iff]; simp_all [okFn] <;> first | done | omega), (Below.refl _ _).alloc (Nat.le_refl _) _⟩
set_option maxRecDepth 100000 in
set_option maxHeartbeats 2000000 in
theorem right_6 (op a b : Int) (w : World) (l : -9223372036854775808 ≤ a) (h : a ≤ 9223372036854775807) :
    Calls Try.prog 17 #[.int .i64 6, fnV op a b] w fun e w' => e = .returned (.bool (okFn 6 op a b)) ∧ Below w.heap.size w w' := by
  go_enter Try.func17, Try.ntmps17
  go_wp2_with (first | (go_at_call 16; refine (within_any _ _ _ _).mono ?_; rintro e w1 ⟨rfl, rfl⟩))
  all_goals
    go_ret
    exact ⟨ret_bool (by rw [Bool.eq_iff_iff]; simp_all [okFn] <;> first | done | omega), (Below.refl _ _).alloc (Nat.le_refl _) _⟩
end Go.Proofs.Ytpokbdchbceenaa
