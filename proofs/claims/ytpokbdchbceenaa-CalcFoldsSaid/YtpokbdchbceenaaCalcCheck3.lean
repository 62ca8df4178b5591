/-
  calc.right of all kinds; calc.Check; the reference's Check.
-/
import Derived.Test.YtpokbdchbceenaaCalcCheck2
namespace Go.Proofs.Ytpokbdchbceenaa
set_option linter.unusedVariables false
set_option linter.unusedSimpArgs false
open Go.RowKit
theorem right_any (kind op a b : Int) (w : World) (l : -9223372036854775808 ≤ a) (h : a ≤ 9223372036854775807) :
    Calls Try.prog 17 #[.int .i64 kind, fnV op a b] w fun e w' => e = .returned (.bool (okFn kind op a b)) ∧ Below w.heap.size w w' := by
  by_cases h2 : kind = 2
  · subst h2; exact right_2 op a b w l h
  by_cases h3 : kind = 3
  · subst h3; exact right_3 op a b w l h
  by_cases h4 : kind = 4
  · subst h4; exact right_4 op a b w l h
  by_cases h5 : kind = 5
  · subst h5; exact right_5 op a b w l h
  by_cases h6 : kind = 6
  · subst h6; exact right_6 op a b w l h
  exact right_else kind op a b w h2 h3 h4 h5 h6
def checkV (kind op a b : Int) : Int := if (decide (1 ≤ kind) && decide (kind ≤ 8)) = true then (if okFn kind op a b = true then 0 else 1) else 2
set_option maxRecDepth 100000 in
set_option maxHeartbeats 2000000 in
theorem check_any (kind op a b : Int) (w : World) (l : -9223372036854775808 ≤ a) (h : a ≤ 9223372036854775807) :
    Calls Try.prog 7 #[.int .i64 kind, fnV op a b] w fun e w' => e = .returned (.int .i64 (checkV kind op a b)) ∧ Below w.heap.size w w' := by
  have C := Lib.hid (within_any kind 1 8)
  have R := Lib.hid (fun W => right_any kind op a b W l h)
  cases hw : (decide (1 ≤ kind) && decide (kind ≤ 8))
  · have HE : Hid (checkV kind op a b = 2) := by show _ = _; unfold checkV; rw [hw]; rfl
    have C2 : Hid (∀ W, Calls Try.prog 16 #[.int .i64 kind, .int .i64 1, .int .i64 8] W fun e w' => e = .returned (.bool false) ∧ W = w') := fun W => by have := C.out W; rwa [hw] at this
    clear C hw
    go_enter Try.func7, Try.ntmps7
    go_wp2_with fail
    go_must (refine (C2.out _).mono ?_)
    rintro e w1 ⟨rfl, rfl⟩
    go_wp2_with fail
    go_ret
    exact ⟨ret_int HE.out.symm, (Below.refl _ _).alloc (Nat.le_refl _) _⟩
  · have C2 : Hid (∀ W, Calls Try.prog 16 #[.int .i64 kind, .int .i64 1, .int .i64 8] W fun e w' => e = .returned (.bool true) ∧ W = w') := fun W => by have := C.out W; rwa [hw] at this
    cases hk : okFn kind op a b
    · have HE : Hid (checkV kind op a b = 1) := by show _ = _; unfold checkV; rw [hw, hk]; rfl
      have R2 : Hid (∀ W, Calls Try.prog 17 #[.int .i64 kind, fnV op a b] W fun e w' => e = .returned (.bool false) ∧ Below W.heap.size W w') := fun W => by have := R.out W; rwa [hk] at this
      clear C R hw hk
      go_enter Try.func7, Try.ntmps7
      go_wp2_with fail
      go_must (refine (C2.out _).mono ?_)
      rintro e w1 ⟨rfl, rfl⟩
      go_wp2_with fail
      go_must (refine (R2.out _).mono ?_)
      rintro e w1 ⟨rfl, hb1⟩
      go_wp2_with fail
      go_ret
      exact ⟨ret_int HE.out.symm, ((Below.refl _ _).alloc (Nat.le_refl _) _).trans (hb1.mono (by simp))⟩
    · have HE : Hid (checkV kind op a b = 0) := by show _ = _; unfold checkV; rw [hw, hk]; rfl
      have R2 : Hid (∀ W, Calls Try.prog 17 #[.int .i64 kind, fnV op a b] W fun e w' => e = .returned (.bool true) ∧ Below W.heap.size W w') := fun W => by have := R.out W; rwa [hk] at this
      clear C R hw hk
      go_enter Try.func7, Try.ntmps7
      go_wp2_with fail
      go_must (refine (C2.out _).mono ?_)
      rintro e w1 ⟨rfl, rfl⟩
      go_wp2_with fail
      go_must (refine (R2.out _).mono ?_)
      rintro e w1 ⟨rfl, hb1⟩
      go_wp2_with fail
      go_ret
      exact ⟨ret_int HE.out.symm, ((Below.refl _ _).alloc (Nat.le_refl _) _).trans (hb1.mono (by simp))⟩
theorem checkV_out (kind op a b : Int) (h : kind < 1 ∨ 8 < kind) : checkV kind op a b = 2 := by
  unfold checkV; rw [if_neg]; simp; omega
theorem checkV_in (kind op a b : Int) (h : 1 ≤ kind) (h' : kind ≤ 8) : checkV kind op a b = if okFn kind op a b = true then 0 else 1 := by
  unfold checkV; rw [if_pos]; simp [h, h']
set_option maxRecDepth 100000 in
set_option maxHeartbeats 4000000 in
theorem refCheck_out (kind op a b : Int) (w : World) (h : kind < 1 ∨ 8 < kind) :
    Calls Try.prog 8 #[.int .i64 kind, fnV op a b] w fun e w' => e = .returned (.int .i64 2) ∧ Below w.heap.size w w' := by
  rcases h with h | h
  · go_enter Try.func8, Try.ntmps8
    go_wp2_with fail
    go_ret
    exact ⟨rfl, (Below.refl _ _).alloc (Nat.le_refl _) _⟩
  · have h1 : decide (kind < 1) = false := by simp; omega
    go_enter Try.func8, Try.ntmps8
    go_wp2_with fail
    go_ret
    exact ⟨rfl, (Below.refl _ _).alloc (Nat.le_refl _) _⟩
def okV (kind op a b : Int) : Int := if okFn kind op a b = true then 0 else 1
theorem okV_0 {kind op a b : Int} (h : okFn kind op a b = true) : (0 : Int) = okV kind op a b := by unfold okV; rw [if_pos h]
theorem okV_1 {kind op a b : Int} (h : okFn kind op a b = false) : (1 : Int) = okV kind op a b := by unfold okV; rw [if_neg (by simp [h])]
set_option maxRecDepth 100000 in
set_option maxHeartbeats 8000000 in
theorem refCheck_2 (op a b : Int) (w : World) :
    Calls Try.prog 8 #[.int .i64 2, fnV op a b] w fun e w' => e = .returned (.int .i64 (okV 2 op a b)) ∧ Below w.heap.size w w' := by
  go_enter Try.func8, Try.ntmps8
  go_wp2_with fail
  all_goals
    go_ret
    refine ⟨ret_int ?_, (Below.refl _ _).alloc (Nat.le_refl _) _⟩
    first
      | exact okV_0 (by simp_all [okFn] <;> first | done | omega)
      | exact okV_1 (by simp_all [okFn] <;> first | done | omega)
set_option maxRecDepth 100000 in
set_option maxHeartbeats 8000000 in
theorem refCheck_3 (op a b : Int) (w : World) :
    Calls Try.prog 8 #[.int .i64 3, fnV op a b] w fun e w' => e = .returned (.int .i64 (okV 3 op a b)) ∧ Below w.heap.size w w' := by
  go_enter Try.func8, Try.ntmps8
  go_wp2_with fail
  all_goals
    go_ret
    refine ⟨ret_int ?_, (Below.refl _ _).alloc (Nat.le_refl _) _⟩
    first
      | exact okV_0 (by simp_all [okFn] <;> first | done | omega)
      | exact okV_1 (by simp_all [okFn] <;> first | done | omega)
set_option maxRecDepth 100000 in
set_option maxHeartbeats 8000000 in
theorem refCheck_4 (op a b : Int) (w : World) :
    Calls Try.prog 8 #[.int .i64 4, fnV op a b] w fun e w' => e = .returned (.int .i64 (okV 4 op a b)) ∧ Below w.heap.size w w' := by
  go_enter Try.func8, Try.ntmps8
  go_wp2_with fail
  all_goals
    go_ret
    refine ⟨ret_int ?_, (Below.refl _ _).alloc (Nat.le_refl _) _⟩
    first
      | exact okV_0 (by simp_all [okFn] <;> first | done | omega)
      | exact okV_1 (by simp_all [okFn] <;> first | done | omega)
set_option maxRecDepth 100000 in
set_option maxHeartbeats 8000000 in
theorem refCheck_5 (op a b : Int) (w : World) :
    Calls Try.prog 8 #[.int .i64 5, fnV op a b] w fun e w' => e = .returned (.int .i64 (okV 5 op a b)) ∧ Below w.heap.size w w' := by
  go_enter Try.func8, Try.ntmps8
  go_wp2_with fail
  all_goals
    go_ret
    refine ⟨ret_int ?_, (Below.refl _ _).alloc (Nat.le_refl _) _⟩
    first
      | exact okV_0 (by simp_all [okFn] <;> first | done | omega)
      | exact okV_1 (by simp_all [okFn] <;> first | done | omega)
set_option maxRecDepth 100000 in
set_option maxHeartbeats 8000000 in
theorem refCheck_6 (op a b : Int) (w : World) :
    Calls Try.prog 8 #[.int .i64 6, fnV op a b] w fun e w' => e = .returned (.int .i64 (okV 6 op a b)) ∧ Below w.heap.size w w' := by
  go_enter Try.func8, Try.ntmps8
  go_wp2_with fail
  all_goals
    go_ret
    refine ⟨ret_int ?_, (Below.refl _ _).alloc (Nat.le_refl _) _⟩
    first
      | exact okV_0 (by simp_all [okFn] <;> first | done | omega)
      | exact okV_1 (by simp_all [okFn] <;> first | done | omega)
set_option maxRecDepth 100000 in
set_option maxHeartbeats 8000000 in
theorem refCheck_else (kind op a b : Int) (w : World) (l : 1 ≤ kind) (h : kind ≤ 8) (h2 : kind ≠ 2) (h3 : kind ≠ 3) (h4 : kind ≠ 4) (h5 : kind ≠ 5) (h6 : kind ≠ 6) :
    Calls Try.prog 8 #[.int .i64 kind, fnV op a b] w fun e w' => e = .returned (.int .i64 (okV kind op a b)) ∧ Below w.heap.size w w' := by
  have HE : Hid (okFn kind op a b = decide (op = 0 ∧ a = 0 ∧ b = 0)) := by show _ = _; unfold okFn; rw [if_neg h2, if_neg h3, if_neg h4, if_neg h5, if_neg h6]
  have t2 : (kind == 2) = false := by simpa using h2
  have t3 : (kind == 3) = false := by simpa using h3
  have t4 : (kind == 4) = false := by simpa using h4
  have t5 : (kind == 5) = false := by simpa using h5
  have t6 : (kind == 6) = false := by simpa using h6
  clear h2 h3 h4 h5 h6
  go_enter Try.func8, Try.ntmps8
  go_wp2_with fail
  all_goals
    go_ret
    refine ⟨ret_int ?_, (Below.refl _ _).alloc (Nat.le_refl _) _⟩
    first
      | exact okV_0 (by rw [HE.out]; simp_all)
      | exact okV_1 (by rw [HE.out]; simp_all)
theorem refCheck_any (kind op a b : Int) (w : World) :
    Calls Try.prog 8 #[.int .i64 kind, fnV op a b] w fun e w' => e = .returned (.int .i64 (checkV kind op a b)) ∧ Below w.heap.size w w' := by
  by_cases ho : kind < 1 ∨ 8 < kind
  · rw [checkV_out kind op a b ho]; exact refCheck_out kind op a b w ho
  rw [checkV_in kind op a b (by omega) (by omega)]
  by_cases h2 : kind = 2
  · subst h2; exact refCheck_2 op a b w
  by_cases h3 : kind = 3
  · subst h3; exact refCheck_3 op a b w
  by_cases h4 : kind = 4
  · subst h4; exact refCheck_4 op a b w
  by_cases h5 : kind = 5
  · subst h5; exact refCheck_5 op a b w
  by_cases h6 : kind = 6
  · subst h6; exact refCheck_6 op a b w
  exact refCheck_else kind op a b w (by omega) (by omega) h2 h3 h4 h5 h6
end Go.Proofs.Ytpokbdchbceenaa
