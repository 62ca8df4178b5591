/-
  calc.Map, each Op.
-/
import Derived.Test.YtpokbdchbceenaaMem
import Derived.Deep.QuietTactic
import Derived.BigQuiet
namespace Go.Proofs.Ytpokbdchbceenaa
set_option linter.unusedVariables false
set_option linter.unusedSimpArgs false
open Go.RowKit
abbrev fnV (op a b : Int) : Value := .agg #[ival op, ival a, ival b]
set_option maxRecDepth 100000 in
set_option maxHeartbeats 1000000 in
theorem map_add (a b v : Int) (w : World) : Calls Try.prog 14 #[fnV 1 a b, .int .i64 v] w fun e w' => e = .returned (.int .i64 (wrap64 (v + a))) ∧ Below w.heap.size w w' := by
  go_enter Try.func14, Try.ntmps14
  go_wp2_with fail
  go_ret
  exact ⟨rfl, (Below.refl _ _).alloc (Nat.le_refl _) _⟩
set_option maxRecDepth 100000 in
set_option maxHeartbeats 1000000 in
theorem map_mul (a b v : Int) (w : World) : Calls Try.prog 14 #[fnV 2 a b, .int .i64 v] w fun e w' => e = .returned (.int .i64 (wrap64 (v * a))) ∧ Below w.heap.size w w' := by
  go_enter Try.func14, Try.ntmps14
  go_wp2_with fail
  go_ret
  exact ⟨rfl, (Below.refl _ _).alloc (Nat.le_refl _) _⟩
set_option maxRecDepth 100000 in
set_option maxHeartbeats 1000000 in
theorem map_xor (a b v : Int) (w : World) : Calls Try.prog 14 #[fnV 3 a b, .int .i64 v] w fun e w' => e = .returned (.int .i64 (bits BinOp.xor IntKind.i64 v a)) ∧ Below w.heap.size w w' := by
  go_enter Try.func14, Try.ntmps14
  go_wp2_with fail
  go_ret
  exact ⟨rfl, (Below.refl _ _).alloc (Nat.le_refl _) _⟩
set_option maxRecDepth 100000 in
set_option maxHeartbeats 1000000 in
theorem map_neg (a b v : Int) (w : World) : Calls Try.prog 14 #[fnV 4 a b, .int .i64 v] w fun e w' => e = .returned (.int .i64 (wrap64 (-v))) ∧ Below w.heap.size w w' := by
  go_enter Try.func14, Try.ntmps14
  go_wp2_with fail
  go_ret
  exact ⟨rfl, (Below.refl _ _).alloc (Nat.le_refl _) _⟩
set_option maxRecDepth 100000 in
set_option maxHeartbeats 1000000 in
theorem map_min (a b v : Int) (w : World) : Calls Try.prog 14 #[fnV 6 a b, .int .i64 v] w fun e w' => e = .returned (.int .i64 (min v a)) ∧ Below w.heap.size w w' := by
  by_cases h : v ≤ a
  · have HM : Hid (min v a = v) := by show _ = _; omega
    have hd : decide (a < v) = false := by simp; omega
    go_enter Try.func14, Try.ntmps14
    go_wp2_with fail
    go_ret
    exact ⟨ret_int HM.out.symm, (Below.refl _ _).alloc (Nat.le_refl _) _⟩
  · have HM : Hid (min v a = a) := by show _ = _; omega
    have hd : a < v := by omega
    clear h
    go_enter Try.func14, Try.ntmps14
    go_wp2_with fail
    go_ret
    exact ⟨ret_int HM.out.symm, (Below.refl _ _).alloc (Nat.le_refl _) _⟩
set_option maxRecDepth 100000 in
set_option maxHeartbeats 1000000 in
theorem map_max (a b v : Int) (w : World) : Calls Try.prog 14 #[fnV 7 a b, .int .i64 v] w fun e w' => e = .returned (.int .i64 (max v a)) ∧ Below w.heap.size w w' := by
  by_cases h : a ≤ v
  · have HM : Hid (max v a = v) := by show _ = _; omega
    have hd : decide (v < a) = false := by simp; omega
    go_enter Try.func14, Try.ntmps14
    go_wp2_with fail
    go_ret
    exact ⟨ret_int HM.out.symm, (Below.refl _ _).alloc (Nat.le_refl _) _⟩
  · have HM : Hid (max v a = a) := by show _ = _; omega
    have hd : v < a := by omega
    clear h
    go_enter Try.func14, Try.ntmps14
    go_wp2_with fail
    go_ret
    exact ⟨ret_int HM.out.symm, (Below.refl _ _).alloc (Nat.le_refl _) _⟩
theorem neg_mod (a v : Int) (ha : 1 ≤ a) (hv : v < 0) : a - 1 - (-(v + 1)) % a = v % a := by
  have h1 := Int.emod_nonneg (-(v + 1)) (show a ≠ 0 by omega)
  have h2 := Int.emod_lt_of_pos (-(v + 1)) (show 0 < a by omega)
  have h3 : v = (a - 1 - (-(v + 1)) % a) + a * (-((-(v + 1)) / a) - 1) := by
    have h4 := Int.mul_ediv_add_emod (-(v + 1)) a
    have h5 : a * (-((-(v + 1)) / a) - 1) = -(a * ((-(v + 1)) / a)) - a := by rw [Int.mul_sub, Int.mul_neg, Int.mul_one]
    rw [h5]
    generalize a * ((-(v + 1)) / a) = x at *
    generalize (-(v + 1)) % a = y at *
    omega
  have h4 : v % a = (a - 1 - (-(v + 1)) % a) % a := by
    have := congrArg (· % a) h3
    simp only [Int.add_mul_emod_self_left] at this
    exact this
  rw [h4]
  exact (Int.emod_eq_of_lt (by omega) (by omega)).symm
set_option maxRecDepth 100000 in
set_option maxHeartbeats 1000000 in
theorem map_mod (a b v : Int) (w : World) (l0 : -9223372036854775808 ≤ a) (h0 : a ≤ 9223372036854775807) (l1 : -9223372036854775808 ≤ v) (h1 : v ≤ 9223372036854775807) :
    Calls Try.prog 14 #[fnV 5 a b, .int .i64 v] w fun e w' => e = .returned (.int .i64 (if a < 1 then 0 else v % a)) ∧ Below w.heap.size w w' := by
  by_cases ha : a < 1
  · have hd : decide (a < 1) = true := by simpa using ha
    go_enter Try.func14, Try.ntmps14
    go_wp2_with fail
    go_ret
    exact ⟨rfl, (Below.refl _ _).alloc (Nat.le_refl _) _⟩
  · have hd : decide (a < 1) = false := by simpa using ha
    by_cases hv : 0 ≤ v
    · have ha1 : 1 ≤ a := by omega
      clear ha
      go_enter Try.func14, Try.ntmps14
      go_wp2_with fail
      go_ret
      exact ⟨rfl, (Below.refl _ _).alloc (Nat.le_refl _) _⟩
    · have hd2 : decide (0 ≤ v) = false := by simpa using hv
      have ha1 : 1 ≤ a := by omega
      have hv1 : v + 1 ≤ 0 := by omega
      clear ha hv
      go_enter Try.func14, Try.ntmps14
      go_wp2_with fail
      go_quiet (fail)
      go_wp2_with fail
      go_ret
      refine ⟨ret_int ?_, below_drewN ((Below.refl _ _).alloc (Nat.le_refl _) _) _⟩
      have hv0 : v < 0 := by omega
      have hn := neg_mod a v ha1 hv0
      have ht : (v + 1).tmod a = -((-(v + 1)) % a) := by
        have h2 := Int.neg_tmod (-(v + 1)) a
        rw [Int.neg_neg] at h2
        rw [h2, Int.tmod_eq_emod_of_nonneg (by omega)]
      have e1 := Int.emod_nonneg v (show a ≠ 0 by omega)
      have e2 := Int.emod_lt_of_pos v (show 0 < a by omega)
      rw [ht, show a - 1 + -((-(v + 1)) % a) = v % a by omega]
      unfold wrap64; omega
end Go.Proofs.Ytpokbdchbceenaa
