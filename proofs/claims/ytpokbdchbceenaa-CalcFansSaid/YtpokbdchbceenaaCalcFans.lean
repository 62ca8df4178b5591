/-
  CalcFans: the walk.
-/
import Derived.Test.YtpokbdchbceenaaCalcWorks
import Derived.IntWalk
namespace Go.Proofs.Ytpokbdchbceenaa
set_option linter.unusedVariables false
set_option linter.unusedSimpArgs false
open Go.RowKit
theorem fanL_len (b v : Int) (k : Nat) : (fanL b v k).length = k := by simp [fanL]
theorem fanL_get (b v : Int) (k i : Nat) (h : i < (fanL b v k).length) : (fanL b v k)[i] = wrap64 (v + wrap64 ((i : Int) * b)) := by simp [fanL]
theorem fan_step (b v : Int) (k : Nat) (l : -9223372036854775808 ≤ b) (h : b ≤ 9223372036854775807) (hk : 1 ≤ k) (hk' : k ≤ 3) :
    wrap64 (wrap64 (v + wrap64 ((k : Int) * b)) - wrap64 (v + wrap64 (((k - 1 : Nat) : Int) * b))) = b := by
  rcases (by omega : k = 1 ∨ k = 2 ∨ k = 3) with rfl | rfl | rfl <;> (unfold wrap64; simp; omega)
set_option maxRecDepth 100000 in
set_option maxHeartbeats 4000000 in
theorem calcFans_any (a b v : Int) (w : World) (l : -9223372036854775808 ≤ b) (h : b ≤ 9223372036854775807) (lv : -9223372036854775808 ≤ v) (hv : v ≤ 9223372036854775807) :
    Calls Try.prog 6 #[.int .i64 a, .int .i64 b, .int .i64 v] w fun e w' => e = .returned (.bool true) ∧ Below w.heap.size w w' := by
  have C3 := Lib.hid works_any
  by_cases h0 : a < 0
  · go_enter Try.func6, Try.ntmps6
    go_wp2_with fail
    go_must (refine (C3.out _).mono ?_)
    rintro e w1 ⟨rfl, hb1⟩
    go_wp2_with fail
    go_ret
    exact ⟨rfl, hb1⟩
  have h0d : decide (a < 0) = false := by simpa using h0
  by_cases h4 : 4 < a
  · clear h0
    go_enter Try.func6, Try.ntmps6
    go_wp2_with fail
    go_must (refine (C3.out _).mono ?_)
    rintro e w1 ⟨rfl, hb1⟩
    go_wp2_with fail
    go_ret
    exact ⟨rfl, hb1⟩
  obtain ⟨n, rfl⟩ : ∃ n : Nat, a = n := ⟨a.toNat, by omega⟩
  have h4d : decide ((4 : Int) < (n : Int)) = false := by simpa using h4
  have hn : n ≤ 4 := by omega
  have F1 := Lib.hid (fan_any 0 b v n w hn)
  have HL := Lib.hid (fanL_len b v n)
  have HG := Lib.hid (fanL_get b v n)
  have HS := Lib.hid (fun k => fan_step b v k l h)
  have H0 : Hid (wrap64 (v + wrap64 (((0 : Nat) : Int) * b)) = v) := by show _ = _; unfold wrap64; simp; omega
  generalize fanL b v n = L at *
  have hnn : ((n : Int) != (n : Int)) = false := by simp
  clear h0 h4
  by_cases hz : n = 0
  · subst hz
    go_enter Try.func6, Try.ntmps6
    go_wp2_with fail
    go_must (refine F1.out.mono ?_)
    rintro e w1 ⟨x, rfl, hown, hb1⟩
    obtain ⟨A, c, rfl, hc1, hc2, -⟩ := own_slice hown
    have HB := Lib.hid hb1
    clear hb1 hown
    go_wp2_with fail
    go_loopw [8] (fun i wr => i = .int .i64 1 ∧ wr = w1) (fun _ _ => 0)
    case atStart => exact ⟨rfl, rfl⟩
    case round =>
      obtain ⟨rfl, rfl⟩ := hrel
      go_wp2_with fail
      go_must (refine (C3.out _).mono ?_)
      rintro e w2 ⟨rfl, hb2⟩
      go_wp2_with fail
      go_ret
      exact ⟨rfl, HB.out.trans (hb2.mono HB.out.size)⟩
  · have hnp : (0 : Int) < (n : Int) := by omega
    have hnp' : 0 < n := by omega
    go_enter Try.func6, Try.ntmps6
    go_wp2_with fail
    go_must (refine F1.out.mono ?_)
    rintro e w1 ⟨x, rfl, hown, hb1⟩
    obtain ⟨g, c, rfl, hg1, hg2⟩ := hown.form hnp'
    obtain ⟨A, c', he, hc1, hc2, -⟩ := own_slice hown
    obtain ⟨rfl, rfl⟩ : A = some ⟨g, 0, none⟩ ∧ c = c' := by injection he with h1 _ h2; exact ⟨h1.symm, h2⟩
    clear he
    have HC : Hid (∀ k, k < n → w1.cell? ⟨g, k, none⟩ = some (.int .i64 (wrap64 (v + wrap64 ((k : Int) * b))))) := fun k hk => by
      have h1 : k < L.length := by rw [HL.out]; exact hk
      rw [hown.cellAt k (by omega), List.getElem?_map, List.getElem?_eq_getElem h1, HG.out k h1]
      rfl
    have HB := Lib.hid hb1
    have hc := HC.out 0 hnp'
    rw [H0.out] at hc
    have hvv : (v != v) = false := by simp
    clear hb1 hown
    go_wp2_with fail
    go_loopw [8] (fun i wr => ∃ j m : Nat, j + 1 ≤ n ∧ i = .int .i64 ((j : Int) + 1) ∧ wr = w1.drewN m) (fun i _ => n - (intOf i).toNat)
    case atStart => exact ⟨0, 0, by omega, rfl, rfl⟩
    case round =>
      obtain ⟨j, m, hk, rfl, rfl⟩ := hrel
      clear hc
      by_cases hlt : j + 1 < n
      · have hc := HC.out (j + 1) hlt
        have hc2 := HC.out j (by omega)
        have HSk := HS.out (j + 1) (by omega) (by omega)
        rw [Nat.add_sub_cancel] at HSk
        generalize wrap64 (v + wrap64 (((j + 1 : Nat) : Int) * b)) = X at *
        generalize wrap64 (v + wrap64 ((j : Int) * b)) = Y at *
        have hbb : (wrap64 (X - Y) != b) = false := by rw [HSk]; simp
        clear HSk
        have hlt' : (j : Int) + 1 < (n : Int) := by omega
        go_wp2_with fail
        have hq2 : ((j : Int) + 1).toNat = j + 1 := by omega
        have hq3 : IntKind.i64.wrap ((j : Int) + 1 - 1) = (j : Int) := by rw [show (j : Int) + 1 - 1 = (j : Int) by omega]; exact IntWalk.i64_in _ (by omega)
        have hq4 : (0 : Int) ≤ (j : Int) + 1 := by omega
        go_quiet (fail)
        clear hq2 hq3 hq4
        go_wp2_with fail
        go_roundw
        case rel => exact ⟨j + 1, _, by omega, by go_num, rfl⟩
        case measure => simp [intOf]; omega
      · obtain rfl : n = j + 1 := by omega
        go_wp2_with fail
        go_must (refine (C3.out _).mono ?_)
        rintro e w2 ⟨rfl, hb2⟩
        go_wp2_with fail
        go_ret
        exact ⟨rfl, (below_drewN HB.out _).trans (hb2.mono HB.out.size)⟩
end Go.Proofs.Ytpokbdchbceenaa
