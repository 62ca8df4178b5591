/-
  CalcMaps: the walk.
-/
import Derived.Test.YtpokbdchbceenaaCalcWorks
namespace Go.Proofs.Ytpokbdchbceenaa
set_option linter.unusedVariables false
set_option linter.unusedSimpArgs false
open Go.RowKit
theorem add_back (a v : Int) (l1 : -9223372036854775808 ≤ v) (h1 : v ≤ 9223372036854775807) : wrap64 (wrap64 (v + a) + wrap64 (-a)) = v := by unfold wrap64; omega
theorem neg_back (v : Int) (l1 : -9223372036854775808 ≤ v) (h1 : v ≤ 9223372036854775807) : wrap64 (-(wrap64 (-v))) = v := by unfold wrap64; omega
theorem wrap_i64' (n : Int) : IntKind.i64.wrap n = (n + 9223372036854775808) % 18446744073709551616 - 9223372036854775808 := by
  simp [IntKind.wrap, IntKind.bits, IntKind.signed]; omega
theorem ofInt_wrap (n : Int) : BitVec.ofInt 64 (IntKind.i64.wrap n) = BitVec.ofInt 64 n := by
  apply BitVec.eq_of_toNat_eq
  rw [wrap_i64', BitVec.toNat_ofInt, BitVec.toNat_ofInt]
  omega
theorem xor_back (a v : Int) (l1 : -9223372036854775808 ≤ v) (h1 : v ≤ 9223372036854775807) : bits BinOp.xor IntKind.i64 (bits BinOp.xor IntKind.i64 v a) a = v := by
  show IntKind.i64.wrap ((BitVec.ofInt 64 (IntKind.i64.wrap ((BitVec.ofInt 64 v ^^^ BitVec.ofInt 64 a).toNat : Int)) ^^^ BitVec.ofInt 64 a).toNat : Int) = v
  rw [ofInt_wrap]
  have : BitVec.ofInt 64 ((BitVec.ofInt 64 v ^^^ BitVec.ofInt 64 a).toNat : Int) = BitVec.ofInt 64 v ^^^ BitVec.ofInt 64 a := by
    apply BitVec.eq_of_toNat_eq
    rw [BitVec.ofInt_natCast, BitVec.toNat_ofNat]
    exact Nat.mod_eq_of_lt (BitVec.isLt _)
  rw [this, BitVec.xor_assoc, BitVec.xor_self, BitVec.xor_zero, wrap_i64', BitVec.toNat_ofInt]
  omega
theorem quo_is (a v : Int) (ha : 1 ≤ a) (l1 : -9223372036854775808 ≤ v) (h1 : v ≤ 9223372036854775807) (h0 : 0 ≤ v) : (wrap64 (v / a * a) == v) = (v % a == 0) := by
  have h2 := Int.emod_nonneg v (show a ≠ 0 by omega)
  have h3 := Int.mul_ediv_add_emod v a
  rw [Int.mul_comm] at h3
  have h4 : 0 ≤ v / a * a := by
    have := Int.ediv_nonneg h0 (show 0 ≤ a by omega)
    exact Int.mul_nonneg this (by omega)
  generalize v / a * a = q at *
  generalize v % a = r at *
  have : wrap64 q = q := by unfold wrap64; omega
  rw [this, Bool.eq_iff_iff]; simp; omega
theorem quo_neg (a v : Int) (ha : 1 ≤ a) (l1 : -9223372036854775808 ≤ v) (h1 : v ≤ 9223372036854775807) (h0 : v < 0) : (wrap64 (v.tdiv a * a) == v) = (v % a == 0) := by
  have h3 := Int.mul_tdiv_add_tmod v a
  rw [Int.mul_comm] at h3
  have h2 : v.tmod a = -((-v) % a) := by
    have := Int.neg_tmod (-v) a
    rw [Int.neg_neg] at this
    rw [this, Int.tmod_eq_emod_of_nonneg (by omega)]
  have h5 := Int.emod_nonneg (-v) (show a ≠ 0 by omega)
  have h7 : (-v) % a ≤ -v := by
    have g1 := Int.mul_ediv_add_emod (-v) a
    have g2 : 0 ≤ a * ((-v) / a) := Int.mul_nonneg (by omega) (Int.ediv_nonneg (by omega) (by omega))
    omega
  have h6 : v % a = 0 ↔ (-v) % a = 0 := by
    constructor
    · intro h
      have : a ∣ -v := by rw [Int.dvd_neg]; exact Int.dvd_of_emod_eq_zero h
      exact Int.emod_eq_zero_of_dvd this
    · intro h
      have : a ∣ v := by rw [← Int.dvd_neg]; exact Int.dvd_of_emod_eq_zero h
      exact Int.emod_eq_zero_of_dvd this
  rw [h2] at h3
  generalize v.tdiv a * a = q at *
  generalize (-v) % a = r at *
  have : wrap64 q = q := by unfold wrap64; omega
  rw [this, Bool.eq_iff_iff]; simp; rw [h6]; omega
set_option maxRecDepth 100000 in
set_option maxHeartbeats 4000000 in
theorem calcMaps_any (a v : Int) (w : World) (l : -9223372036854775808 ≤ a) (h : a ≤ 9223372036854775807) (lv : -9223372036854775808 ≤ v) (hv : v ≤ 9223372036854775807) :
    Calls Try.prog 5 #[.int .i64 a, .int .i64 v] w fun e w' => e = .returned (.bool true) ∧ Below w.heap.size w w' := by
  have C3 := Lib.hid works_any
  have S1 := Lib.hid (map_add a 0 v)
  have S2 := Lib.hid (map_xor a 0 v)
  have S3 := Lib.hid (map_neg 0 0 v)
  have S4 := Lib.hid (map_min a 0 v)
  have S5 := Lib.hid (map_max a 0 v)
  have S6 := Lib.hid (map_add (wrap64 (-a)) 0 (wrap64 (v + a)))
  have S7 := Lib.hid (map_xor a 0 (bits BinOp.xor IntKind.i64 v a))
  have S8 := Lib.hid (map_neg 0 0 (wrap64 (-v)))
  rw [add_back a v lv hv] at S6
  rw [xor_back a v lv hv] at S7
  rw [neg_back v lv hv] at S8
  have S9 := Lib.hid (map_mul a 0 v)
  have S10 := Lib.hid (map_mul v 0 a)
  rw [Int.mul_comm a v] at S10
  have hle : min v a ≤ max v a := by omega
  have hsum : (wrap64 (min v a + max v a) != wrap64 (v + a)) = false := by rw [show min v a + max v a = v + a by omega]; simp
  have hone : (min v a != a) = false ∨ (min v a != a) = true ∧ (min v a != v) = false := by
    by_cases hm : min v a = a
    · exact .inl (by rw [hm]; simp)
    · exact .inr ⟨by simp [hm], by rw [show min v a = v by omega]; simp⟩
  generalize min v a = m1 at *
  generalize max v a = m2 at *
  generalize wrap64 (v + a) = s at *
  generalize bits BinOp.xor IntKind.i64 v a = x at *
  generalize wrap64 (-v) = n at *
  generalize wrap64 (v * a) = p at *
  have hvv : (v != v) = false := by simp
  have hpp : (p != p) = false := by simp
  have hd : decide (m2 < m1) = false := by simp; omega
  clear hle
  go_enter Try.func5, Try.ntmps5
  go_wp2_with fail
  go_must (refine (S1.out _).mono ?_)
  rintro e w1 ⟨rfl, hb⟩
  have HB1 := Lib.hid hb
  have hz1 := HB1.out.size
  clear hb
  go_wp2_with fail
  go_must (refine (S2.out _).mono ?_)
  rintro e w2 ⟨rfl, hb⟩
  have HB2 := Lib.hid (HB1.out.trans (hb.mono hz1))
  have hz2 := HB2.out.size
  clear hb
  go_wp2_with fail
  go_must (refine (S3.out _).mono ?_)
  rintro e w3 ⟨rfl, hb⟩
  have HB3 := Lib.hid (HB2.out.trans (hb.mono hz2))
  have hz3 := HB3.out.size
  clear hb
  go_wp2_with fail
  go_must (refine (S4.out _).mono ?_)
  rintro e w4 ⟨rfl, hb⟩
  have HB4 := Lib.hid (HB3.out.trans (hb.mono hz3))
  have hz4 := HB4.out.size
  clear hb
  go_wp2_with fail
  go_must (refine (S5.out _).mono ?_)
  rintro e w5 ⟨rfl, hb⟩
  have HB5 := Lib.hid (HB4.out.trans (hb.mono hz4))
  have hz5 := HB5.out.size
  clear hb
  go_wp2_with fail
  go_must (refine (S6.out _).mono ?_)
  rintro e w6 ⟨rfl, hb⟩
  have HB6 := Lib.hid (HB5.out.trans (hb.mono hz5))
  have hz6 := HB6.out.size
  clear hb
  go_wp2_with fail
  go_must (refine (S7.out _).mono ?_)
  rintro e w7 ⟨rfl, hb⟩
  have HB7 := Lib.hid (HB6.out.trans (hb.mono hz6))
  have hz7 := HB7.out.size
  clear hb
  go_wp2_with fail
  go_must (refine (S8.out _).mono ?_)
  rintro e w8 ⟨rfl, hb⟩
  have HB8 := Lib.hid (HB7.out.trans (hb.mono hz7))
  have hz8 := HB8.out.size
  clear hb S1 S2 S3 S4 S5 S6 S7 S8 HB1 HB2 HB3 HB4 HB5 HB6 HB7 hz1 hz2 hz3 hz4 hz5 hz6 hz7
  rcases hone with ho | ⟨ho, ho2⟩
  all_goals
    go_wp2_with fail
    go_must (refine (S9.out _).mono ?_)
    rintro e w9 ⟨rfl, hb⟩
    have HB9 := Lib.hid (HB8.out.trans (hb.mono hz8))
    have hz9 := HB9.out.size
    clear hb
    go_wp2_with fail
    go_must (refine (S10.out _).mono ?_)
    rintro e w10 ⟨rfl, hb⟩
    have HB10 := Lib.hid (HB9.out.trans (hb.mono hz9))
    have hz10 := HB10.out.size
    clear hb HB8 HB9 hz8 hz9
    by_cases ha : a < 1
    · go_wp2_with fail
      go_must (refine (C3.out _).mono ?_)
      rintro e w11 ⟨rfl, hb⟩
      go_wp2_with fail
      go_ret
      exact ⟨rfl, HB10.out.trans (hb.mono hz10)⟩
    have ha1 : 1 ≤ a := by omega
    have hd1 : decide (a < 1) = false := by simpa using ha
    have r1 := Int.emod_nonneg v (show a ≠ 0 by omega)
    have r2 := Int.emod_lt_of_pos v (show 0 < a by omega)
    have M1 := Lib.hid (fun W => map_mod a 0 v W l h lv hv)
    have M2 := Lib.hid (fun W => map_mod a 0 (v % a) W l h (by omega) (by omega))
    rw [if_neg ha] at M1 M2
    rw [Int.emod_eq_of_lt r1 r2] at M2
    have hq : 0 ≤ v → (wrap64 (v / a * a) == v) = (v % a == 0) := quo_is a v ha1 lv hv
    have hq2 : v < 0 → (wrap64 (v.tdiv a * a) == v) = (v % a == 0) := quo_neg a v ha1 lv hv
    have hrv : (v % a == v % a) = true := by simp
    have HQ := Lib.hid hq
    have HQ2 := Lib.hid hq2
    have HRV := Lib.hid hrv
    clear hq hq2 hrv
    generalize hR : v % a = r at *
    have hrr : (r == r) = true := by simp
    have HR := Lib.hid hR
    clear ha hR
    go_wp2_with fail
    go_must (refine (M1.out _).mono ?_)
    rintro e w11 ⟨rfl, hb⟩
    have HB11 := Lib.hid (HB10.out.trans (hb.mono hz10))
    have hz11 := HB11.out.size
    clear hb HB10 hz10
    by_cases hv0 : 0 ≤ v
    · have hd2 : decide (v < 0) = false := by simpa using hv0
      have hqq := HQ.out hv0
      have hrv : (r == v % a) = true := by rw [HR.out]; simp
      go_wp2_with fail
      go_must (refine (M2.out _).mono ?_)
      rintro e w12 ⟨rfl, hb⟩
      have HB12 := Lib.hid (HB11.out.trans (hb.mono hz11))
      have hz12 := HB12.out.size
      clear hb HB11 hz11
      go_wp2_with fail
      go_must (refine (C3.out _).mono ?_)
      rintro e w13 ⟨rfl, hb⟩
      go_wp2_with fail
      go_ret
      exact ⟨rfl, HB12.out.trans (hb.mono hz12)⟩
    · have hd2 : v < 0 := by omega
      have hqq := HQ2.out hd2
      clear hv0
      go_wp2_with fail
      go_must (refine (M2.out _).mono ?_)
      rintro e w12 ⟨rfl, hb⟩
      have HB12 := Lib.hid (HB11.out.trans (hb.mono hz11))
      have hz12 := HB12.out.size
      clear hb HB11 hz11
      go_wp2_with fail
      go_must (refine (C3.out _).mono ?_)
      rintro e w13 ⟨rfl, hb⟩
      go_wp2_with fail
      go_ret
      exact ⟨rfl, HB12.out.trans (hb.mono hz12)⟩
end Go.Proofs.Ytpokbdchbceenaa
