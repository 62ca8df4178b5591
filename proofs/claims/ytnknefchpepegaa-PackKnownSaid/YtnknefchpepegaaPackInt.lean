/-
  pack.Int: a number laid behind bytes.
-/
import Derived.Test.YtnknefchpepegaaPackClone
import Derived.Test.YtnknefchpepegaaPackBits
namespace Go.Proofs.Ytnknefchpepegaa
set_option linter.unusedVariables false
set_option linter.unusedSimpArgs false
open Go.RowKit
set_option maxRecDepth 100000 in
set_option maxHeartbeats 1000000 in
theorem packInt_any (A : Option Addr) (n c B : Nat) (bs : List UInt8) (x : Int) (w : World) (hr : Reads w B 1 A n (bs.map bval)) (hB : B ≤ w.heap.size) (hn : n ≤ 140737488351000) (h1 : -9223372036854775808 ≤ x) (h2 : x ≤ 9223372036854775807) :
    Calls Try.prog 7 #[.slice A n c, .int .i64 x] w fun e w' => ∃ v, e = .returned v ∧ w'.ownsRow w.heap.size 5 1 v (n + (vint (zig x)).length) ((bs ++ vint (zig x)).map bval) ∧ Below w.heap.size w w' := by
  have C1 := Lib.hid (clone_any A n c B bs w hr hB (by omega))
  have HZ : Hid (bits .xor .u64 (IntKind.u64.wrap (IntKind.u64.wrap x * 2)) (IntKind.u64.wrap (x / 9223372036854775808)) = ((zig x : Nat) : Int)) := zig_bits x h1 h2
  have hzl := zig_lt x h1 h2
  clear hr
  generalize zig x = z at *
  go_enter Try.func7, Try.ntmps7
  go_wp2_with fail
  go_must (refine C1.out.mono ?_)
  rintro e w1 ⟨v1, rfl, hown1, hb1⟩
  go_wp2_with fail
  rw [HZ.out]
  clear C1 HZ
  have hz0 := hb1.size
  go_loopw [5, 6] (fun b u wr => ∃ (q : Nat) (done : List UInt8), done ++ vint q = vint z ∧ done.length ≤ 9 ∧ q * 128 ^ done.length < 18446744073709551616 ∧ u = .int .u64 q ∧ wr.ownsRow w.heap.size 5 1 b (n + done.length) ((bs ++ done).map bval) ∧ Below w.heap.size w wr) (fun _ u _ => (intOf u).toNat)
  case atStart => exact ⟨z, [], rfl, by simp, by simpa using hzl, rfl, by simpa using hown1, hb1⟩
  case round =>
    obtain ⟨q, done, hd, hl9, hq, rfl, hown, hbel⟩ := hrel
    clear hown1 hb1 hz0
    have hql : q < 18446744073709551616 := Nat.lt_of_le_of_lt (Nat.le_mul_of_pos_right _ (Nat.pow_pos (by omega))) hq
    by_cases hlt : q ≤ 127
    · have HV := Lib.hid (vint_small hlt)
      have HD := Lib.hid hd
      have hw8 : IntKind.u8.wrap (q : Int) = (q : Int) := by rw [IntKind.wrap_u8']; omega
      have hbv : Hid (Value.int .u8 (q : Int) = bval (UInt8.ofNat q)) := by show _ = _; unfold bval; rw [toNat_of (by omega)]
      clear hd hq
      go_wp2_with (at_builtin; go_must (refine wpList_push wr Try.el24 (.tmp 26) (.tmp 29) rfl rfl hown rfl [.int .u8 (q : Int)] rfl rfl rfl rfl (by omega) hbel.size ?_); intro v2 w2 hown2 _ _ hb2 _)
      have HO := Lib.hid hown2
      have HB := Lib.hid (hbel.trans hb2)
      clear hown hbel hown2 hb2 hw8
      go_ret
      have e : vint z = done ++ [UInt8.ofNat q] := by rw [← HD.out, HV.out]
      refine ⟨_, rfl, ?_, HB.out⟩
      rw [e, ← List.append_assoc, List.map_append, List.length_append, ← Nat.add_assoc]
      have h := HO.out
      rw [hbv.out] at h
      exact h
    · have HV := Lib.hid (vint_big (v := q) (by omega))
      have HD := Lib.hid hd
      have HQ := Lib.hid hq
      have hbv : Hid (Value.int .u8 (bits .or .u8 (IntKind.u8.wrap (q : Int)) 128) = bval (UInt8.ofNat (q % 128 + 128))) := by show _ = _; rw [more_bits]; unfold bval; rw [toNat_of (by omega)]
      clear hd hq
      go_wp2_with (at_builtin; go_must (refine wpList_push wr Try.el24 (.tmp 20) (.tmp 24) rfl rfl hown rfl [.int .u8 (bits .or .u8 (IntKind.u8.wrap (q : Int)) 128)] rfl rfl rfl rfl (by omega) hbel.size ?_); intro v2 w2 hown2 _ _ hb2 _)
      have HO := Lib.hid hown2
      have HB := Lib.hid (hbel.trans hb2)
      clear hown hbel hown2 hb2
      have hl9' : done.length ≤ 8 := by
        have := HQ.out
        rcases Nat.lt_or_ge 8 done.length with h | h
        · exfalso
          have e : done.length = 9 := by omega
          rw [e] at this
          omega
        · exact h
      go_wp2_with fail
      go_roundw
      case rel =>
        refine ⟨q / 128, done ++ [UInt8.ofNat (q % 128 + 128)], ?_, ?_, ?_, by go_num, ?_, HB.out⟩
        · rw [List.append_assoc]; show done ++ (UInt8.ofNat (q % 128 + 128) :: vint (q / 128)) = _; rw [← HV.out, HD.out]
        · simp; omega
        · have := HQ.out
          rw [List.length_append, List.length_singleton, Nat.pow_succ]
          refine Nat.lt_of_le_of_lt ?_ this
          rw [show q / 128 * (128 ^ done.length * 128) = 128 * (q / 128) * 128 ^ done.length by ac_rfl]
          exact Nat.mul_le_mul_right _ (by omega)
        · have h := HO.out
          rw [hbv.out] at h
          rw [← List.append_assoc, List.map_append, List.length_append, ← Nat.add_assoc]
          exact h
      case measure => simp [intOf]; omega
end Go.Proofs.Ytnknefchpepegaa
