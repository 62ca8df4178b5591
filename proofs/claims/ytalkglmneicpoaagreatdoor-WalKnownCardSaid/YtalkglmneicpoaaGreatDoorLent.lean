/-
  LentBytes and KeptBytes: what each does, once.
-/
import Derived.Test.YtalkglmneicpoaaGreatDoorBytes
namespace Go.Proofs.YtalkglmneicpoaaGreatDoor
set_option linter.unusedVariables false
set_option linter.unusedSimpArgs false
open Go.RowKit
/-- A callee that leaves the world alone, inside a region that draws. -/
theorem quiet_left' {P : Program} {f : FuncId} {args : Array Value} {w : World} {a n : Nat} {v : Value}
    (h : Calls P f args (w.drewN (a + n)) fun e w' => e = .returned v ∧ w.drewN (a + n) = w') :
    Calls P f args (w.drewN (a + n)) fun e w'' => e = .returned v ∧ ∃ m, w'' = w.drewN (a + m) :=
  h.mono fun _ _ ⟨he, hm⟩ => ⟨he, n, hm.symm⟩
def markB (k : Nat) : UInt8 := UInt8.ofNat (201 + 7 * k)
def marks : List UInt8 := (List.range 5).map markB
theorem marks_len : marks.length = 5 := rfl

set_option maxRecDepth 100000 in
set_option maxHeartbeats 400000 in
theorem markBytes_any (k : Nat) (hk : k < 1000) (w : World) :
    Calls Tryz.prog 57 #[.int .i64 k] w fun e w' => e = .returned (bval (markB k)) ∧ w = w' := by
  have hx : IntKind.u8.wrap (201 + 7 * (k : Int)) = ((markB k).toNat : Int) := by
    simp [IntKind.wrap, IntKind.bits, IntKind.signed, markB]
  go_enter Tryz.func57, Tryz.ntmps57
  go_wp2
  go_ret
  exact ⟨by simp, rfl⟩

set_option maxRecDepth 100000 in
set_option maxHeartbeats 400000 in
theorem lentBytes_any (A : Option Addr) (n c B : Nat) (bs : List UInt8) (w : World) (hr : Reads w B 1 A n (bs.map bval)) (hB : B ≤ w.heap.size) (hn : n ≤ 140737488350000) :
    Calls Tryz.prog 40 #[.slice A n c] w fun e w' => ∃ v, e = .returned v ∧ w'.ownsRow w.heap.size 5 1 v (n + 5) ((bs ++ marks).map bval) ∧ Below w.heap.size w w' := by
  go_enter Tryz.func40, Tryz.ntmps40
  go_wp2_with (go_at_call 58; refine (copyBytes_any _ _ _ B bs _ hr hB (by omega)).mono ?_; rintro e w1 ⟨v1, rfl, hown1, hbel1⟩)
  have HL := Lib.hid hr.bytes_len
  clear hr
  go_loopw [3, 4] (fun v i wr => ∃ k : Nat, k ≤ 5 ∧ i = .int .i64 k ∧ wr.ownsRow w.heap.size 5 1 v (n + k) ((bs ++ marks.take k).map bval) ∧ Below w.heap.size w wr) (fun _ i _ => 5 - (intOf i).toNat)
  case atStart => exact ⟨0, by omega, rfl, by simpa using hown1, hbel1⟩
  case round =>
    obtain ⟨k, hk, rfl, hown, hbel⟩ := hrel
    clear hown1 hbel1
    by_cases hlt : k < 5
    · have HT : Hid ((bs ++ marks.take k).map bval ++ [.int .u8 ((markB k).toNat : Int)] = (bs ++ marks.take (k + 1)).map bval) := by
        have : marks.take (k + 1) = marks.take k ++ [markB k] := by
          rw [List.take_succ_eq_append_getElem (by rw [marks_len]; omega)]; simp [marks]
        show _ = _; rw [this]; simp
      go_wp2_with (first | (go_at_call 57; refine (markBytes_any k (by omega) _).mono ?_; rintro e w' ⟨rfl, rfl⟩) |
        (at_builtin
         go_must (refine wpList_push wr Tryz.el22 (.tmp 11) (.tmp 14) rfl rfl hown rfl [.int .u8 ((markB k).toNat : Int)] rfl rfl rfl rfl (by omega) hbel.size ?_)
         intro v1 w1 hown1 _ _ hb1 _))
      have hbel1 := hbel.trans hb1
      rw [HT.out] at hown1
      clear hown hbel hb1
      go_wp2
      go_roundw
      case rel => exact ⟨k + 1, by omega, by go_num, hown1, hbel1⟩
      case measure => simp [intOf]; omega
    · obtain rfl : k = 5 := by omega
      have HT : Hid ((bs ++ marks.take 5).map bval = (bs ++ marks).map bval) := rfl
      rw [HT.out] at hown
      go_wp2
      go_ret
      exact ⟨_, rfl, hown, hbel⟩

set_option maxRecDepth 100000 in
set_option maxHeartbeats 400000 in
theorem keptBytes_any (A A' : Option Addr) (n c n' c' B B' : Nat) (bs : List UInt8) (w : World) (hx : Reads w B 1 A n ((bs ++ marks).map bval)) (hy : Reads w B' 1 A' n' (bs.map bval)) (hm : n ≤ maxLen) (hm' : n ≤ c) :
    Calls Tryz.prog 41 #[.slice A n c, .slice A' n' c'] w fun e w' => e = .returned (.bool true) ∧ ∃ m, w' = w.drewN m := by
  have hl := hx.bytes_len
  have hl' := hy.bytes_len
  have h5 : n = n' + 5 := by simp [marks_len] at hl; omega
  subst h5
  clear hl
  have HL' := Lib.hid hl'
  clear hl'
  have hz : Reads w B 1 A n' (bs.map bval) := by
    have := hx.take (k := n') (by omega)
    simpa [HL'.out, List.take_append] using this
  unfold maxLen at hm
  have hneq : (((n' + 5 : Nat) : Int) != (n' : Int) + 5) = false := by simp
  go_enter Tryz.func41, Tryz.ntmps41
  go_wp2_with (go_at_call 20; refine (sameBytes_any _ _ _ _ _ _ B B' bs bs _ hz hy (by unfold maxLen; omega) (by unfold maxLen; omega)).mono ?_; rintro e w' ⟨rfl, m0, rfl⟩)
  go_loopw [5] (fun i wr => ∃ k m : Nat, k ≤ 5 ∧ i = .int .i64 k ∧ wr = w.drewN m) (fun i _ => 5 - (intOf i).toNat)
  case atStart => exact ⟨0, m0, by omega, rfl, rfl⟩
  case round =>
    obtain ⟨k, m, hk, rfl, rfl⟩ := hrel
    by_cases hlt : k < 5
    · have hk1 : n' + k < (bs ++ marks).length := by rw [List.length_append, marks_len, HL'.out]; omega
      obtain ⟨ad, rfl, _, hc⟩ := hx.byte hk1
      have hm2 : (bs ++ marks)[n' + k] = markB k := by
        rw [List.getElem_append_right (by have := HL'.out; omega)]; simp [marks, HL'.out]
      rw [hm2] at hc
      have hw : IntKind.i64.wrap ((n' : Int) + (k : Int)) = (n' : Int) + (k : Int) := IntWalk.i64_in _ (by omega)
      have h0 : 0 ≤ (n' : Int) + (k : Int) := by omega
      have h1 : ((n' : Int) + (k : Int)).toNat = n' + k := by omega
      have h2 : (n' : Int) + (k : Int) < (n' : Int) + 5 := by omega
      have HW := Lib.hid hw
      have H0 := Lib.hid h0
      have H2 := Lib.hid h2
      have H1 := Lib.hid h1
      clear hx hy hz hm2 hw h0 h1 h2
      go_wp2
      have hw := HW.out
      have h0 := H0.out
      have h1 := H1.out
      have h2 := H2.out
      go_quiet ((go_at_call 57; exact quiet_left' (markBytes_any k (by omega) _)))
      clear hw h0 h1 h2
      go_wp2
      go_roundw
      case rel => exact ⟨k + 1, _, by omega, by go_num, rfl⟩
      case measure => simp [intOf]; omega
    · clear hx hy hz
      go_wp2
      go_ret
      exact ⟨rfl, _, rfl⟩
end Go.Proofs.YtalkglmneicpoaaGreatDoor
