/-
  The kit of bytes: SameBytes, CopyBytes, LentBytes, KeptBytes: what each does, once.
-/
import Derived.Test.YtalkglmneicpoaaGreatDoorMem
import Derived.Deep.QuietTactic
import Derived.BigQuiet
namespace Go.Proofs.YtalkglmneicpoaaGreatDoor
set_option linter.unusedVariables false
set_option linter.unusedSimpArgs false
open Go.RowKit
theorem Tryz.el22 : ElemInfo Tryz.prog 22 5 1 1 := .mk' Tryz.underlying22 (z := .int .u8 0) (by kernel_rfl) rfl (by decide) (by decide)

set_option maxRecDepth 100000 in
set_option maxHeartbeats 400000 in
theorem sameBytes_any (A A' : Option Addr) (n c n' c' B B' : Nat) (xs ys : List UInt8) (w : World) (hx : Reads w B 1 A n (xs.map bval)) (hy : Reads w B' 1 A' n' (ys.map bval)) (hm : n ≤ maxLen) (hm' : n' ≤ maxLen) :
    Calls Tryz.prog 20 #[.slice A n c, .slice A' n' c'] w fun e w' => e = .returned (.bool (decide (xs = ys))) ∧ ∃ m, w' = w.drewN m := by
  have hl := hx.bytes_len
  have hl' := hy.bytes_len
  unfold maxLen at hm hm'
  by_cases hne : n = n'
  · subst hne
    have HL := Lib.hid hl
    have HL' := Lib.hid hl'
    clear hl hl'
    go_enter Tryz.func20, Tryz.ntmps20
    go_wp2
    go_loopw [5] (fun i wr => ∃ k m : Nat, k ≤ n ∧ i = .int .i64 k ∧ xs.take k = ys.take k ∧ wr = w.drewN m) (fun i _ => n - (intOf i).toNat)
    case atStart => exact ⟨0, 0, by omega, rfl, rfl, rfl⟩
    case round =>
      obtain ⟨k, m, hk, rfl, hkk, rfl⟩ := hrel
      have HK := Lib.hid hkk
      clear hkk
      by_cases hlt : k < n
      · have hk1 : k < xs.length := by have := HL.out; omega
        have hk2 : k < ys.length := by have := HL'.out; omega
        obtain ⟨ad, rfl, _, hc⟩ := hx.byte hk1
        obtain ⟨ad', rfl, _, hc'⟩ := hy.byte hk2
        clear hx hy
        have hlt' : ((k : Int) < (n : Int)) := by omega
        by_cases he : xs[k] = ys[k]
        · have hb : (((xs[k]).toNat : Int) != ((ys[k]).toNat : Int)) = false := by rw [he]; simp
          have HE : Hid (xs.take (k + 1) = ys.take (k + 1)) := by
            show _ = _
            rw [List.take_succ_eq_append_getElem hk1, List.take_succ_eq_append_getElem hk2, HK.out, he]
          clear HK he
          go_wp2
          go_quiet (fail)
          go_wp2
          go_roundw
          case rel => exact ⟨k + 1, _, by omega, by go_num, HE.out, rfl⟩
          case measure => simp [intOf]; omega
        · have hb : (((xs[k]).toNat : Int) != ((ys[k]).toNat : Int)) = true := by
            rw [bne_iff_ne]; intro h; exact he (UInt8.toNat_inj.1 (by omega))
          have hq : decide (xs = ys) = false := by simp; rintro rfl; exact he rfl
          have HQ := Lib.hid hq
          clear HK he hq
          go_wp2
          go_quiet (fail)
          go_wp2
          go_ret
          exact ⟨ret_bool HQ.out.symm, _, World.drewN_drewN _ _ _⟩
      · have hq : decide (xs = ys) = true := by
          have := HL.out; have := HL'.out; have h3 := HK.out
          rw [List.take_of_length_le (by omega), List.take_of_length_le (by omega)] at h3
          simp [h3]
        have HQ := Lib.hid hq
        clear hx hy hq
        go_wp2
        go_ret
        exact ⟨ret_bool HQ.out.symm, _, rfl⟩
  · have he : ((n : Int) != (n' : Int)) = true := by simp; omega
    have hq : decide (xs = ys) = false := by simp; rintro rfl; omega
    rw [hq]
    clear hl hl' hq
    go_enter Tryz.func20, Tryz.ntmps20
    go_wp2
    go_ret
    exact ⟨rfl, 0, rfl⟩

set_option maxRecDepth 100000 in
set_option maxHeartbeats 400000 in
theorem copyBytes_any (A : Option Addr) (n c B : Nat) (bs : List UInt8) (w : World) (hr : Reads w B 1 A n (bs.map bval)) (hB : B ≤ w.heap.size) (hn : n ≤ 140737488351232) :
    Calls Tryz.prog 58 #[.slice A n c] w fun e w' => ∃ v, e = .returned v ∧ w'.ownsRow w.heap.size 5 1 v n (bs.map bval) ∧ Below w.heap.size w w' := by
  go_enter Tryz.func58, Tryz.ntmps58
  go_wp2
  go_loopw [3, 4] (fun v i wr => ∃ k : Nat, k ≤ n ∧ i = .int .i64 k ∧ wr.ownsRow w.heap.size 5 1 v k ((bs.take k).map bval) ∧ Below w.heap.size w wr) (fun _ i _ => n - (intOf i).toNat)
  case atStart => exact ⟨0, by omega, rfl, by simpa using World.ownsRow_nil _ _ _ _, Below.refl _ _⟩
  case round =>
    obtain ⟨k, hk, rfl, hown, hbel⟩ := hrel
    have HL := Lib.hid hr.bytes_len
    by_cases hlt : k < n
    · have hk1 : k < bs.length := by have := HL.out; omega
      obtain ⟨ad, rfl, hadB, hc0⟩ := hr.byte hk1
      have hc := (hbel.cell (p := ad.add k) (by rw [block_of_add]; omega)).trans hc0
      have HT : Hid ((bs.take k).map bval ++ [.int .u8 ((bs[k]).toNat : Int)] = (bs.take (k + 1)).map bval) := by
        show _ = _; rw [List.take_succ_eq_append_getElem hk1, List.map_append]; rfl
      clear hr hc0
      go_wp2_with (
        (at_builtin
         go_must (refine wpList_push wr Tryz.el22 (.tmp 11) (.tmp 16) rfl rfl hown rfl [.int .u8 ((bs[k]).toNat : Int)] rfl rfl rfl rfl (by omega) hbel.size ?_)
         intro v1 w1 hown1 _ _ hb1 _))
      have hbel1 := hbel.trans hb1
      rw [HT.out] at hown1
      clear hown hbel hc hb1
      go_wp2
      go_roundw
      case rel => exact ⟨k + 1, by omega, by go_num, hown1, hbel1⟩
      case measure => simp [intOf]; omega
    · obtain rfl : k = n := by omega
      have HT : Hid ((bs.take k).map bval = bs.map bval) := by
        show _ = _; rw [List.take_of_length_le (by have := HL.out; omega)]
      rw [HT.out] at hown
      clear hr
      go_wp2
      go_ret
      exact ⟨_, rfl, hown, hbel⟩
end Go.Proofs.YtalkglmneicpoaaGreatDoor
