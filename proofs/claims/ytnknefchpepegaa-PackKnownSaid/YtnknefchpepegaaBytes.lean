/-
  The kit of bytes: SameBytes, CopyBytes, LentBytes, KeptBytes: what each does, once.
-/
import Derived.Test.YtnknefchpepegaaMem
import Derived.Deep.QuietTactic
import Derived.BigQuiet
namespace Go.Proofs.Ytnknefchpepegaa
set_option linter.unusedVariables false
set_option linter.unusedSimpArgs false
open Go.RowKit
theorem Try.el24 : ElemInfo Try.prog 24 5 1 1 := .mk' Try.underlying24 (z := .int .u8 0) (by kernel_rfl) rfl (by decide) (by decide)

set_option maxRecDepth 100000 in
set_option maxHeartbeats 400000 in
theorem sameBytes_any (A A' : Option Addr) (n c n' c' B B' : Nat) (xs ys : List UInt8) (w : World) (hx : Reads w B 1 A n (xs.map bval)) (hy : Reads w B' 1 A' n' (ys.map bval)) (hm : n ≤ maxLen) (hm' : n' ≤ maxLen) :
    Calls Try.prog 11 #[.slice A n c, .slice A' n' c'] w fun e w' => e = .returned (.bool (decide (xs = ys))) ∧ ∃ m, w' = w.drewN m := by
  have hl := hx.bytes_len
  have hl' := hy.bytes_len
  unfold maxLen at hm hm'
  by_cases hne : n = n'
  · subst hne
    have HL := Lib.hid hl
    have HL' := Lib.hid hl'
    clear hl hl'
    go_enter Try.func11, Try.ntmps11
    go_wp2
    go_loopw [5] (fun i wr => ∃ k m : Nat, k ≤ n ∧ i = .int .i64 k ∧ xs.take k = ys.take k ∧ wr = w.drewN m) (fun i _ => n - (intOf i).toNat)
    case atStart => exact ⟨0, 0, by omega, rfl, rfl, rfl⟩
    case round =>
      obtain ⟨k, m, hk, rfl, hkk, rfl⟩ := hrel
      have HK := Lib.hid hkk
      clear hkk
      by_cases hlt : k < n
      · have hk1 : k < xs.length := by have := HL.out; omega
        have hk2 : k < ys.length := by have := HL'.out; omega
        obtain ⟨ad, rfl, _, hc⟩ := hx.byte hk1
        obtain ⟨ad', rfl, _, hc'⟩ := hy.byte hk2
        clear hx hy
        have hlt' : ((k : Int) < (n : Int)) := by omega
        by_cases he : xs[k] = ys[k]
        · have hb : (((xs[k]).toNat : Int) != ((ys[k]).toNat : Int)) = false := by rw [he]; simp
          have HE : Hid (xs.take (k + 1) = ys.take (k + 1)) := by
            show _ = _
            rw [List.take_succ_eq_append_getElem hk1, List.take_succ_eq_append_getElem hk2, HK.out, he]
          clear HK he
          go_wp2
          go_quiet (fail)
          go_wp2
          go_roundw
          case rel => exact ⟨k + 1, _, by omega, by go_num, HE.out, rfl⟩
          case measure => simp [intOf]; omega
        · have hb : (((xs[k]).toNat : Int) != ((ys[k]).toNat : Int)) = true := by
            rw [bne_iff_ne]; intro h; exact he (UInt8.toNat_inj.1 (by omega))
          have hq : decide (xs = ys) = false := by simp; rintro rfl; exact he rfl
          have HQ := Lib.hid hq
          clear HK he hq
          go_wp2
          go_quiet (fail)
          go_wp2
          go_ret
          exact ⟨ret_bool HQ.out.symm, _, World.drewN_drewN _ _ _⟩
      · have hq : decide (xs = ys) = true := by
          have := HL.out; have := HL'.out; have h3 := HK.out
          rw [List.take_of_length_le (by omega), List.take_of_length_le (by omega)] at h3
          simp [h3]
        have HQ := Lib.hid hq
        clear hx hy hq
        go_wp2
        go_ret
        exact ⟨ret_bool HQ.out.symm, _, rfl⟩
  · have he : ((n : Int) != (n' : Int)) = true := by simp; omega
    have hq : decide (xs = ys) = false := by simp; rintro rfl; omega
    rw [hq]
    clear hl hl' hq
    go_enter Try.func11, Try.ntmps11
    go_wp2
    go_ret
    exact ⟨rfl, 0, rfl⟩

end Go.Proofs.Ytnknefchpepegaa
