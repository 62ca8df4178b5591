/-
  (*pack.Reader).Done: the first error, else whether all was read.
-/
import Derived.Test.YtnknefchpepegaaPackBlob
namespace Go.Proofs.Ytnknefchpepegaa
set_option linter.unusedVariables false
set_option linter.unusedSimpArgs false
open Go.RowKit
def doneE (er : Int) (n : Nat) : Int := if er = 0 then (if 0 < n then 5 else 0) else er
set_option maxRecDepth 100000 in
set_option maxHeartbeats 1000000 in
theorem packDone_any (g B : Nat) (bs : List UInt8) (er : Int) (A : Option Addr) (m c : Nat) (w : World) (h : RdAt w g B bs er A m c) :
    Calls Try.prog 13 #[.pointer (some ⟨g, 0, none⟩)] w fun e w' => e = .returned (.int .i64 (doneE er m)) ∧ w = w' := by
  have y0 : w.cell? ⟨g, 0, none⟩ = some (.slice A m c) := h.blk.cell 0
  have y1 : w.cell? ⟨g, 1, none⟩ = some (.int .i64 er) := h.blk.cell 1
  clear h
  by_cases he : er = 0
  · subst he
    by_cases hm : 0 < m
    · have hq : Hid (doneE 0 m = 5) := by show _ = _; unfold doneE; rw [if_pos rfl, if_pos hm]
      have hmI : (0 : Int) < (m : Int) := by omega
      go_enter Try.func13, Try.ntmps13
      go_wp2_with fail
      go_ret
      exact ⟨by rw [hq.out]; rfl, rfl⟩
    · obtain rfl : m = 0 := by omega
      have hq : Hid (doneE 0 0 = 0) := by show _ = _; rfl
      go_enter Try.func13, Try.ntmps13
      go_wp2_with fail
      go_ret
      exact ⟨by rw [hq.out]; rfl, rfl⟩
  · have hq : Hid (doneE er m = er) := by show _ = _; unfold doneE; rw [if_neg he]
    have hb : (er == 0) = false := by simpa using he
    go_enter Try.func13, Try.ntmps13
    go_wp2_with fail
    go_ret
    exact ⟨by rw [hq.out]; rfl, rfl⟩
end Go.Proofs.Ytnknefchpepegaa
