/-
  Blocked: whether an input must wait.
-/
import Derived.Test.YtcikjghinjdmmaaAlign
import Derived.Test.YtcikjghinjdmmaaPick
namespace Go.Proofs.Ytcikjghinjdmmaa
set_option linter.unusedVariables false
set_option linter.unusedSimpArgs false
open Go.RowKit
def alBlocked (s : AlSt) (i : Int) : Bool := decide (0 ≤ i) && (s.1[i.toNat]?.getD false)
set_option maxRecDepth 100000 in
set_option maxHeartbeats 1000000 in
theorem blocked_in (g n : Nat) (s : AlSt) (ap lp : Option Addr) (I : Nat) (w : World) (hI : I < 96) (h : AlRep w g n s ap lp) :
    Calls Try.prog 15 #[.pointer (some ⟨g, 0, none⟩), .int .i64 (I : Int)] w fun e w' => e = .returned (.bool (alBlocked s (I : Int))) ∧ w = w' := by
  have hI2 : I < s.1.length := by rw [h.1]; exact hI
  have hc := (h.2.1.cell (2 + I)).trans (alCells_bl n _ s.1 ap lp I hI2)
  have HE : Hid (alBlocked s (I : Int) = s.1[I]) := by
    show _ = _; simp [alBlocked, hI2]
  have hi : (I : Int) < 96 := by omega
  clear h
  generalize s.1[I] = b at *
  go_enter Try.func15, Try.ntmps15
  go_wp2_with fail
  go_ret
  exact ⟨ret_bool HE.out.symm, rfl⟩
set_option maxRecDepth 100000 in
set_option maxHeartbeats 1000000 in
theorem blocked_out (g n : Nat) (s : AlSt) (ap lp : Option Addr) (i : Int) (w : World) (hi : i < 0 ∨ 96 ≤ i) (h : AlRep w g n s ap lp) :
    Calls Try.prog 15 #[.pointer (some ⟨g, 0, none⟩), .int .i64 i] w fun e w' => e = .returned (.bool (alBlocked s i)) ∧ w = w' := by
  have HE : Hid (alBlocked s i = false) := by
    show _ = _
    unfold alBlocked
    rcases hi with hi | hi
    · simp; omega
    · rw [List.getElem?_eq_none (by rw [h.1]; omega)]; simp
  clear h
  rcases hi with hi | hi
  · have hd : decide (0 ≤ i) = false := by simp; omega
    go_enter Try.func15, Try.ntmps15
    go_wp2_with fail
    go_ret
    exact ⟨ret_bool HE.out.symm, rfl⟩
  · have hd : decide (0 ≤ i) = true := by simp; omega
    have hd2 : decide (i < 96) = false := by simp; omega
    go_enter Try.func15, Try.ntmps15
    go_wp2_with fail
    go_ret
    exact ⟨ret_bool HE.out.symm, rfl⟩
theorem blocked_any (g n : Nat) (s : AlSt) (ap lp : Option Addr) (i : Int) (w : World) (h : AlRep w g n s ap lp) :
    Calls Try.prog 15 #[.pointer (some ⟨g, 0, none⟩), .int .i64 i] w fun e w' => e = .returned (.bool (alBlocked s i)) ∧ w = w' := by
  by_cases hi : i < 0 ∨ 96 ≤ i
  · exact blocked_out g n s ap lp i w hi h
  · obtain ⟨I, rfl⟩ := Int.eq_ofNat_of_zero_le (show 0 ≤ i by omega)
    exact blocked_in g n s ap lp I w (by omega) h
end Go.Proofs.Ytcikjghinjdmmaa
