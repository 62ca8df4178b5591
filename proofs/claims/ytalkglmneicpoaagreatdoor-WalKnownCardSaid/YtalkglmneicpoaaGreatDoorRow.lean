/-
  Row: so many bytes.
-/
import Derived.Test.YtalkglmneicpoaaGreatDoorBytes
namespace Go.Proofs.YtalkglmneicpoaaGreatDoor
set_option linter.unusedVariables false
set_option linter.unusedSimpArgs false
open Go.RowKit
def rowB (k : Nat) : UInt8 := UInt8.ofNat (3 + 5 * k)
def rowL (n : Nat) : List UInt8 := (List.range n).map rowB
theorem rowL_succ (n : Nat) : rowL (n + 1) = rowL n ++ [rowB n] := by simp [rowL, List.range_succ]
theorem rowL_length (n : Nat) : (rowL n).length = n := by simp [rowL]
set_option maxRecDepth 100000 in
set_option maxHeartbeats 400000 in
theorem row_any (n : Nat) (w : World) (hn : n ≤ 65536) :
    Calls Tryz.prog 4 #[.int .i64 n] w fun e w' => ∃ v, e = .returned v ∧ w'.ownsRow w.heap.size 5 1 v n ((rowL n).map bval) ∧ Below w.heap.size w w' := by
  go_enter Tryz.func4, Tryz.ntmps4
  go_wp2
  go_loopw [3, 4] (fun v i wr => ∃ k : Nat, k ≤ n ∧ i = .int .i64 k ∧ wr.ownsRow w.heap.size 5 1 v k ((rowL k).map bval) ∧ Below w.heap.size w wr) (fun _ i _ => n - (intOf i).toNat)
  case atStart => exact ⟨0, by omega, rfl, World.ownsRow_nil _ _ _ _, Below.refl _ _⟩
  case round =>
    obtain ⟨k, hk, rfl, hown, hbel⟩ := hrel
    by_cases hlt : k < n
    · have hx : (3 + 5 * (k : Int)) % 256 = ((rowB k).toNat : Int) := by simp [rowB]
      have HT : Hid ((rowL k).map bval ++ [.int .u8 ((rowB k).toNat : Int)] = (rowL (k + 1)).map bval) := by
        show _ = _; rw [rowL_succ, List.map_append]; rfl
      go_wp2_with (
        (at_builtin
         go_must (refine wpList_push wr Tryz.el22 (.tmp 10) (.tmp 15) rfl rfl hown rfl [.int .u8 ((rowB k).toNat : Int)] rfl rfl rfl rfl (by omega) hbel.size ?_)
         intro v1 w1 hown1 _ _ hb1 _))
      have hbel1 := hbel.trans hb1
      rw [HT.out] at hown1
      clear hown hbel hb1 hx
      go_wp2
      go_roundw
      case rel => exact ⟨k + 1, by omega, by go_num, hown1, hbel1⟩
      case measure => simp [intOf]; omega
    · obtain rfl : k = n := by omega
      go_wp2
      go_ret
      exact ⟨_, rfl, hown, hbel⟩
end Go.Proofs.YtalkglmneicpoaaGreatDoor
