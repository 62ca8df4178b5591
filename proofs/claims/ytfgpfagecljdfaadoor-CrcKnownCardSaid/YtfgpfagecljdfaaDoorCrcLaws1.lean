/-
  The walk of CrcSums; a row of bytes.
-/
import Derived.Test.YtfgpfagecljdfaaDoorCrcTurn
import Derived.Test.YtfgpfagecljdfaaDoorCrcWalk
import Derived.Test.YtfgpfagecljdfaaDoorPick
namespace Go.Proofs.YtfgpfagecljdfaaDoor
set_option linter.unusedVariables false
set_option linter.unusedSimpArgs false
open Go.RowKit

def rowB (k : Nat) : UInt8 := UInt8.ofNat (3 + 5 * k)
def rowL (n : Nat) : List UInt8 := (List.range n).map rowB
theorem rowL_succ (n : Nat) : rowL (n + 1) = rowL n ++ [rowB n] := by simp [rowL, List.range_succ]
theorem rowL_length (n : Nat) : (rowL n).length = n := by simp [rowL]

set_option maxRecDepth 100000 in
set_option maxHeartbeats 400000 in
theorem row_any (n : Nat) (w : World) (hn : n ≤ 65536) :
    Calls Tryd.prog 17 #[.int .i64 n] w fun e w' => ∃ v, e = .returned v ∧ w'.ownsRow w.heap.size 5 1 v n ((rowL n).map bval) ∧ Below w.heap.size w w' := by
  go_enter Tryd.func17, Tryd.ntmps17
  go_wp2
  go_loopw [3, 4] (fun v i wr => ∃ k : Nat, k ≤ n ∧ i = .int .i64 k ∧ wr.ownsRow w.heap.size 5 1 v k ((rowL k).map bval) ∧ Below w.heap.size w wr) (fun _ i _ => n - (intOf i).toNat)
  case atStart => exact ⟨0, by omega, rfl, World.ownsRow_nil _ _ _ _, Below.refl _ _⟩
  case round =>
    obtain ⟨k, hk, rfl, hown, hbel⟩ := hrel
    by_cases hlt : k < n
    · have hx : (3 + 5 * (k : Int)) % 256 = ((rowB k).toNat : Int) := by simp [rowB]
      have HT : Hid ((rowL k).map bval ++ [.int .u8 ((rowB k).toNat : Int)] = (rowL (k + 1)).map bval) := by
        show _ = _; rw [rowL_succ, List.map_append]; rfl
      go_wp2_with (
        (at_builtin
         go_must (refine wpList_push wr Tryd.el23 (.tmp 10) (.tmp 15) rfl rfl hown rfl [.int .u8 ((rowB k).toNat : Int)] rfl rfl rfl rfl (by omega) hbel.size ?_)
         intro v1 w1 hown1 _ _ hb1 _))
      have hbel1 := hbel.trans hb1
      rw [HT.out] at hown1
      clear hown hbel hb1 hx
      go_wp2
      go_roundw
      case rel => exact ⟨k + 1, by omega, by go_num, hown1, hbel1⟩
      case measure => simp [intOf]; omega
    · obtain rfl : k = n := by omega
      go_wp2
      go_ret
      exact ⟨_, rfl, hown, hbel⟩


set_option maxRecDepth 100000 in
set_option maxHeartbeats 1000000 in
theorem crcSums_any (s : Nat) (hs : s < 4294967296) (A : Option Addr) (n c B : Nat) (bs : List UInt8) (w : World) (hT : TabOk w) (hr : Reads w B 1 A n (bs.map bval)) (hB : B ≤ w.heap.size) (hm : n ≤ maxLen) :
    Calls Tryd.prog 3 #[.int .u32 s, .slice A n c] w fun e w' => e = .returned (.bool true) ∧ Below w.heap.size w w' := by
  by_cases hbig : 4096 < n
  · have HW := Lib.hid (works_any w hT)
    have hgt : (4096 : Int) < (n : Int) := by omega
    unfold maxLen at hm
    clear hT hr
    go_enter Tryd.func3, Tryd.ntmps3
    go_wp2_with (go_at_call 8; refine HW.out.mono ?_; rintro e w1 ⟨rfl, hb1⟩)
    go_ret
    exact ⟨rfl, hb1⟩
  · have hgt : ¬ (4096 : Int) < (n : Int) := by omega
    have HC := Lib.hid (lentBytes_any A n c B bs w hr hB (by omega))
    have HT := Lib.hid hT
    have HR := Lib.hid hr
    clear hT hr
    go_enter Tryd.func3, Tryd.ntmps3
    go_wp2_with fail
    go_must (refine HC.out.mono ?_)
    rintro e w1 ⟨v1, rfl, hown1, hb1⟩
    obtain ⟨A1, c1, rfl, hc1, hc2, hA1⟩ := own_slice hown1
    have hnc : n ≤ c1 := by omega
    have hT1 := Lib.hid (HT.out.below hb1 HT.out.pos)
    have hR1 := Lib.hid (HR.out.below (hb1.mono hB))
    have hX := (Reads.of_own hown1)
    have hXn := Lib.hid (by simpa [HR.out.bytes_len, List.take_append] using hX.take (k := n) (by omega) : Reads w1 w1.heap.size 1 A1 n (bs.map bval))
    have HX := Lib.hid hX
    have C1 := Lib.hid (sum_any A1 n c1 _ bs w1 hT1.out hXn.out (by unfold maxLen; omega))
    have C2 := Lib.hid (refSum_any A n c _ bs w1 hR1.out (by unfold maxLen; omega))
    have C3 := Lib.hid (more_any A1 n c1 _ s bs w1 hs hT1.out hXn.out (by unfold maxLen; omega))
    have hE : (BitVec.ofNat 32 s).toNat = s := by rw [BitVec.toNat_ofNat]; omega
    have C4 := Lib.hid (refMore_any A n c _ (BitVec.ofNat 32 s) bs w1 hR1.out (by unfold maxLen; omega))
    rw [refMore_eq, hE] at C4
    have C5 := Lib.hid (keptBytes_any A1 A (n + 5) c1 n c _ _ bs w1 HX.out hR1.out (by unfold maxLen; omega) (by omega))
    have C6 := Lib.hid (fun m => works_any (w1.drewN m) (hT1.out.drewN m))
    clear hE hX
    generalize crcMore 0 bs = x1 at *
    generalize crcMore s bs = x2 at *
    go_wp2_with fail
    go_must (refine C1.out.mono ?_)
    rintro e w2 ⟨rfl, rfl⟩
    go_wp2_with fail
    go_must (refine C2.out.mono ?_)
    rintro e w2 ⟨rfl, rfl⟩
    go_wp2_with fail
    go_must (refine C3.out.mono ?_)
    rintro e w2 ⟨rfl, rfl⟩
    go_wp2_with fail
    go_must (refine C4.out.mono ?_)
    rintro e w2 ⟨rfl, rfl⟩
    go_wp2_with fail
    go_must (refine C5.out.mono ?_)
    rintro e w2 ⟨rfl, m, rfl⟩
    go_wp2_with fail
    go_must (refine (C6.out m).mono ?_)
    rintro e w2 ⟨rfl, hb2⟩
    go_wp2
    go_ret
    exact ⟨rfl, (below_drewN hb1 m).trans (hb2.mono hb1.size)⟩
end Go.Proofs.YtfgpfagecljdfaaDoor
