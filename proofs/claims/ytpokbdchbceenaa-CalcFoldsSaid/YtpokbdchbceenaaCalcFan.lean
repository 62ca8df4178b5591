/-
  calc.Fan.
-/
import Derived.Test.YtpokbdchbceenaaCalcMap
import Derived.Test.YtpokbdchbceenaaInts
namespace Go.Proofs.Ytpokbdchbceenaa
set_option linter.unusedVariables false
set_option linter.unusedSimpArgs false
open Go.RowKit
def fanL (b v : Int) (k : Nat) : List Int := (List.range k).map fun i : Nat => wrap64 (v + wrap64 ((i : Int) * b))
set_option maxRecDepth 100000 in
set_option maxHeartbeats 1000000 in
theorem fan_any (op b v : Int) (a : Nat) (w : World) (ha : a ≤ 4) :
    Calls Try.prog 15 #[fnV op (a : Int) b, .int .i64 v] w fun e w' => ∃ x, e = .returned x ∧ w'.ownsRow w.heap.size 3 1 x a ((fanL b v a).map ival) ∧ Below w.heap.size w w' := by
  have hd : decide ((4 : Int) < (a : Int)) = false := by simp; omega
  have hle : (a : Int) ≤ 4 := by omega
  go_enter Try.func15, Try.ntmps15
  go_wp2_with fail
  have HK : Hid (Blk (w.alloc (.cells #[ival op, ival (a : Int), ival b] 23)) w.heap.size 23 #[ival op, ival (a : Int), ival b]) := Blk.new _ _ _
  have HB : Hid (Below w.heap.size w (w.alloc (.cells #[ival op, ival (a : Int), ival b] 23))) := (Below.refl _ _).alloc (Nat.le_refl _) _
  generalize w.alloc (.cells #[ival op, ival (a : Int), ival b] 23) = w1 at *
  go_loopw [5, 6, 10] (fun x i6 i wr => ∃ k : Nat, k ≤ a ∧ i = .int .i64 k ∧ wr.ownsRow w.heap.size 3 1 x k ((fanL b v k).map ival) ∧ Blk wr w.heap.size 23 #[ival op, ival (a : Int), ival b] ∧ Below w.heap.size w wr) (fun _ _ i _ => a - (intOf i).toNat)
  case atStart => exact ⟨0, by omega, rfl, ⟨by simp [fanL], .inl ⟨rfl, rfl⟩⟩, HK.out, HB.out⟩
  case round =>
    obtain ⟨k, hk, rfl, hown, hblk, hbel⟩ := hrel
    clear HK HB
    by_cases hlt : k < a
    · have hc : wr.cell? ⟨w.heap.size, 2, none⟩ = some (ival b) := hblk.cell 2
      have HT : Hid ((fanL b v k).map ival ++ [ival (wrap64 (v + wrap64 ((k : Int) * b)))] = (fanL b v (k + 1)).map ival) := by
        show _ = _; simp [fanL, List.range_succ]
      have hq : (k + 1) * 8 ≤ 140737488355328 := by omega
      generalize hX : wrap64 (v + wrap64 ((k : Int) * b)) = X at *
      go_wp2_with
        (at_builtin
         go_must (refine wpList_push wr Try.elInts (.tmp 13) (.tmp 20) rfl rfl hown rfl [.int .i64 X] rfl rfl rfl rfl hq hbel.size ?_)
         intro v1 w2 hown1 hg1 hv1 hb1 hs1)
      rw [HT.out] at hown1
      have hblk1 := hblk.grown hg1 (fun h => own_blk_ne hown hblk (by decide) h.symm)
      have hbel1 := hbel.trans hb1
      clear hown hblk hbel hg1 hv1 hs1 hc hb1
      go_wp2_with fail
      go_roundw
      case rel => exact ⟨k + 1, by omega, by go_num, hown1, hblk1, hbel1⟩
      case measure => simp [intOf]; omega
    · obtain rfl : k = a := by omega
      go_wp2_with fail
      go_ret
      exact ⟨_, rfl, hown, hbel⟩
end Go.Proofs.Ytpokbdchbceenaa
