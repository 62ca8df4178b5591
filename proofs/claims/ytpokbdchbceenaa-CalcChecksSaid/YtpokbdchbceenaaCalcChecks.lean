/-
  CalcChecks: the walk.
-/
import Derived.Test.YtpokbdchbceenaaCalcWorks
import Derived.Deep.RegionHeld3
namespace Go.Proofs.Ytpokbdchbceenaa
set_option linter.unusedVariables false
set_option linter.unusedSimpArgs false
open Go.RowKit
set_option maxRecDepth 100000 in
set_option maxHeartbeats 4000000 in
theorem calcChecks_any (kind op a b : Int) (w : World) (l : -9223372036854775808 ≤ a) (h : a ≤ 9223372036854775807) :
    Calls Try.prog 3 #[.int .i64 kind, fnV op a b] w fun e w' => e = .returned (.bool true) ∧ Below w.heap.size w w' := by
  have C1 := Lib.hid (fun W => check_any kind op a b W l h)
  have C2 := Lib.hid (refCheck_any kind op a b)
  have C3 := Lib.hid works_any
  have HK := Lib.hid (Blk.new w 23 #[ival op, ival a, ival b])
  have HB := Lib.hid ((Below.refl w.heap.size w).alloc (Nat.le_refl _) (.cells #[ival op, ival a, ival b] 23))
  have hz : w.heap.size ≤ (w.alloc (.cells #[ival op, ival a, ival b] 23)).heap.size := by simp
  generalize checkV kind op a b = X at *
  have hEE : (X == X) = true := by simp
  go_enter Try.func3, Try.ntmps3
  go_wp2_with fail
  generalize w.alloc (.cells #[ival op, ival a, ival b] 23) = W1 at *
  have hc0 := HK.out.cell 0
  have hc1 := HK.out.cell 1
  have hc2 := HK.out.cell 2
  go_region_held3 (fun w' => w'.cell? ⟨w.heap.size, 0, none⟩ = some (ival op) ∧ w'.cell? ⟨w.heap.size, 1, none⟩ = some (ival a) ∧ w'.cell? ⟨w.heap.size, 2, none⟩ = some (ival b))
    (first | go_keep | (have k2 := (HK.out.drew.below hb1 HK.out.lt); have k3 := k2.below hb2 k2.lt; have k4 := k3.below hb3 k3.lt; exact ⟨k4.cell 0, k4.cell 1, k4.cell 2⟩) | (have k2 := (HK.out.drew.below hb1 HK.out.lt); have k3 := k2.below hb2 k2.lt; exact ⟨k3.cell 0, k3.cell 1, k3.cell 2⟩) | (have k2 := (HK.out.drew.below hb1 HK.out.lt); exact ⟨k2.cell 0, k2.cell 1, k2.cell 2⟩))
    ((first | (go_at_call 7; refine (C1.out _).mono ?_; rintro e w1 ⟨rfl, hb1⟩) | (go_at_call 8; refine (C2.out _).mono ?_; rintro e w2 ⟨rfl, hb2⟩) | (go_at_call 9; refine (C3.out _).mono ?_; rintro e w3 ⟨rfl, hb3⟩)))
  go_wp2_with fail
  go_ret
  have hz1 : w.heap.size ≤ W1.drew.heap.size := hz
  have hz2 : w.heap.size ≤ w1.heap.size := Nat.le_trans hz1 hb1.size
  have hz3 : w.heap.size ≤ w2.heap.size := Nat.le_trans hz2 hb2.size
  exact ⟨rfl, ((HB.out.drew.trans (hb1.mono hz1)).trans (hb2.mono hz2)).trans (hb3.mono hz3)⟩
end Go.Proofs.Ytpokbdchbceenaa
