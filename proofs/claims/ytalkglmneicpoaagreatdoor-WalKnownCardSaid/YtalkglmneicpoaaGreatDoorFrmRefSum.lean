/-
  The document's sum of a frame (oxbowref04.sum).
-/
import Derived.Test.YtalkglmneicpoaaGreatDoorFrmRefs
import Derived.Test.YtalkglmneicpoaaGreatDoorFrmPut
namespace Go.Proofs.YtalkglmneicpoaaGreatDoor
set_option linter.unusedVariables false
set_option linter.unusedSimpArgs false
open Go.RowKit
set_option maxRecDepth 100000 in
set_option maxHeartbeats 4000000 in
theorem refFsum_any (kb : UInt8) (bs : List UInt8) (A : Option Addr) (m c B : Nat) (w : World) (hr : Reads w B 1 A m (bs.map bval)) (hB : B ≤ w.heap.size) (hm : m ≤ 1099511627776) :
    Calls Tryz.prog 72 #[.agg #[ival (kb.toNat : Int), .slice A m c]] w fun e w' => e = .returned (.int .u32 (frSum kb bs : Nat)) ∧ Below w.heap.size w w' := by
  have HLn := Lib.hid hr.bytes_len
  have hb1 : Below w.heap.size w (w.alloc (.cells #[ival (kb.toNat : Int), .slice A m c] 25)) := (Below.refl _ _).alloc (Nat.le_refl _) _
  have hkb := kb.toNat_lt
  have hw8 : IntKind.u8.wrap (kb.toNat : Int) = (kb.toNat : Int) := by simp [IntKind.wrap, IntKind.bits, IntKind.signed]; omega
  have hm8 : (kb.toNat : Int) % 256 = (kb.toNat : Int) := by omega
  obtain ⟨w1, hw1⟩ : ∃ w1, w1 = w.alloc (.cells #[ival (kb.toNat : Int), .slice A m c] 25) := ⟨_, rfl⟩
  rw [← hw1] at hb1
  have HB1 := Lib.hid hb1
  have HK : Hid (Blk w1 w.heap.size 25 #[ival (kb.toNat : Int), .slice A m c]) := by show Blk _ _ _ _; rw [hw1]; exact Blk.new _ _ _
  have HS1 : Hid (w1.heap.size = w.heap.size + 1) := by show _ = _; rw [hw1]; simp
  have HRD : Hid (∀ W, Below w1.heap.size w1 W → Reads W B 1 A m (bs.map bval) ∧ W.cell? ⟨w.heap.size, 1, none⟩ = some (.slice A m c) ∧ w.heap.size < W.heap.size) := fun W hW =>
    ⟨(hr.below (hb1.mono hB)).below (hW.mono (by have := HS1.out; omega)), (HK.out.below hW HK.out.lt).cell 1, by have := hW.size; have := HS1.out; omega⟩
  clear hr hb1
  go_enter Tryz.func72, Tryz.ntmps72
  go_wp2_with fail
  have hw1' : w.alloc (.cells #[.int .i64 (kb.toNat : Int), .slice A m c] 25) = w1 := hw1.symm
  rw [hw1']
  clear hw1 hw1'
  have y0 : w1.cell? ⟨w.heap.size, 0, none⟩ = some (ival (kb.toNat : Int)) := HK.out.cell 0
  go_wp2_with fail
  go_loopw [3, 4] (fun v i wr => ∃ k : Nat, k ≤ m ∧ i = .int .i64 k ∧ wr.ownsRow w1.heap.size 5 1 v (k + 1) ((kb :: bs.take k).map bval) ∧ Below w1.heap.size w1 wr) (fun _ i _ => m - (intOf i).toNat)
  case atStart => exact ⟨0, by omega, rfl, by rw [← HS1.out]; exact own_made w1 [bval kb] 1 (base := w1.heap.size) (e := 5) (size := 1) (Nat.le_refl _) (by decide) #[bval kb] rfl rfl, (Below.refl _ _).alloc (Nat.le_refl _) _⟩
  case round =>
    obtain ⟨k, hk, rfl, hown, hbel⟩ := hrel
    obtain ⟨hr, y1, hlt1⟩ := HRD.out _ hbel
    clear y0 hw8 hm8
    by_cases hlt : k < m
    · have hk1 : k < bs.length := by have := HLn.out; omega
      obtain ⟨ad, rfl, hadB, hc⟩ := hr.byte hk1
      have HT : Hid ((kb :: bs.take k).map bval ++ [.int .u8 ((bs[k]).toNat : Int)] = (kb :: bs.take (k + 1)).map bval) := by
        show _ = _; rw [List.take_succ_eq_append_getElem hk1, ← List.cons_append, List.map_append]; rfl
      have HO := Lib.hid hown
      have HBE := Lib.hid hbel
      clear hr hown hbel
      go_wp2_with (
        (at_builtin
         go_must (refine wpList_push wr Tryz.el22 (.tmp 16) (.tmp 22) rfl rfl HO.out rfl [.int .u8 ((bs[k]).toNat : Int)] rfl rfl rfl rfl (by omega) HBE.out.size ?_)
         intro v1 w2 hown1 _ _ hb2 _))
      rw [HT.out] at hown1
      have HO1 := Lib.hid hown1
      have HB2 := Lib.hid (HBE.out.trans hb2)
      clear hown1 hb2 HO HBE HT
      go_wp2_with fail
      go_roundw
      case rel => exact ⟨k + 1, by omega, by go_num, HO1.out, HB2.out⟩
      case measure => simp [intOf]; omega
    · obtain rfl : k = m := by omega
      have HT : Hid ((kb :: bs.take k).map bval = (kb :: bs).map bval) := by
        show _ = _; rw [List.take_of_length_le (by have := HLn.out; omega)]
      rw [HT.out] at hown
      obtain ⟨A3, c3, rfl, hc31, hc32, _⟩ := own_slice hown
      have C1 := Lib.hid (refSum_any A3 (k + 1) c3 wr.heap.size (kb :: bs) wr (Reads.of_own hown) (by omega))
      have HBE := Lib.hid (HB1.out.trans (hbel.mono (by have := HS1.out; omega)))
      clear hr hown hbel HT
      go_wp2_with fail
      go_must (refine C1.out.mono ?_)
      rintro e w3 ⟨rfl, rfl⟩
      go_wp2_with fail
      go_ret
      exact ⟨rfl, HBE.out⟩
end Go.Proofs.YtalkglmneicpoaaGreatDoor
