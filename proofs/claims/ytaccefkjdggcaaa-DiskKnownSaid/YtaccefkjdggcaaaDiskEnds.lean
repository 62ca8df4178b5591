/-
  DiskKnown: the walk.
-/
import Derived.Test.YtaccefkjdggcaaaDiskKnown
import Derived.Test.YtaccefkjdggcaaaDiskBegins
namespace Go.Proofs.Ytaccefkjdggcaaa
set_option linter.unusedVariables false
set_option linter.unusedSimpArgs false
open Go.RowKit
def stK (L0 : List UInt8) (s0 : Nat) (L1 : List UInt8) (s1 : Nat) : DSt := fun b => if b = true then (L1, s1) else (L0, s0)
theorem Try.mkU8 : MakeInfo Try.prog 31 5 (.int .u8 0) 1 1 := .mk' Try.underlying31 (by kernel_rfl)
theorem stK_new : stK [] 0 [] 0 = DSt.new := by funext b; cases b <;> rfl
def zeros (n : Nat) : List UInt8 := List.replicate n 0
theorem zeros_reads (W : World) (n : Nat) : Reads (W.alloc (.cells (madeCells #[.int .u8 0] n) 5)) (W.heap.size + 1) 1 (some ⟨W.heap.size, 0, none⟩) n ((zeros n).map bval) := by
  have h := Reads.new W (madeCells #[.int .u8 0] n) 5 (0, 0)
  have e : (madeCells #[Value.int .u8 0] n).toList = List.replicate n (.int .u8 0) := madeCells_one (.int .u8 0) rfl n
  rw [e] at h
  have hs : (madeCells #[Value.int .u8 0] n).size = n := by rw [← Array.length_toList, e, List.length_replicate]
  rw [hs] at h
  unfold zeros
  rw [List.map_replicate]
  exact h
set_option maxRecDepth 100000 in
set_option maxHeartbeats 8000000 in
theorem diskKnown_any (w : World) : Calls Try.prog 6 #[] w fun e w' => e = .returned (.bool true) ∧ Below w.heap.size w w' := by
  have CK := Lib.hid known_any

  have N0 : Hid (∀ W, Calls Try.prog 8 #[.int .i64 (-9223372036854775808)] W fun e w' => e = .returned (.tuple #[.pointer none, .int .i64 1]) ∧ W = w') := new_no (-9223372036854775808) (by omega)
  have N1 : Hid (∀ W, Calls Try.prog 8 #[.int .i64 0] W fun e w' => e = .returned (.tuple #[.pointer none, .int .i64 1]) ∧ W = w') := new_no 0 (by omega)
  have N2 : Hid (∀ W, Calls Try.prog 8 #[.int .i64 63] W fun e w' => e = .returned (.tuple #[.pointer none, .int .i64 1]) ∧ W = w') := new_no 63 (by omega)
  have N3 := Lib.hid (new_any 64 (by omega) (by omega))
  have N4 := Lib.hid (new_any 262144 (by omega) (by omega))
  have N5 : Hid (∀ W, Calls Try.prog 8 #[.int .i64 262145] W fun e w' => e = .returned (.tuple #[.pointer none, .int .i64 1]) ∧ W = w') := new_no 262145 (by omega)
  have N6 : Hid (∀ W, Calls Try.prog 8 #[.int .i64 9223372036854775807] W fun e w' => e = .returned (.tuple #[.pointer none, .int .i64 1]) ∧ W = w') := new_no 9223372036854775807 (by omega)
  have hmk : ∀ W, (Instr.makeSlice 31 (.int .i64 65) (.int .i64 65)).run Try.prog W = .ok (.slice (some ⟨W.heap.size, 0, none⟩) 65 65) (W.alloc (.cells (madeCells #[.int .u8 0] 65) 5)) := fun W => run_make_one Try.mkU8 rfl 65 (by omega) (by omega) W
  have hmk2 : ∀ W, (Instr.makeSlice 31 (.int .i64 64) (.int .i64 64)).run Try.prog W = .ok (.slice (some ⟨W.heap.size, 0, none⟩) 64 64) (W.alloc (.cells (madeCells #[.int .u8 0] 64) 5)) := fun W => run_make_one Try.mkU8 rfl 64 (by omega) (by omega) W
  have HMK := Lib.hid hmk
  have HMK2 := Lib.hid hmk2
  clear hmk hmk2
  go_enter Try.func6, Try.ntmps6
  go_wp2_with fail
  have HS := Lib.hid (Blk.new w 3 #[ival (-9223372036854775808), ival 0, ival 63, ival 64, ival 262144, ival 262145, ival 9223372036854775807])
  have HB := Lib.hid ((Below.refl w.heap.size w).alloc (Nat.le_refl _) (.cells #[ival (-9223372036854775808), ival 0, ival 63, ival 64, ival 262144, ival 262145, ival 9223372036854775807] 3))
  have HZ : Hid (w.heap.size ≤ (w.alloc (.cells #[ival (-9223372036854775808), ival 0, ival 63, ival 64, ival 262144, ival 262145, ival 9223372036854775807] 3)).heap.size) := by show _ ≤ _; simp
  generalize w.alloc (.cells #[ival (-9223372036854775808), ival 0, ival 63, ival 64, ival 262144, ival 262145, ival 9223372036854775807] 3) = w0 at *
  go_loopw [2] (fun i wr => ∃ k : Nat, k ≤ 7 ∧ i = .int .i64 k ∧ Blk wr w.heap.size 3 #[ival (-9223372036854775808), ival 0, ival 63, ival 64, ival 262144, ival 262145, ival 9223372036854775807] ∧ Below w.heap.size w wr) (fun i _ => 7 - (intOf i).toNat)
  case atStart => exact ⟨0, by omega, rfl, HS.out, HB.out⟩
  case round =>
    obtain ⟨k, hk, rfl, hs, hbel⟩ := hrel
    have KS := Lib.hid hs
    have KB := Lib.hid hbel
    clear hs hbel HS HB
    rcases (by omega : k = 0 ∨ k = 1 ∨ k = 2 ∨ k = 3 ∨ k = 4 ∨ k = 5 ∨ k = 6 ∨ k = 7) with rfl | rfl | rfl | rfl | rfl | rfl | rfl | rfl
    · have hc : wr.cell? ⟨w.heap.size, 0, none⟩ = some (ival (-9223372036854775808)) := KS.out.cell 0
      go_wp2_with fail
      go_must (refine (N0.out _).mono ?_)
      rintro e w1 ⟨rfl, rfl⟩
      go_wp2_with fail
      go_roundw
      case rel => exact ⟨1, by omega, rfl, KS.out, KB.out⟩
      case measure => simp [intOf]
    · have hc : wr.cell? ⟨w.heap.size, 1, none⟩ = some (ival 0) := KS.out.cell 1
      go_wp2_with fail
      go_must (refine (N1.out _).mono ?_)
      rintro e w1 ⟨rfl, rfl⟩
      go_wp2_with fail
      go_roundw
      case rel => exact ⟨2, by omega, rfl, KS.out, KB.out⟩
      case measure => simp [intOf]
    · have hc : wr.cell? ⟨w.heap.size, 2, none⟩ = some (ival 63) := KS.out.cell 2
      go_wp2_with fail
      go_must (refine (N2.out _).mono ?_)
      rintro e w1 ⟨rfl, rfl⟩
      go_wp2_with fail
      go_roundw
      case rel => exact ⟨3, by omega, rfl, KS.out, KB.out⟩
      case measure => simp [intOf]
    · have hc : wr.cell? ⟨w.heap.size, 3, none⟩ = some (ival 64) := KS.out.cell 3
      go_wp2_with fail
      go_must (refine (N3.out _).mono ?_)
      rintro e w1 ⟨g, rfl, _, hb, _, _⟩
      have KS1 := Lib.hid (KS.out.below hb KS.out.lt)
      have KB1 : Hid (Below w.heap.size w w1) := KB.out.trans (hb.mono KB.out.size)
      clear hc
      have hc : w1.cell? ⟨w.heap.size, 3, none⟩ = some (ival 64) := KS1.out.cell 3
      clear hb
      go_wp2_with fail
      go_roundw
      case rel => exact ⟨4, by omega, rfl, KS1.out, KB1.out⟩
      case measure => simp [intOf]
    · have hc : wr.cell? ⟨w.heap.size, 4, none⟩ = some (ival 262144) := KS.out.cell 4
      go_wp2_with fail
      go_must (refine (N4.out _).mono ?_)
      rintro e w1 ⟨g, rfl, _, hb, _, _⟩
      have KS1 := Lib.hid (KS.out.below hb KS.out.lt)
      have KB1 : Hid (Below w.heap.size w w1) := KB.out.trans (hb.mono KB.out.size)
      clear hc
      have hc : w1.cell? ⟨w.heap.size, 4, none⟩ = some (ival 262144) := KS1.out.cell 4
      clear hb
      go_wp2_with fail
      go_roundw
      case rel => exact ⟨5, by omega, rfl, KS1.out, KB1.out⟩
      case measure => simp [intOf]
    · have hc : wr.cell? ⟨w.heap.size, 5, none⟩ = some (ival 262145) := KS.out.cell 5
      go_wp2_with fail
      go_must (refine (N5.out _).mono ?_)
      rintro e w1 ⟨rfl, rfl⟩
      go_wp2_with fail
      go_roundw
      case rel => exact ⟨6, by omega, rfl, KS.out, KB.out⟩
      case measure => simp [intOf]
    · have hc : wr.cell? ⟨w.heap.size, 6, none⟩ = some (ival 9223372036854775807) := KS.out.cell 6
      go_wp2_with fail
      go_must (refine (N6.out _).mono ?_)
      rintro e w1 ⟨rfl, rfl⟩
      go_wp2_with fail
      go_roundw
      case rel => exact ⟨7, by omega, rfl, KS.out, KB.out⟩
      case measure => simp [intOf]
    · go_wp2_with fail
      go_must (refine (N3.out _).mono ?_)
      rintro e w1 ⟨gd, rfl, hgd, hb1, hsz1, hd1⟩
      have H0 : Hid (One false noX w1 w.heap.size gd 64 (stK [] 0 [] 0)) := by rw [stK_new]; exact One.fresh (hd1 _ KB.out.size) (Nat.le_trans KB.out.size hb1.size)
      have B0 : Hid (Below w.heap.size w w1) := KB.out.trans (hb1.mono KB.out.size)
      have hmk := HMK.out
      clear hd1 hsz1 hb1 hgd
      go_wp2_with fail
      have P0 := (H0.out.alloc (.cells (madeCells #[.int .u8 0] 65) 5)).act (fun S hd hb => writeI w.heap.size gd 64 S _ 1 (some ⟨w1.heap.size, 0, none⟩) 65 65 (w1.heap.size + 1) (zeros 65) _ hd hb (zeros_reads w1 65) (by simp [maxLen]))
      rw [(show DSt.writeI 64 (stK [] 0 [] 0) 1 (zeros 65) = stK [] 0 [] 0 from by funext b; cases b <;> decide), show wroteI 64 (stK [] 0 [] 0) 1 (zeros 65) = 12 by decide] at P0
      have Q0 := Lib.hid P0
      clear P0
      go_must (refine Q0.out.mono ?_)
      rintro e w2 ⟨rfl, hw2, how2⟩
      have B1 : Hid (Below w.heap.size w w2) := (B0.out.alloc H0.out.base_le (.cells (madeCells #[.int .u8 0] 65) 5)).trans (how2.rest (H0.out.alloc (.cells (madeCells #[.int .u8 0] 65) 5)).base_le)
      have H1 := Lib.hid hw2
      clear hw2 how2 Q0 H0 B0
      clear hmk
      have hmk2 := HMK2.out
      go_wp2_with fail

      have P1 := (H1.out.alloc (.cells (madeCells #[.int .u8 0] 64) 5)).act (fun S hd hb => writeI w.heap.size gd 64 S _ 1 (some ⟨w2.heap.size, 0, none⟩) 64 64 (w2.heap.size + 1) (zeros 64) _ hd hb (zeros_reads w2 64) (by simp [maxLen]))
      rw [(show DSt.writeI 64 (stK [] 0 [] 0) 1 (zeros 64) = stK [] 0 (zeros 64) 0 from by funext b; cases b <;> decide), show wroteI 64 (stK [] 0 [] 0) 1 (zeros 64) = 0 by decide] at P1
      have Q1 := Lib.hid P1
      clear P1
      go_must (refine Q1.out.mono ?_)
      rintro e w3 ⟨rfl, hw3, how3⟩
      have B2 : Hid (Below w.heap.size w w3) := (B1.out.alloc H1.out.base_le (.cells (madeCells #[.int .u8 0] 64) 5)).trans (how3.rest (H1.out.alloc (.cells (madeCells #[.int .u8 0] 64) 5)).base_le)
      have H2 := Lib.hid hw3
      clear hw3 how3 Q1 H1 B1
      clear hmk2
      go_wp2_with fail

      have P2 := (H2.out.alloc (.cells #[bval 1] 5)).act (fun S hd hb => writeI w.heap.size gd 64 S _ 1 (some ⟨w3.heap.size, 0, none⟩) 1 1 (w3.heap.size + 1) [1] _ hd hb (Reads.new w3 #[bval 1] 5 _) (by simp [maxLen]))
      rw [(show DSt.writeI 64 (stK [] 0 (zeros 64) 0) 1 [1] = stK [] 0 (zeros 64) 0 from by funext b; cases b <;> decide), show wroteI 64 (stK [] 0 (zeros 64) 0) 1 [1] = 12 by decide] at P2
      have Q2 := Lib.hid P2
      clear P2
      go_must (refine Q2.out.mono ?_)
      rintro e w4 ⟨rfl, hw4, how4⟩
      have B3 : Hid (Below w.heap.size w w4) := (B2.out.alloc H2.out.base_le (.cells #[bval 1] 5)).trans (how4.rest (H2.out.alloc (.cells #[bval 1] 5)).base_le)
      have H3 := Lib.hid hw4
      clear hw4 how4 Q2 H2 B2
      go_wp2_with fail

      obtain ⟨Sr3, hr3⟩ := H3.out.bytes
      have R3 := roomI_any w.heap.size gd 64 Sr3 _ 1 w4 hr3
      rw [show roomI 64 (stK [] 0 (zeros 64) 0) 1 = 0 by decide] at R3
      have RR3 := Lib.hid R3
      clear R3 hr3
      go_must (refine RR3.out.mono ?_)
      rintro e wr3 ⟨rfl, q3, rfl⟩
      have G3 := Lib.hid (H3.out.drewN q3)
      have F3 := Lib.hid (below_drewN B3.out q3)
      clear H3 B3 RR3
      have H3 := G3
      have B3 := F3
      clear G3 F3
      go_wp2_with fail

      have P3 := (H3.out.alloc (.cells #[bval 1] 5)).act (fun S hd hb => writeI w.heap.size gd 64 S _ (-1) (some ⟨w4.heap.size, 0, none⟩) 1 1 (w4.heap.size + 1) [1] _ hd hb (Reads.new (w4.drewN q3) #[bval 1] 5 _) (by simp [maxLen]))
      rw [(show DSt.writeI 64 (stK [] 0 (zeros 64) 0) (-1) [1] = stK [] 0 (zeros 64) 0 from by funext b; cases b <;> decide), show wroteI 64 (stK [] 0 (zeros 64) 0) (-1) [1] = 1 by decide] at P3
      have Q3 := Lib.hid P3
      clear P3
      go_must (refine Q3.out.mono ?_)
      rintro e w5 ⟨rfl, hw5, how5⟩
      have B4 : Hid (Below w.heap.size w w5) := (B3.out.alloc H3.out.base_le (.cells #[bval 1] 5)).trans (how5.rest (H3.out.alloc (.cells #[bval 1] 5)).base_le)
      have H4 := Lib.hid hw5
      clear hw5 how5 Q3 H3 B3
      go_wp2_with fail

      have P4 := H4.out.act (fun S hd hb => syncI w.heap.size gd 64 S _ 7 w5 hd hb)
      rw [(show DSt.syncI (stK [] 0 (zeros 64) 0) 7 = stK [] 0 (zeros 64) 0 from by funext b; cases b <;> decide)] at P4
      have Q4 := Lib.hid P4
      clear P4
      go_must (refine Q4.out.mono ?_)
      rintro e w6 ⟨rfl, hw6, how6⟩
      have B5 : Hid (Below w.heap.size w w6) := B4.out.trans (how6.rest H4.out.base_le)
      have H5 := Lib.hid hw6
      clear hw6 how6 Q4 H4 B4
      go_wp2_with fail

      have P5 := H5.out.act (fun S hd hb => cutI w.heap.size gd 64 S _ 7 0 w6 hd hb)
      rw [(show DSt.cutI (stK [] 0 (zeros 64) 0) 7 0 = stK [] 0 (zeros 64) 0 from by funext b; cases b <;> decide)] at P5
      have Q5 := Lib.hid P5
      clear P5
      go_must (refine Q5.out.mono ?_)
      rintro e w7 ⟨rfl, hw7, how7⟩
      have B6 : Hid (Below w.heap.size w w7) := B5.out.trans (how7.rest H5.out.base_le)
      have H6 := Lib.hid hw7
      clear hw7 how7 Q5 H5 B5
      go_wp2_with fail

      have P6 := H6.out.act (fun S hd hb => crash_any w.heap.size gd 64 S _ (-9223372036854775808) w7 hd hb)
      rw [(show DSt.crash (stK [] 0 (zeros 64) 0) (-9223372036854775808) = stK [] 0 [] 0 from by funext b; cases b <;> decide)] at P6
      have Q6 := Lib.hid P6
      clear P6
      go_must (refine Q6.out.mono ?_)
      rintro e w8 ⟨rfl, hw8, how8⟩
      have B7 : Hid (Below w.heap.size w w8) := B6.out.trans (how8.rest H6.out.base_le)
      have H7 := Lib.hid hw8
      clear hw8 how8 Q6 H6 B6
      go_wp2_with fail

      obtain ⟨Sba, hba⟩ := H7.out.bytes
      have Ya := bytesI w.heap.size gd 64 Sba _ 1 w8 hba
      rw [show DSt.bytesI (stK [] 0 [] 0) 1 = [] by decide] at Ya
      simp only [List.length_cons, List.length_nil, Nat.zero_add, Nat.reduceAdd] at Ya
      have YYa := Lib.hid Ya
      clear Ya hba
      go_must (refine YYa.out.mono ?_)
      rintro e ua ⟨xa, rfl, howna, hbba⟩
      obtain ⟨Aa, ca, rfl, hca, hcca, _⟩ := own_slice howna
      have Ga := Lib.hid (H7.out.below hbba)
      have Fa : Hid (Below w.heap.size w ua) := B7.out.trans (hbba.mono H7.out.base_le)
      have Oa := Lib.hid (Reads.of_own howna)
      clear H7 B7 YYa howna hbba
      have H7 := Ga
      have B7 := Fa
      clear Ga Fa
      go_wp2_with fail

      obtain ⟨Sr7, hr7⟩ := H7.out.bytes
      have R7 := roomI_any w.heap.size gd 64 Sr7 _ 7 ua hr7
      rw [show roomI 64 (stK [] 0 [] 0) 7 = 0 by decide] at R7
      have RR7 := Lib.hid R7
      clear R7 hr7
      go_must (refine RR7.out.mono ?_)
      rintro e wr7 ⟨rfl, q7, rfl⟩
      have G7 := Lib.hid (H7.out.drewN q7)
      have F7 := Lib.hid (below_drewN B7.out q7)
      clear H7 B7 RR7
      have H7 := G7
      have B7 := F7
      clear G7 F7
      go_wp2_with fail

      obtain ⟨Sbb, hbb⟩ := H7.out.bytes
      have Yb := bytesI w.heap.size gd 64 Sbb _ 7 (ua.drewN q7) hbb
      rw [show DSt.bytesI (stK [] 0 [] 0) 7 = [] by decide] at Yb
      simp only [List.length_cons, List.length_nil, Nat.zero_add, Nat.reduceAdd] at Yb
      have YYb := Lib.hid Yb
      clear Yb hbb
      go_must (refine YYb.out.mono ?_)
      rintro e ub ⟨xb, rfl, hownb, hbbb⟩
      obtain ⟨Ab, cb, rfl, hcb, hccb, _⟩ := own_slice hownb
      have Gb := Lib.hid (H7.out.below hbbb)
      have Fb : Hid (Below w.heap.size w ub) := B7.out.trans (hbbb.mono H7.out.base_le)
      have Ob := Lib.hid (Reads.of_own hownb)
      clear H7 B7 YYb hownb hbbb
      have H7 := Gb
      have B7 := Fb
      clear Gb Fb
      go_wp2_with fail

      have P7 := (H7.out.alloc (.cells #[bval 1, bval 2, bval 3] 5)).act (fun S hd hb => writeI w.heap.size gd 64 S _ 0 (some ⟨ub.heap.size, 0, none⟩) 3 3 (ub.heap.size + 1) [1, 2, 3] _ hd hb (Reads.new ub #[bval 1, bval 2, bval 3] 5 _) (by simp [maxLen]))
      rw [(show DSt.writeI 64 (stK [] 0 [] 0) 0 [1, 2, 3] = stK [1, 2, 3] 0 [] 0 from by funext b; cases b <;> decide), show wroteI 64 (stK [] 0 [] 0) 0 [1, 2, 3] = 0 by decide] at P7
      have Q7 := Lib.hid P7
      clear P7
      go_must (refine Q7.out.mono ?_)
      rintro e w9 ⟨rfl, hw9, how9⟩
      have B8 : Hid (Below w.heap.size w w9) := (B7.out.alloc H7.out.base_le (.cells #[bval 1, bval 2, bval 3] 5)).trans (how9.rest (H7.out.alloc (.cells #[bval 1, bval 2, bval 3] 5)).base_le)
      have H8 := Lib.hid hw9
      clear hw9 how9 Q7 H7 B7
      go_wp2_with fail

      have P8 := H8.out.act (fun S hd hb => cutI w.heap.size gd 64 S _ 0 2 w9 hd hb)
      rw [(show DSt.cutI (stK [1, 2, 3] 0 [] 0) 0 2 = stK [1, 2] 2 [] 0 from by funext b; cases b <;> decide)] at P8
      have Q8 := Lib.hid P8
      clear P8
      go_must (refine Q8.out.mono ?_)
      rintro e w10 ⟨rfl, hw10, how10⟩
      have B9 : Hid (Below w.heap.size w w10) := B8.out.trans (how10.rest H8.out.base_le)
      have H9 := Lib.hid hw10
      clear hw10 how10 Q8 H8 B8
      go_wp2_with fail

      have P9 := H9.out.act (fun S hd hb => crash_any w.heap.size gd 64 S _ 9223372036854775807 w10 hd hb)
      rw [(show DSt.crash (stK [1, 2] 2 [] 0) 9223372036854775807 = stK [1, 2] 2 [] 0 from by funext b; cases b <;> decide)] at P9
      have Q9 := Lib.hid P9
      clear P9
      go_must (refine Q9.out.mono ?_)
      rintro e w11 ⟨rfl, hw11, how11⟩
      have B10 : Hid (Below w.heap.size w w11) := B9.out.trans (how11.rest H9.out.base_le)
      have H10 := Lib.hid hw11
      clear hw11 how11 Q9 H9 B9
      go_wp2_with fail

      have P10 := (H10.out.alloc (.cells #[bval 4] 5)).act (fun S hd hb => writeI w.heap.size gd 64 S _ 0 (some ⟨w11.heap.size, 0, none⟩) 1 1 (w11.heap.size + 1) [4] _ hd hb (Reads.new w11 #[bval 4] 5 _) (by simp [maxLen]))
      rw [(show DSt.writeI 64 (stK [1, 2] 2 [] 0) 0 [4] = stK [1, 2, 4] 2 [] 0 from by funext b; cases b <;> decide), show wroteI 64 (stK [1, 2] 2 [] 0) 0 [4] = 0 by decide] at P10
      have Q10 := Lib.hid P10
      clear P10
      go_must (refine Q10.out.mono ?_)
      rintro e w12 ⟨rfl, hw12, how12⟩
      have B11 : Hid (Below w.heap.size w w12) := (B10.out.alloc H10.out.base_le (.cells #[bval 4] 5)).trans (how12.rest (H10.out.alloc (.cells #[bval 4] 5)).base_le)
      have H11 := Lib.hid hw12
      clear hw12 how12 Q10 H10 B10
      go_wp2_with fail

      have P11 := H11.out.act (fun S hd hb => crash_any w.heap.size gd 64 S _ 9223372036854775807 w12 hd hb)
      rw [(show DSt.crash (stK [1, 2, 4] 2 [] 0) 9223372036854775807 = stK [1, 2, 4] 3 [] 0 from by funext b; cases b <;> decide)] at P11
      have Q11 := Lib.hid P11
      clear P11
      go_must (refine Q11.out.mono ?_)
      rintro e w13 ⟨rfl, hw13, how13⟩
      have B12 : Hid (Below w.heap.size w w13) := B11.out.trans (how13.rest H11.out.base_le)
      have H12 := Lib.hid hw13
      clear hw13 how13 Q11 H11 B11
      go_wp2_with fail

      obtain ⟨Sbc, hbc⟩ := H12.out.bytes
      have Yc := bytesI w.heap.size gd 64 Sbc _ 0 w13 hbc
      rw [show DSt.bytesI (stK [1, 2, 4] 3 [] 0) 0 = [1, 2, 4] by decide] at Yc
      simp only [List.length_cons, List.length_nil, Nat.zero_add, Nat.reduceAdd] at Yc
      have YYc := Lib.hid Yc
      clear Yc hbc
      go_must (refine YYc.out.mono ?_)
      rintro e uc ⟨xc, rfl, hownc, hbbc⟩
      obtain ⟨Ac, cc, rfl, hcc, hccc, _⟩ := own_slice hownc
      have Gc := Lib.hid (H12.out.below hbbc)
      have Fc : Hid (Below w.heap.size w uc) := B12.out.trans (hbbc.mono H12.out.base_le)
      have Oc := Lib.hid (Reads.of_own hownc)
      clear H12 B12 YYc hownc hbbc
      have H12 := Gc
      have B12 := Fc
      clear Gc Fc
      go_wp2_with fail

      go_must (refine (sameBytes_any Ac _ 3 cc 3 3 uc.heap.size (uc.heap.size + 1) [1, 2, 4] [1, 2, 4] _ (Oc.out.alloc (Nat.le_refl _) _) (Reads.new uc #[bval 1, bval 2, bval 4] _ _) (by simp [maxLen]) (by simp [maxLen])).mono ?_)
      rintro e wz ⟨rfl, qz, rfl⟩
      have HZ1 := Lib.hid ((H12.out.alloc (.cells #[bval 1, bval 2, bval 4] 5)).drewN qz)
      have BZ1 := Lib.hid (below_drewN (B12.out.alloc H12.out.base_le (.cells #[bval 1, bval 2, bval 4] 5)) qz)
      go_wp2_with fail
      go_must (refine (CK.out _).mono ?_)
      rintro e wy ⟨rfl, hb⟩
      go_wp2_with fail
      go_ret
      exact ⟨rfl, BZ1.out.trans (hb.mono HZ1.out.base_le)⟩
end Go.Proofs.Ytaccefkjdggcaaa
