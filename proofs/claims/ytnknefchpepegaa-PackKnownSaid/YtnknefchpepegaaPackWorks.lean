/-
  oxbowlaw03.known: a number of two bytes, there and back.
-/
import Derived.Test.YtnknefchpepegaaPackBlobs
namespace Go.Proofs.Ytnknefchpepegaa
set_option linter.unusedVariables false
set_option linter.unusedSimpArgs false
open Go.RowKit
theorem RdOf.keep {W W' : World} {g B C : Nat} {bs : List UInt8} {er : Int} (h : RdOf W g B bs er) (hb : Below C W W') (hg : g < C) : RdOf W' g B bs er := by
  obtain ⟨A, m, c, h⟩ := h
  exact ⟨A, m, c, h.keep hb hg⟩
theorem RdOf.lt {W : World} {g B : Nat} {bs : List UInt8} {er : Int} (h : RdOf W g B bs er) : g < W.heap.size := by
  obtain ⟨A, m, c, h⟩ := h
  exact h.blk.lt
theorem RdOf.drewN {W : World} {g B : Nat} {bs : List UInt8} {er : Int} (h : RdOf W g B bs er) (k : Nat) : RdOf (W.drewN k) g B bs er := h.keep (below_drewN (Below.refl W.heap.size W) k) h.lt
theorem done_any (g B : Nat) (bs : List UInt8) (er : Int) (w : World) (h : RdOf w g B bs er) :
    Calls Try.prog 13 #[.pointer (some ⟨g, 0, none⟩)] w fun e w' => e = .returned (.int .i64 (doneE er bs.length)) ∧ w' = w := by
  obtain ⟨A, m, c, h⟩ := h
  rw [h.rd.bytes_len]
  exact (packDone_any g B bs er A m c w h).mono fun e w' h => ⟨h.1, h.2.symm⟩
theorem from_any (A : Option Addr) (n c B : Nat) (bs : List UInt8) (w : World) (hr : Reads w B 1 A n (bs.map bval)) (hB : B ≤ w.heap.size) (hn : n ≤ 17592186044416) :
    Calls Try.prog 9 #[.slice A n c] w fun e w' => ∃ g, e = .returned (.pointer (some ⟨g, 0, none⟩)) ∧ RdOf w' g g bs 0 ∧ w.heap.size ≤ g ∧ Below w.heap.size w w' :=
  (packFrom_any A n c B bs w hr hB hn).mono fun e w' ⟨g, A1, c1, h1, h2, h3, h4⟩ => ⟨g, h1, ⟨A1, n, c1, h2⟩, h3, h4⟩
theorem Only.at_ {w w' : World} {g C : Nat} (h : Only (fun i => i = g) w w') (hC : C ≤ g) (hg : g < w.heap.size) : Below C w w' := h.to (fun i hi => by omega) (by omega)
theorem vint_64 : vint (zig 64) = [128, 1] := by
  show vint 128 = _
  rw [vint_big (by omega), vint_small (by omega)]; rfl
theorem vint_2 : vint (zig 2) = [4] := by
  show vint 4 = _
  rw [vint_small (by omega)]; rfl
set_option maxRecDepth 100000 in
set_option maxHeartbeats 2000000 in
theorem known_any (w : World) : Calls Try.prog 14 #[] w fun e w' => e = .returned (.bool true) ∧ Below w.heap.size w w' := by
  have C1 := packInt_any none 0 0 0 [] 64 w Reads.none_ (Nat.zero_le _) (by omega) (by omega) (by omega)
  rw [vint_64] at C1
  have C1 := Lib.hid C1
  go_enter Try.func14, Try.ntmps14
  go_wp2_with fail
  go_must (refine C1.out.mono ?_)
  rintro e w1 ⟨v1, rfl, hown1, hb1⟩
  obtain ⟨A1, c1, rfl, hc1, _, _⟩ := own_slice hown1
  have HO1 := Lib.hid hown1
  have HB1 := Lib.hid hb1
  clear C1 hown1 hb1
  go_wp2_with fail
  have hs1 := HB1.out.size
  have R1 : Reads (w1.alloc (.cells #[.int .u8 5, .int .u8 6] 5)) w1.heap.size 1 A1 2 (([128, 1] : List UInt8).map bval) := (Reads.of_own HO1.out).below ((Below.refl _ _).alloc (Nat.le_refl _) _)
  have R2 : Reads (w1.alloc (.cells #[.int .u8 5, .int .u8 6] 5)) (w1.heap.size + 1) 1 (some ⟨w1.heap.size, 0, none⟩) 2 (([5, 6] : List UInt8).map bval) := Reads.new w1 #[.int .u8 5, .int .u8 6] _ _
  have C2 := packBlob_any A1 2 c1 w1.heap.size [128, 1] (some ⟨w1.heap.size, 0, none⟩) 2 2 (w1.heap.size + 1) [5, 6] _ R1 (by simp) R2 (by simp) (by omega) (by omega)
  rw [show ((2 : Nat) : Int) = 2 from rfl, vint_2] at C2
  have HB1' : Hid (Below w.heap.size w (w1.alloc (.cells #[.int .u8 5, .int .u8 6] 5))) := HB1.out.alloc hs1 _
  clear R1 R2 HO1 HB1
  generalize w1.alloc (.cells #[.int .u8 5, .int .u8 6] 5) = W1 at *
  generalize w1.heap.size = q1 at *
  go_must (refine C2.mono ?_)
  rintro e w2 ⟨v2, rfl, hown2, hb2⟩
  obtain ⟨A2, c2, rfl, hc2, _, _⟩ := own_slice hown2
  have HO2 : Hid (w2.ownsRow W1.heap.size 5 1 (.slice A2 5 c2) 5 (([128, 1, 4, 5, 6] : List UInt8).map bval)) := hown2
  have HB2 : Hid (Below w.heap.size w w2) := HB1'.out.trans (hb2.mono HB1'.out.size)
  have C3 := Lib.hid (from_any A2 5 c2 w2.heap.size [128, 1, 4, 5, 6] w2 (Reads.of_own HO2.out) (Nat.le_refl _) (by omega))
  clear C2 hown2 hb2 HB1' hs1
  go_wp2_with fail
  go_must (refine C3.out.mono ?_)
  rintro e w3 ⟨g, rfl, hrd3, hg3, hb3⟩
  have HR3 := Lib.hid hrd3
  have HO3 := Lib.hid (own_below HO2.out hb3)
  have HB3 : Hid (Below w.heap.size w w3) := HB2.out.trans (hb3.mono HB2.out.size)
  have hs2 := HB2.out.size
  clear C3 HO2 HB2 hrd3 hb3
  go_wp2_with fail
  have R3 : Reads (w3.alloc (.cells #[.int .u8 128, .int .u8 1, .int .u8 4, .int .u8 5, .int .u8 6] 5)) w3.heap.size 1 A2 5 (([128, 1, 4, 5, 6] : List UInt8).map bval) := (Reads.of_own HO3.out).below ((Below.refl _ _).alloc (Nat.le_refl _) _)
  have R4 : Reads (w3.alloc (.cells #[.int .u8 128, .int .u8 1, .int .u8 4, .int .u8 5, .int .u8 6] 5)) (w3.heap.size + 1) 1 (some ⟨w3.heap.size, 0, none⟩) 5 (([128, 1, 4, 5, 6] : List UInt8).map bval) := Reads.new w3 _ _ _
  have C4 := sameBytes_any A2 (some ⟨w3.heap.size, 0, none⟩) 5 c2 5 5 _ _ _ _ _ R3 R4 (by decide) (by decide)
  rw [show decide (([128, 1, 4, 5, 6] : List UInt8) = [128, 1, 4, 5, 6]) = true from by decide] at C4
  have HB3' : Hid (Below w.heap.size w (w3.alloc (.cells #[.int .u8 128, .int .u8 1, .int .u8 4, .int .u8 5, .int .u8 6] 5))) := HB3.out.alloc HB3.out.size _
  have HR3' : Hid (RdOf (w3.alloc (.cells #[.int .u8 128, .int .u8 1, .int .u8 4, .int .u8 5, .int .u8 6] 5)) g g [128, 1, 4, 5, 6] 0) := HR3.out.keep ((Below.refl _ _).alloc (Nat.le_refl _) _) HR3.out.lt
  clear R3 R4 HO3 HB3 HR3
  generalize w3.alloc (.cells #[.int .u8 128, .int .u8 1, .int .u8 4, .int .u8 5, .int .u8 6] 5) = W3 at *
  generalize w3.heap.size = q3 at *
  go_must (refine C4.mono ?_)
  rintro e w4 ⟨rfl, k4, rfl⟩
  have HR4 : Hid (RdOf (W3.drewN k4) g g [128, 1, 4, 5, 6] 0) := HR3'.out.drewN k4
  have HB4 : Hid (Below w.heap.size w (W3.drewN k4)) := below_drewN HB3'.out k4
  clear C4 HB3' HR3'
  generalize W3.drewN k4 = w4 at *
  have C5 := readInt_any g g [128, 1, 4, 5, 6] 0 w4 HR4.out
  rw [show rdNum (rd ([128, 1, 4, 5, 6] : List UInt8) 0 0) [128, 1, 4, 5, 6] 0 = (64, [4, 5, 6], 0) from by rfl] at C5
  have C5 := Lib.hid C5
  go_wp2_with fail
  go_must (refine C5.out.mono ?_)
  rintro e w5 ⟨rfl, hr5, ho5⟩
  have HR5 := Lib.hid hr5
  have HB5 : Hid (Below w.heap.size w w5) := HB4.out.trans (ho5.at_ (by omega) HR4.out.lt)
  clear C5 HR4 HB4 hr5 ho5
  have C6 := readBlob_any g g [4, 5, 6] 0 w5 HR5.out
  rw [show rdBytes (blb ([4, 5, 6] : List UInt8)) [4, 5, 6] 0 = ([5, 6], [], 0) from by rfl] at C6
  have C6 := Lib.hid C6
  go_wp2_with fail
  go_must (refine C6.out.mono ?_)
  rintro e w6 ⟨v6, rfl, hown6, hr6, ho6⟩
  obtain ⟨A6, c6, rfl, hc6, _, _⟩ := own_slice hown6
  have HO6 := Lib.hid hown6
  have HR6 := Lib.hid hr6
  have HB6 : Hid (Below w.heap.size w w6) := HB5.out.trans (ho6.at_ (by omega) HR5.out.lt)
  clear C6 HR5 HB5 hr6 ho6 hown6
  go_wp2_with fail
  have R5 : Reads (w6.alloc (.cells #[.int .u8 5, .int .u8 6] 5)) w6.heap.size 1 A6 2 (([5, 6] : List UInt8).map bval) := (Reads.of_own HO6.out).below ((Below.refl _ _).alloc (Nat.le_refl _) _)
  have R6 : Reads (w6.alloc (.cells #[.int .u8 5, .int .u8 6] 5)) (w6.heap.size + 1) 1 (some ⟨w6.heap.size, 0, none⟩) 2 (([5, 6] : List UInt8).map bval) := Reads.new w6 #[.int .u8 5, .int .u8 6] _ _
  have C7 := sameBytes_any A6 (some ⟨w6.heap.size, 0, none⟩) 2 c6 2 2 _ _ _ _ _ R5 R6 (by decide) (by decide)
  rw [show decide (([5, 6] : List UInt8) = [5, 6]) = true from by decide] at C7
  have HB6' : Hid (Below w.heap.size w (w6.alloc (.cells #[.int .u8 5, .int .u8 6] 5))) := HB6.out.alloc HB6.out.size _
  have HR6' : Hid (RdOf (w6.alloc (.cells #[.int .u8 5, .int .u8 6] 5)) g g [] 0) := HR6.out.keep ((Below.refl _ _).alloc (Nat.le_refl _) _) HR6.out.lt
  clear R5 R6 HO6 HB6 HR6
  generalize w6.alloc (.cells #[.int .u8 5, .int .u8 6] 5) = W6 at *
  generalize w6.heap.size = q6 at *
  go_must (refine C7.mono ?_)
  rintro e w7 ⟨rfl, k7, rfl⟩
  have HR7 : Hid (RdOf (W6.drewN k7) g g [] 0) := HR6'.out.drewN k7
  have HB7 : Hid (Below w.heap.size w (W6.drewN k7)) := below_drewN HB6'.out k7
  clear C7 HB6' HR6'
  generalize W6.drewN k7 = w7 at *
  have C8 := done_any g g [] 0 w7 HR7.out
  rw [show doneE 0 ([] : List UInt8).length = 0 from rfl] at C8
  have C8 := Lib.hid C8
  go_wp2_with fail
  go_must (refine C8.out.mono ?_)
  rintro e w8 ⟨rfl, rfl⟩
  clear C8
  go_wp2_with fail
  go_ret
  exact ⟨rfl, HB7.out⟩
end Go.Proofs.Ytnknefchpepegaa
