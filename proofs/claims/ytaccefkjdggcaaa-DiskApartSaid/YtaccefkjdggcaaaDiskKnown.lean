/-
  The chapter's example (known).
-/
import Derived.Test.YtaccefkjdggcaaaDiskSame
namespace Go.Proofs.Ytaccefkjdggcaaa
set_option linter.unusedVariables false
set_option linter.unusedSimpArgs false
open Go.RowKit
/-- An act with a slice that was just laid. -/
theorem One.alloc {r : Bool} {X : Nat → Prop} {w : World} {base g N : Nat} {st : DSt} (h : One r X w base g N st) (o : Obj) : One r X (w.alloc o) base g N st := h.below ((Below.refl _ _).alloc (Nat.le_refl _) _)
theorem One.drewN {r : Bool} {X : Nat → Prop} {w : World} {base g N : Nat} {st : DSt} (h : One r X w base g N st) (n : Nat) : One r X (w.drewN n) base g N st := h.below (below_drewN (Below.refl _ _) _)
abbrev noX : Nat → Prop := fun _ => False
set_option maxRecDepth 100000 in
set_option maxHeartbeats 2000000 in
theorem known_any (w : World) : Calls Try.prog 10 #[] w fun e w' => e = .returned (.bool true) ∧ Below w.heap.size w w' := by
  have C1 := Lib.hid (new_any 64 (by omega) (by omega))
  go_enter Try.func10, Try.ntmps10
  go_wp2_with fail
  go_must (refine (C1.out _).mono ?_)
  rintro e w1 ⟨g, rfl, hg, hb1, hsz1, hd1⟩
  have H1 : Hid (One false noX w1 w.heap.size g 64 DSt.new) := One.fresh (hd1 _ (Nat.le_refl _)) hb1.size
  have HB1 := Lib.hid hb1
  clear hd1 hsz1 hb1 hg
  go_wp2_with fail
  have A2 := (H1.out.alloc (.cells #[bval 1, bval 2, bval 3] 5)).act (fun S hd hb => writeI w.heap.size g 64 S DSt.new 0 (some ⟨w1.heap.size, 0, none⟩) 3 3 (w1.heap.size + 1) [1, 2, 3] _ hd hb (Reads.new w1 #[bval 1, bval 2, bval 3] 5 _) (by simp [maxLen]))
  rw [show wroteI 64 DSt.new 0 [1, 2, 3] = 0 by decide] at A2
  have HA2 := Lib.hid A2
  clear A2
  go_must (refine HA2.out.mono ?_)
  rintro e w2 ⟨rfl, h2, ho2⟩
  have HB2 : Hid (Below w.heap.size w w2) := (HB1.out.alloc H1.out.base_le (.cells #[bval 1, bval 2, bval 3] 5)).trans (ho2.rest (by simp; have := H1.out.base_le; omega))
  have A3 := Lib.hid (h2.act (fun S hd hb => syncI w.heap.size g 64 S _ 0 w2 hd hb))
  have H2 := Lib.hid h2
  clear h2 ho2 HA2
  go_wp2_with fail
  go_must (refine A3.out.mono ?_)
  rintro e w3 ⟨rfl, h3, ho3⟩
  have HB3 : Hid (Below w.heap.size w w3) := HB2.out.trans (ho3.rest H2.out.base_le)
  have H3 := Lib.hid h3
  clear h3 ho3 A3
  go_wp2_with fail
  have A4 := Lib.hid ((H3.out.alloc (.cells #[bval 4, bval 5] 5)).act (fun S hd hb => writeI w.heap.size g 64 S _ 0 (some ⟨w3.heap.size, 0, none⟩) 2 2 (w3.heap.size + 1) [4, 5] _ hd hb (Reads.new w3 #[bval 4, bval 5] 5 _) (by simp [maxLen])))
  go_must (refine A4.out.mono ?_)
  rintro e w4 ⟨rfl, h4, ho4⟩
  have HB4 : Hid (Below w.heap.size w w4) := (HB3.out.alloc H3.out.base_le (.cells #[bval 4, bval 5] 5)).trans (ho4.rest (by simp; have := H3.out.base_le; omega))
  have A5 := Lib.hid (h4.act (fun S hd hb => crash_any w.heap.size g 64 S _ 1 w4 hd hb))
  have H4 := Lib.hid h4
  clear h4 ho4 A4
  go_wp2_with fail
  go_must (refine A5.out.mono ?_)
  rintro e w5 ⟨rfl, h5, ho5⟩
  have HB5 : Hid (Below w.heap.size w w5) := HB4.out.trans (ho5.rest H4.out.base_le)
  obtain ⟨S5, hd5⟩ := h5.bytes
  have A6 := bytesI w.heap.size g 64 S5 _ 0 w5 hd5
  rw [show DSt.bytesI ((((DSt.new.writeI 64 0 [1, 2, 3]).syncI 0).writeI 64 0 [4, 5]).crash 1) 0 = [1, 2, 3, 4] by decide] at A6
  have HA6 := Lib.hid A6
  have H5 := Lib.hid h5
  clear h5 ho5 A5 A6 hd5
  go_wp2_with fail
  go_must (refine HA6.out.mono ?_)
  rintro e w6 ⟨v6, rfl, hown6, hb6⟩
  obtain ⟨A, c, rfl, hc1, hc2, _⟩ := own_slice hown6
  have HO6 := Lib.hid (Reads.of_own hown6)
  have H6 := Lib.hid (H5.out.below hb6)
  have HB6 : Hid (Below w.heap.size w w6) := HB5.out.trans (hb6.mono H5.out.base_le)
  clear hown6 hb6 HA6
  go_wp2_with fail
  go_must (refine (sameBytes_any A _ 4 c 4 4 w6.heap.size (w6.heap.size + 1) [1, 2, 3, 4] [1, 2, 3, 4] _ (HO6.out.alloc (Nat.le_refl _) _) (Reads.new w6 #[bval 1, bval 2, bval 3, bval 4] _ _) (by simp [maxLen]) (by simp [maxLen])).mono ?_)
  rintro e w7 ⟨rfl, q, rfl⟩
  have H7 := Lib.hid ((H6.out.alloc (.cells #[bval 1, bval 2, bval 3, bval 4] 5)).drewN q)
  have HB7 := Lib.hid (below_drewN (HB6.out.alloc H6.out.base_le (.cells #[bval 1, bval 2, bval 3, bval 4] 5)) q)
  obtain ⟨S7, hd7⟩ := H7.out.bytes
  have A7 := roomI_any w.heap.size g 64 S7 _ 0 _ hd7
  rw [show roomI 64 ((((DSt.new.writeI 64 0 [1, 2, 3]).syncI 0).writeI 64 0 [4, 5]).crash 1) 0 = 60 by decide] at A7
  have HA7 := Lib.hid A7
  clear A7 hd7
  go_wp2_with fail
  go_must (refine HA7.out.mono ?_)
  rintro e w8 ⟨rfl, q2, rfl⟩
  have H8 := Lib.hid ((H6.out.alloc (.cells #[bval 1, bval 2, bval 3, bval 4] 5)).drewN (q + q2))
  have HB8 := Lib.hid (below_drewN (HB6.out.alloc H6.out.base_le (.cells #[bval 1, bval 2, bval 3, bval 4] 5)) (q + q2))
  have A8 := H8.out.act (fun S hd hb => writeI w.heap.size g 64 S _ 2 none 0 0 0 [] _ hd hb Reads.none_ (by simp [maxLen]))
  rw [show wroteI 64 ((((DSt.new.writeI 64 0 [1, 2, 3]).syncI 0).writeI 64 0 [4, 5]).crash 1) 2 [] = 1 by decide] at A8
  have HA8 := Lib.hid A8
  clear A8 HA7
  go_wp2_with fail
  go_must (refine HA8.out.mono ?_)
  rintro e w9 ⟨rfl, h9, ho9⟩
  have HB9 : Hid (Below w.heap.size w w9) := HB8.out.trans (ho9.rest H8.out.base_le)
  clear h9 ho9
  go_wp2_with fail
  go_ret
  exact ⟨rfl, HB9.out⟩
end Go.Proofs.Ytaccefkjdggcaaa
