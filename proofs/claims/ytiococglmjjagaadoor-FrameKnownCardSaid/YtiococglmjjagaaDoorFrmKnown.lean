/-
  FrameKnown: the chapter's examples.
-/
import Derived.Test.YtiococglmjjagaaDoorFrmPuts
import Derived.Test.YtiococglmjjagaaDoorFrmGets
import Derived.Test.YtiococglmjjagaaDoorFrmBack
import Derived.Test.YtiococglmjjagaaDoorFrmTorn
import Derived.Test.YtiococglmjjagaaDoorFrmForms
import Derived.Test.YtiococglmjjagaaDoorRow
namespace Go.Proofs.YtiococglmjjagaaDoor
set_option linter.unusedVariables false
set_option linter.unusedSimpArgs false
open Go.RowKit
theorem putLong_any (n : Nat) (A : Option Addr) (c B : Nat) (w : World) (hn : 262144 < n) (hm : n ≤ maxLen) (hT : TabOk w) (hr : Reads w B 1 A n (List.replicate n (.int .u8 0))) (hB : B ≤ w.heap.size) :
    Calls Tryd.prog 12 #[.agg #[ival 1, .slice A n c]] w fun e w' => (∃ A c, e = .returned (.tuple #[.slice A 0 c, ival 5])) ∧ Below w.heap.size w w' := by
  have he : List.replicate n (Value.int .u8 0) = (List.replicate n (0 : UInt8)).map bval := by rw [List.map_replicate]; rfl
  rw [he] at hr
  have hE : putE ⟨1, List.replicate n (0 : UInt8)⟩ = 5 := by
    unfold putE
    rw [if_neg (by show ¬ ((1 : Int) < 1 ∨ 255 < (1 : Int)); omega), if_pos (by rw [List.length_replicate]; exact hn)]
  have hL : putL ⟨1, List.replicate n (0 : UInt8)⟩ = [] := by unfold putL; rw [if_neg (by rw [hE]; decide)]
  have h := put_any 1 (List.replicate n (0 : UInt8)) A n c B w hT hr hB hm
  rw [hE, hL] at h
  refine h.mono fun e w' ⟨v, h1, h2, h3⟩ => ⟨?_, h3⟩
  obtain ⟨A9, c9, rfl, _, _, _⟩ := own_slice h2
  exact ⟨A9, c9, h1⟩
theorem own_form {w : World} {base n : Nat} {e : TypeId} {size : Nat} {v : Value} {xs : List Value} (h : w.ownsRow base e size v n xs) (hn : 0 < n) : ∃ g c, v = .slice (some ⟨g, 0, none⟩) n c ∧ n ≤ c ∧ c ≤ maxLen := by
  obtain ⟨g, c, hv, _, _⟩ := h.form hn
  obtain ⟨A, c', hv', h1, h2, _⟩ := own_slice h
  rw [hv] at hv'
  injection hv' with _ _ h3
  subst h3
  exact ⟨g, c, hv, h1, h2⟩
theorem Reads.newN (w : World) (C : Array Value) (e : TypeId) (size n : Nat) (hC : C.size = n * size) : Reads (w.alloc (.cells C e)) (w.heap.size + 1) size (some ⟨w.heap.size, 0, none⟩) n C.toList := by
  refine ⟨by simpa using hC, fun _ => ⟨_, rfl, by simp, fun j u hu => ?_⟩⟩
  rw [add_zero_block, cell_new]
  simpa using hu
/-- What FrameTorn is asked of. -/
def tornG (Ar : Option Addr) (cr g : Nat) : List FrV := [(⟨1, []⟩, .slice none 0 0), (⟨2, rowL 5⟩, .slice Ar 5 cr), (⟨255, [0]⟩, .slice (some ⟨g, 0, none⟩) 1 1)]
def kinds8 : List Int := [-9223372036854775808, -1, 0, 1, 2, 255, 256, 9223372036854775807]
def E255 : List UInt8 := enc ⟨255, rowL 7⟩
theorem e255_facts : putE ⟨255, rowL 7⟩ = 0 ∧ putL ⟨255, rowL 7⟩ = E255 ∧ E255.length = 16 := by refine ⟨?_, ?_, ?_⟩ <;> decide +kernel
set_option maxRecDepth 100000 in
set_option maxHeartbeats 16000000 in
theorem frameKnown_any (p : Addr) (w : World) (hG : Glob p w) : Calls Tryd.prog 9 #[] w fun e w' => e = .returned (.bool true) ∧ Below w.heap.size w w' := by
  have hlt := hG.lt
  have HGW : Hid (∀ W, Below w.heap.size w W → Glob p W) := fun W hW => hG.below hW hlt
  clear hG
  obtain ⟨w1, hw1⟩ : ∃ w1, w1 = w.alloc (.cells #[ival (-9223372036854775808), ival (-1), ival 0, ival 1, ival 2, ival 255, ival 256, ival 9223372036854775807] 3) := ⟨_, rfl⟩
  have HB1 : Hid (Below w.heap.size w w1) := by show Below _ _ _; rw [hw1]; exact (Below.refl _ _).alloc (Nat.le_refl _) _
  have HK1 : Hid (Blk w1 w.heap.size 3 #[ival (-9223372036854775808), ival (-1), ival 0, ival 1, ival 2, ival 255, ival 256, ival 9223372036854775807]) := by show Blk _ _ _ _; rw [hw1]; exact Blk.new _ _ _
  have HS1 : Hid (w1.heap.size = w.heap.size + 1) := by show _ = _; rw [hw1]; simp
  have HKC : Hid (∀ k, k < 8 → ∃ z, ∀ W, Below w1.heap.size w1 W → W.cell? ⟨w.heap.size, k, none⟩ = some (ival z)) := fun k hk => by
    refine ⟨kinds8.getD k 0, fun W hW => ?_⟩
    rw [(HK1.out.below hW HK1.out.lt).cell k]
    rcases (by omega : k = 0 ∨ k = 1 ∨ k = 2 ∨ k = 3 ∨ k = 4 ∨ k = 5 ∨ k = 6 ∨ k = 7) with rfl | rfl | rfl | rfl | rfl | rfl | rfl | rfl <;> rfl
  have HGB : Hid (∀ W, Below w1.heap.size w1 W → Glob p W ∧ Below w.heap.size w W) := fun W hW => by
    have h := HB1.out.trans (hW.mono (by have := HS1.out; omega))
    exact ⟨HGW.out W h, h⟩
  go_enter Tryd.func9, Tryd.ntmps9
  go_wp2_with fail
  have hw1' : w.alloc (.cells #[.int .i64 (-9223372036854775808), .int .i64 (-1), .int .i64 0, .int .i64 1, .int .i64 2, .int .i64 255, .int .i64 256, .int .i64 9223372036854775807] 3) = w1 := hw1.symm
  rw [hw1']
  clear hw1 hw1'
  go_loopw [2] (fun i wr => ∃ k : Nat, k ≤ 8 ∧ i = .int .i64 k ∧ Below w1.heap.size w1 wr) (fun i _ => 8 - (intOf i).toNat)
  case atStart => exact ⟨0, by omega, rfl, Below.refl _ _⟩
  case round =>
    obtain ⟨k, hk, rfl, hbel⟩ := hrel
    have HBE := Lib.hid hbel
    clear hbel
    by_cases hlt8 : k < 8
    · obtain ⟨z, hz⟩ := HKC.out k hlt8
      have HZ := Lib.hid hz
      clear hz
      have hz0 := HZ.out wr HBE.out
      have hltI : (k : Int) < 8 := by omega
      have RW : Hid (∀ W, Calls Tryd.prog 27 #[.int .i64 (k : Int)] W fun e w' => ∃ A c, e = .returned (.slice A k c) ∧ k ≤ c ∧ c ≤ maxLen ∧ w'.ownsRow W.heap.size 5 1 (.slice A k c) k ((rowL k).map bval) ∧ Below W.heap.size W w') := fun W =>
        (row_any k W (by omega)).mono fun e w' ⟨v, h1, h2, h3⟩ => by
          obtain ⟨A9, c9, rfl, h4, h5, _⟩ := own_slice h2
          exact ⟨A9, c9, h1, h4, h5, h2, h3⟩
      have qd : Below w1.heap.size w1 wr.drew := HBE.out.drew
      have hsz : w.heap.size < wr.heap.size := by have := HBE.out.size; have := HS1.out; omega
      go_wp2_with fail
      go_region_held3 (fun w' => w'.cell? ⟨w.heap.size, k, none⟩ = some (ival z)) (first | exact HZ.out _ qd | exact HZ.out _ (qd.trans (hb4.mono qd.size)) | (have B1 := (qd.alloc qd.size (.cells #[ival 0, .slice none 0 0] 24)); first | exact HZ.out _ B1 | exact HZ.out _ (B1.trans (hb4.mono B1.size)) | exact HZ.out _ (((B1.trans (hb4.mono B1.size)).setCell qd.size _).setCell qd.size _)) | (have B1 := qd.trans (hb4.mono qd.size); exact HZ.out _ (B1.alloc B1.size _)))
          (((go_at_call 27; refine (RW.out _).mono ?_; rintro e w4 ⟨A4, c4, rfl, hc41, hc42, hown4, hb4⟩; (first | (have kx := (Blk.new wr.drew 24 #[ival 0, .slice none 0 0]).below hb4 (by simp); have x1 : w4.cell? ⟨wr.heap.size, 0, none⟩ = some (ival 0) := kx.cell 0; have x2 : w4.cell? ⟨wr.heap.size, 1, none⟩ = some (.slice none 0 0) := kx.cell 1; have x3 : w4.frozen? ⟨wr.heap.size, 0, none⟩ = false := kx.frozen 0; have x4 : w4.frozen? ⟨wr.heap.size, 1, none⟩ = false := kx.frozen 1) | skip))))
      all_goals first
        | (have B1 := (HBE.out.alloc HBE.out.size (.cells #[.int .i64 0, .slice none 0 0] 24)).drew
           have B2 := B1.trans (hb4.mono B1.size)
           obtain ⟨w5, hw5⟩ : ∃ w5, w5 = (w4.setCell ⟨wr.heap.size, 0, none⟩ (.int .i64 z)).setCell ⟨wr.heap.size, 1, none⟩ (.slice A4 k c4) := ⟨_, rfl⟩
           have J9 : Hid (Blk w5 wr.heap.size 24 #[ival z, .slice A4 k c4]) := by show Blk _ _ _ _; rw [hw5]; exact (kx.set_ 0 _).set_ 1 _
           have JR : Hid (Reads w5 w5.heap.size 1 A4 k ((rowL k).map bval)) := by
             have ho : Only (fun i => i = wr.heap.size) w4 w5 := by rw [hw5]; exact ((Only.refl (fun i => i = wr.heap.size) w4).setCell (.inl rfl) 0 _).setCell (.inl rfl) 1 _
             exact Reads.of_own (own_only hown4 ho (fun i hi h => by have := (hown4.lt i hi).1; simp at this; omega))
           have JB : Hid (Below w1.heap.size w1 w5) := by show Below _ _ _; rw [hw5]; exact (B2.setCell qd.size _).setCell qd.size _
           rw [← hw5]
           clear hw5 B1 B2 kx x1 x2 x3 x4
           generalize wr.heap.size = gf at *)
        | (have B1 := qd.trans (hb4.mono qd.size)
           obtain ⟨w5, hw5⟩ : ∃ w5, w5 = w4.alloc (.cells #[.int .i64 z, .slice A4 k c4] 24) := ⟨_, rfl⟩
           have J9 : Hid (Blk w5 w4.heap.size 24 #[ival z, .slice A4 k c4]) := by show Blk _ _ _ _; rw [hw5]; exact Blk.new _ _ _
           have JR : Hid (Reads w5 w5.heap.size 1 A4 k ((rowL k).map bval)) := by
             have h := (Reads.of_own hown4).alloc (Nat.le_refl _) (.cells #[.int .i64 z, .slice A4 k c4] 24)
             rw [← hw5] at h
             exact h.more (Nat.le_of_lt J9.out.lt)
           have JB : Hid (Below w1.heap.size w1 w5) := by show Below _ _ _; rw [hw5]; exact B1.alloc B1.size _
           rw [← hw5]
           clear hw5 B1
           generalize w4.heap.size = gf at *)
      all_goals
        clear hb4 hown4 qd hz0 HZ HBE RW
        have y0 : w5.cell? ⟨gf, 0, none⟩ = some (ival z) := J9.out.cell 0
        have y1 : w5.cell? ⟨gf, 1, none⟩ = some (.slice A4 k c4) := J9.out.cell 1
        have P1 := Lib.hid (framePuts_any z (rowL k) A4 k c4 w5.heap.size p w5 (HGB.out _ JB.out).1 JR.out (Nat.le_refl _) (by unfold maxLen; omega))
        have hk8 : IntKind.u8.wrap (k : Int) = (k : Int) := by simp [IntKind.wrap, IntKind.bits, IntKind.signed]; omega
        have hm8 : (k : Int) % 256 = (k : Int) := by omega
        go_wp2_with fail
        go_must (refine P1.out.mono ?_)
        rintro e w6 ⟨rfl, hb6⟩
        have J6 := Lib.hid (J9.out.below hb6 J9.out.lt)
        have z0 : w6.cell? ⟨gf, 0, none⟩ = some (ival z) := J6.out.cell 0
        have z1 : w6.cell? ⟨gf, 1, none⟩ = some (.slice A4 k c4) := J6.out.cell 1
        obtain ⟨w7, hw7⟩ : ∃ w7, w7 = w6.alloc (.cells #[.int .u8 1, .int .u8 2] 5) := ⟨_, rfl⟩
        have hb7 : Below w6.heap.size w6 w7 := by rw [hw7]; exact (Below.refl _ _).alloc (Nat.le_refl _) _
        have JR7 := ((JR.out.below hb6).more hb6.size).below hb7
        have JB7 := Lib.hid (JB.out.trans ((hb6.trans (hb7.mono hb6.size)).mono JB.out.size))
        have P2 := frameBack_any z (rowL k) A4 k c4 (some ⟨w6.heap.size, 0, none⟩) 2 2 [1, 2] (UInt8.ofNat k) (k : Int) p w7 (HGB.out _ JB7.out).1 (JR7.more hb7.size) (by unfold maxLen; omega) (by rw [hw7]; have := Reads.new w6 #[.int .u8 1, .int .u8 2] 5 (0, 0); exact this.more (by simp)) (by omega) (by omega) (by omega)
        rw [show ((UInt8.ofNat k).toNat : Int) = (k : Int) by rw [UInt8.toNat_ofNat']; omega] at P2
        replace P2 := Lib.hid P2
        clear P1 hb6 hb7 JR7 y0 y1 J9 JR JB
        go_wp2_with fail
        rw [← hw7]
        clear hw7
        go_must (refine P2.out.mono ?_)
        rintro e w8 ⟨rfl, hb8⟩
        have JB8 := Lib.hid (JB7.out.trans (hb8.mono JB7.out.size))
        clear P2 z0 z1 J6 JB7 hb8
        go_wp2_with fail
        go_roundw
        case rel => exact ⟨k + 1, by omega, by go_num, JB8.out⟩
        case measure => simp [intOf]; omega
    · obtain rfl : k = 8 := by omega
      rw [show ((8 : Nat) : Int) = 8 from rfl]
      clear HKC hlt8 hk
      have hmk : ∀ W, (Instr.makeSlice 22 (.int .i64 262145) (.int .i64 262145)).run Tryd.prog W = .ok (.slice (some ⟨W.heap.size, 0, none⟩) 262145 262145) (W.alloc (.cells (madeCells #[.int .u8 0] 262145) 5)) := fun W =>
        run_make_one (MakeInfo.mk' (e := 5) (bytes := 1) Tryd.underlying22 (by kernel_rfl)) rfl 262145 (by omega) (by omega) W
      obtain ⟨wo, rfl⟩ : ∃ wo : World, wo = wr := ⟨_, rfl⟩
      obtain ⟨w2, hw2⟩ : ∃ w2, w2 = wo.alloc (.cells (madeCells #[.int .u8 0] 262145) 5) := ⟨_, rfl⟩
      have hb2 : Below wo.heap.size wo w2 := by rw [hw2]; exact (Below.refl _ _).alloc (Nat.le_refl _) _
      have hr2 : Reads w2 w2.heap.size 1 (some ⟨wo.heap.size, 0, none⟩) 262145 (List.replicate 262145 (.int .u8 0)) := by
        rw [hw2]
        exact Reads.of_own (own_made_one (e := 5) wo (.int .u8 0) rfl 262145 (base := wo.heap.size) (Nat.le_refl _) (by unfold maxLen; omega))
      have HB2 := Lib.hid (HBE.out.trans (hb2.mono HBE.out.size))
      have C2 := Lib.hid (putLong_any 262145 (some ⟨wo.heap.size, 0, none⟩) 262145 w2.heap.size w2 (by omega) (by unfold maxLen; omega) (HGB.out _ HB2.out).1.tab hr2 (Nat.le_refl _))
      clear hb2 hr2 HBE
      go_wp2_with fail
      rw [← hw2]
      clear hw2
      go_must (refine C2.out.mono ?_)
      rintro e w3 ⟨⟨A3, c3, rfl⟩, hb3⟩
      have HB3 := Lib.hid (HB2.out.trans (hb3.mono HB2.out.size))
      have C3 := Lib.hid (row_any 7 w3 (by omega))
      clear C2 HB2 hb3 hmk
      go_wp2_with fail
      go_must (refine C3.out.mono ?_)
      rintro e w4 ⟨v4, rfl, hown4, hb4⟩
      obtain ⟨A4, c4, rfl, _, _, _⟩ := own_slice hown4
      have HB4 := Lib.hid (HB3.out.trans (hb4.mono HB3.out.size))
      have P4 := put_any 255 (rowL 7) A4 7 c4 w4.heap.size w4 (HGB.out _ HB4.out).1.tab (Reads.of_own hown4) (Nat.le_refl _) (by unfold maxLen; omega)
      rw [e255_facts.1, e255_facts.2.1, e255_facts.2.2] at P4
      have C4 := Lib.hid P4
      clear P4 C3 HB3 hb4 hown4
      go_wp2_with fail
      go_must (refine C4.out.mono ?_)
      rintro e w5 ⟨v5, rfl, hown5, hb5⟩
      obtain ⟨A5, c5, rfl, hc51, hc52, _⟩ := own_slice hown5
      have HB5 := Lib.hid (HB4.out.trans (hb5.mono HB4.out.size))
      have HO5 := Lib.hid hown5
      have HR5 : Hid (∀ W, Below w5.heap.size w5 W → Reads W w5.heap.size 1 A5 16 (E255.map bval)) := fun W hW => (Reads.of_own hown5).below hW
      have C5 := Lib.hid (copyBytes_any A5 16 c5 w5.heap.size E255 w5 (HR5.out _ (Below.refl _ _)) (Nat.le_refl _) (by omega))
      clear C4 HB4 hb5 hown5
      go_wp2_with fail
      go_must (refine C5.out.mono ?_)
      rintro e w6 ⟨v6, rfl, hown6, hb6⟩
      have HO6 := Lib.hid hown6
      have HB56 := Lib.hid hb6
      clear C5 hown6 hb6
      go_wp2_with
        (at_builtin
         go_must (refine wpList_app Tryd.el22 (.tmp 58) (.tmp 59) rfl rfl HO6.out rfl rfl (HR5.out _ HB56.out) (bval_one E255) (by omega) HB56.out.size ?_)
         intro v7 w7 hown7' hg7 hv7 hb7
         have hown7 : w7.ownsRow w5.heap.size 5 1 v7 32 (E255.map bval ++ E255.map bval) := hown7'
         clear hown7')
      obtain ⟨A7, c7, rfl, hc71, hc72, _⟩ := own_slice hown7
      have HB57 : Hid (Below w5.heap.size w5 w7) := HB56.out.trans hb7
      have HR7 : Hid (∀ W, Below w7.heap.size w7 W → Reads W w7.heap.size 1 A7 32 ((E255 ++ E255).map bval)) := fun W hW => by
        have h := (Reads.of_own hown7).below hW
        rw [← List.map_append] at h
        exact h
      have HB7 := Lib.hid (HB5.out.trans (HB57.out.mono HB5.out.size))
      have HGC : Hid (∀ W, Below w7.heap.size w7 W → Glob p W ∧ Below w.heap.size w W) := fun W hW => HGB.out W (HB7.out.trans (hW.mono HB7.out.size))
      have HR5' : Hid (∀ W, Below w7.heap.size w7 W → Reads W w5.heap.size 1 A5 16 (E255.map bval)) := fun W hW => HR5.out W (HB57.out.trans (hW.mono HB57.out.size))
      have hs57 : w5.heap.size ≤ w7.heap.size := HB57.out.size
      clear hown7 hg7 hv7 hb7 HO6 HB56 HB5 HO5 HR5
      have hL32 : (E255 ++ E255).length = 32 := by rw [List.length_append, e255_facts.2.2]
      have HL32 := Lib.hid hL32
      clear hL32
      generalize E255 ++ E255 = T at *
      go_wp2_with fail
      go_loopw [9] (fun i wr => ∃ k : Nat, k ≤ 33 ∧ i = .int .i64 k ∧ Below w7.heap.size w7 wr) (fun i _ => 33 - (intOf i).toNat)
      case atStart => exact ⟨0, by omega, rfl, Below.refl _ _⟩
      case round =>
        obtain ⟨k, hk, rfl, hbel⟩ := hrel
        have HBE := Lib.hid hbel
        clear hbel
        by_cases hlt : k ≤ 32
        · have hltI : (k : Int) ≤ 32 := by omega
          have hkc : k ≤ c7 := by omega
          have hkcI : (k : Int) ≤ (c7 : Int) := by omega
          have HT : Hid (∀ W, Below w7.heap.size w7 W → Reads W W.heap.size 1 A7 k ((T.take k).map bval)) := fun W hW => by
            have h := (HR7.out W hW).take (k := k) (by omega)
            rw [Nat.mul_one, ← List.map_take] at h
            exact h.more hW.size
          have C1 := Lib.hid (frameGets_any A7 k c7 wr.heap.size (T.take k) p wr (HGC.out _ HBE.out).1 (HT.out _ HBE.out) (Nat.le_refl _) hkc hc72)
          go_wp2_with fail
          go_must (refine C1.out.mono ?_)
          rintro e w8 ⟨rfl, hb8⟩
          have HB8 := Lib.hid (HBE.out.trans (hb8.mono HBE.out.size))
          have C2 := Lib.hid (row_any 5 w8 (by omega))
          clear C1 HBE hb8
          go_wp2_with fail
          go_must (refine C2.out.mono ?_)
          rintro e w9 ⟨v9, rfl, hown9, hb9⟩
          obtain ⟨A9, c9, rfl, hc91, hc92, _⟩ := own_slice hown9
          have HB9 := Lib.hid (HB8.out.trans (hb9.mono HB8.out.size))
          obtain ⟨w10, hw10⟩ : ∃ w10, w10 = (w9.alloc (.cells #[.int .u8 0] 5)).alloc (.cells #[.int .i64 1, .slice none 0 0, .int .i64 2, .slice A9 5 c9, .int .i64 255, .slice (some ⟨w9.heap.size, 0, none⟩) 1 1] 24) := ⟨_, rfl⟩
          have hs10 : w10.heap.size = w9.heap.size + 2 := by rw [hw10]; simp
          have hb10 : Below w9.heap.size w9 w10 := by rw [hw10]; exact ((Below.refl _ _).alloc (Nat.le_refl _) _).alloc (by simp) _
          have hr10 : FrsR w10 w10.heap.size (some ⟨w9.heap.size + 1, 0, none⟩) (tornG A9 c9 w9.heap.size) := by
            refine ⟨?_, fun x hx => ?_⟩
            · rw [hw10]
              have h := Reads.newN (w9.alloc (.cells #[.int .u8 0] 5)) #[.int .i64 1, .slice none 0 0, .int .i64 2, .slice A9 5 c9, .int .i64 255, .slice (some ⟨w9.heap.size, 0, none⟩) 1 1] 24 2 3 rfl
              simp only [World.size_alloc] at h
              exact h.more (by simp)
            · simp only [tornG, List.mem_cons, List.mem_nil_iff, or_false] at hx
              rcases hx with rfl | rfl | rfl
              · exact ⟨⟨none, 0, 0⟩, rfl, by simp, by simp [maxLen], Reads.none_⟩
              · exact ⟨⟨A9, 5, c9⟩, rfl, hc91, hc92, ((Reads.of_own hown9).below hb10).more (by omega)⟩
              · refine ⟨⟨some ⟨w9.heap.size, 0, none⟩, 1, 1⟩, rfl, by simp, by simp [maxLen], ?_⟩
                rw [hw10]
                exact ((Reads.new w9 #[.int .u8 0] 5 (0, 0)).alloc (by simp) _).more (by simp)
          have HB10 := Lib.hid (HB9.out.trans (hb10.mono HB9.out.size))
          have C3 := Lib.hid (frameTorn_any (some ⟨w9.heap.size + 1, 0, none⟩) 3 3 (tornG A9 c9 w9.heap.size) _ rfl (k : Int) p w10 (HGC.out _ HB10.out).1 rfl hr10 (by omega) (by simp [maxLen]) (by omega) (by omega))
          clear C2 HB8 HB9 hb9 hb10 hr10 hown9
          go_wp2_with fail
          rw [← hw10]
          clear hw10
          go_must (refine C3.out.mono ?_)
          rintro e w11 ⟨rfl, hb11⟩
          have HB11 := Lib.hid (HB10.out.trans (hb11.mono HB10.out.size))
          have C4 := Lib.hid (frameForms_any A7 k c7 (T.take k) p w11 (HGC.out _ HB11.out).1 (HT.out _ HB11.out) hkc hc72)
          clear C3 HB10 hb11 hs10
          go_wp2_with fail
          go_must (refine C4.out.mono ?_)
          rintro e w12 ⟨rfl, hb12⟩
          have HB12 := Lib.hid (HB11.out.trans (hb12.mono HB11.out.size))
          clear C4 HB11 hb12
          go_wp2_with fail
          go_roundw
          case rel => exact ⟨k + 1, by omega, by go_num, HB12.out⟩
          case measure => simp [intOf]; omega
        · obtain rfl : k = 33 := by omega
          rw [show ((33 : Nat) : Int) = 33 from rfl]
          obtain ⟨wp, rfl⟩ : ∃ wp : World, wp = wr := ⟨_, rfl⟩
          clear hlt hk
          have e0 : Hid (bval 0 = Value.int .u8 0 ∧ bval 255 = Value.int .u8 255) := ⟨rfl, rfl⟩
          generalize E255 = E at *
          go_wp2_with fail
          go_loopw [10] (fun i wr => ∃ k : Nat, k ≤ 9 ∧ i = .int .i64 k ∧ Below w7.heap.size w7 wr) (fun i _ => 9 - (intOf i).toNat)
          case atStart => exact ⟨0, by omega, rfl, HBE.out⟩
          case round =>
            obtain ⟨k, hk, rfl, hbel⟩ := hrel
            have HB := Lib.hid hbel
            clear hbel HBE
            by_cases hlt9 : k < 9
            · have hltI : (k : Int) < 9 := by omega
              have hk16 : (k : Int) < 16 := by omega
              have C1 := Lib.hid (copyBytes_any A5 16 c5 w5.heap.size E wr (HR5'.out _ HB.out) (Nat.le_trans hs57 HB.out.size) (by omega))
              go_wp2_with fail
              go_must (refine C1.out.mono ?_)
              rintro e w8 ⟨v8, rfl, hown8, hb8⟩
              obtain ⟨g8, c8, rfl, hc81, hc82⟩ := own_form hown8 (by omega)
              have hl16 : (E.map bval).length = 16 := hown8.1
              have x8 : w8.cell? ⟨g8, k, none⟩ = some ((E.map bval)[k]'(by omega)) := by rw [hown8.cellAt k (by omega)]; exact List.getElem?_eq_getElem (by omega)
              have f8 : w8.frozen? ⟨g8, k, none⟩ = false := hown8.frozenAt k
              have HO8 := Lib.hid hown8
              have HB8 := Lib.hid (HB.out.trans (hb8.mono HB.out.size))
              clear C1 hown8 hb8
              go_wp2_with fail
              obtain ⟨w9, hw9⟩ : ∃ w9, w9 = w8.setCell ⟨g8, k, none⟩ (.int .u8 0) := ⟨_, rfl⟩
              have HO9 : Hid (w9.ownsRow wr.heap.size 5 1 (.slice (some ⟨g8, 0, none⟩) 16 c8) 16 ((E.set k 0).map bval)) := by
                show World.ownsRow _ _ _ _ _ _ _
                rw [hw9, List.map_set, e0.out.1]
                exact (HO8.out.stored k _).1
              have hg8 := (HO8.out.lt g8 rfl).1
              have HB9 : Hid (Below w7.heap.size w7 w9) := by show Below _ _ _; rw [hw9]; exact HB8.out.setCell (Nat.le_trans HB.out.size hg8) _
              rw [← hw9]
              clear hw9 x8 f8 HO8 HB8
              have C2 := Lib.hid (copyBytes_any A5 16 c5 w5.heap.size E w9 (HR5'.out _ HB9.out) (Nat.le_trans hs57 HB9.out.size) (by omega))
              go_must (refine C2.out.mono ?_)
              rintro e w10 ⟨v10, rfl, hown10, hb10⟩
              obtain ⟨g10, c10, rfl, hc101, hc102⟩ := own_form hown10 (by omega)
              have x10 : w10.cell? ⟨g10, k, none⟩ = some ((E.map bval)[k]'(by omega)) := by rw [hown10.cellAt k (by omega)]; exact List.getElem?_eq_getElem (by omega)
              have f10 : w10.frozen? ⟨g10, k, none⟩ = false := hown10.frozenAt k
              have HO10 := Lib.hid hown10
              have HB10 := Lib.hid (HB9.out.trans (hb10.mono HB9.out.size))
              have HO910 := Lib.hid (own_below HO9.out hb10)
              have hs9 : g8 < w9.heap.size := (HO9.out.lt g8 rfl).2
              clear C2 hown10 hb10 HO9
              go_wp2_with fail
              obtain ⟨w11, hw11⟩ : ∃ w11, w11 = w10.setCell ⟨g10, k, none⟩ (.int .u8 255) := ⟨_, rfl⟩
              have HO11 : Hid (w11.ownsRow w9.heap.size 5 1 (.slice (some ⟨g10, 0, none⟩) 16 c10) 16 ((E.set k 255).map bval)) := by
                show World.ownsRow _ _ _ _ _ _ _
                rw [hw11, List.map_set, e0.out.2]
                exact (HO10.out.stored k _).1
              have hg10 := (HO10.out.lt g10 rfl).1
              have HB11 : Hid (Below w7.heap.size w7 w11) := by show Below _ _ _; rw [hw11]; exact HB10.out.setCell (Nat.le_trans HB9.out.size hg10) _
              have HR8 : Hid (∀ W, Below w11.heap.size w11 W → Reads W W.heap.size 1 (some ⟨g8, 0, none⟩) 16 ((E.set k 0).map bval)) := fun W hW => by
                have h1 := own_only HO910.out ((Only.refl (fun i => i = g10) w10).setCell (.inl rfl) k (.int .u8 255)) (fun i hi h => by have : i = g8 := (Option.some.inj hi).symm; omega)
                rw [← hw11] at h1
                exact Reads.of_own (own_below h1 hW)
              have HR10 : Hid (∀ W, Below w11.heap.size w11 W → Reads W W.heap.size 1 (some ⟨g10, 0, none⟩) 16 ((E.set k 255).map bval)) := fun W hW => Reads.of_own (own_below HO11.out hW)
              rw [← hw11]
              clear hw11 x10 f10 HO10 HO910 HB10 HO11 HB9
              have C3 := Lib.hid (frameGets_any (some ⟨g8, 0, none⟩) 16 c8 w11.heap.size (E.set k 0) p w11 (HGC.out _ HB11.out).1 (HR8.out _ (Below.refl _ _)) (Nat.le_refl _) hc81 hc82)
              go_must (refine C3.out.mono ?_)
              rintro e w12 ⟨rfl, hb12⟩
              have HB12 := Lib.hid (HB11.out.trans (hb12.mono HB11.out.size))
              have C4 := Lib.hid (frameGets_any (some ⟨g10, 0, none⟩) 16 c10 w12.heap.size (E.set k 255) p w12 (HGC.out _ HB12.out).1 (HR10.out _ hb12) (Nat.le_refl _) hc101 hc102)
              clear C3 HB11 hb12
              go_wp2_with fail
              go_must (refine C4.out.mono ?_)
              rintro e w13 ⟨rfl, hb13⟩
              have HB13 := Lib.hid (HB12.out.trans (hb13.mono HB12.out.size))
              clear C4 HB12 hb13 HR8 HR10
              go_wp2_with fail
              go_roundw
              case rel => exact ⟨k + 1, by omega, by go_num, HB13.out⟩
              case measure => simp [intOf]; omega
            · have WK := Lib.hid (works_any p wr (HGC.out _ HB.out).1)
              go_wp2_with fail
              go_must (refine WK.out.mono ?_)
              rintro e w8 ⟨rfl, hb8⟩
              go_wp2_with fail
              go_ret
              exact ⟨rfl, (HGC.out _ (HB.out.trans (hb8.mono HB.out.size))).2⟩
end Go.Proofs.YtiococglmjjagaaDoor
