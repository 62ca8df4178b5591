/-
  The walk of CrcKnown.
-/
import Derived.Test.YtfgpfagecljdfaaDoorCrcLaws4
namespace Go.Proofs.YtfgpfagecljdfaaDoor
set_option linter.unusedVariables false
set_option linter.unusedSimpArgs false
open Go.RowKit

theorem own_below {w w' : World} {base : Nat} {e : TypeId} {size n : Nat} {v : Value} {xs : List Value} (h : w.ownsRow base e size v n xs) (hb : Below w.heap.size w w') : w'.ownsRow base e size v n xs :=
  h.kept (row := none) ⟨hb.os, hb.tape, hb.output, hb.size, fun i hi _ => hb.block i hi⟩ (by cases hv : v.ownBlock with
    | none => exact .inl rfl
    | some g => exact .inr (by simp))

/-- Two rows of the call's own that are not one: seen from the second. -/
theorem own_ne {w : World} {base base' : Nat} {e e' : TypeId} {size size' n n' : Nat} {v v' : Value} {xs xs' : List Value} (h : w.ownsRow base e size v n xs) (h' : w.ownsRow base' e' size' v' n' xs') (hne : v'.ownBlock = none ∨ v'.ownBlock ≠ v.ownBlock) :
    v.ownBlock = none ∨ v.ownBlock ≠ v'.ownBlock := by
  cases hv : v.ownBlock with
  | none => exact .inl rfl
  | some g =>
    refine .inr fun h => ?_
    rcases hne with h1 | h1
    · rw [h1] at h; cases h
    · exact h1 (by rw [hv, h])
theorem ne_after {w : World} {base n : Nat} {e : TypeId} {size : Nat} {v v2 o : Value} {xs : List Value} (ho : w.ownsRow base e size o n xs) (hne : v.ownBlock = none ∨ v.ownBlock ≠ o.ownBlock) (hv2 : v2.ownBlock = v.ownBlock ∨ v2.ownBlock = some (w.heap.size + 1)) :
    v2.ownBlock = none ∨ v2.ownBlock ≠ o.ownBlock := by
  rcases hv2 with h | h
  · rw [h]; exact hne
  · refine .inr fun h' => ?_
    have := (ho.lt _ (h'.symm.trans h)).2
    omega
set_option maxRecDepth 100000 in
set_option maxHeartbeats 2000000 in
theorem crcKnown_any (w : World) (hT : TabOk w) :
    Calls Tryd.prog 7 #[] w fun e w' => e = .returned (.bool true) ∧ Below w.heap.size w w' := by
  have HT := Lib.hid hT
  clear hT
  go_enter Tryd.func7, Tryd.ntmps7
  go_wp2_with fail
  go_loopw [1, 2, 3] (fun z o i wr => ∃ k m : Nat, k ≤ 256 ∧ i = .int .i64 k ∧ m ≤ 64 ∧ (k < 64 → m = k) ∧ wr.ownsRow w.heap.size 5 1 z m ((List.replicate m (0 : UInt8)).map bval) ∧ wr.ownsRow w.heap.size 5 1 o m ((List.replicate m (255 : UInt8)).map bval) ∧ (z.ownBlock = none ∨ z.ownBlock ≠ o.ownBlock) ∧ Below w.heap.size w wr) (fun _ _ i _ => 256 - (intOf i).toNat)
  case atStart => exact ⟨0, 0, by omega, rfl, by omega, by omega, World.ownsRow_nil _ _ _ _, World.ownsRow_nil _ _ _ _, .inl rfl, Below.refl _ _⟩
  case round =>
    obtain ⟨k, m, hk, rfl, hm, hmk, hz, ho, hne, hbel⟩ := hrel
    have Hz := Lib.hid hz
    have Ho := Lib.hid ho
    have Hne := Lib.hid hne
    have Hmk := Lib.hid hmk
    clear hz ho hne hmk
    by_cases hlt : k < 256
    · have hkk : k * 16777216 < 4294967296 := by omega
      have hor : bits .or .u32 ((k : Int) * 16777216) (k : Int) = ((k * 16777216 ||| k : Nat) : Int) := u32_or_nat (k * 16777216) k hkk (by omega)
      have hol : k * 16777216 ||| k < 4294967296 := Nat.or_lt_two_pow (n := 32) (by omega) (by omega)
      have hk8 : (UInt8.ofNat k).toNat = k := by simp; omega
      have HR : Hid (Reads (wr.alloc (.cells #[.int .u8 (k : Int)] 5)) (wr.heap.size + 1) 1 (some ⟨wr.heap.size, 0, none⟩) 1 ([UInt8.ofNat k].map bval)) := by
        have := Reads.new wr #[.int .u8 (k : Int)] 5 (0, 0)
        show Reads _ _ _ _ _ [.int .u8 ((UInt8.ofNat k).toNat : Int)]
        rw [hk8]
        exact this
      have C1 := Lib.hid (crcSums_any (k * 16777216 ||| k) hol (some ⟨wr.heap.size, 0, none⟩) 1 1 _ [UInt8.ofNat k] _ ((HT.out.below hbel HT.out.pos).alloc _) HR.out (by simp) (by decide))
      clear hk8 HR
      generalize k * 16777216 ||| k = kk at *
      go_wp2_with fail
      go_must (refine C1.out.mono ?_)
      rintro e w1 ⟨rfl, hb1⟩
      have hb1' : Below wr.heap.size wr w1 := ((Below.refl _ _).alloc (Nat.le_refl _) _).trans (hb1.mono (by simp))
      have hz1 := own_below Hz.out hb1'
      have ho1 := own_below Ho.out hb1'
      have hbel1 := hbel.trans (hb1'.mono hbel.size)
      clear C1 hb1 hb1' Hz Ho hor hol hbel
      by_cases h64 : k < 64
      · obtain rfl : m = k := Hmk.out h64
        clear Hmk
        have HZ : Hid ((List.replicate m (0 : UInt8)).map bval ++ [.int .u8 0] = (List.replicate (m + 1) (0 : UInt8)).map bval) := by
          show _ = _; rw [List.replicate_succ', List.map_append]; rfl
        have HO : Hid ((List.replicate m (255 : UInt8)).map bval ++ [.int .u8 255] = (List.replicate (m + 1) (255 : UInt8)).map bval) := by
          show _ = _; rw [List.replicate_succ', List.map_append]; rfl
        have Ho1 := Lib.hid ho1
        clear ho1
        go_wp2_with (first | (at_builtin; refine wpList_push w1 Tryd.el23 (.tmp 21) (.tmp 22) rfl rfl hz1 rfl [.int .u8 0] rfl rfl rfl rfl (by omega) hbel1.size ?_; intro v2 w2 hown2 hg2 hv2 hb2 hs2; have ho2 := Ho1.out.kept hg2 (own_ne Ho1.out hz1 Hne.out)) | (at_builtin; refine wpList_push w2 Tryd.el23 (.tmp 24) (.tmp 25) rfl rfl ho2 rfl [.int .u8 255] rfl rfl rfl rfl (by omega) (Nat.le_trans hbel1.size hb2.size) ?_; intro v3 w3 hown3 hg3 hv3 hb3 hs3))
        have n1 := ne_after Ho1.out Hne.out hv2
        have n2 := ne_after hown2 (own_ne ho2 hown2 n1) hv3
        have hz3 := hown2.kept hg3 n1
        have n3 := own_ne hz3 hown3 n2
        rw [HZ.out] at hz3
        rw [HO.out] at hown3
        have hbel3 := (hbel1.trans hb2).trans hb3
        clear hown2 ho2 hg2 hg3 hv2 hv3 hb2 hb3 hs2 hs3 n1 n2 hz1 Ho1 HZ HO hbel1
        obtain ⟨Az, cz, rfl, hcz, hcz', _⟩ := own_slice hz3
        obtain ⟨Ao, co, rfl, hco, hco', _⟩ := own_slice hown3
        have hl : (m + 1 : Nat) ≤ maxLen := by unfold maxLen; omega
        have q1 : IntKind.i64.wrap ((m : Int) / 2) = ((m / 2 : Nat) : Int) := by rw [IntWalk.i64_in _ (by omega)]; omega
        have q2 : IntKind.i64.wrap ((m : Int) / 3) = ((m / 3 : Nat) : Int) := by rw [IntWalk.i64_in _ (by omega)]; omega
        have hT3 := HT.out.below hbel3 HT.out.pos
        have C2 := crcSums_any 2147483648 (by omega) Az (m + 1) cz _ _ w3 hT3 (Reads.of_own hz3) (Nat.le_refl _) hl
        have HC2 := Lib.hid C2
        have HZ3 := Lib.hid hz3
        have HO3 := Lib.hid hown3
        clear C2 hz3 hown3 hT3
        go_wp2_with fail
        go_must (refine HC2.out.mono ?_)
        rintro e w4 ⟨rfl, hb4⟩
        have hbel4 := hbel3.trans (hb4.mono hbel3.size)
        have HZ4 := Lib.hid (own_below HZ3.out hb4)
        have HO4 := Lib.hid (own_below HO3.out hb4)
        have HC3 := Lib.hid (crcSums_any 7 (by omega) Ao (m + 1) co _ _ w4 (HT.out.below hbel4 HT.out.pos) (Reads.of_own HO4.out) (Nat.le_refl _) hl)
        clear HZ3 HO3 hb4 hbel3 HC2
        go_wp2_with fail
        go_must (refine HC3.out.mono ?_)
        rintro e w5 ⟨rfl, hb5⟩
        have hbel5 := hbel4.trans (hb5.mono hbel4.size)
        have HZ5 := Lib.hid (own_below HZ4.out hb5)
        have HO5 := Lib.hid (own_below HO4.out hb5)
        have HC4 := Lib.hid (crcPieces_any Ao (m + 1) co _ _ ((m : Int) / 2) ((m : Int) / 3) w5 (HT.out.below hbel5 HT.out.pos) (Reads.of_own HO5.out) (Nat.le_refl _) hl hco (by omega) (by omega) (by omega) (by omega))
        clear HZ4 HO4 hb5 hbel4 HC3
        go_wp2_with fail
        go_must (refine HC4.out.mono ?_)
        rintro e w6 ⟨rfl, hb6⟩
        have hbel6 := hbel5.trans (hb6.mono hbel5.size)
        have HZ6 := Lib.hid (own_below HZ5.out hb6)
        have HO6 := Lib.hid (own_below HO5.out hb6)
        have HC5 := Lib.hid (row_any 64 w6 (by omega))
        clear HZ5 HO5 hb6 hbel5 HC4
        go_wp2_with fail
        go_must (refine HC5.out.mono ?_)
        rintro e w7 ⟨v7, rfl, hown7, hb7⟩
        have hbel7 := hbel6.trans (hb7.mono hbel6.size)
        have HZ7 := Lib.hid (own_below HZ6.out hb7)
        have HO7 := Lib.hid (own_below HO6.out hb7)
        obtain ⟨Ar, cr, rfl, hcr, hcr', _⟩ := own_slice hown7
        have HC6 := Lib.hid (crcTurns_any Az Ao Ar (m + 1) (m + 1) 64 cz co cr _ _ _ _ w7 (HT.out.below hbel7 HT.out.pos) (Reads.of_own HZ7.out) (Reads.of_own HO7.out) (Reads.of_own hown7) (Nat.le_refl _) hcz hco hcr hl hl (by decide))
        clear HZ6 HO6 hb7 hbel6 HC5 hown7
        go_wp2_with fail
        go_must (refine HC6.out.mono ?_)
        rintro e w8 ⟨rfl, hb8⟩
        have hbel8 := hbel7.trans (hb8.mono hbel7.size)
        have hz8 := own_below HZ7.out hb8
        have ho8 := own_below HO7.out hb8
        clear HC6 q1 q2
        go_wp2
        go_roundw
        case rel => exact ⟨m + 1, m + 1, by omega, by go_num, by omega, fun _ => rfl, hz8, ho8, n3, hbel8⟩
        case measure => simp [intOf]; omega
      · go_wp2
        go_roundw
        case rel => exact ⟨k + 1, m, by omega, by go_num, by omega, fun h => absurd h (by omega), hz1, ho1, Hne.out, hbel1⟩
        case measure => simp [intOf]; omega
    · have HW := Lib.hid (works_any wr (HT.out.below hbel HT.out.pos))
      go_wp2_with fail
      go_must (refine HW.out.mono ?_)
      rintro e w8 ⟨rfl, hb8⟩
      go_wp2
      go_ret
      exact ⟨rfl, hbel.trans (hb8.mono hbel.size)⟩
end Go.Proofs.YtfgpfagecljdfaaDoor
