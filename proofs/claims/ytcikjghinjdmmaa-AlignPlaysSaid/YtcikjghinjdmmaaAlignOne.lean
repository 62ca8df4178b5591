/-
  The walk of AlignOne.
-/
import Derived.Test.YtcikjghinjdmmaaAlignBar
import Derived.Test.YtcikjghinjdmmaaInts
namespace Go.Proofs.Ytcikjghinjdmmaa
set_option linter.unusedVariables false
set_option linter.unusedSimpArgs false
open Go.RowKit
theorem one_bar_yes (la : Option Int) (z : Int) (h : ∀ x, la = some x → x < z) : alBar 1 (noneL, none, la) 0 z = ((noneL, none, some z), true) := by
  have hc : (alBl (noneL, none, la) 0 z).count true = 1 := by simp [alBl, alFresh, noneL]
  unfold alBar
  rw [if_neg, if_neg (by rw [hc]; omega)]
  cases la with
  | none => simp [alRefuses]
  | some x => have := h x rfl; simp [alRefuses]; omega
theorem one_bar_no (x z : Int) (h : z ≤ x) : alBar 1 (noneL, none, some x) 0 z = ((noneL, none, some x), false) := by
  unfold alBar
  rw [if_pos (by simp [alRefuses, h])]
theorem noneL_blocked (la : Option Int) (aw : Option Int) (i : Int) : alBlocked (noneL, aw, la) i = false := by
  unfold alBlocked noneL
  simp only [List.getElem?_replicate]
  split <;> simp

set_option maxRecDepth 100000 in
set_option maxHeartbeats 2000000 in
theorem alignOne_any (A : Option Addr) (n c : Nat) (zs : List Int) (w : World) (hr : Reads w w.heap.size 1 A n (zs.map ival)) (hm : n ≤ maxLen) :
    Calls Try.prog 9 #[.slice A n c] w fun e w' => e = .returned (.bool true) ∧ Below w.heap.size w w' := by
  have C0 := Lib.hid (new_al 1 w)
  unfold maxLen at hm
  have HR := Lib.hid hr
  clear hr
  go_enter Try.func9, Try.ntmps9
  go_wp2_with fail
  go_must (refine C0.out.mono ?_)
  rintro e w1 ⟨rfl, hr1, hb1⟩
  have HR1 := Lib.hid hr1
  clear hr1
  go_wp2_with fail
  go_loopw [4, 5, 6] (fun last any i wr => ∃ (k : Nat) (la : Option Int) (ap lp : Option Addr), k ≤ n ∧ k ≤ 300 ∧ i = .int .i64 k ∧ last = .int .i64 (la.getD 0) ∧ any = .bool la.isSome ∧ AlRep wr w.heap.size 1 (noneL, none, la) ap lp ∧ Below w.heap.size w wr) (fun _ _ i _ => 300 - (intOf i).toNat)
  case atStart => exact ⟨0, none, none, none, by omega, by omega, rfl, rfl, rfl, HR1.out, hb1⟩
  case round =>
    obtain ⟨k, la, ap, lp, hk, hk3, rfl, rfl, rfl, hrep, hbel⟩ := hrel
    clear HR1
    have HRep := Lib.hid hrep
    clear hrep
    by_cases hlt : k < n
    · by_cases hlt3 : k < 300
      · have hkz : k < zs.length := by have := HR.out.ints_len; omega
        obtain ⟨ad, rfl, _, hc⟩ := (HR.out.below hbel).int hkz
        generalize zs[k] = z at *
        have hk3' : (k : Int) < 300 := by omega
        by_cases hw : ∀ x, la = some x → x < z
        · have C1 := bar_any w.heap.size 1 _ ap lp 0 z wr (by omega) HRep.out
          rw [one_bar_yes la z hw] at C1
          have D1 := Lib.hid C1
          clear C1
          cases la with
          | none =>
            simp only [Option.getD_none, Option.isSome_none]
            go_wp2_with fail
            go_must (refine D1.out.mono ?_)
            rintro e w2 ⟨ap2, lp2, rfl, hr2, hg2, _, _⟩
            have hb2 := hbel.trans (only_below_of hg2 (Nat.le_refl _) hbel.size)
            have C2 := blocked_any w.heap.size 1 _ ap2 lp2 0 w2 hr2
            rw [noneL_blocked] at C2
            have D2 := Lib.hid C2
            have HR2 := Lib.hid hr2
            have hc2 := (hb2.cell (p := ad.add k) (by rw [block_of_add]; assumption)).trans ((hbel.cell (p := ad.add k) (by rw [block_of_add]; assumption)).symm.trans hc)
            clear C2 hr2 hg2 hc
            go_wp2_with fail
            go_must (refine D2.out.mono ?_)
            rintro e w3 ⟨rfl, rfl⟩
            go_wp2_with fail
            go_roundw
            case rel => exact ⟨k + 1, some z, ap2, lp2, by omega, by omega, by go_num, rfl, rfl, HR2.out, hb2⟩
            case measure => simp [intOf]; omega
          | some x =>
            have hxz : decide (x < z) = true := by simpa using hw x rfl
            simp only [Option.getD_some, Option.isSome_some]
            clear hw
            go_wp2_with fail
            go_must (refine D1.out.mono ?_)
            rintro e w2 ⟨ap2, lp2, rfl, hr2, hg2, _, _⟩
            have hb2 := hbel.trans (only_below_of hg2 (Nat.le_refl _) hbel.size)
            have C2 := blocked_any w.heap.size 1 _ ap2 lp2 0 w2 hr2
            rw [noneL_blocked] at C2
            have D2 := Lib.hid C2
            have HR2 := Lib.hid hr2
            have hc2 := (hb2.cell (p := ad.add k) (by rw [block_of_add]; assumption)).trans ((hbel.cell (p := ad.add k) (by rw [block_of_add]; assumption)).symm.trans hc)
            clear C2 hr2 hg2 hc
            go_wp2_with fail
            go_must (refine D2.out.mono ?_)
            rintro e w3 ⟨rfl, rfl⟩
            go_wp2_with fail
            go_roundw
            case rel => exact ⟨k + 1, some z, ap2, lp2, by omega, by omega, by go_num, rfl, rfl, HR2.out, hb2⟩
            case measure => simp [intOf]; omega
        · cases la with
          | none => exact absurd (fun x h => by cases h) hw
          | some x =>
            have hzx : z ≤ x := by
              by_cases h : x < z
              · exact absurd (fun y hy => by injection hy with hy; omega) hw
              · omega
            have hxz : decide (x < z) = false := by simp; omega
            have C1 := bar_any w.heap.size 1 _ ap lp 0 z wr (by omega) HRep.out
            rw [one_bar_no x z hzx] at C1
            have D1 := Lib.hid C1
            simp only [Option.getD_some, Option.isSome_some]
            clear hw C1 hzx
            go_wp2_with fail
            go_must (refine D1.out.mono ?_)
            rintro e w2 ⟨ap2, lp2, rfl, hr2, hg2, _, _⟩
            have hb2 := hbel.trans (only_below_of hg2 (Nat.le_refl _) hbel.size)
            have C2 := blocked_any w.heap.size 1 _ ap2 lp2 0 w2 hr2
            rw [noneL_blocked] at C2
            have D2 := Lib.hid C2
            have HR2 := Lib.hid hr2
            clear C2 hr2 hg2 hc
            go_wp2_with fail
            go_must (refine D2.out.mono ?_)
            rintro e w3 ⟨rfl, rfl⟩
            go_wp2_with fail
            go_roundw
            case rel => exact ⟨k + 1, some x, ap2, lp2, by omega, by omega, by go_num, rfl, rfl, HR2.out, hb2⟩
            case measure => simp [intOf]; omega
      · obtain rfl : k = 300 := by omega
        have CK := Lib.hid (known_any wr)
        go_wp2_with fail
        go_must (refine CK.out.mono ?_)
        rintro e w3 ⟨rfl, hb3⟩
        go_wp2_with fail
        go_ret
        exact ⟨rfl, hbel.trans (hb3.mono hbel.size)⟩
    · have CK := Lib.hid (known_any wr)
      go_wp2_with fail
      go_must (refine CK.out.mono ?_)
      rintro e w3 ⟨rfl, hb3⟩
      go_wp2_with fail
      go_ret
      exact ⟨rfl, hbel.trans (hb3.mono hbel.size)⟩
end Go.Proofs.Ytcikjghinjdmmaa
