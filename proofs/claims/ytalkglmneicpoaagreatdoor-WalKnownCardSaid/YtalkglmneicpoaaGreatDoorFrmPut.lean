/-
  A frame's bytes: Put.
-/
import Derived.Test.YtalkglmneicpoaaGreatDoorFrmLay
import Derived.Test.YtalkglmneicpoaaGreatDoorApp
import Derived.Deep.RegionHeld3
namespace Go.Proofs.YtalkglmneicpoaaGreatDoor
set_option linter.unusedVariables false
set_option linter.unusedSimpArgs false
open Go.RowKit
def putL (f : Fr) : List UInt8 := if putE f = 0 then enc f else []
set_option maxRecDepth 100000 in
set_option maxHeartbeats 8000000 in
theorem put_any (k : Int) (bs : List UInt8) (A : Option Addr) (m c B : Nat) (w : World) (hT : TabOk w) (hr : Reads w B 1 A m (bs.map bval)) (hB : B ≤ w.heap.size) (hm : m ≤ maxLen) :
    Calls Tryz.prog 53 #[.agg #[ival k, .slice A m c]] w fun e w' => ∃ v, e = .returned (.tuple #[v, ival (putE ⟨k, bs⟩ : Nat)]) ∧ w'.ownsRow w.heap.size 5 1 v (putL ⟨k, bs⟩).length ((putL ⟨k, bs⟩).map bval) ∧ Below w.heap.size w w' := by
  have hl := hr.bytes_len
  have hb1 : Below w.heap.size w (w.alloc (.cells #[ival k, .slice A m c] 25)) := (Below.refl _ _).alloc (Nat.le_refl _) _
  by_cases h1 : k < 1
  · have hE : putE ⟨k, bs⟩ = 2 := by unfold putE; rw [if_pos (.inl h1)]
    have HL : Hid (putL ⟨k, bs⟩ = []) := by show _ = _; unfold putL; rw [hE]; rfl
    rw [hE, HL.out]
    have HB := Lib.hid hb1
    clear hT hr hE hb1
    go_enter Tryz.func53, Tryz.ntmps53
    go_wp2_with fail
    go_ret2
    exact ⟨_, rfl, World.ownsRow_nil _ _ _ _, HB.out⟩
  by_cases h2 : 255 < k
  · have hE : putE ⟨k, bs⟩ = 2 := by unfold putE; rw [if_pos (.inr h2)]
    have HL : Hid (putL ⟨k, bs⟩ = []) := by show _ = _; unfold putL; rw [hE]; rfl
    rw [hE, HL.out]
    have HB := Lib.hid hb1
    clear hT hr hE hb1
    go_enter Tryz.func53, Tryz.ntmps53
    go_wp2_with fail
    go_ret2
    exact ⟨_, rfl, World.ownsRow_nil _ _ _ _, HB.out⟩
  have h12 : ¬ (k < 1 ∨ 255 < k) := by omega
  by_cases h3 : 262144 < m
  · have hE : putE ⟨k, bs⟩ = 5 := by unfold putE; rw [if_neg h12, if_pos (by rw [hl]; exact h3)]
    have HL : Hid (putL ⟨k, bs⟩ = []) := by show _ = _; unfold putL; rw [hE]; rfl
    rw [hE, HL.out]
    have HB := Lib.hid hb1
    clear hT hr hE hb1
    go_enter Tryz.func53, Tryz.ntmps53
    go_wp2_with fail
    go_ret2
    exact ⟨_, rfl, World.ownsRow_nil _ _ _ _, HB.out⟩
  have hE : putE ⟨k, bs⟩ = 0 := by unfold putE; rw [if_neg h12, if_neg (by rw [hl]; exact h3)]
  have HL : Hid (putL ⟨k, bs⟩ = le4 m ++ kindB k :: (le4 (frSum (kindB k) bs) ++ bs)) := by show _ = _; unfold putL; rw [if_pos hE]; simp only [enc]; rw [hl]
  obtain ⟨_, hkk⟩ := kindB_ne k (by omega) (by omega)
  rw [hE, HL.out]
  generalize kindB k = kb at *
  subst hkk
  have hkb := kb.toNat_lt
  have hw8 : IntKind.u8.wrap (kb.toNat : Int) = (kb.toNat : Int) := by simp [IntKind.wrap, IntKind.bits, IntKind.signed]; omega
  have hm8 : (kb.toNat : Int) % 256 = (kb.toNat : Int) := by omega
  have hm32 : (m : Int) % 4294967296 = (m : Int) := by omega
  have HM : Hid (m ≤ 262144) := by show _ ≤ _; omega
  have HRD := Lib.hid hr
  have HT := Lib.hid hT
  have HLn := Lib.hid hl
  clear hr hT hl hE h12 hm
  obtain ⟨w1, hw1⟩ : ∃ w1, w1 = w.alloc (.cells #[ival (kb.toNat : Int), .slice A m c] 25) := ⟨_, rfl⟩
  have HK : Hid (Blk w1 w.heap.size 25 #[ival (kb.toNat : Int), .slice A m c]) := by show Blk _ _ _ _; rw [hw1]; exact Blk.new _ _ _
  have HS1 : Hid (w1.heap.size = w.heap.size + 1) := by show _ = _; rw [hw1]; simp
  have HB1 : Hid (Below w.heap.size w w1) := by show Below _ _ _; rw [hw1]; exact hb1
  clear hb1
  have HS : Hid (∀ W, Below w1.heap.size w1 W → W.cell? ⟨w.heap.size, 1, none⟩ = some (.slice A m c)) := fun W hW => (HK.out.below hW HK.out.lt).cell 1
  go_enter Tryz.func53, Tryz.ntmps53
  go_wp2_with fail
  rw [← hw1]
  go_must (refine (lay_any w1.heap.size (.slice none 0 0) m 0 [] w1 (World.ownsRow_nil _ _ _ _) (Nat.le_refl _) (by omega) (by omega)).mono ?_)
  rintro e w2 ⟨v2, rfl, hown2, hon2, _, hbe2⟩
  have HO2 : Hid (w2.ownsRow w1.heap.size 5 1 v2 4 ((le4 m).map bval)) := by show World.ownsRow _ _ _ _ _ _ _; simpa using hown2
  have HB2 := Lib.hid hbe2
  have HC2 : Hid (∀ O, (w2.alloc O).cell? ⟨w.heap.size, 1, none⟩ = some (.slice A m c)) := fun O => HS.out _ (HB2.out.alloc HB2.out.size O)
  clear hown2 hon2 hbe2
  go_wp2_with
    (at_builtin
     go_must (refine wpList_push w2 Tryz.el22 (.tmp 27) (.tmp 29) rfl rfl HO2.out rfl [.int .u8 (kb.toNat : Int)] rfl rfl rfl rfl (by omega) HB2.out.size ?_)
     intro v3 w3 hown3 _ _ hb3 _)
  have HO3 : Hid (w3.ownsRow w1.heap.size 5 1 v3 5 ((le4 m ++ [kb]).map bval)) := by
    show World.ownsRow _ _ _ _ _ _ _
    rw [List.map_append]
    exact hown3
  have HB3 := Lib.hid (HB2.out.trans hb3)
  have hc3 := HS.out w3 HB3.out
  clear hown3 hb3 HO2 HB2 HC2
  go_wp2_with fail
  have q3 : Below w1.heap.size w1 w3.drew := HB3.out.drew
  have RB : Hid (∀ W, Below w1.heap.size w1 W → Reads W B 1 A m (bs.map bval)) := fun W hW => (HRD.out.below (HB1.out.mono hB)).below (hW.mono (by have := HS1.out; omega))
  have C4 := Lib.hid (fsum_any A m c B kb bs w3.drew ((HT.out.below HB1.out HT.out.pos).below q3 (by have := HT.out.pos; have := HS1.out; omega)) (RB.out _ q3) (by have := HS1.out; have := q3.size; omega) (by have := HM.out; unfold maxLen; omega))
  have C5 : Hid (∀ W, Below w3.drew.heap.size w3.drew W → Calls Tryz.prog 69 #[v3, .int .u32 (frSum kb bs : Nat)] W fun e w' => ∃ v', e = .returned v' ∧ w'.ownsRow w1.heap.size 5 1 v' 9 ((le4 m ++ [kb] ++ le4 (frSum kb bs)).map bval) ∧ Below w1.heap.size W w') := fun W hW =>
    (lay_any w1.heap.size v3 (frSum kb bs) 5 (le4 m ++ [kb]) W (own_below (w := w3.drew) (own_only HO3.out (Only.refl (fun _ => False) w3).drew (fun _ _ h => h)) hW) (Nat.le_trans q3.size hW.size) (frSum_lt _ _) (by omega)).mono fun e w' ⟨v', he, h1, _, _, h2⟩ => ⟨v', he, h1, h2⟩
  have HQ : Hid ((9 + m) * 1 ≤ 140737488355328) := by show _ ≤ _; have := HM.out; omega
  clear HT HRD HO3 HB3
  obtain ⟨S, hS⟩ : ∃ S, frSum kb bs = S := ⟨_, rfl⟩
  rw [hS] at C4 C5
  have HSS := Lib.hid hS
  clear hS
  go_region_held3 (fun w' => w'.cell? ⟨w.heap.size, 1, none⟩ = some (.slice A m c)) (first | exact HS.out _ q3 | exact HS.out _ q4 | exact HS.out _ q5 | exact HS.out _ q6) ((first | (go_at_call 62; refine C4.out.mono ?_; rintro e w4 ⟨rfl, hb4⟩; have q4 : Below w1.heap.size w1 w4 := q3.trans (hb4.mono q3.size)) | (go_at_call 69; refine (C5.out w4 hb4).mono ?_; rintro e w5 ⟨v5, rfl, hown5, hbe5⟩; have q5 : Below w1.heap.size w1 w5 := q4.trans hbe5) | (refine step_app Tryz.el22 (.tmp 36) (.tmp 38) rfl rfl hown5 rfl rfl (RB.out w5 q5) (bval_one bs) HQ.out q5.size ?_; intro v6 w6 hown6 _ _ hb6; have q6 : Below w1.heap.size w1 w6 := q5.trans hb6) | fail))
  go_wp2_with fail
  go_ret2
  refine ⟨v6, rfl, ?_, HB1.out.trans (q6.mono (by have := HS1.out; omega))⟩
  have e1 : (le4 m ++ kb :: (le4 S ++ bs)).length = 9 + m := by simp [le4_len, HLn.out]; omega
  have e2 : (le4 m ++ kb :: (le4 S ++ bs)).map bval = (le4 m ++ [kb] ++ le4 S).map bval ++ bs.map bval := by simp
  rw [HSS.out, e1, e2]
  exact own_base hown6 (fun g hg => by have := (hown6.lt g hg).1; have := HS1.out; omega)
end Go.Proofs.YtalkglmneicpoaaGreatDoor
