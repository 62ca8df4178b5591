/-
  Get: the frame with which bytes begin, and the error's number.
-/
import Derived.Test.YtiococglmjjagaaDoorFrmRead
namespace Go.Proofs.YtiococglmjjagaaDoor
set_option linter.unusedVariables false
set_option linter.unusedSimpArgs false
open Go.RowKit
theorem read_any (A : Option Addr) (n c B : Nat) (L : List UInt8) (p : Addr) (w : World) (hG : Glob p w) (hr : Reads w B 1 A n (L.map bval)) (hB : B ≤ w.heap.size) (hn : n ≤ c) (hc : c ≤ maxLen) :
    Calls Tryd.prog 33 #[.slice A n c] w (ReadPost p L w) := by
  by_cases h9 : n < 9
  · exact read_short A n c B L p w hG hr h9
  · exact read_long A n c B L p w hG hr hB hn hc h9
theorem number_rep (p : Addr) (E : Nat) (v : Value) (hv : ErrRep p E v) (w : World) (hH : HandOk w) : Calls Tryd.prog 34 #[v] w fun e w' => e = .returned (.int .i64 (E : Int)) ∧ Below w.heap.size w w' := by
  rcases hv with ⟨rfl, rfl⟩ | ⟨_, at_, why, rfl, hw⟩
  · exact number_nil w
  · exact number_any E at_ why (by rcases hw with rfl | rfl <;> rfl) w hH
def GetPost (L : List UInt8) (w : World) (e : Ending) (w' : World) : Prop :=
  ∃ v, e = .returned (.tuple #[.agg #[ival (getF L).k, v], ival (getN L : Nat), ival (getE L : Nat)]) ∧ w'.ownsRow w.heap.size 5 1 v (getF L).b.length ((getF L).b.map bval) ∧ Below w.heap.size w w'
set_option maxRecDepth 100000 in
set_option maxHeartbeats 8000000 in
theorem get_any (A : Option Addr) (n c B : Nat) (L : List UInt8) (p : Addr) (w : World) (hG : Glob p w) (hr : Reads w B 1 A n (L.map bval)) (hB : B ≤ w.heap.size) (hn : n ≤ c) (hc : c ≤ maxLen) :
    Calls Tryd.prog 17 #[.slice A n c] w (GetPost L w) := by
  have hlt := hG.lt
  obtain ⟨w1, hw1⟩ : ∃ w1, w1 = w.alloc (.cells #[ival 0, .slice none 0 0] 24) := ⟨_, rfl⟩
  have hb1 : Below w.heap.size w w1 := by rw [hw1]; exact (Below.refl _ _).alloc (Nat.le_refl _) _
  have HB1 := Lib.hid hb1
  have HS1 : Hid (w1.heap.size = w.heap.size + 1) := by show _ = _; rw [hw1]; simp
  have HF : Hid (Blk w1 w.heap.size 24 #[ival 0, .slice none 0 0]) := by show Blk _ _ _ _; rw [hw1]; exact Blk.new _ _ _
  have C1 := Lib.hid (read_any A n c B L p w1 (hG.below hb1 hlt) (hr.below (hb1.mono hB)) (by have := HS1.out; omega) hn hc)
  have HG := Lib.hid (hG.below hb1 hlt)
  clear hr hG hb1
  go_enter Tryd.func17, Tryd.ntmps17
  go_wp2_with fail
  rw [← hw1]
  clear hw1
  go_must (refine C1.out.mono ?_)
  rintro e w2 ⟨v, errv, rfl, hown, hb2, hrep⟩
  have HO2 := Lib.hid hown
  have HF2 := Lib.hid (HF.out.below hb2 (by have := HS1.out; omega))
  have HB2 := Lib.hid (HB1.out.trans (hb2.mono (by have := HS1.out; omega)))
  have HG2 := Lib.hid (HG.out.below hb2 (by have := HS1.out; omega))
  have hs2 := hb2.size
  obtain ⟨A4, c4, rfl, _, _, hv4⟩ := own_slice hown
  have HN : Hid (∀ W, HandOk W → Calls Tryd.prog 34 #[errv] W fun e w' => e = .returned (.int .i64 (getE L : Int)) ∧ Below W.heap.size W w') := fun W hW => number_rep p _ errv hrep W hW
  clear C1 HG HF hown hb2 hrep
  generalize hk : (getF L).k = fk at *
  generalize hb : (getF L).b = fb at *
  have HKB : Hid ((getF L).k = fk ∧ (getF L).b = fb) := ⟨hk, hb⟩
  clear hk hb
  obtain ⟨w4, hw4⟩ : ∃ w4, w4 = w2.alloc (.cells #[ival fk, .slice A4 fb.length c4] 24) := ⟨_, rfl⟩
  have hb4 : Below w2.heap.size w2 w4 := by rw [hw4]; exact (Below.refl _ _).alloc (Nat.le_refl _) _
  have HK4 : Hid (Blk w4 w2.heap.size 24 #[ival fk, .slice A4 fb.length c4]) := by show Blk _ _ _ _; rw [hw4]; exact Blk.new _ _ _
  have HF4 := Lib.hid (HF2.out.below hb4 HF2.out.lt)
  have HO4 := Lib.hid (own_below HO2.out hb4)
  have HB4 := Lib.hid (HB2.out.trans (hb4.mono HB2.out.size))
  have HG4 := Lib.hid (HG2.out.below hb4 (by have := HS1.out; omega))
  have hs4 := hb4.size
  clear hb4 HF2 HO2 HB2 HG2
  generalize hg4 : w2.heap.size = g4 at *
  have hne : w.heap.size ≠ g4 := by have := HS1.out; omega
  have HS : Hid (∀ W, Only (fun i => i = w.heap.size) w4 W → W.cell? ⟨g4, 0, none⟩ = some (ival fk) ∧ W.cell? ⟨g4, 1, none⟩ = some (.slice A4 fb.length c4)) := fun W hW => by
    have k := HK4.out.only hW (fun e => hne e.symm)
    exact ⟨k.cell 0, k.cell 1⟩
  go_wp2_with fail
  rw [← hw4]
  clear hw4 hg4
  have q4 : Only (fun i => i = w.heap.size) w4 w4.drew := (Only.refl _ _).drew
  have C4 := Lib.hid (HN.out w4.drew (HG4.out.hand.below (Below.refl w4.heap.size w4).drew (by have := HG4.out.hand.pos; omega)))
  go_region_held3 (fun w' => w'.cell? ⟨g4, 0, none⟩ = some (ival fk) ∧ w'.cell? ⟨g4, 1, none⟩ = some (.slice A4 fb.length c4)) (first | exact HS.out _ q4 | exact HS.out _ q5 | exact HS.out _ ((q5.setCell (.inl rfl) 0 _).setCell (.inl rfl) 1 _)) ((first | (go_at_call 34; refine C4.out.mono ?_; rintro e w5 ⟨rfl, hb5⟩; have q5 : Only (fun i => i = w.heap.size) w4 w5 := q4.below hb5; have kF := HF4.out.drew.below hb5 HF4.out.lt; have f0 : w5.frozen? ⟨w.heap.size, 0, none⟩ = false := kF.frozen 0; have f1 : w5.frozen? ⟨w.heap.size, 1, none⟩ = false := kF.frozen 1; have c0 : w5.cell? ⟨w.heap.size, 0, none⟩ = some (ival 0) := kF.cell 0; have c1 : w5.cell? ⟨w.heap.size, 1, none⟩ = some (.slice none 0 0) := kF.cell 1) | fail))
  all_goals
    have HO5 := Lib.hid (own_only HO4.out (Only.of_below (S := fun _ => False) (((Below.refl w4.heap.size w4).drew).trans hb5)) (fun _ _ h => h))
    have HB5 := Lib.hid (HB4.out.trans ((((Below.refl w4.heap.size w4).drew).trans hb5).mono HB4.out.size))
    go_wp2_with fail
    refine end_frame3 rfl rfl rfl (show Blk _ _ _ #[ival fk, .slice A4 fb.length c4] from (kF.set_ 0 _).set_ 1 _) rfl rfl rfl ?_
    have ho : Only (fun i => i = w.heap.size) w5 ((w5.setCell ⟨w.heap.size, 0, none⟩ (ival fk)).setCell ⟨w.heap.size, 1, none⟩ (.slice A4 fb.length c4)) := ((Only.refl (fun i => i = w.heap.size) w5).setCell (.inl rfl) 0 _).setCell (.inl rfl) 1 _
    have hlo := HO5.out.lt
    refine ⟨.slice A4 fb.length c4, by rw [HKB.out.1]; rfl, ?_, (HB5.out.setCell (Nat.le_refl _) _).setCell (Nat.le_refl _) _⟩
    rw [HKB.out.2]
    exact own_base (own_only HO5.out ho (fun g hg h => by have := (hlo g hg).1; have := HS1.out; omega)) (fun g hg => by have := (hlo g hg).1; have := HS1.out; omega)
end Go.Proofs.YtiococglmjjagaaDoor
