/-
  Barrier, whatever it is given; and what the state comes to, in plain lists.
-/
import Derived.Test.YtcikjghinjdmmaaAlignYes
import Derived.Test.YtcikjghinjdmmaaAlignBlocked
namespace Go.Proofs.Ytcikjghinjdmmaa
set_option linter.unusedVariables false
set_option linter.unusedSimpArgs false
open Go.RowKit

theorem bar_any (g n : Nat) (s : AlSt) (ap lp : Option Addr) (i no : Int) (w : World) (hn96 : n ≤ 96) (h : AlRep w g n s ap lp) :
    Calls Try.prog 13 #[.pointer (some ⟨g, 0, none⟩), .int .i64 i, .int .i64 no] w (AlPost w g n (alBar n s i no) ap lp) := by
  have refuse : alRefuses n s i no = true → alBar n s i no = (s, false) := fun hr => by unfold alBar; rw [if_pos hr]
  by_cases h0 : i < 0
  · rw [refuse (by simp [alRefuses, h0])]
    exact bar_no_neg g n s ap lp i no w h0 h
  by_cases hn : (n : Int) ≤ i
  · rw [refuse (by simp [alRefuses, hn])]
    exact bar_no_big g n s ap lp i no w (by omega) hn h
  obtain ⟨I, rfl⟩ := Int.eq_ofNat_of_zero_le (show 0 ≤ i by omega)
  obtain ⟨bl, aw, la⟩ := s
  cases la with
  | some l =>
    by_cases hl : no ≤ l
    · rw [refuse (by simp [alRefuses, hl])]
      exact bar_no_la g n bl aw l ap lp I no w (by omega) (by omega) hn96 hl h
    · cases aw with
      | some a =>
        by_cases ha : no < a
        · rw [refuse (by simp [alRefuses, ha])]
          exact bar_no_aw1 g n bl a l ap lp I no w (by omega) (by omega) hn96 ha (by omega) h
        · by_cases he : a < no
          · exact bar_yes_fl g n bl a l ap lp I no w (by omega) hn96 he (by omega) h
          · obtain rfl : a = no := by omega
            exact bar_yes_el g n bl l ap lp I a w (by omega) hn96 (by omega) h
      | none => exact bar_yes_nl g n bl l ap lp I no w (by omega) hn96 (by omega) h
  | none =>
    cases aw with
    | some a =>
      by_cases ha : no < a
      · rw [refuse (by simp [alRefuses, ha])]
        exact bar_no_aw0 g n bl a ap lp I no w (by omega) (by omega) hn96 ha h
      · by_cases he : a < no
        · exact bar_yes_fn g n bl a ap lp I no w (by omega) hn96 he h
        · obtain rfl : a = no := by omega
          exact bar_yes_en g n bl ap lp I a w (by omega) hn96 h
    | none => exact bar_yes_nn g n bl ap lp I no w (by omega) hn96 h

/-- A new one. -/
def alNew : AlSt := (noneL, none, none)
theorem alNew_rep (w : World) (n : Nat) : AlRep (w.alloc (.cells (alCells n 0 (List.replicate 96 false) none none) 42)) w.heap.size n alNew none none :=
  ⟨by simp [alNew, noneL], by simpa [alNew, noneL] using Blk.new w 42 (alCells n 0 (List.replicate 96 false) none none), rfl, rfl⟩
theorem new_al (n : Nat) (w : World) :
    Calls Try.prog 11 #[.int .i64 (n : Int)] w fun e w' => e = .returned (.pointer (some ⟨w.heap.size, 0, none⟩)) ∧ AlRep w' w.heap.size n alNew none none ∧ Below w.heap.size w w' :=
  (new_any n w).mono fun _ _ ⟨he, hw⟩ => ⟨he, hw ▸ alNew_rep w n, hw ▸ (Below.refl _ _).alloc (Nat.le_refl _) _⟩
theorem AlRep.drewN {w : World} {g n : Nat} {s : AlSt} {ap lp : Option Addr} (h : AlRep w g n s ap lp) (k : Nat) : AlRep (w.drewN k) g n s ap lp := h.below (below_drewN (Below.refl _ _) k)
/-- Below the object's own block nothing turns. -/
theorem only_below_of {w w' : World} {g B : Nat} (h : w.grownBy w' (some g)) (hB : B ≤ g) (hs : B ≤ w.heap.size) : Below B w w' :=
  ⟨h.os, h.tape, h.output, h.size, fun k hk => h.block k (by omega) (fun e => by injection e with e; omega)⟩

set_option maxRecDepth 100000 in
set_option maxHeartbeats 1000000 in
theorem known_any (w : World) :
    Calls Try.prog 17 #[] w fun e w' => e = .returned (.bool true) ∧ Below w.heap.size w w' := by
  have C0 := Lib.hid (new_al 2 w)
  have e1 : Hid (alBar 2 alNew 0 1 = ((noneL.set 0 true, some 1, none), false)) := by show _ = _; decide
  have e2 : Hid (alBlocked (noneL.set 0 true, some 1, none) 0 = true) := by show _ = _; decide
  have e3 : Hid (alBlocked (noneL.set 0 true, some 1, none) 1 = false) := by show _ = _; decide
  have e4 : Hid (alBar 2 (noneL.set 0 true, some 1, none) 1 1 = ((noneL, none, some 1), true)) := by show _ = _; decide
  have e5 : Hid (alBlocked (noneL, none, some 1) 0 = false) := by show _ = _; decide
  go_enter Try.func17, Try.ntmps17
  go_wp2_with fail
  go_must (refine C0.out.mono ?_)
  rintro e w1 ⟨rfl, hr1, hb1⟩
  have C1 := bar_any w.heap.size 2 alNew none none 0 1 w1 (by omega) hr1
  rw [e1.out] at C1
  have D1 := Lib.hid C1
  clear C1 hr1
  go_wp2_with fail
  go_must (refine D1.out.mono ?_)
  rintro e w2 ⟨ap2, lp2, rfl, hr2, hg2, _, _⟩
  have hb2 := hb1.trans (only_below_of hg2 (Nat.le_refl _) hb1.size)
  have C2 := blocked_any w.heap.size 2 _ ap2 lp2 0 w2 hr2
  have C3 := blocked_any w.heap.size 2 _ ap2 lp2 1 w2 hr2
  have C4 := bar_any w.heap.size 2 _ ap2 lp2 1 1 w2 (by omega) hr2
  rw [e2.out] at C2
  rw [e3.out] at C3
  rw [e4.out] at C4
  have D2 := Lib.hid C2
  have D3 := Lib.hid C3
  have D4 := Lib.hid C4
  clear C2 C3 C4 hr2 hg2 D1
  go_wp2_with fail
  go_must (refine D2.out.mono ?_)
  rintro e w3 ⟨rfl, rfl⟩
  go_wp2_with fail
  go_must (refine D3.out.mono ?_)
  rintro e w3 ⟨rfl, rfl⟩
  go_wp2_with fail
  go_must (refine D4.out.mono ?_)
  rintro e w3 ⟨ap3, lp3, rfl, hr3, hg3, _, _⟩
  have hb3 := hb2.trans (only_below_of hg3 (Nat.le_refl _) hb2.size)
  have C5 := blocked_any w.heap.size 2 _ ap3 lp3 0 w3 hr3
  rw [e5.out] at C5
  have D5 := Lib.hid C5
  clear C5 hr3 hg3
  go_wp2_with fail
  go_must (refine D5.out.mono ?_)
  rintro e w4 ⟨rfl, rfl⟩
  go_wp2_with fail
  go_ret
  exact ⟨rfl, hb3⟩
end Go.Proofs.Ytcikjghinjdmmaa
