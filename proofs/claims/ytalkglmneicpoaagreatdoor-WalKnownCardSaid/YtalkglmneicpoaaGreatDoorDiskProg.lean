/-
  The program's disk: what each of its functions does.
-/
import Derived.Test.YtalkglmneicpoaaGreatDoorDisk
import Derived.Test.YtalkglmneicpoaaGreatDoorBytes
import Derived.Lib.SliceRun
import Derived.Deep.RegionHeld3
import Derived.StillTailTactics
namespace Go.Proofs.YtalkglmneicpoaaGreatDoor
set_option linter.unusedVariables false
set_option linter.unusedSimpArgs false
open Go.RowKit
def aO (a : Bool) : Nat := if a = true then 3 else 1

set_option maxRecDepth 100000 in
set_option maxHeartbeats 1000000 in
theorem clone_any (A : Option Addr) (n c B : Nat) (L : List UInt8) (w : World) (hr : Reads w B 1 A n (L.map bval)) (hB : B ≤ w.heap.size) (hn : n ≤ 300000) :
    Calls Tryz.prog 37 #[.slice A n c] w fun e w' => ∃ v, e = .returned v ∧ w'.ownsRow w.heap.size 5 1 v n (L.map bval) ∧ Below w.heap.size w w' := by
  have hN := fun W => Lib.run_eql_slice_nil (P := Tryz.prog) W 22 5 A n c 0 0 Tryz.underlying22
  rcases A with _ | ad
  · have hl := hr.bytes_len
    obtain rfl : n = 0 := by
      rcases Nat.eq_zero_or_pos n with h | h
      · exact h
      · obtain ⟨ad, h1, _⟩ := hr.2 h; cases h1
    obtain rfl : L = [] := List.eq_nil_of_length_eq_zero hl
    clear hr hl
    go_enter Tryz.func37, Tryz.ntmps37
    go_wp2_with fail
    go_ret
    exact ⟨_, rfl, World.ownsRow_nil _ _ _ _, Below.refl _ _⟩
  · obtain ⟨i0, hi, hz, hs, hb⟩ := info_parts (show (Tryz.prog.info? 5).map (fun i => (i.zero, i.size, i.bytes)) = some (some (.int .u8 0), 1, 1) by kernel_rfl)
    have hown : (w.alloc (.cells #[] 5)).ownsRow w.heap.size 5 1 (.slice (some ⟨w.heap.size, 0, none⟩) 0 0) 0 [] := World.ownsRow_lit w #[] 0 (Nat.le_refl _) (by simp [maxLen]) rfl
    have hr2 := hr.alloc hB (.cells #[] 5)
    have HO := Lib.hid hown
    have HR := Lib.hid hr2
    have h1c : ∀ u ∈ L.map bval, u.oneCell' = true := fun u hu => by obtain ⟨b, _, rfl⟩ := List.mem_map.1 hu; rfl
    have h2c : 0 + n ≤ maxLen := by unfold maxLen; omega
    have h3c : (0 + n) * 1 ≤ 140737488355328 := by omega
    have h4c : w.heap.size ≤ (w.alloc (.cells #[] 5)).heap.size := by simp
    clear hown hr2 hr
    go_enter Tryz.func37, Tryz.ntmps37
    go_wp2_with (at_builtin; go_must (refine wpList_append_any _ rfl (.tmp 5) (.tmp 6) 22 rfl w.heap.size 5 i0 (.int .u8 0) 1 1 Tryz.underlying22 hi hz hs hb rfl (by decide) _ 0 [] rfl HO.out B (some ad) n c (L.map bval) rfl HR.out h1c h2c h3c h4c ?_); intro v' w1 hown1 hg1 hv1)
    have hb1 : Below w.heap.size w w1 := ((Below.refl _ _).alloc (Nat.le_refl _) _).grown hg1 (by simp) (fun k hk => Nat.le_of_eq (Option.some.inj hk))
    simp only [Nat.zero_add, List.nil_append] at hown1
    clear hg1 hv1
    go_wp2_with fail
    go_ret
    exact ⟨_, rfl, hown1, hb1⟩

set_option maxRecDepth 100000 in
set_option maxHeartbeats 1000000 in
theorem at_false (g : Nat) (w : World) : Calls Tryz.prog 36 #[.pointer (some ⟨g, 0, none⟩), .int .i64 0] w fun e w' => e = .returned (.pointer (some ⟨g, 1, none⟩)) ∧ w = w' := by
  go_enter Tryz.func36, Tryz.ntmps36
  go_wp2_with fail
  go_ret
  exact ⟨rfl, rfl⟩

set_option maxRecDepth 100000 in
set_option maxHeartbeats 1000000 in
theorem at_true (g : Nat) (w : World) : Calls Tryz.prog 36 #[.pointer (some ⟨g, 0, none⟩), .int .i64 1] w fun e w' => e = .returned (.pointer (some ⟨g, 3, none⟩)) ∧ w = w' := by
  go_enter Tryz.func36, Tryz.ntmps36
  go_wp2_with fail
  go_ret
  exact ⟨rfl, rfl⟩

set_option maxRecDepth 100000 in
set_option maxHeartbeats 1000000 in
theorem at_no (g : Nat) (no : Int) (h : no < 0 ∨ 2 ≤ no) (w : World) : Calls Tryz.prog 36 #[.pointer (some ⟨g, 0, none⟩), .int .i64 no] w fun e w' => e = .returned (.pointer none) ∧ w = w' := by
  rcases h with h | h
  · go_enter Tryz.func36, Tryz.ntmps36
    go_wp2_with fail
    go_ret
    exact ⟨rfl, rfl⟩
  · have h1 : decide (no < 0) = false := by simp; omega
    go_enter Tryz.func36, Tryz.ntmps36
    go_wp2_with fail
    go_ret
    exact ⟨rfl, rfl⟩

set_option maxRecDepth 100000 in
set_option maxHeartbeats 1000000 in
theorem room_false (base g N : Nat) (S : Nat → Prop) (st : DSt) (w : World) (h : DAt false w base g N S st) :
    Calls Tryz.prog 35 #[.pointer (some ⟨g, 0, none⟩), .int .i64 0] w fun e w' => e = .returned (.int .i64 ((N : Int) - ((st false).1.length : Int))) ∧ ∃ m, w' = w.drewN m := by
  obtain ⟨x, hx⟩ := h
  have c0 : w.cell? ⟨g, 0, none⟩ = some (ival N) := hx.blk.cell 0
  have c1 : w.cell? ⟨g, 1, none⟩ = some (x false) := hx.blk.cell 1
  obtain ⟨A, c, he, hc1, hc2, _⟩ := own_slice (hx.row false)
  rw [he] at c1
  have hl := (hx.ok.2 false).1
  have hN := hx.ok.1
  have C := Lib.hid (at_false g)
  generalize (st false).1.length = n at *
  clear hx he
  have hq : IntKind.i64.wrap ((N : Int) - (n : Int)) = (N : Int) - (n : Int) := IntWalk.i64_in _ (by omega)
  go_enter Tryz.func35, Tryz.ntmps35
  go_wp2_with fail
  go_must (refine (C.out _).mono ?_)
  rintro e w1 ⟨rfl, rfl⟩
  go_wp2_with fail
  go_quiet (fail)
  go_wp2_with fail
  go_ret
  exact ⟨rfl, _, rfl⟩
theorem bytes_false (base g N : Nat) (S : Nat → Prop) (st : DSt) (w : World) (h : DAt false w base g N S st) :
    Calls Tryz.prog 19 #[.pointer (some ⟨g, 0, none⟩), .int .i64 0] w fun e w' => ∃ v, e = .returned v ∧ w'.ownsRow w.heap.size 5 1 v (st false).1.length ((st false).1.map bval) ∧ Below w.heap.size w w' := by
  obtain ⟨x, hx⟩ := h
  have c1 : w.cell? ⟨g, 1, none⟩ = some (x false) := hx.blk.cell 1
  obtain ⟨A, c, he, hc1, hc2, _⟩ := own_slice (hx.row false)
  rw [he] at c1
  have hr := hx.row false
  rw [he] at hr
  have hl := (hx.ok.2 false).1
  have hN := hx.ok.1
  have D := Lib.hid (clone_any A _ c _ (st false).1 w (Reads.of_own hr) (Nat.le_refl _) (by omega))
  have C := Lib.hid (at_false g)
  generalize (st false).1 = L at *
  clear hx he hr
  go_enter Tryz.func19, Tryz.ntmps19
  go_wp2_with fail
  go_must (refine (C.out _).mono ?_)
  rintro e w1 ⟨rfl, rfl⟩
  go_wp2_with fail
  go_must (refine D.out.mono ?_)
  rintro e w1 ⟨v, rfl, hown, hb⟩
  go_wp2_with fail
  go_ret
  exact ⟨_, rfl, hown, hb⟩

set_option maxRecDepth 100000 in
set_option maxHeartbeats 1000000 in
theorem room_true (base g N : Nat) (S : Nat → Prop) (st : DSt) (w : World) (h : DAt false w base g N S st) :
    Calls Tryz.prog 35 #[.pointer (some ⟨g, 0, none⟩), .int .i64 1] w fun e w' => e = .returned (.int .i64 ((N : Int) - ((st true).1.length : Int))) ∧ ∃ m, w' = w.drewN m := by
  obtain ⟨x, hx⟩ := h
  have c0 : w.cell? ⟨g, 0, none⟩ = some (ival N) := hx.blk.cell 0
  have c1 : w.cell? ⟨g, 3, none⟩ = some (x true) := hx.blk.cell 3
  obtain ⟨A, c, he, hc1, hc2, _⟩ := own_slice (hx.row true)
  rw [he] at c1
  have hl := (hx.ok.2 true).1
  have hN := hx.ok.1
  have C := Lib.hid (at_true g)
  generalize (st true).1.length = n at *
  clear hx he
  have hq : IntKind.i64.wrap ((N : Int) - (n : Int)) = (N : Int) - (n : Int) := IntWalk.i64_in _ (by omega)
  go_enter Tryz.func35, Tryz.ntmps35
  go_wp2_with fail
  go_must (refine (C.out _).mono ?_)
  rintro e w1 ⟨rfl, rfl⟩
  go_wp2_with fail
  go_quiet (fail)
  go_wp2_with fail
  go_ret
  exact ⟨rfl, _, rfl⟩
theorem bytes_true (base g N : Nat) (S : Nat → Prop) (st : DSt) (w : World) (h : DAt false w base g N S st) :
    Calls Tryz.prog 19 #[.pointer (some ⟨g, 0, none⟩), .int .i64 1] w fun e w' => ∃ v, e = .returned v ∧ w'.ownsRow w.heap.size 5 1 v (st true).1.length ((st true).1.map bval) ∧ Below w.heap.size w w' := by
  obtain ⟨x, hx⟩ := h
  have c1 : w.cell? ⟨g, 3, none⟩ = some (x true) := hx.blk.cell 3
  obtain ⟨A, c, he, hc1, hc2, _⟩ := own_slice (hx.row true)
  rw [he] at c1
  have hr := hx.row true
  rw [he] at hr
  have hl := (hx.ok.2 true).1
  have hN := hx.ok.1
  have D := Lib.hid (clone_any A _ c _ (st true).1 w (Reads.of_own hr) (Nat.le_refl _) (by omega))
  have C := Lib.hid (at_true g)
  generalize (st true).1 = L at *
  clear hx he hr
  go_enter Tryz.func19, Tryz.ntmps19
  go_wp2_with fail
  go_must (refine (C.out _).mono ?_)
  rintro e w1 ⟨rfl, rfl⟩
  go_wp2_with fail
  go_must (refine D.out.mono ?_)
  rintro e w1 ⟨v, rfl, hown, hb⟩
  go_wp2_with fail
  go_ret
  exact ⟨_, rfl, hown, hb⟩

end Go.Proofs.YtalkglmneicpoaaGreatDoor
