/-
  The walks over Place, the program's and the document's answer's.
-/
import Derived.Test.YtfejfobkekkgkaaInts
import Derived.Test.YtfejfobkekkgkaaPick
namespace Go.Proofs.Ytfejfobkekkgkaa
set_option linter.unusedVariables false
set_option linter.unusedSimpArgs false
open Go.RowKit
def placeL (t k : Nat) : List Int := (List.range t).map fun i => ((i % k : Nat) : Int)
theorem placeL_succ (t k : Nat) : placeL (t + 1) k = placeL t k ++ [((t % k : Nat) : Int)] := by simp [placeL, List.range_succ]
theorem placeL_length (t k : Nat) : (placeL t k).length = t := by simp [placeL]
abbrev BadPlace (t k s : Int) : Prop := k < 1 ∨ 8 < k ∨ s < 1 ∨ 16 < s ∨ t < 0

set_option maxRecDepth 100000 in
set_option maxHeartbeats 1000000 in
theorem place_bad (t k s : Int) (w : World) (h : BadPlace t k s) :
    Calls Try.prog 6 #[.int .i64 t, .int .i64 k, .int .i64 s] w fun e w' => e = .returned (.tuple #[.slice none 0 0, .int .i64 1]) ∧ w = w' := by
  unfold BadPlace at h
  have H := Lib.hid h
  clear h
  go_enter Try.func6, Try.ntmps6
  go_wp2_with fail
  all_goals first
    | (go_ret2; exact ⟨rfl, rfl⟩)
    | (exfalso; have := H.out; omega)
set_option maxRecDepth 100000 in
set_option maxHeartbeats 1000000 in
theorem refPlace_bad (t k s : Int) (w : World) (h : BadPlace t k s) :
    Calls Try.prog 7 #[.int .i64 t, .int .i64 k, .int .i64 s] w fun e w' => e = .returned (.tuple #[.slice none 0 0, .int .i64 1]) ∧ w = w' := by
  unfold BadPlace at h
  have H := Lib.hid h
  clear h
  go_enter Try.func7, Try.ntmps7
  go_wp2_with fail
  all_goals first
    | (go_ret2; exact ⟨rfl, rfl⟩)
    | (exfalso; have := H.out; omega)
theorem mul_bd {k s : Nat} (h1 : k ≤ 8) (h2 : s ≤ 16) : k * s ≤ 128 := Nat.mul_le_mul h1 h2
set_option maxRecDepth 100000 in
set_option maxHeartbeats 1000000 in
theorem place_full (t k s : Nat) (w : World) (h1 : 1 ≤ k) (h2 : k ≤ 8) (h3 : 1 ≤ s) (h4 : s ≤ 16) (h : k * s < t) (ht : (t : Int) ≤ 9223372036854775807) :
    Calls Try.prog 6 #[.int .i64 t, .int .i64 k, .int .i64 s] w fun e w' => e = .returned (.tuple #[.slice none 0 0, .int .i64 13]) ∧ w = w' := by
  have hm := mul_bd h2 h4
  have hx : wrap64 ((k : Int) * (s : Int)) = ((k * s : Nat) : Int) := by
    rw [show (k : Int) * (s : Int) = ((k * s : Nat) : Int) from (Int.natCast_mul k s).symm]; exact IntWalk.wrap64_in _ ⟨by omega, by omega⟩
  generalize k * s = ks at *
  go_enter Try.func6, Try.ntmps6
  go_wp2_with fail
  go_ret2
  exact ⟨rfl, rfl⟩
set_option maxRecDepth 100000 in
set_option maxHeartbeats 1000000 in
theorem refPlace_full (t k s : Nat) (w : World) (h1 : 1 ≤ k) (h2 : k ≤ 8) (h3 : 1 ≤ s) (h4 : s ≤ 16) (h : k * s < t) (ht : (t : Int) ≤ 9223372036854775807) :
    Calls Try.prog 7 #[.int .i64 t, .int .i64 k, .int .i64 s] w fun e w' => e = .returned (.tuple #[.slice none 0 0, .int .i64 13]) ∧ w = w' := by
  have hm := mul_bd h2 h4
  have hx : wrap64 ((k : Int) * (s : Int)) = ((k * s : Nat) : Int) := by
    rw [show (k : Int) * (s : Int) = ((k * s : Nat) : Int) from (Int.natCast_mul k s).symm]; exact IntWalk.wrap64_in _ ⟨by omega, by omega⟩
  generalize k * s = ks at *
  go_enter Try.func7, Try.ntmps7
  go_wp2_with fail
  go_ret2
  exact ⟨rfl, rfl⟩
set_option maxRecDepth 100000 in
set_option maxHeartbeats 1000000 in
theorem place_ok (t k s : Nat) (w : World) (h1 : 1 ≤ k) (h2 : k ≤ 8) (h3 : 1 ≤ s) (h4 : s ≤ 16) (h : t ≤ k * s) :
    Calls Try.prog 6 #[.int .i64 t, .int .i64 k, .int .i64 s] w fun e w' => ∃ v, e = .returned (.tuple #[v, .int .i64 0]) ∧ w'.ownsRow w.heap.size 3 1 v t ((placeL t k).map ival) ∧ Below w.heap.size w w' := by
  have hm := mul_bd h2 h4
  have hx : wrap64 ((k : Int) * (s : Int)) = ((k * s : Nat) : Int) := by
    rw [show (k : Int) * (s : Int) = ((k * s : Nat) : Int) from (Int.natCast_mul k s).symm]; exact IntWalk.wrap64_in _ ⟨by omega, by omega⟩
  generalize k * s = ks at *
  have hmk := fun W => run_make_one Try.mkInts rfl t (by omega) (by omega) W
  have HO := Lib.hid (own_made_one (e := 3) w (Value.int .i64 0) rfl t (Nat.le_refl _) (by unfold maxLen; omega))
  have HB : Hid (Below w.heap.size w (w.alloc (.cells (madeCells #[Value.int .i64 0] t) 3))) := (Below.refl _ _).alloc (Nat.le_refl _) _
  go_enter Try.func6, Try.ntmps6
  go_wp2_with fail
  generalize w.alloc (.cells (madeCells #[Value.int .i64 0] t) 3) = w1 at *
  go_loopw [38] (fun i wr => ∃ j : Nat, j ≤ t ∧ i = .int .i64 j ∧ wr.ownsRow w.heap.size 3 1 (.slice (some ⟨w.heap.size, 0, none⟩) t t) t ((placeL j k).map ival ++ List.replicate (t - j) (Value.int .i64 0)) ∧ Below w.heap.size w wr) (fun i _ => t - (intOf i).toNat)
  case atStart => exact ⟨0, by omega, rfl, by simpa [placeL] using HO.out, HB.out⟩
  case round =>
    obtain ⟨j, hj, rfl, ho, hbel⟩ := hrel
    clear HO HB hmk
    by_cases hlt : j < t
    · have hl : ((placeL j k).map ival ++ List.replicate (t - j) (Value.int .i64 0)).length = t := by simp [placeL_length]; omega
      have hca : wr.cell? ⟨w.heap.size, j, none⟩ = some (.int .i64 0) := by
        rw [ho.cellAt j (by omega), List.getElem?_append_right (by simp [placeL_length]), List.length_map, placeL_length, Nat.sub_self, List.getElem?_replicate, if_pos (by omega)]
      have hfa : wr.frozen? ⟨w.heap.size, j, none⟩ = false := ho.frozenAt j
      have HS : Hid (((placeL j k).map ival ++ List.replicate (t - j) (Value.int .i64 0)).set j (.int .i64 ((j : Int) % (k : Int))) = (placeL (j + 1) k).map ival ++ List.replicate (t - (j + 1)) (Value.int .i64 0)) := by
        show _ = _
        have e : t - j = (t - (j + 1)) + 1 := by omega
        rw [e, List.replicate_succ, List.set_append_right _ _ (by simp [placeL_length]), placeL_succ]
        simp [placeL_length]
      have Ho := Lib.hid ho
      clear ho hl
      go_wp2_with fail
      have ho2 := (Ho.out.stored j (.int .i64 ((j : Int) % (k : Int)))).1
      rw [HS.out] at ho2
      have hbel2 := hbel.setCell (p := ⟨w.heap.size, j, none⟩) (Nat.le_refl _) (.int .i64 ((j : Int) % (k : Int)))
      go_roundw
      case rel => exact ⟨j + 1, by omega, by go_num, ho2, hbel2⟩
      case measure => simp [intOf]; omega
    · obtain rfl : j = t := by omega
      have HT : Hid ((placeL j k).map ival ++ List.replicate (j - j) (Value.int .i64 0) = (placeL j k).map ival) := by show _ = _; simp
      rw [HT.out] at ho
      go_wp2
      go_ret2
      exact ⟨_, rfl, ho, hbel⟩
set_option maxRecDepth 100000 in
set_option maxHeartbeats 1000000 in
theorem refPlace_ok (t k s : Nat) (w : World) (h1 : 1 ≤ k) (h2 : k ≤ 8) (h3 : 1 ≤ s) (h4 : s ≤ 16) (h : t ≤ k * s) :
    Calls Try.prog 7 #[.int .i64 t, .int .i64 k, .int .i64 s] w fun e w' => ∃ v, e = .returned (.tuple #[v, .int .i64 0]) ∧ w'.ownsRow w.heap.size 3 1 v t ((placeL t k).map ival) ∧ Below w.heap.size w w' := by
  have hm := mul_bd h2 h4
  have hx : (k : Int) * (s : Int) = ((k * s : Nat) : Int) := (Int.natCast_mul k s).symm
  generalize k * s = ks at *
  have ht8 : t ≤ 128 := by omega
  have hd : decide (ks < t) = false := by simp; omega
  go_enter Try.func7, Try.ntmps7
  go_wp2_with fail
  clear h
  go_loopw [8, 9] (fun v i wr => ∃ j : Nat, j ≤ t ∧ i = .int .i64 j ∧ wr.ownsRow w.heap.size 3 1 v j ((placeL j k).map ival) ∧ Below w.heap.size w wr) (fun _ i _ => t - (intOf i).toNat)
  case atStart => exact ⟨0, by omega, rfl, World.ownsRow_nil _ _ _ _, Below.refl _ _⟩
  case round =>
    obtain ⟨j, hj, rfl, hown, hbel⟩ := hrel
    by_cases hlt : j < t
    · have hr : (j : Int) % (k : Int) = ((j % k : Nat) : Int) := by simp
      have HT : Hid ((placeL j k).map ival ++ [.int .i64 ((j : Int) % (k : Int))] = (placeL (j + 1) k).map ival) := by
        show _ = _; rw [placeL_succ, List.map_append, hr]; rfl
      clear hr
      go_wp2_with (
        (at_builtin
         go_must (refine wpList_push wr Try.elInts (.tmp 38) (.tmp 42) rfl rfl hown rfl [.int .i64 ((j : Int) % (k : Int))] rfl rfl rfl rfl (by omega) hbel.size ?_)
         intro v1 w1 hown1 _ _ hb1 _))
      have hbel1 := hbel.trans hb1
      rw [HT.out] at hown1
      clear hown hbel hb1
      go_wp2
      go_roundw
      case rel => exact ⟨j + 1, by omega, by go_num, hown1, hbel1⟩
      case measure => simp [intOf]; omega
    · obtain rfl : j = t := by omega
      go_wp2
      go_ret2
      exact ⟨_, rfl, hown, hbel⟩

set_option maxRecDepth 100000 in
set_option maxHeartbeats 1000000 in
theorem known_any (w : World) :
    Calls Try.prog 10 #[] w fun e w' => e = .returned (.bool true) ∧ Below w.heap.size w w' := by
  have C1 := Lib.hid (place_ok 5 2 3 w (by omega) (by omega) (by omega) (by omega) (by omega))
  have C2 := Lib.hid (fun W => place_full 7 2 3 W (by omega) (by omega) (by omega) (by omega) (by omega) (by omega))
  go_enter Try.func10, Try.ntmps10
  go_wp2_with fail
  go_must (refine C1.out.mono ?_)
  rintro e w1 ⟨v1, rfl, hown1, hb1⟩
  obtain ⟨A1, c1, rfl, hc1, hc1', _⟩ := own_slice hown1
  go_wp2_with fail
  go_must (refine (C2.out _).mono ?_)
  rintro e w2 ⟨rfl, rfl⟩
  have C3 := Lib.hid (sameInts_any A1 (some ⟨w1.heap.size, 0, none⟩) 5 c1 5 5 _ _ [0, 1, 0, 1, 0] [0, 1, 0, 1, 0] (w1.alloc (.cells #[.int .i64 0, .int .i64 1, .int .i64 0, .int .i64 1, .int .i64 0] 3)) ((Reads.of_own hown1).alloc (Nat.le_refl _) _) (Reads.new _ _ _ _) (by decide) (by decide))
  go_wp2_with fail
  go_must (refine C3.out.mono ?_)
  rintro e w2 ⟨rfl, m, rfl⟩
  go_wp2
  go_ret
  exact ⟨rfl, below_drewN (hb1.alloc hb1.size _) m⟩
end Go.Proofs.Ytfejfobkekkgkaa
