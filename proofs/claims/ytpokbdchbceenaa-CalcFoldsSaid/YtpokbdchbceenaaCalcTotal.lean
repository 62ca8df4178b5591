/-
  What a Fold of values comes to; total; the segment of values that a Window is in.
-/
import Derived.Test.YtpokbdchbceenaaCalcWorks
namespace Go.Proofs.Ytpokbdchbceenaa
set_option linter.unusedVariables false
set_option linter.unusedSimpArgs false
open Go.RowKit
def accV (op : Nat) (zs : List Int) : Int := (zs.foldl (fun (p : Int × Nat) v => (foldV op p.1 p.2 v, p.2 + 1)) (0, 0)).1
theorem acc_count (op : Nat) (zs : List Int) : (zs.foldl (fun (p : Int × Nat) v => (foldV op p.1 p.2 v, p.2 + 1)) (0, 0)).2 = zs.length := by
  suffices h : ∀ (q : Int × Nat), (zs.foldl (fun (p : Int × Nat) v => (foldV op p.1 p.2 v, p.2 + 1)) q).2 = q.2 + zs.length by simpa using h (0, 0)
  induction zs with
  | nil => intro q; simp
  | cons z zs ih => intro q; rw [List.foldl_cons, ih]; simp; omega
theorem accV_snoc (op : Nat) (zs : List Int) (v : Int) : accV op (zs ++ [v]) = foldV op (accV op zs) zs.length v := by
  unfold accV
  rw [List.foldl_append]
  simp only [List.foldl_cons, List.foldl_nil]
  rw [acc_count]
theorem accV_take (op : Nat) (zs : List Int) (k : Nat) (h : k < zs.length) : accV op (zs.take (k + 1)) = foldV op (accV op (zs.take k)) k zs[k] := by
  rw [List.take_succ_eq_append_getElem h, accV_snoc, List.length_take, Nat.min_eq_left (by omega)]
theorem accV_count (zs : List Int) : accV 4 zs = zs.length := by
  rcases List.eq_nil_or_concat zs with rfl | ⟨l, v, rfl⟩
  · rfl
  · rw [List.concat_eq_append, accV_snoc]; simp [foldV]
/-- The values since the last full Window. -/
def segV (s k : Nat) (zs : List Int) : List Int := (zs.take k).drop (k - k % s)
theorem segV_len (s k : Nat) (zs : List Int) (h : k ≤ zs.length) : (segV s k zs).length = k % s := by
  have := Nat.mod_le k s
  simp [segV]; omega
theorem mod_next (s k : Nat) (h1 : k % s + 1 < s) : (k + 1) % s = k % s + 1 := by
  rw [Nat.add_mod]
  by_cases h2 : s = 1
  · omega
  rw [Nat.mod_eq_of_lt (a := 1) (b := s) (by omega), Nat.mod_eq_of_lt h1]
theorem mod_full (s k : Nat) (hs : 0 < s) (h1 : s ≤ k % s + 1) : (k + 1) % s = 0 := by
  have h3 : k % s = s - 1 := by have := Nat.mod_lt k hs; omega
  rw [Nat.add_mod, h3]
  by_cases h2 : s = 1
  · subst h2; omega
  rw [Nat.mod_eq_of_lt (a := 1) (b := s) (by omega), show s - 1 + 1 = s by omega, Nat.mod_self]
theorem seg_snoc (s k : Nat) (zs : List Int) (h : k < zs.length) : segV s k zs ++ [zs[k]] = (zs.take (k + 1)).drop (k - k % s) := by
  have := Nat.mod_le k s
  rw [List.take_succ_eq_append_getElem h, List.drop_append, List.length_take, Nat.min_eq_left (by omega), show k - k % s - k = 0 by omega, List.drop_zero]
  rfl
theorem seg_next (s k : Nat) (zs : List Int) (h : k < zs.length) (h1 : k % s + 1 < s) : segV s (k + 1) zs = segV s k zs ++ [zs[k]] := by
  rw [seg_snoc s k zs h]; unfold segV; rw [mod_next s k h1]; congr 1; omega
theorem seg_full (s k : Nat) (zs : List Int) (h : k < zs.length) (hs : 0 < s) (h1 : s ≤ k % s + 1) : segV s (k + 1) zs = [] := by
  unfold segV; rw [mod_full s k hs h1]; simp
theorem seg_told (s k : Nat) (zs : List Int) (h : k < zs.length) (hs : 0 < s) (h1 : s ≤ k % s + 1) : segV s k zs ++ [zs[k]] = (zs.take (k + 1)).drop (k + 1 - s) := by
  have := Nat.mod_lt k hs
  rw [seg_snoc s k zs h]; congr 1; omega
theorem foldV_1 (ac : Int) (k : Nat) (z : Int) (h : 1 ≤ k) : foldV 1 ac k z = wrap64 (ac + z) := by
  unfold foldV; rw [if_neg (by omega), if_neg (by omega), if_pos rfl]
theorem foldV_2 (ac : Int) (k : Nat) (z : Int) (h : 1 ≤ k) : foldV 2 ac k z = min ac z := by
  unfold foldV; rw [if_neg (by omega), if_neg (by omega), if_neg (by omega), if_pos rfl]
theorem foldV_3 (ac : Int) (k : Nat) (z : Int) (h : 1 ≤ k) : foldV 3 ac k z = max ac z := by
  unfold foldV; rw [if_neg (by omega), if_neg (by omega), if_neg (by omega), if_neg (by omega)]
set_option maxRecDepth 100000 in
set_option maxHeartbeats 4000000 in
theorem total_count (A : Option Addr) (n c : Nat) (w : World) :
    Calls Try.prog 12 #[.int .i64 4, .slice A n c] w fun e w' => e = .returned (.int .i64 n) ∧ w = w' := by
  go_enter Try.func12, Try.ntmps12
  go_wp2_with fail
  go_ret
  exact ⟨rfl, rfl⟩
set_option maxRecDepth 100000 in
set_option maxHeartbeats 8000000 in
theorem total_of (op : Nat) (hop : op = 1 ∨ op = 2 ∨ op = 3) (A : Option Addr) (n c B : Nat) (zs : List Int) (w : World) (hx : Reads w B 1 A n (zs.map ival)) (h1 : 1 ≤ n) (hm : n ≤ maxLen) :
    Calls Try.prog 12 #[.int .i64 (op : Int), .slice A n c] w fun e w' => e = .returned (.int .i64 (accV op zs)) ∧ w = w' := by
  have HL := Lib.hid hx.ints_len
  unfold maxLen at hm
  have HA : Hid (∀ k (h : k < zs.length), accV op (zs.take (k + 1)) = foldV op (accV op (zs.take k)) k zs[k]) := fun k h => accV_take op zs k h
  have H0 : Hid (accV op (zs.take 0) = 0) := by show _ = _; simp [accV]
  have HE : Hid (accV op (zs.take n) = accV op zs) := by show _ = _; rw [List.take_of_length_le (by rw [HL.out]; omega)]
  have hx0 := hx.int (k := 0) (by rw [HL.out]; omega)
  obtain ⟨ad, rfl, _, hc⟩ := hx0
  rw [show ad.add 0 = ad by simp [Addr.add]] at hc
  have HX := Lib.hid hx
  clear hx
  rcases hop with rfl | rfl | rfl
  all_goals
    go_enter Try.func12, Try.ntmps12
    go_wp2_with fail
    go_loop [5, 6] (fun v i => ∃ k : Nat, 1 ≤ k ∧ k ≤ n ∧ i = .int .i64 k ∧ v = .int .i64 (accV _ (zs.take k))) (fun _ i => n - (intOf i).toNat)
    case atStart => exact ⟨1, by omega, h1, rfl, by rw [HA.out 0 (by rw [HL.out]; omega), H0.out]; simp [foldV]⟩
    case round =>
      obtain ⟨k, hk1, hk, rfl, rfl⟩ := hrel
      by_cases hlt : k < n
      · have hA := HA.out k (by rw [HL.out]; omega)
        have hk0 : ¬ k = 0 := by omega
        obtain ⟨ad2, e2, _, hc2⟩ := HX.out.int (k := k) (by rw [HL.out]; omega)
        injection e2 with e2
        subst e2
        have hlt' : (k : Int) < (n : Int) := by omega
        generalize zs[k]'(by rw [HL.out]; omega) = z at *
        generalize accV _ (zs.take k) = ac at *
        have HA2 := Lib.hid hA
        clear hA hc hk0
        by_cases hle : ac ≤ z
        · have hd1 : decide (z < ac) = false := by simp; omega
          by_cases heq : ac = z
          · have hd2 : decide (ac < z) = false := by simp; omega
            have HEQ := Lib.hid heq
            clear heq
            go_wp2_with fail
            go_round
            case rel => exact ⟨k + 1, by omega, by omega, by go_num, by rw [HA2.out]; have := HEQ.out; first | (rw [foldV_1 _ _ _ hk1]; done) | (rw [foldV_2 _ _ _ hk1]; exact congrArg _ (by omega)) | (rw [foldV_3 _ _ _ hk1]; exact congrArg _ (by omega))⟩
            case measure => simp [intOf]; omega
          · have hd2 : ac < z := by omega
            clear heq
            go_wp2_with fail
            go_round
            case rel => exact ⟨k + 1, by omega, by omega, by go_num, by rw [HA2.out]; first | (rw [foldV_1 _ _ _ hk1]; done) | (rw [foldV_2 _ _ _ hk1]; exact congrArg _ (by omega)) | (rw [foldV_3 _ _ _ hk1]; exact congrArg _ (by omega))⟩
            case measure => simp [intOf]; omega
        · have hd1 : z < ac := by omega
          have hd2 : decide (ac < z) = false := by simp; omega
          clear hle
          go_wp2_with fail
          go_round
          case rel => exact ⟨k + 1, by omega, by omega, by go_num, by rw [HA2.out]; first | (rw [foldV_1 _ _ _ hk1]; done) | (rw [foldV_2 _ _ _ hk1]; exact congrArg _ (by omega)) | (rw [foldV_3 _ _ _ hk1]; exact congrArg _ (by omega))⟩
          case measure => simp [intOf]; omega
      · obtain rfl : k = n := by omega
        go_wp2_with fail
        go_ret
        exact ⟨ret_int HE.out, rfl⟩
theorem total_any (op : Nat) (l1 : 1 ≤ op) (l4 : op ≤ 4) (A : Option Addr) (n c B : Nat) (zs : List Int) (w : World) (hx : Reads w B 1 A n (zs.map ival)) (h1 : 1 ≤ n) (hm : n ≤ maxLen) :
    Calls Try.prog 12 #[.int .i64 (op : Int), .slice A n c] w fun e w' => e = .returned (.int .i64 (accV op zs)) ∧ w = w' := by
  by_cases h : op = 4
  · subst h
    have := total_count A n c w
    rw [accV_count, hx.ints_len]
    exact this
  · exact total_of op (by omega) A n c B zs w hx h1 hm
end Go.Proofs.Ytpokbdchbceenaa
