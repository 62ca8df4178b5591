/-
  The parts of a frame's bytes: lay, take, sum.
-/
import Derived.Test.YtalkglmneicpoaaGreatDoorBytes
import Derived.Test.YtalkglmneicpoaaGreatDoorOnly
import Derived.Test.YtalkglmneicpoaaGreatDoorCrcWalk
import Derived.Test.YtalkglmneicpoaaGreatDoorFramePlain
namespace Go.Proofs.YtalkglmneicpoaaGreatDoor
set_option linter.unusedVariables false
set_option linter.unusedSimpArgs false
open Go.RowKit
/-- The block of a row. -/
def rowS (v : Value) (i : Nat) : Prop := v.ownBlock = some i
/-- A row that grew: the same block, or a new one. -/
def Grew (w : World) (v v' : Value) : Prop := v'.ownBlock = v.ownBlock ∨ ∃ g, v'.ownBlock = some g ∧ w.heap.size ≤ g
theorem Grew.refl (w : World) (v : Value) : Grew w v v := .inl rfl
theorem Grew.trans {w w1 : World} {v v1 v2 : Value} (h : Grew w v v1) (h' : Grew w1 v1 v2) (hs : w.heap.size ≤ w1.heap.size) : Grew w v v2 := by
  rcases h' with h' | ⟨g, h1, h2⟩
  · rcases h with h | ⟨g, h1, h2⟩
    · exact .inl (h'.trans h)
    · exact .inr ⟨g, h'.trans h1, h2⟩
  · exact .inr ⟨g, h1, by omega⟩
theorem Only.row {w w1 w2 : World} {v v1 : Value} (h : Only (rowS v) w w1) (hg : Grew w v v1) {row : Option Nat} (h2 : w1.grownBy w2 row) (hr : row = v1.ownBlock) : Only (rowS v) w w2 :=
  h.grown h2 (fun g hgr => by
    subst hr
    rcases hg with h3 | ⟨g', h3, h4⟩
    · exact .inl (h3.symm.trans hgr)
    · rw [h3] at hgr; cases hgr; exact .inr h4)
def nat4 (n j : Nat) : Nat := n / 256 ^ j
theorem nat4_succ (n j : Nat) : nat4 n (j + 1) = nat4 n j / 256 := by unfold nat4; rw [Nat.pow_succ, Nat.div_div_eq_div_mul]
theorem le4_take (n j : Nat) (h : j < 4) : (le4 n).take (j + 1) = (le4 n).take j ++ [UInt8.ofNat (nat4 n j)] := by
  rcases (by omega : j = 0 ∨ j = 1 ∨ j = 2 ∨ j = 3) with rfl | rfl | rfl | rfl <;> simp [le4, nat4]
theorem u8_of (x : Nat) : ((x : Int) % 256) = ((UInt8.ofNat x).toNat : Int) := by rw [UInt8.toNat_ofNat']; simp
set_option maxRecDepth 100000 in
set_option maxHeartbeats 1000000 in
theorem lay_any (base : Nat) (v : Value) (n m : Nat) (bs : List UInt8) (w : World) (hown : w.ownsRow base 5 1 v m (bs.map bval)) (hb : base ≤ w.heap.size) (hn : n < 4294967296) (hm : m ≤ 1099511627776) :
    Calls Tryz.prog 69 #[v, .int .u32 (n : Int)] w fun e w' => ∃ v', e = .returned v' ∧ w'.ownsRow base 5 1 v' (m + 4) ((bs ++ le4 n).map bval) ∧ Only (rowS v) w w' ∧ Grew w v v' ∧ Below base w w' := by
  have HW := Lib.hid hown
  clear hown
  go_enter Tryz.func69, Tryz.ntmps69
  go_wp2_with fail
  go_loopw [0, 1, 5] (fun b x i wr => ∃ j : Nat, j ≤ 4 ∧ i = .int .i64 j ∧ x = .int .u32 (nat4 n j : Nat) ∧ nat4 n j < 4294967296 ∧ wr.ownsRow base 5 1 b (m + j) ((bs ++ (le4 n).take j).map bval) ∧ Only (rowS v) w wr ∧ Grew w v b ∧ Below base w wr) (fun _ _ i _ => 4 - (intOf i).toNat)
  case atStart => exact ⟨0, by omega, rfl, by simp [nat4], by simp [nat4]; omega, by simpa using HW.out, Only.refl _ _, Grew.refl _ _, Below.refl _ _⟩
  case round =>
    obtain ⟨j, hj, rfl, rfl, hx, hown, hon, hgr, hbe⟩ := hrel
    by_cases hlt : j < 4
    · have HT : Hid ((bs ++ (le4 n).take j).map bval ++ [.int .u8 ((nat4 n j : Int) % 256)] = (bs ++ (le4 n).take (j + 1)).map bval) := by
        show _ = _
        rw [le4_take n j hlt, u8_of, ← List.append_assoc, List.map_append (l₂ := [UInt8.ofNat (nat4 n j)])]; rfl
      have HN : Hid (((nat4 n j : Nat) : Int) / 256 = ((nat4 n (j + 1) : Nat) : Int) ∧ nat4 n (j + 1) < 4294967296) := by
        rw [nat4_succ]; exact ⟨by simp, by omega⟩
      generalize nat4 n j = x at *
      have HO := Lib.hid hown
      have HON := Lib.hid hon
      clear hown hon
      go_wp2_with
        (at_builtin
         go_must (refine wpList_push wr Tryz.el22 (.tmp 7) (.tmp 10) rfl rfl HO.out rfl [.int .u8 ((x : Int) % 256)] rfl rfl rfl rfl (by omega) (Nat.le_trans hb hbe.size) ?_)
         intro v1 w1 hown1 hg1 hv1 hb1 hs1)
      have hon1 := Only.row HON.out hgr hg1 rfl
      have hgr1 : Grew w v v1 := hgr.trans (w1 := wr) (by rcases hv1 with h | h; exact .inl h; exact .inr ⟨_, h, by omega⟩) HON.out.size
      have hbe1 := hbe.trans hb1
      rw [HT.out] at hown1
      clear HO HON hg1 hv1 hb1 hs1 hgr hbe HT
      go_wp2_with fail
      go_roundw
      case rel => exact ⟨j + 1, by omega, by go_num, by rw [HN.out.1], HN.out.2, hown1, hon1, hgr1, hbe1⟩
      case measure => simp [intOf]; omega
    · obtain rfl : j = 4 := by omega
      go_wp2_with fail
      go_ret
      exact ⟨_, rfl, hown, hon, hgr, hbe⟩
def accs (L : List UInt8) : Nat → Nat
  | 0 => 0
  | j + 1 => accs L j * 256 + (L.getD (3 - j) 0).toNat
theorem accs4 (L : List UInt8) (h : 4 ≤ L.length) : accs L 4 = be4 L := by
  rcases L with _ | ⟨a, _ | ⟨b, _ | ⟨c, _ | ⟨d, L⟩⟩⟩⟩ <;> simp at h
  simp [accs, be4]
  omega
theorem accs_lt (L : List UInt8) (j : Nat) : accs L j < 256 ^ j := by
  induction j with
  | zero => simp [accs]
  | succ j ih =>
    have := (L.getD (3 - j) 0).toNat_lt
    simp only [accs, Nat.pow_succ]
    omega
theorem or_low (x y : Nat) (h : y < 256) : x * 256 ||| y = x * 256 + y := by
  have := Nat.two_pow_add_eq_or_of_lt (i := 8) (b := y) (by omega) x
  rw [show (2 : Nat) ^ 8 * x = x * 256 by omega] at this
  exact this.symm
set_option maxRecDepth 100000 in
set_option maxHeartbeats 1000000 in
theorem take_any (A : Option Addr) (n c B : Nat) (L : List UInt8) (w : World) (hr : Reads w B 1 A n (L.map bval)) (h4 : 4 ≤ n) (hm : n ≤ maxLen) :
    Calls Tryz.prog 61 #[.slice A n c] w fun e w' => e = .returned (.int .u32 (be4 L : Nat)) ∧ w = w' := by
  have hl := hr.bytes_len
  have HA : Hid (accs L 4 = be4 L) := accs4 L (by omega)
  unfold maxLen at hm
  go_enter Tryz.func61, Tryz.ntmps61
  go_wp2_with fail
  go_loop [3, 4] (fun x i => ∃ q : Nat, q ≤ 4 ∧ i = .int .i64 ((q : Int) - 1) ∧ accs L (4 - q) < 256 ^ (4 - q) ∧ x = .int .u32 (accs L (4 - q) : Nat)) (fun _ i => (intOf i + 1).toNat)
  case atStart => exact ⟨4, by omega, rfl, by simp [accs], rfl⟩
  case round =>
    obtain ⟨q, hq, rfl, hx, rfl⟩ := hrel
    rcases q with _ | q
    · have e : (((0 : Nat) : Int) - 1) = -1 := by omega
      rw [e]
      rw [show accs L (4 - 0) = be4 L from HA.out]
      go_wp2_with fail
      go_ret
      exact ⟨rfl, rfl⟩
    · have e : (((q + 1 : Nat) : Int) - 1) = (q : Int) := by omega
      rw [e]
      obtain ⟨ad, rfl, _, hc⟩ := hr.byte (k := q) (by omega)
      have HE : Hid (accs L (4 - q) = accs L (4 - (q + 1)) * 256 + (L[q]'(by omega)).toNat) := by
        show _ = _
        rw [show 4 - q = (4 - (q + 1)) + 1 by omega]
        simp only [accs]
        rw [show 3 - (4 - (q + 1)) = q by omega, List.getD_eq_getElem?_getD, List.getElem?_eq_getElem (by omega)]; rfl
      have hlt := accs_lt L (4 - (q + 1))
      have hp : 256 ^ (4 - (q + 1)) ≤ 256 ^ 3 := Nat.pow_le_pow_right (by omega) (by omega)
      have hx3 : accs L (4 - (q + 1)) < 16777216 := by omega
      have HP := Lib.hid (accs_lt L (4 - q))
      clear hlt hp hx hr
      generalize accs L (4 - (q + 1)) = x at *
      have hb := (L[q]'(by omega)).toNat_lt
      generalize (L[q]'(by omega)) = b at *
      have hor : bits .or .u32 ((x : Int) * 256) (b.toNat : Int) = ((x * 256 + b.toNat : Nat) : Int) := by
        rw [show ((x : Int) * 256) = ((x * 256 : Nat) : Int) by simp, u32_or_nat _ _ (by omega) (by omega), or_low _ _ hb]
      have hmod : (x : Int) * 256 % 4294967296 = (x : Int) * 256 := by omega
      have hqn : q < n := by omega
      have hqI : (q : Int) < (n : Int) := by omega
      go_wp2_with fail
      go_round
      case rel => exact ⟨q, by omega, by go_num, HP.out, by rw [HE.out]; rfl⟩
      case measure => simp [intOf] <;> omega
set_option maxRecDepth 100000 in
set_option maxHeartbeats 1000000 in
theorem fsum_any (A : Option Addr) (n c B : Nat) (k : UInt8) (bs : List UInt8) (w : World) (hT : TabOk w) (hr : Reads w B 1 A n (bs.map bval)) (hB : B ≤ w.heap.size) (hm : n ≤ maxLen) :
    Calls Tryz.prog 62 #[bval k, .slice A n c] w fun e w' => e = .returned (.int .u32 (frSum k bs : Nat)) ∧ Below w.heap.size w w' := by
  have hb : Below w.heap.size w (w.alloc (.cells #[bval k] 5)) := (Below.refl _ _).alloc (Nat.le_refl _) _
  have HB := Lib.hid hb
  have C1 := Lib.hid (sum_any (some ⟨w.heap.size, 0, none⟩) 1 1 (w.heap.size + 1) [k] (w.alloc (.cells #[bval k] 5)) (hT.alloc _) (Reads.new w #[bval k] 5 (0, 0)) (by simp [maxLen]))
  have C2 := Lib.hid (more_any A n c B (crcMore 0 [k]) bs (w.alloc (.cells #[bval k] 5)) (crcMore_lt _ _) (hT.alloc _) (hr.alloc hB _) hm)
  rw [crcMore_append] at C2
  have HF : Hid (crcMore 0 ([k] ++ bs) = frSum k bs) := rfl
  rw [HF.out] at C2
  clear hT hr hb HF
  go_enter Tryz.func62, Tryz.ntmps62
  go_wp2_with fail
  go_must (refine C1.out.mono ?_)
  rintro e w1 ⟨rfl, rfl⟩
  go_wp2_with fail
  go_must (refine C2.out.mono ?_)
  rintro e w1 ⟨rfl, rfl⟩
  go_wp2_with fail
  go_ret
  exact ⟨rfl, HB.out⟩
end Go.Proofs.YtalkglmneicpoaaGreatDoor
