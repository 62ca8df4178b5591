/-
  The walks over the checksum's functions, the program's and the document's answer's, and the kit's functions that the laws on it call: each once.
-/
import Derived.Test.YtalkglmneicpoaaGreatDoorCrcPlain
import Derived.Test.YtalkglmneicpoaaGreatDoorLent
namespace Go.Proofs.YtalkglmneicpoaaGreatDoor
set_option linter.unusedVariables false
set_option linter.unusedSimpArgs false
open Go.RowKit

/-- The table's cells. -/
def TabOk (w : World) : Prop := ∀ i, i < 16 → w.cell? ⟨2, i, none⟩ = some (.int .u32 (tabAt i))
theorem TabOk.keep {w w' : World} (h : TabOk w) (hk : ∀ o, w'.cell? ⟨2, o, none⟩ = w.cell? ⟨2, o, none⟩) : TabOk w' := fun i hi => (hk i).trans (h i hi)
theorem TabOk.pos {w : World} (h : TabOk w) : 2 < w.heap.size := by
  have h0 := h 0 (by omega)
  rcases Nat.lt_or_ge 2 w.heap.size with hlt | hge
  · exact hlt
  · unfold World.cell? at h0
    rw [Array.getElem?_eq_none hge] at h0
    cases h0
theorem TabOk.below {w w' : World} {B : Nat} (h : TabOk w) (hb : Below B w w') (hB : 2 < B) : TabOk w' := h.keep fun o => hb.cell (p := ⟨2, o, none⟩) hB
theorem TabOk.drewN {w : World} (h : TabOk w) (n : Nat) : TabOk (w.drewN n) := h
theorem TabOk.alloc {w : World} (h : TabOk w) (o : Obj) : TabOk (w.alloc o) := h.keep fun i => World.cell?_alloc_lt w o _ h.pos

def nibs (x : Nat) : Nat → Nat
  | 0 => x
  | j + 1 => nib (nibs x j)
theorem not_u32 (a : Nat) (h : a < 4294967296) : bits .xor .u32 IntKind.u32.max (a : Int) = ((4294967295 - a : Nat) : Int) := by
  rw [show IntKind.u32.max = ((4294967295 : Nat) : Int) from rfl, u32_xor_nat _ _ (by omega) h, not_xor _ h]
theorem bv_shl1 (a : BitVec 32) : (a.toNat : Int) * (2 : Int) % (4294967296 : Int) = ((a <<< 1).toNat : Int) := by
  rw [BitVec.toNat_shiftLeft, Nat.shiftLeft_eq]; omega
theorem bv_shr (a : BitVec 32) (k : Nat) : (a.toNat : Int) / (2 : Int) ^ k = ((a >>> k).toNat : Int) := by
  rw [BitVec.toNat_ushiftRight, Nat.shiftRight_eq_div_pow]; simp
theorem bv_or (a b : BitVec 32) : bits .or .u32 (a.toNat : Int) (b.toNat : Int) = ((a ||| b).toNat : Int) := by
  rw [u32_or_nat _ _ (by have := a.isLt; omega) (by have := b.isLt; omega), BitVec.toNat_or]
theorem bv_and (a b : BitVec 32) : bits .and .u32 (a.toNat : Int) (b.toNat : Int) = ((a &&& b).toNat : Int) := by
  rw [u32_and_nat _ _ (by have := a.isLt; omega) (by have := b.isLt; omega), BitVec.toNat_and]
theorem bv_xor (a b : BitVec 32) : bits .xor .u32 (a.toNat : Int) (b.toNat : Int) = ((a ^^^ b).toNat : Int) := by
  rw [u32_xor_nat _ _ (by have := a.isLt; omega) (by have := b.isLt; omega), BitVec.toNat_xor]
theorem bv_and1 (a : BitVec 32) : bits .and .u32 (a.toNat : Int) 1 = ((a &&& 1#32).toNat : Int) := bv_and a 1#32
theorem turn_step (v : BitVec 32) (k : Nat) : bits .or .u32 (((turnB v k).toNat : Int) * 2 % 4294967296) (bits .and .u32 ((v.toNat : Int) / 2 ^ k) 1) = ((turnB v (k + 1)).toNat : Int) := by
  rw [bv_shl1, bv_shr, bv_and1, bv_or]; rfl
theorem msb_div (l : BitVec 32) : (l.toNat : Int) / 2147483648 = (if l.msb then 1 else 0) := by
  rw [BitVec.msb_eq_decide]
  have := l.isLt
  by_cases h : 2 ^ (32 - 1) ≤ l.toNat <;> simp [h] <;> omega
theorem bit_val (x : UInt8) (k : Nat) : bits .and .u32 ((x.toNat : Int) / (2 : Int) ^ k % (4294967296 : Int)) 1 = (if x.toNat.testBit k then 1 else 0) := by
  have hx := x.toNat_lt
  have h2 : x.toNat / 2 ^ k < 4294967296 := Nat.lt_of_le_of_lt (Nat.div_le_self _ _) (by omega)
  have h1 : ((x.toNat : Int) / (2 : Int) ^ k % (4294967296 : Int)) = ((x.toNat / 2 ^ k : Nat) : Int) := by
    have : ((x.toNat : Int) / (2 : Int) ^ k) = ((x.toNat / 2 ^ k : Nat) : Int) := by simp
    rw [this]; exact Int.emod_eq_of_lt (Int.natCast_nonneg _) (Int.ofNat_lt.2 h2)
  rw [h1, show (1 : Int) = ((1 : Nat) : Int) from rfl, u32_and_nat _ _ h2 (by omega), Nat.and_one_is_mod, Nat.testBit_eq_decide_div_mod_eq]
  by_cases h : x.toNat / 2 ^ k % 2 = 1 <;> simp [h] <;> omega
set_option maxRecDepth 100000 in
set_option maxHeartbeats 400000 in
theorem turn_any (v : BitVec 32) (w : World) :
    Calls Tryz.prog 80 #[.int .u32 v.toNat] w fun e w' => e = .returned (.int .u32 (turnB v 32).toNat) ∧ w = w' := by
  go_enter Tryz.func80, Tryz.ntmps80
  go_wp2
  go_loop [3, 4] (fun o i => ∃ k : Nat, k ≤ 32 ∧ i = .int .i64 k ∧ o = .int .u32 (turnB v k).toNat) (fun _ i => 32 - (intOf i).toNat)
  case atStart => exact ⟨0, by omega, rfl, rfl⟩
  case round =>
    obtain ⟨k, hk, rfl, rfl⟩ := hrel
    by_cases hlt : k < 32
    · go_wp2
      go_round
      case rel => exact ⟨k + 1, by omega, by go_num, by rw [turn_step]⟩
      case measure => simp [intOf]; omega
    · obtain rfl : k = 32 := by omega
      go_wp2
      go_ret
      exact ⟨rfl, rfl⟩

set_option maxRecDepth 100000 in
set_option maxHeartbeats 400000 in
theorem g_any (w : World) :
    Calls Tryz.prog 81 #[] w fun e w' => e = .returned (.int .u32 79764919) ∧ w = w' := by
  go_enter Tryz.func81, Tryz.ntmps81
  go_wp2
  go_ret
  exact ⟨by simp, rfl⟩

set_option maxRecDepth 100000 in
set_option maxHeartbeats 1000000 in
theorem refMore_any (A : Option Addr) (n c B : Nat) (s : BitVec 32) (bs : List UInt8) (w : World) (hr : Reads w B 1 A n (bs.map bval)) (hm : n ≤ maxLen) :
    Calls Tryz.prog 79 #[.int .u32 s.toNat, .slice A n c] w fun e w' => e = .returned (.int .u32 (refMore s bs).toNat) ∧ w = w' := by
  have HL := Lib.hid hr.bytes_len
  unfold maxLen at hm
  have hs : bits .xor .u32 (s.toNat : Int) 4294967295 = ((s ^^^ 4294967295#32).toNat : Int) := bv_xor s 4294967295#32
  go_enter Tryz.func79, Tryz.ntmps79
  go_wp2_with (go_at_call 80; refine (turn_any (s ^^^ 4294967295#32) _).mono ?_; rintro e w1 ⟨rfl, rfl⟩)
  clear hs
  have HM : Hid (refMore s bs = turnB (refUpd (turnB (s ^^^ 4294967295#32) 32) bs) 32 ^^^ 4294967295#32) := rfl
  generalize turnB (s ^^^ 4294967295#32) 32 = l0 at *
  go_loop [5, 6] (fun l i => ∃ k : Nat, k ≤ n ∧ i = .int .i64 k ∧ l = .int .u32 (refUpd l0 (bs.take k)).toNat) (fun _ i => n - (intOf i).toNat)
  case atStart => exact ⟨0, by omega, rfl, rfl⟩
  case round =>
    obtain ⟨k, hk, rfl, rfl⟩ := hrel
    by_cases hlt : k < n
    · have hk1 : k < bs.length := by have := HL.out; omega
      have HU : Hid (refUpd l0 (bs.take (k + 1)) = refN (refUpd l0 (bs.take k)) bs[k] 8) := by
        show _ = _; unfold refUpd; rw [List.take_succ_eq_append_getElem hk1, List.foldl_append]; rfl
      obtain ⟨ad, rfl, _, hc⟩ := hr.byte hk1
      clear hr
      generalize refUpd l0 (bs.take k) = l1 at *
      generalize bs[k] = x at *
      go_wp2
      go_loop [5, 7] (fun l i => ∃ j : Nat, j ≤ 8 ∧ i = .int .i64 j ∧ l = .int .u32 (refN l1 x j).toNat) (fun _ i => 8 - (intOf i).toNat)
      case atStart => exact ⟨0, by omega, rfl, rfl⟩
      case round =>
        obtain ⟨j, hj, rfl, rfl⟩ := hrel
        by_cases hlt8 : j < 8
        · have HB : Hid (refN l1 x (j + 1) = refBit (refN l1 x j) (x.toNat.testBit j)) := rfl
          generalize refN l1 x j = y at *
          have hv := bit_val x j
          have hmd := msb_div y
          by_cases hb : y.msb = x.toNat.testBit j
          · have hbb : (((y.toNat : Int) / 2147483648) != bits .and .u32 ((x.toNat : Int) / (2 : Int) ^ j % (4294967296 : Int)) 1) = false := by rw [hv, hmd, hb]; simp
            have HB2 : Hid (refBit y (x.toNat.testBit j) = y <<< 1) := by show _ = _; unfold refBit; rw [if_pos hb]
            clear hv hmd hb
            go_wp2
            go_round
            case rel => exact ⟨j + 1, by omega, by go_num, by rw [HB.out, HB2.out, bv_shl1]⟩
            case measure => simp [intOf]; omega
          · have hbb : (((y.toNat : Int) / 2147483648) != bits .and .u32 ((x.toNat : Int) / (2 : Int) ^ j % (4294967296 : Int)) 1) = true := by
              rw [hv, hmd]; cases h1 : y.msb <;> cases h2 : x.toNat.testBit j <;> simp_all
            have HB2 : Hid (refBit y (x.toNat.testBit j) = (y <<< 1) ^^^ 79764919#32) := by show _ = _; unfold refBit; rw [if_neg hb]
            clear hv hmd hb
            go_wp2_with (go_at_call 81; refine (g_any _).mono ?_; rintro e w1 ⟨rfl, rfl⟩)
            go_round
            case rel => exact ⟨j + 1, by omega, by go_num, by rw [HB.out, HB2.out, bv_shl1, ← bv_xor]; rfl⟩
            case measure => simp [intOf]; omega
        · obtain rfl : j = 8 := by omega
          go_wp2
          go_round
          case rel => exact ⟨k + 1, by omega, by go_num, by rw [HU.out]⟩
          case measure => simp [intOf]; omega
    · obtain rfl : k = n := by omega
      have HU : Hid (refMore s bs = turnB (refUpd l0 (bs.take k)) 32 ^^^ 4294967295#32) := by
        show _ = _; rw [HM.out, List.take_of_length_le (by have := HL.out; omega)]
      clear hr
      generalize refUpd l0 (bs.take k) = l1 at *
      have HC := Lib.hid (turn_any l1 w)
      generalize turnB l1 32 = r at *
      have hx : bits .xor .u32 (r.toNat : Int) 4294967295 = ((r ^^^ 4294967295#32).toNat : Int) := bv_xor r 4294967295#32
      go_wp2_with (go_at_call 80; refine HC.out.mono ?_; rintro e w1 ⟨rfl, rfl⟩)
      go_ret
      exact ⟨ret_int (by rw [HU.out, BitVec.toNat_xor]; rfl), rfl⟩
set_option maxRecDepth 100000 in
set_option maxHeartbeats 400000 in
theorem more_any (A : Option Addr) (n c B : Nat) (s : Nat) (bs : List UInt8) (w : World)
   (hs : s < 4294967296) (hT : TabOk w) (hr : Reads w B 1 A n (bs.map bval)) (hm : n ≤ maxLen) :
    Calls Tryz.prog 73 #[.int .u32 s, .slice A n c] w fun e w' => e = .returned (.int .u32 (crcMore s bs)) ∧ w = w' := by
  unfold maxLen at hm
  have hn := hr.bytes_len.symm
  have hb : ∀ k (h : k < bs.length), ∃ ad, A = some ad ∧ w.cell? (ad.add k) = some (.int .u8 ((bs[k]).toNat : Int)) := fun k h => by
    obtain ⟨ad, e, _, hc⟩ := hr.byte h
    exact ⟨ad, e, hc⟩
  clear hr
  have HN := Lib.hid hn
  have hx := not_u32 s hs
  have HT := Lib.hid hT
  clear hn hT
  go_enter Tryz.func73, Tryz.ntmps73
  go_wp2
  clear hx
  go_loop [5, 12] (fun v i => ∃ k : Nat, k ≤ n ∧ i = .int .i64 k ∧ updc (4294967295 - s) (bs.take k) < 4294967296 ∧ v = .int .u32 (updc (4294967295 - s) (bs.take k))) (fun _ i => n - (intOf i).toNat)
  case atStart => 
    refine ⟨0, by omega, rfl, ?_, ?_⟩
    · simp [updc]; omega
    · simp [updc]
  case round =>
    obtain ⟨k, hk, rfl, hv, rfl⟩ := hrel
    have HU : Hid (∀ h : k < bs.length, updc (4294967295 - s) (bs.take (k + 1)) = stepc (updc (4294967295 - s) (bs.take k)) bs[k]) := by
      intro h; unfold updc; rw [List.take_succ_eq_append_getElem h, List.foldl_append]; rfl
    have HE : Hid (bs.length ≤ k → crcMore s bs = 4294967295 - updc (4294967295 - s) (bs.take k)) := by
      intro h; rw [List.take_of_length_le h]; rfl
    generalize updc (4294967295 - s) (bs.take k) = v at *
    by_cases hlt : k < n
    · have hk' : k < bs.length := by have := HN.out; omega
      obtain ⟨ad, rfl, hc⟩ := hb k hk'
      have HU' := Lib.hid (HU.out hk')
      clear HU HE hb
      have hb8 : ((bs[k]).toNat : Int) < 256 := by have := bs[k].toNat_lt; omega
      have hb9 := (bs[k]).toNat_lt
      have hx := u32_xor_nat v (bs[k]).toNat hv (by omega)
      have hv1 : v ^^^ (bs[k]).toNat < 4294967296 := Nat.xor_lt_two_pow (n := 32) (by omega) (by omega)
      go_wp2
      clear hx hc
      have HU2 : Hid (updc (4294967295 - s) (List.take (k + 1) bs) = nib (nib (v ^^^ (bs[k]).toNat))) := HU'.out
      clear HU'
      generalize v ^^^ (bs[k]).toNat = x at *
      have HX : Hid (nibs x 2 = nib (nib x)) := rfl
      go_loop [5, 20] (fun v i => ∃ j : Nat, j ≤ 2 ∧ i = .int .i64 j ∧ nibs x j < 4294967296 ∧ v = .int .u32 (nibs x j)) (fun _ i => 2 - (intOf i).toNat)
      case atStart => exact ⟨0, by omega, rfl, hv1, rfl⟩
      case round =>
        obtain ⟨j, hj, rfl, hy, rfl⟩ := hrel
        have HN1 : Hid (nibs x (j + 1) = nib (nibs x j)) := rfl
        by_cases hj2 : j < 2
        · generalize nibs x j = y at *
          have ha : bits .and .u32 (y : Int) 15 = ((y &&& 15 : Nat) : Int) := u32_and_nat y 15 hy (by omega)
          have hlt : y &&& 15 < 16 := Nat.and_lt_two_pow (n := 4) y (by omega)
          have hc := HT.out _ hlt
          have hx2 : bits .xor .u32 ((y : Int) / 16) (tabAt (y &&& 15)) = ((nib y : Nat) : Int) := u32_xor_nat (y / 16) (tabAt (y &&& 15)) (by omega) (tabAt_lt _)
          go_wp2
          go_round
          case rel => exact ⟨j + 1, by omega, by go_num, by rw [HN1.out]; exact nib_lt y hy, by rw [HN1.out]⟩
          case measure => simp [intOf]; omega
        · obtain rfl : j = 2 := by omega
          generalize nibs x 2 = y at *
          go_wp2
          go_round
          case rel => exact ⟨k + 1, by omega, by go_num, by rw [HU2.out, ← HX.out]; exact hy, by rw [HU2.out, ← HX.out]⟩
          case measure => simp [intOf]; omega
    · have HE' := HE.out (by have := HN.out; omega)
      have hx := not_u32 v hv
      clear HU HE hb
      go_wp2
      go_ret
      exact ⟨rfl, rfl⟩

set_option maxRecDepth 100000 in
set_option maxHeartbeats 400000 in
theorem sum_any (A : Option Addr) (n c B : Nat) (bs : List UInt8) (w : World) (hT : TabOk w) (hr : Reads w B 1 A n (bs.map bval)) (hm : n ≤ maxLen) :
    Calls Tryz.prog 74 #[.slice A n c] w fun e w' => e = .returned (.int .u32 (crcMore 0 bs)) ∧ w = w' := by
  have HC := Lib.hid (more_any A n c B 0 bs w (by omega) hT hr hm)
  clear hT hr
  go_enter Tryz.func74, Tryz.ntmps74
  go_wp2_with (go_at_call 73; refine HC.out.mono ?_; rintro e w1 ⟨rfl, rfl⟩)
  go_ret
  exact ⟨rfl, rfl⟩
set_option maxRecDepth 100000 in
set_option maxHeartbeats 400000 in
theorem refSum_any (A : Option Addr) (n c B : Nat) (bs : List UInt8) (w : World) (hr : Reads w B 1 A n (bs.map bval)) (hm : n ≤ maxLen) :
    Calls Tryz.prog 78 #[.slice A n c] w fun e w' => e = .returned (.int .u32 (crcMore 0 bs)) ∧ w = w' := by
  have HE : Hid ((refMore 0#32 bs).toNat = crcMore 0 bs) := refMore_eq 0#32 bs
  have HC := Lib.hid (refMore_any A n c B 0#32 bs w hr hm)
  rw [HE.out] at HC
  clear hr HE
  go_enter Tryz.func78, Tryz.ntmps78
  go_wp2_with (go_at_call 79; refine HC.out.mono ?_; rintro e w1 ⟨rfl, rfl⟩)
  go_ret
  exact ⟨rfl, rfl⟩

/-- The published sum. -/
theorem check_sum : crcMore 0 [49, 50, 51, 52, 53, 54, 55, 56, 57] = 3421780262 := by decide +kernel
end Go.Proofs.YtalkglmneicpoaaGreatDoor
