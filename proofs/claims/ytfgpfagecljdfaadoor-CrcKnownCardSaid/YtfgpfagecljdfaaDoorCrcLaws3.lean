/-
  The walk of CrcTurns.
-/
import Derived.Test.YtfgpfagecljdfaaDoorCrcLaws2
import Derived.Deep.RegionHeld3
namespace Go.Proofs.YtfgpfagecljdfaaDoor
set_option linter.unusedVariables false
set_option linter.unusedSimpArgs false
open Go.RowKit

theorem run_min4 {P : Program} (ts : Array TypeId) (t : TypeId) (a b c d : Nat) (W : World) :
    (Builtin.min_ ts t #[.int .i64 (a : Int), .int .i64 (b : Int), .int .i64 (c : Int), .int .i64 (d : Int)]).run P W = .ok (.int .i64 ((min (min (min a b) c) d : Nat) : Int)) W := by
  simp only [Builtin.min_, Builtin.min2, List.foldlM_cons, List.foldlM_nil, pure_bind]
  have h : ∀ x y : Nat, (if (y : Int) < (x : Int) then (y : Int) else (x : Int)) = ((min x y : Nat) : Int) := by
    intro x y
    by_cases hh : y < x
    · rw [if_pos (by omega), Nat.min_eq_right (by omega)]
    · rw [if_neg (by omega), Nat.min_eq_left (by omega)]
  rw [h, h, h]
  rfl

set_option maxRecDepth 100000 in
set_option maxHeartbeats 1000000 in
theorem crcTurns_any (A1 A2 A3 : Option Addr) (n1 n2 n3 c1 c2 c3 B : Nat) (xa xb xc : List UInt8) (w : World) (hT : TabOk w)
    (ha : Reads w B 1 A1 n1 (xa.map bval)) (hb : Reads w B 1 A2 n2 (xb.map bval)) (hc : Reads w B 1 A3 n3 (xc.map bval)) (hB : B ≤ w.heap.size)
    (hm1 : n1 ≤ c1) (hm2 : n2 ≤ c2) (hm3 : n3 ≤ c3) (hx1 : n1 ≤ maxLen) (hx2 : n2 ≤ maxLen) (hx3 : n3 ≤ maxLen) :
    Calls Tryd.prog 5 #[.slice A1 n1 c1, .slice A2 n2 c2, .slice A3 n3 c3] w fun e w' => e = .returned (.bool true) ∧ Below w.heap.size w w' := by
  unfold maxLen at hx1 hx2 hx3
  have hmin : ∀ W, (Builtin.min_ #[3, 3, 3, 3] 3 #[.int .i64 (n1 : Int), .int .i64 (n2 : Int), .int .i64 (n3 : Int), .int .i64 4096]).run Tryd.prog W = .ok (.int .i64 ((min (min (min n1 n2) n3) 4096 : Nat) : Int)) W := fun W => run_min4 _ _ n1 n2 n3 4096 W
  have hn1 : min (min (min n1 n2) n3) 4096 ≤ n1 := by omega
  have hn2 : min (min (min n1 n2) n3) 4096 ≤ n2 := by omega
  have hn3 : min (min (min n1 n2) n3) 4096 ≤ n3 := by omega
  have hn4 : min (min (min n1 n2) n3) 4096 ≤ 4096 := by omega
  generalize min (min (min n1 n2) n3) 4096 = n at *
  have k1 : n ≤ c1 := by omega
  have k2 : n ≤ c2 := by omega
  have k3 : n ≤ c3 := by omega
  have ra : Reads w B 1 A1 n ((xa.take n).map bval) := by simpa using ha.take hn1
  have rb : Reads w B 1 A2 n ((xb.take n).map bval) := by simpa using hb.take hn2
  have rc : Reads w B 1 A3 n ((xc.take n).map bval) := by simpa using hc.take hn3
  have hE := Lib.hid (crc_turns (xa.take n) (xb.take n) (xc.take n) (by rw [ra.bytes_len, rc.bytes_len]) (by rw [rb.bytes_len, rc.bytes_len]))
  clear ha hb hc
  generalize xa.take n = xa at *
  generalize xb.take n = xb at *
  generalize xc.take n = xc at *
  have HT := Lib.hid hT
  have C1 := Lib.hid (sum_any A1 n c1 B xa w hT ra (by unfold maxLen; omega))
  have C2 := Lib.hid (turned_any A1 A3 n c1 c3 B xa xc w ra rc hB (by omega))
  have Rb := Lib.hid rb
  have Rc := Lib.hid rc
  clear hT ra rb rc
  have hl1 := crcMore_lt 0 xa
  have hl2 := crcMore_lt 0 (xorB xa xc)
  have hl3 := crcMore_lt 0 xb
  have hl4 := crcMore_lt 0 (xorB xb xc)
  have hxa := u32_xor_nat _ _ hl1 hl2
  have hxb := u32_xor_nat _ _ hl3 hl4
  go_enter Tryd.func5, Tryd.ntmps5
  go_wp2_with fail
  go_must (refine C1.out.mono ?_)
  rintro e w1 ⟨rfl, rfl⟩
  go_wp2_with fail
  go_must (refine C2.out.mono ?_)
  rintro e w1 ⟨v1, rfl, hown1, hb1⟩
  obtain ⟨A4, c4, rfl, hc4, hc4', _⟩ := own_slice hown1
  have C3 := Lib.hid (sum_any A4 n c4 _ _ w1 (HT.out.below hb1 HT.out.pos) (Reads.of_own hown1) (by unfold maxLen; omega))
  have C4 := Lib.hid (sum_any A2 n c2 B xb w1 (HT.out.below hb1 HT.out.pos) (Rb.out.below (hb1.mono hB)) (by unfold maxLen; omega))
  have C5 := Lib.hid (turned_any A2 A3 n c2 c3 B xb xc w1 (Rb.out.below (hb1.mono hB)) (Rc.out.below (hb1.mono hB)) (by have := hb1.size; omega) (by omega))
  clear hown1
  go_wp2_with fail
  go_must (refine C3.out.mono ?_)
  rintro e w2 ⟨rfl, rfl⟩
  go_wp2_with fail
  go_must (refine C4.out.mono ?_)
  rintro e w2 ⟨rfl, rfl⟩
  go_wp2_with fail
  go_must (refine C5.out.mono ?_)
  rintro e w2 ⟨v2, rfl, hown2, hb2⟩
  obtain ⟨A5, c5, rfl, hc5, hc5', _⟩ := own_slice hown2
  have hb12 := hb1.trans (hb2.mono hb1.size)
  have C6 := Lib.hid (sum_any A5 n c5 _ _ w2 (HT.out.below hb12 HT.out.pos) (Reads.of_own hown2) (by unfold maxLen; omega))
  have C7 := Lib.hid (works_any w2 (HT.out.below hb12 HT.out.pos))
  have hEE : (((crcMore 0 xa ^^^ crcMore 0 (xorB xa xc) : Nat) : Int) == ((crcMore 0 xb ^^^ crcMore 0 (xorB xb xc) : Nat) : Int)) = true := by rw [hE.out]; simp
  clear hown2
  go_wp2_with fail
  go_must (refine C6.out.mono ?_)
  rintro e w3 ⟨rfl, rfl⟩
  go_wp2_with fail
  go_must (refine C7.out.mono ?_)
  rintro e w3 ⟨rfl, hb3⟩
  go_wp2
  go_ret
  exact ⟨rfl, hb12.trans (hb3.mono hb12.size)⟩
end Go.Proofs.YtfgpfagecljdfaaDoor
