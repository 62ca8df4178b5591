/-
  The walk of CrcThree.
-/
import Derived.Test.YtfgpfagecljdfaaDoorCrcLaws3
import Derived.Deep.RegionHeld3
import Derived.Deep.RegionWith
namespace Go.Proofs.YtfgpfagecljdfaaDoor
set_option linter.unusedVariables false
set_option linter.unusedSimpArgs false
open Go.RowKit

set_option maxRecDepth 100000 in
set_option maxHeartbeats 1000000 in
theorem crcThree_any (A1 A2 A3 : Option Addr) (n1 n2 n3 c1 c2 c3 B : Nat) (xa xb xc : List UInt8) (w : World) (hT : TabOk w)
    (ha : Reads w B 1 A1 n1 (xa.map bval)) (hb : Reads w B 1 A2 n2 (xb.map bval)) (hc : Reads w B 1 A3 n3 (xc.map bval)) (hB : B ≤ w.heap.size)
    (hm1 : n1 ≤ c1) (hm2 : n2 ≤ c2) (hm3 : n3 ≤ c3) (hx1 : n1 ≤ maxLen) (hx2 : n2 ≤ maxLen) (hx3 : n3 ≤ maxLen) :
    Calls Tryd.prog 6 #[.slice A1 n1 c1, .slice A2 n2 c2, .slice A3 n3 c3] w fun e w' => e = .returned (.bool true) ∧ Below w.heap.size w w' := by
  unfold maxLen at hx1 hx2 hx3
  have hmin : ∀ W, (Builtin.min_ #[3, 3, 3, 3] 3 #[.int .i64 (n1 : Int), .int .i64 (n2 : Int), .int .i64 (n3 : Int), .int .i64 4096]).run Tryd.prog W = .ok (.int .i64 ((min (min (min n1 n2) n3) 4096 : Nat) : Int)) W := fun W => run_min4 _ _ n1 n2 n3 4096 W
  have hn1 : min (min (min n1 n2) n3) 4096 ≤ n1 := by omega
  have hn2 : min (min (min n1 n2) n3) 4096 ≤ n2 := by omega
  have hn3 : min (min (min n1 n2) n3) 4096 ≤ n3 := by omega
  have hn4 : min (min (min n1 n2) n3) 4096 ≤ 4096 := by omega
  generalize min (min (min n1 n2) n3) 4096 = n at *
  have k1 : n ≤ c1 := by omega
  have k2 : n ≤ c2 := by omega
  have k3 : n ≤ c3 := by omega
  have ra : Reads w B 1 A1 n ((xa.take n).map bval) := by simpa using ha.take hn1
  have rb : Reads w B 1 A2 n ((xb.take n).map bval) := by simpa using hb.take hn2
  have rc : Reads w B 1 A3 n ((xc.take n).map bval) := by simpa using hc.take hn3
  have hE := Lib.hid (crc_three (xa.take n) (xb.take n) (xc.take n) (by rw [ra.bytes_len, rb.bytes_len]) (by rw [ra.bytes_len, rc.bytes_len]))
  clear ha hb hc
  generalize xa.take n = xa at *
  generalize xb.take n = xb at *
  generalize xc.take n = xc at *
  have HT := Lib.hid hT
  have C2 := Lib.hid (turned_any A1 A2 n c1 c2 B xa xb w.drew ra rb hB (by omega))
  have Ra := Lib.hid ra
  have Rb := Lib.hid rb
  have Rc := Lib.hid rc
  clear hT ra rb rc
  go_enter Tryd.func6, Tryd.ntmps6
  go_wp2_with fail
  go_region_held3 (fun _ => True) (trivial) ((first | ((go_at_call 16; (with_reducible refine C2.out.mono ?_); rintro e w1 ⟨v1, rfl, hown1, hb1⟩; obtain ⟨A4, c4, rfl, hc4, hc4', _⟩ := own_slice hown1)) | ((go_at_call 16; refine (turned_any _ A3 n _ c3 w1.heap.size (xorB xa xb) xc w1 (Reads.of_own hown1) ((Rc.out.drew.below (hb1.mono hB)).more (Nat.le_trans hB hb1.size)) (Nat.le_refl _) (by omega)).mono ?_; rintro e w2 ⟨v2, rfl, hown2, hb2⟩))))
  obtain ⟨A5, c5, rfl, hc5, hc5', _⟩ := own_slice hown2
  have hb01 : Below w.heap.size w w1 := ((Below.refl _ _).drew).trans hb1
  have hb12 : Below w.heap.size w w2 := hb01.trans (hb2.mono hb01.size)
  have hT2 := HT.out.below hb12 HT.out.pos
  have S1 := Lib.hid (sum_any A1 n c1 B xa w2.drew hT2 (Ra.out.below (hb12.drew.mono hB)) (by unfold maxLen; omega))
  have S2 := Lib.hid (sum_any A2 n c2 B xb w2.drew hT2 (Rb.out.below (hb12.drew.mono hB)) (by unfold maxLen; omega))
  have S3 := Lib.hid (sum_any A3 n c3 B xc w2.drew hT2 (Rc.out.below (hb12.drew.mono hB)) (by unfold maxLen; omega))
  have S4 := Lib.hid (sum_any A5 n c5 _ (xorB (xorB xa xb) xc) w2.drew hT2 (Reads.of_own hown2) (by unfold maxLen; omega))
  have S5 := Lib.hid (works_any w2.drew hT2)
  have hl1 := crcMore_lt 0 xa
  have hl2 := crcMore_lt 0 xb
  have hl3 := crcMore_lt 0 xc
  rw [← hE.out] at S4
  clear hT2 hown1 hown2
  generalize crcMore 0 xa = x1 at *
  generalize crcMore 0 xb = x2 at *
  generalize crcMore 0 xc = x3 at *
  have hl12 : x1 ^^^ x2 < 4294967296 := Nat.xor_lt_two_pow (n := 32) hl1 hl2
  have hx1 := u32_xor_nat _ _ hl1 hl2
  have hx2 := u32_xor_nat _ _ hl12 hl3
  have hEE : (((x1 ^^^ x2 ^^^ x3 : Nat) : Int) == ((x1 ^^^ x2 ^^^ x3 : Nat) : Int)) = true := by simp
  go_wp2_with fail
  go_region_held3 (fun _ => True) (trivial) ((first | ((go_at_call 10; (first | (with_reducible refine S1.out.mono ?_) | (with_reducible refine S2.out.mono ?_) | (with_reducible refine S3.out.mono ?_) | (with_reducible refine S4.out.mono ?_)); rintro e w3 ⟨rfl, rfl⟩)) | ((go_at_call 8; refine S5.out.mono ?_; rintro e w3 ⟨rfl, hb3⟩))))
  go_wp2
  go_ret
  exact ⟨rfl, (hb12.drew).trans (hb3.mono hb12.size)⟩
end Go.Proofs.YtfgpfagecljdfaaDoor
