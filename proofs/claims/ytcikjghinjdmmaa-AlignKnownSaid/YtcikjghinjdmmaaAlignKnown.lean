/-
  The walk of AlignKnown.
-/
import Derived.Test.YtcikjghinjdmmaaAlignBar
import Derived.Test.YtcikjghinjdmmaaAlignWide
namespace Go.Proofs.Ytcikjghinjdmmaa
set_option linter.unusedVariables false
set_option linter.unusedSimpArgs false
open Go.RowKit

set_option maxRecDepth 100000 in
set_option maxHeartbeats 4000000 in
theorem alignKnown_any (w : World) :
    Calls Try.prog 7 #[] w fun e w' => e = .returned (.bool true) ∧ Below w.heap.size w w' := by
  have C0 := Lib.hid (new_al 2 w)
  have e0 : Hid (alBar 2 (alNew : AlSt) 0 2 = (((noneL.set 0 true, some 2, none) : AlSt), false)) := by show _ = _; decide
  have e1 : Hid (alBar 2 ((noneL.set 0 true, some 2, none) : AlSt) 1 3 = (((noneL.set 1 true, some 3, none) : AlSt), false)) := by show _ = _; decide
  have e2 : Hid (alBlocked ((noneL.set 1 true, some 3, none) : AlSt) 0 = false) := by show _ = _; decide
  have e3 : Hid (alBar 2 ((noneL.set 1 true, some 3, none) : AlSt) 0 2 = (((noneL.set 1 true, some 3, none) : AlSt), false)) := by show _ = _; decide
  have e4 : Hid (alBar 2 ((noneL.set 1 true, some 3, none) : AlSt) 0 3 = (((noneL, none, some 3) : AlSt), true)) := by show _ = _; decide
  have e5 : Hid (alBar 2 ((noneL, none, some 3) : AlSt) 1 3 = (((noneL, none, some 3) : AlSt), false)) := by show _ = _; decide
  have e6 : Hid (alBar 1 (alNew : AlSt) 0 (-9223372036854775808) = (((noneL, none, some (-9223372036854775808)) : AlSt), true)) := by show _ = _; decide
  have e7 : Hid (alBar 1 ((noneL, none, some (-9223372036854775808)) : AlSt) 0 (-9223372036854775808) = (((noneL, none, some (-9223372036854775808)) : AlSt), false)) := by show _ = _; decide
  have e8 : Hid (alBar 1 ((noneL, none, some (-9223372036854775808)) : AlSt) 0 9223372036854775807 = (((noneL, none, some 9223372036854775807) : AlSt), true)) := by show _ = _; decide
  have e9 : Hid (alBar 1 ((noneL, none, some 9223372036854775807) : AlSt) 0 9223372036854775807 = (((noneL, none, some 9223372036854775807) : AlSt), false)) := by show _ = _; decide
  have e10 : Hid (alBar 1 ((noneL, none, some 9223372036854775807) : AlSt) 1 5 = (((noneL, none, some 9223372036854775807) : AlSt), false)) := by show _ = _; decide
  have e11 : Hid (alBar 1 ((noneL, none, some 9223372036854775807) : AlSt) (-1) 5 = (((noneL, none, some 9223372036854775807) : AlSt), false)) := by show _ = _; decide
  have e12 : Hid (alBlocked ((noneL, none, some 9223372036854775807) : AlSt) 0 = false) := by show _ = _; decide
  have e13 : Hid (alBlocked ((noneL, none, some 9223372036854775807) : AlSt) (-1) = false) := by show _ = _; decide
  have e14 : Hid (alBlocked ((noneL, none, some 9223372036854775807) : AlSt) 99 = false) := by show _ = _; decide
  go_enter Try.func7, Try.ntmps7
  go_wp2_with fail
  go_must (refine C0.out.mono ?_)
  rintro e x0 ⟨rfl, hr0, hb0⟩
  have B := bar_any w.heap.size 2 (alNew : AlSt) none none 0 2 x0 (by omega) hr0
  rw [e0.out] at B
  have D0 := Lib.hid B
  clear B hr0 e0
  go_wp2_with fail
  go_must (refine D0.out.mono ?_)
  rintro e x1 ⟨ap1, lp1, rfl, hr1, hg1, _, _⟩
  have hb1 := hb0.trans (only_below_of hg1 (Nat.le_refl _) hb0.size)
  clear hg1 D0
  have B := bar_any w.heap.size 2 ((noneL.set 0 true, some 2, none) : AlSt) ap1 lp1 1 3 x1 (by omega) hr1
  rw [e1.out] at B
  have D1 := Lib.hid B
  clear B hr1 e1
  go_wp2_with fail
  go_must (refine D1.out.mono ?_)
  rintro e x2 ⟨ap2, lp2, rfl, hr2, hg2, _, _⟩
  have hb2 := hb1.trans (only_below_of hg2 (Nat.le_refl _) hb1.size)
  clear hg2 D1
  have B := blocked_any w.heap.size 2 ((noneL.set 1 true, some 3, none) : AlSt) ap2 lp2 0 x2 hr2
  rw [e2.out] at B
  have D2 := Lib.hid B
  clear B
  have HR2 := Lib.hid hr2
  clear hr2
  go_wp2_with fail
  go_must (refine D2.out.mono ?_)
  rintro e y ⟨rfl, rfl⟩
  clear D2
  have hr2 := HR2.out
  clear HR2
  have B := bar_any w.heap.size 2 ((noneL.set 1 true, some 3, none) : AlSt) ap2 lp2 0 2 x2 (by omega) hr2
  rw [e3.out] at B
  have D3 := Lib.hid B
  clear B hr2 e3
  go_wp2_with fail
  go_must (refine D3.out.mono ?_)
  rintro e x3 ⟨ap3, lp3, rfl, hr3, hg3, _, _⟩
  have hb3 := hb2.trans (only_below_of hg3 (Nat.le_refl _) hb2.size)
  clear hg3 D3
  have B := bar_any w.heap.size 2 ((noneL.set 1 true, some 3, none) : AlSt) ap3 lp3 0 3 x3 (by omega) hr3
  rw [e4.out] at B
  have D4 := Lib.hid B
  clear B hr3 e4
  go_wp2_with fail
  go_must (refine D4.out.mono ?_)
  rintro e x4 ⟨ap4, lp4, rfl, hr4, hg4, _, _⟩
  have hb4 := hb3.trans (only_below_of hg4 (Nat.le_refl _) hb3.size)
  clear hg4 D4
  have B := bar_any w.heap.size 2 ((noneL, none, some 3) : AlSt) ap4 lp4 1 3 x4 (by omega) hr4
  rw [e5.out] at B
  have D5 := Lib.hid B
  clear B hr4 e5
  go_wp2_with fail
  go_must (refine D5.out.mono ?_)
  rintro e x5 ⟨ap5, lp5, rfl, hr5, hg5, _, _⟩
  have hb5 := hb4.trans (only_below_of hg5 (Nat.le_refl _) hb4.size)
  clear hg5 D5
  have CN := Lib.hid (new_al 1 x5)
  clear hr5
  go_wp2_with fail
  go_must (refine CN.out.mono ?_)
  rintro e z ⟨rfl, hrz, hbz⟩
  have hbzz := hb5.trans (hbz.mono hb5.size)
  have HGL : Hid (w.heap.size ≤ x5.heap.size) := hb5.size
  clear CN hbz

  have B := bar_any x5.heap.size 1 (alNew : AlSt) none none 0 (-9223372036854775808) z (by omega) hrz
  rw [e6.out] at B
  have D6 := Lib.hid B
  clear B hrz e6
  go_wp2_with fail
  go_must (refine D6.out.mono ?_)
  rintro e z1 ⟨bp1, mp1, rfl, hs1, hg, _, _⟩
  have hc1 := hbzz.trans (only_below_of hg HGL.out hbzz.size)
  clear hg D6
  have B := bar_any x5.heap.size 1 ((noneL, none, some (-9223372036854775808)) : AlSt) bp1 mp1 0 (-9223372036854775808) z1 (by omega) hs1
  rw [e7.out] at B
  have D7 := Lib.hid B
  clear B hs1 e7
  go_wp2_with fail
  go_must (refine D7.out.mono ?_)
  rintro e z2 ⟨bp2, mp2, rfl, hs2, hg, _, _⟩
  have hc2 := hc1.trans (only_below_of hg HGL.out hc1.size)
  clear hg D7
  have B := bar_any x5.heap.size 1 ((noneL, none, some (-9223372036854775808)) : AlSt) bp2 mp2 0 9223372036854775807 z2 (by omega) hs2
  rw [e8.out] at B
  have D8 := Lib.hid B
  clear B hs2 e8
  go_wp2_with fail
  go_must (refine D8.out.mono ?_)
  rintro e z3 ⟨bp3, mp3, rfl, hs3, hg, _, _⟩
  have hc3 := hc2.trans (only_below_of hg HGL.out hc2.size)
  clear hg D8
  have B := bar_any x5.heap.size 1 ((noneL, none, some 9223372036854775807) : AlSt) bp3 mp3 0 9223372036854775807 z3 (by omega) hs3
  rw [e9.out] at B
  have D9 := Lib.hid B
  clear B hs3 e9
  go_wp2_with fail
  go_must (refine D9.out.mono ?_)
  rintro e z4 ⟨bp4, mp4, rfl, hs4, hg, _, _⟩
  have hc4 := hc3.trans (only_below_of hg HGL.out hc3.size)
  clear hg D9
  have B := bar_any x5.heap.size 1 ((noneL, none, some 9223372036854775807) : AlSt) bp4 mp4 1 5 z4 (by omega) hs4
  rw [e10.out] at B
  have D10 := Lib.hid B
  clear B hs4 e10
  go_wp2_with fail
  go_must (refine D10.out.mono ?_)
  rintro e z5 ⟨bp5, mp5, rfl, hs5, hg, _, _⟩
  have hc5 := hc4.trans (only_below_of hg HGL.out hc4.size)
  clear hg D10
  have B := bar_any x5.heap.size 1 ((noneL, none, some 9223372036854775807) : AlSt) bp5 mp5 (-1) 5 z5 (by omega) hs5
  rw [e11.out] at B
  have D11 := Lib.hid B
  clear B hs5 e11
  go_wp2_with fail
  go_must (refine D11.out.mono ?_)
  rintro e z6 ⟨bp6, mp6, rfl, hs6, hg, _, _⟩
  have hc6 := hc5.trans (only_below_of hg HGL.out hc5.size)
  clear hg D11
  have B := blocked_any x5.heap.size 1 ((noneL, none, some 9223372036854775807) : AlSt) bp6 mp6 0 z6 hs6
  rw [e12.out] at B
  have D12 := Lib.hid B
  clear B
  have HR12 := Lib.hid hs6
  clear hs6
  go_wp2_with fail
  go_must (refine D12.out.mono ?_)
  rintro e y ⟨rfl, rfl⟩
  clear D12
  have hs6 := HR12.out
  clear HR12
  have B := blocked_any x5.heap.size 1 ((noneL, none, some 9223372036854775807) : AlSt) bp6 mp6 (-1) z6 hs6
  rw [e13.out] at B
  have D13 := Lib.hid B
  clear B
  have HR13 := Lib.hid hs6
  clear hs6
  go_wp2_with fail
  go_must (refine D13.out.mono ?_)
  rintro e y ⟨rfl, rfl⟩
  clear D13
  have hs6 := HR13.out
  clear HR13
  have B := blocked_any x5.heap.size 1 ((noneL, none, some 9223372036854775807) : AlSt) bp6 mp6 99 z6 hs6
  rw [e14.out] at B
  have D14 := Lib.hid B
  clear B
  have HR14 := Lib.hid hs6
  clear hs6
  go_wp2_with fail
  go_must (refine D14.out.mono ?_)
  rintro e y ⟨rfl, rfl⟩
  clear D14
  have hs6 := HR14.out
  clear HR14
  clear hs6
  have W0 := Lib.hid (alignWide_any 63 5 false 1 z6 (by omega) (by omega) (by omega) (by omega))
  go_wp2_with fail
  go_must (refine W0.out.mono ?_)
  rintro e u0 ⟨rfl, hw0⟩
  have hd0 := hc6.trans (hw0.mono hc6.size)
  clear hw0 W0
  have W1 := Lib.hid (alignWide_any 64 5 true 2 u0 (by omega) (by omega) (by omega) (by omega))
  go_wp2_with fail
  go_must (refine W1.out.mono ?_)
  rintro e u1 ⟨rfl, hw1⟩
  have hd1 := hd0.trans (hw1.mono hd0.size)
  clear hw1 W1
  have W2 := Lib.hid (alignWide_any 71 0 false 3 u1 (by omega) (by omega) (by omega) (by omega))
  go_wp2_with fail
  go_must (refine W2.out.mono ?_)
  rintro e u2 ⟨rfl, hw2⟩
  have hd2 := hd1.trans (hw2.mono hd1.size)
  clear hw2 W2
  have W3 := Lib.hid (alignWide_any 95 9 true (-4) u2 (by omega) (by omega) (by omega) (by omega))
  go_wp2_with fail
  go_must (refine W3.out.mono ?_)
  rintro e u3 ⟨rfl, hw3⟩
  have hd3 := hd2.trans (hw3.mono hd2.size)
  clear hw3 W3
  have WK := Lib.hid (known_any u3)
  go_wp2_with fail
  go_must (refine WK.out.mono ?_)
  rintro e uk ⟨rfl, hk⟩
  go_wp2_with fail
  go_ret
  exact ⟨rfl, hd3.trans (hk.mono hd3.size)⟩
end Go.Proofs.Ytcikjghinjdmmaa
