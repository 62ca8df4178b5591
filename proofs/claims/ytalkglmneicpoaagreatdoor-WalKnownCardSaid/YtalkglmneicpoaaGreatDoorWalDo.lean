/-
  A call of the pair (do), kind by kind.
-/
import Derived.Test.YtalkglmneicpoaaGreatDoorWalPair
import Derived.Test.YtalkglmneicpoaaGreatDoorWalActs
import Derived.Test.YtalkglmneicpoaaGreatDoorLent
import Derived.StillTailTactics
namespace Go.Proofs.YtalkglmneicpoaaGreatDoor
set_option linter.unusedVariables false
set_option linter.unusedSimpArgs false
open Go.RowKit
theorem updF_some (a : Bool) (l : Nat) (L : Bool → Nat) : updF a (some l) (fun b => some (L b)) = fun b => some (updF a l L b) := by
  funext b; unfold updF; split <;> rfl
def DoPost (base gp gl gm gd gx N : Nat) (w : World) (e : Ending) (w' : World) : Prop :=
  e = .returned (.bool true) ∧ ∃ (st' : DSt) (L' M' : Bool → Nat), PairAt w' base gp gl gm gd gx N st' st' (fun a => some (L' a)) (fun a => some (M' a)) ∧ Below base w w'
theorem wroteB (N : Nat) (st : DSt) (a : Bool) (b : List UInt8) : ∃ k : Nat, wrote N st a b = (k : Int) := ⟨_, wrote_nat N st a b⟩
set_option maxRecDepth 100000 in
set_option maxHeartbeats 8000000 in
theorem pdo_1_false (nn fk : Int) (xA : Option Addr) (xm xc : Nat) (bs : List UInt8) (B : Nat) (pg : Addr) (base gp gl gm gd gx N : Nat) (st : DSt) (L M : Bool → Nat) (w : World) (hG : ∀ W, Below base w W → Glob pg W ∧ Reads W B 1 xA xm (bs.map bval)) (hgb : 3 ≤ base) (hB : B ≤ base) (hm : xm ≤ 4096) (hmc : xm ≤ xc)
    (h : PairAt w base gp gl gm gd gx N st st (fun a => some (L a)) (fun a => some (M a))) (hbase : base ≤ w.heap.size) (hn1 : -9223372036854775808 ≤ nn) (hn2 : nn ≤ 9223372036854775807) (ha : nn % 2 = 0) :
    Calls Tryz.prog 25 #[.pointer (some ⟨gp, 0, none⟩), .agg #[.int .i64 1, ival nn, ival fk, .slice xA xm xc]] w (DoPost base gp gl gm gd gx N w) := by
  have HGB := Lib.hid hG
  have HBS := Lib.hid hbase
  have HAB := Lib.hid h.ab
  have HLB : Hid (bs.length = xm) := (hG w (Below.refl _ _)).2.bytes_len
  obtain ⟨w1, hw1⟩ : ∃ w1, w1 = w.alloc (.cells #[.int .i64 1, .int .i64 nn, .int .i64 fk, .slice xA xm xc] 30) := ⟨_, rfl⟩
  have hb1 : Below w.heap.size w w1 := by rw [hw1]; exact (Below.refl _ _).alloc (Nat.le_refl _) _
  have HK1 : Hid (Blk w1 w.heap.size 30 #[.int .i64 1, .int .i64 nn, .int .i64 fk, .slice xA xm xc]) := by show Blk _ _ _ _; rw [hw1]; exact Blk.new _ _ _
  have hs1 : w1.heap.size = w.heap.size + 1 := by rw [hw1]; simp
  have PB1 := Lib.hid (h.b.below hb1)
  have T1 : Hid (Two false true (fun i => PairX gp gl gm (fun a => some (L a)) (fun a => some (M a)) i ∨ i = w.heap.size) w1 base gd gx N st st) := h.two.more hb1 (fun i hi => by
    rcases hi with h | h
    · exact .inl h
    · exact .inr ⟨by omega, by omega⟩)
  have HB1 : Hid (Below base w w1) := hb1.mono hbase
  have PK : Hid (Calls Tryz.prog 28 #[.int .i64 nn, .int .i64 2] w1 fun e w' => e = .returned (.int .i64 0) ∧ w1 = w') := by
    have := pick_any nn 2 w1 (by omega) (by omega) hn1 hn2
    rwa [ha] at this
  have HSZ := Lib.hid hs1
  clear hG h hbase hb1 hs1 ha
  go_enter Tryz.func25, Tryz.ntmps25
  go_wp2_with fail
  have hw1' : w.alloc (.cells #[.int .i64 1, .int .i64 nn, .int .i64 fk, .slice xA xm xc] 30) = w1 := hw1.symm
  rw [hw1']
  clear hw1 hw1'
  go_must (refine PK.out.mono ?_)
  rintro e _ ⟨rfl, rfl⟩
  have b0 : w1.cell? ⟨w.heap.size, 0, none⟩ = some (.int .i64 1) := HK1.out.cell 0
  have b1 : w1.cell? ⟨w.heap.size, 1, none⟩ = some (.int .i64 nn) := HK1.out.cell 1
  have b2 : w1.cell? ⟨w.heap.size, 2, none⟩ = some (.int .i64 fk) := HK1.out.cell 2
  have b3 : w1.cell? ⟨w.heap.size, 3, none⟩ = some (.slice xA xm xc) := HK1.out.cell 3
  have c0 : w1.cell? ⟨gp, 0, none⟩ = some (.pointer (some ⟨gd, 0, none⟩)) := PB1.out.bp.cell 0
  have c1 : w1.cell? ⟨gp, 1, none⟩ = some (.pointer (some ⟨gx, 0, none⟩)) := PB1.out.bp.cell 1
  have c2 : w1.cell? ⟨gp, 2, none⟩ = some (.slice (some ⟨gl, 0, none⟩) 2 2) := PB1.out.bp.cell 2
  have c3 : w1.cell? ⟨gp, 3, none⟩ = some (.slice (some ⟨gm, 0, none⟩) 2 2) := PB1.out.bp.cell 3
  have d1 : w1.cell? ⟨gl, 0, none⟩ = some (.pointer (some ⟨L false, 0, none⟩)) := PB1.out.bl.cell 0
  clear PK
  have D1 : Hid (Calls Tryz.prog 14 #[.pointer (some ⟨L false, 0, none⟩)] w1 fun e w' => e = .returned (.tuple #[]) ∧ Two false true (fun i => PairX gp gl gm (fun a => some (L a)) (fun a => some (M a)) i ∨ i = w.heap.size) w' base gd gx N (st.sync false) st ∧ Only (Rest base (fun i => PairX gp gl gm (fun a => some (L a)) (fun a => some (M a)) i ∨ i = w.heap.size)) w1 w') :=
    T1.out.left (fun S hd hb => wsync_any false (L false) base gd N S st w1 hd hb (PB1.out.lo false _ rfl))
  go_wp2_with fail
  go_must (refine D1.out.mono ?_)
  rintro e w2 ⟨rfl, ht2, ho2⟩
  have T2 := Lib.hid ht2
  have PB2 := Lib.hid (PB1.out.only ho2 (fun i hi h => h.2 (.inl hi)))
  have HB2 := Lib.hid (HB1.out.trans (ho2.rest T1.out.base_le))
  clear ht2 ho2 D1 b0 b1 b2 b3 c0 c1 c2 c3 d1
  have c3 : w2.cell? ⟨gp, 3, none⟩ = some (.slice (some ⟨gm, 0, none⟩) 2 2) := PB2.out.bp.cell 3
  have d2 : w2.cell? ⟨gm, 0, none⟩ = some (.pointer (some ⟨M false, 0, none⟩)) := PB2.out.bm.cell 0
  have D2 : Hid (Calls Tryz.prog 43 #[.pointer (some ⟨M false, 0, none⟩)] w2 fun e w' => e = .returned (.tuple #[]) ∧ Two false true (fun i => PairX gp gl gm (fun a => some (L a)) (fun a => some (M a)) i ∨ i = w.heap.size) w' base gd gx N (st.sync false) (st.sync false) ∧ Only (Rest base (fun i => PairX gp gl gm (fun a => some (L a)) (fun a => some (M a)) i ∨ i = w.heap.size)) w2 w') :=
    T2.out.right (fun S hd hb => rsync_any false (M false) base gx N S st w2 hd hb (PB2.out.mo false _ rfl))
  go_wp2_with fail
  go_must (refine D2.out.mono ?_)
  rintro e w3 ⟨rfl, ht3, ho3⟩
  have T3 := Lib.hid ht3
  have PB3 := Lib.hid (PB2.out.only ho3 (fun i hi h => h.2 (.inl hi)))
  have HB3 := Lib.hid (HB2.out.trans (ho3.rest T2.out.base_le))
  clear ht3 ho3 D2 c3 d2
  go_wp2_with fail
  go_ret
  exact ⟨rfl, _, L, M, ⟨T3.out.less (fun i h => .inl h), PB3.out, HAB.out⟩, HB3.out⟩
set_option maxRecDepth 100000 in
set_option maxHeartbeats 8000000 in
theorem pdo_2_false (nn fk : Int) (xA : Option Addr) (xm xc : Nat) (bs : List UInt8) (B : Nat) (pg : Addr) (base gp gl gm gd gx N : Nat) (st : DSt) (L M : Bool → Nat) (w : World) (hG : ∀ W, Below base w W → Glob pg W ∧ Reads W B 1 xA xm (bs.map bval)) (hgb : 3 ≤ base) (hB : B ≤ base) (hm : xm ≤ 4096) (hmc : xm ≤ xc)
    (h : PairAt w base gp gl gm gd gx N st st (fun a => some (L a)) (fun a => some (M a))) (hbase : base ≤ w.heap.size) (hn1 : -9223372036854775808 ≤ nn) (hn2 : nn ≤ 9223372036854775807) (ha : nn % 2 = 0) :
    Calls Tryz.prog 25 #[.pointer (some ⟨gp, 0, none⟩), .agg #[.int .i64 2, ival nn, ival fk, .slice xA xm xc]] w (DoPost base gp gl gm gd gx N w) := by
  have HGB := Lib.hid hG
  have HBS := Lib.hid hbase
  have HAB := Lib.hid h.ab
  have HLB : Hid (bs.length = xm) := (hG w (Below.refl _ _)).2.bytes_len
  obtain ⟨w1, hw1⟩ : ∃ w1, w1 = w.alloc (.cells #[.int .i64 2, .int .i64 nn, .int .i64 fk, .slice xA xm xc] 30) := ⟨_, rfl⟩
  have hb1 : Below w.heap.size w w1 := by rw [hw1]; exact (Below.refl _ _).alloc (Nat.le_refl _) _
  have HK1 : Hid (Blk w1 w.heap.size 30 #[.int .i64 2, .int .i64 nn, .int .i64 fk, .slice xA xm xc]) := by show Blk _ _ _ _; rw [hw1]; exact Blk.new _ _ _
  have hs1 : w1.heap.size = w.heap.size + 1 := by rw [hw1]; simp
  have PB1 := Lib.hid (h.b.below hb1)
  have T1 : Hid (Two false true (fun i => PairX gp gl gm (fun a => some (L a)) (fun a => some (M a)) i ∨ i = w.heap.size) w1 base gd gx N st st) := h.two.more hb1 (fun i hi => by
    rcases hi with h | h
    · exact .inl h
    · exact .inr ⟨by omega, by omega⟩)
  have HB1 : Hid (Below base w w1) := hb1.mono hbase
  have PK : Hid (Calls Tryz.prog 28 #[.int .i64 nn, .int .i64 2] w1 fun e w' => e = .returned (.int .i64 0) ∧ w1 = w') := by
    have := pick_any nn 2 w1 (by omega) (by omega) hn1 hn2
    rwa [ha] at this
  have HSZ := Lib.hid hs1
  clear hG h hbase hb1 hs1 ha
  go_enter Tryz.func25, Tryz.ntmps25
  go_wp2_with fail
  have hw1' : w.alloc (.cells #[.int .i64 2, .int .i64 nn, .int .i64 fk, .slice xA xm xc] 30) = w1 := hw1.symm
  rw [hw1']
  clear hw1 hw1'
  go_must (refine PK.out.mono ?_)
  rintro e _ ⟨rfl, rfl⟩
  have b0 : w1.cell? ⟨w.heap.size, 0, none⟩ = some (.int .i64 2) := HK1.out.cell 0
  have b1 : w1.cell? ⟨w.heap.size, 1, none⟩ = some (.int .i64 nn) := HK1.out.cell 1
  have b2 : w1.cell? ⟨w.heap.size, 2, none⟩ = some (.int .i64 fk) := HK1.out.cell 2
  have b3 : w1.cell? ⟨w.heap.size, 3, none⟩ = some (.slice xA xm xc) := HK1.out.cell 3
  have c0 : w1.cell? ⟨gp, 0, none⟩ = some (.pointer (some ⟨gd, 0, none⟩)) := PB1.out.bp.cell 0
  have c1 : w1.cell? ⟨gp, 1, none⟩ = some (.pointer (some ⟨gx, 0, none⟩)) := PB1.out.bp.cell 1
  have c2 : w1.cell? ⟨gp, 2, none⟩ = some (.slice (some ⟨gl, 0, none⟩) 2 2) := PB1.out.bp.cell 2
  have c3 : w1.cell? ⟨gp, 3, none⟩ = some (.slice (some ⟨gm, 0, none⟩) 2 2) := PB1.out.bp.cell 3
  have d1 : w1.cell? ⟨gl, 0, none⟩ = some (.pointer (some ⟨L false, 0, none⟩)) := PB1.out.bl.cell 0
  clear PK
  have D1 : Hid (Calls Tryz.prog 21 #[.pointer (some ⟨L false, 0, none⟩)] w1 fun e w' => e = .returned (.tuple #[]) ∧ Two false true (fun i => PairX gp gl gm (fun a => some (L a)) (fun a => some (M a)) i ∨ i = w.heap.size) w' base gd gx N (st.cut false 0) st ∧ Only (Rest base (fun i => PairX gp gl gm (fun a => some (L a)) (fun a => some (M a)) i ∨ i = w.heap.size)) w1 w') :=
    T1.out.left (fun S hd hb => wreset_any false (L false) base gd N S st w1 hd hb (PB1.out.lo false _ rfl))
  go_wp2_with fail
  go_must (refine D1.out.mono ?_)
  rintro e w2 ⟨rfl, ht2, ho2⟩
  have T2 := Lib.hid ht2
  have PB2 := Lib.hid (PB1.out.only ho2 (fun i hi h => h.2 (.inl hi)))
  have HB2 := Lib.hid (HB1.out.trans (ho2.rest T1.out.base_le))
  clear ht2 ho2 D1 b0 b1 b2 b3 c0 c1 c2 c3 d1
  have c3 : w2.cell? ⟨gp, 3, none⟩ = some (.slice (some ⟨gm, 0, none⟩) 2 2) := PB2.out.bp.cell 3
  have d2 : w2.cell? ⟨gm, 0, none⟩ = some (.pointer (some ⟨M false, 0, none⟩)) := PB2.out.bm.cell 0
  have D2 : Hid (Calls Tryz.prog 44 #[.pointer (some ⟨M false, 0, none⟩)] w2 fun e w' => e = .returned (.tuple #[]) ∧ Two false true (fun i => PairX gp gl gm (fun a => some (L a)) (fun a => some (M a)) i ∨ i = w.heap.size) w' base gd gx N (st.cut false 0) (st.cut false 0) ∧ Only (Rest base (fun i => PairX gp gl gm (fun a => some (L a)) (fun a => some (M a)) i ∨ i = w.heap.size)) w2 w') :=
    T2.out.right (fun S hd hb => rreset_any false (M false) base gx N S st w2 hd hb (PB2.out.mo false _ rfl))
  go_wp2_with fail
  go_must (refine D2.out.mono ?_)
  rintro e w3 ⟨rfl, ht3, ho3⟩
  have T3 := Lib.hid ht3
  have PB3 := Lib.hid (PB2.out.only ho3 (fun i hi h => h.2 (.inl hi)))
  have HB3 := Lib.hid (HB2.out.trans (ho3.rest T2.out.base_le))
  clear ht3 ho3 D2 c3 d2
  go_wp2_with fail
  go_ret
  exact ⟨rfl, _, L, M, ⟨T3.out.less (fun i h => .inl h), PB3.out, HAB.out⟩, HB3.out⟩
set_option maxRecDepth 100000 in
set_option maxHeartbeats 8000000 in
theorem pdo_4_false (nn fk : Int) (xA : Option Addr) (xm xc : Nat) (bs : List UInt8) (B : Nat) (pg : Addr) (base gp gl gm gd gx N : Nat) (st : DSt) (L M : Bool → Nat) (w : World) (hG : ∀ W, Below base w W → Glob pg W ∧ Reads W B 1 xA xm (bs.map bval)) (hgb : 3 ≤ base) (hB : B ≤ base) (hm : xm ≤ 4096) (hmc : xm ≤ xc)
    (h : PairAt w base gp gl gm gd gx N st st (fun a => some (L a)) (fun a => some (M a))) (hbase : base ≤ w.heap.size) (hn1 : -9223372036854775808 ≤ nn) (hn2 : nn ≤ 9223372036854775807) (ha : nn % 2 = 0) :
    Calls Tryz.prog 25 #[.pointer (some ⟨gp, 0, none⟩), .agg #[.int .i64 4, ival nn, ival fk, .slice xA xm xc]] w (DoPost base gp gl gm gd gx N w) := by
  have HGB := Lib.hid hG
  have HBS := Lib.hid hbase
  have HAB := Lib.hid h.ab
  have HLB : Hid (bs.length = xm) := (hG w (Below.refl _ _)).2.bytes_len
  obtain ⟨w1, hw1⟩ : ∃ w1, w1 = w.alloc (.cells #[.int .i64 4, .int .i64 nn, .int .i64 fk, .slice xA xm xc] 30) := ⟨_, rfl⟩
  have hb1 : Below w.heap.size w w1 := by rw [hw1]; exact (Below.refl _ _).alloc (Nat.le_refl _) _
  have HK1 : Hid (Blk w1 w.heap.size 30 #[.int .i64 4, .int .i64 nn, .int .i64 fk, .slice xA xm xc]) := by show Blk _ _ _ _; rw [hw1]; exact Blk.new _ _ _
  have hs1 : w1.heap.size = w.heap.size + 1 := by rw [hw1]; simp
  have PB1 := Lib.hid (h.b.below hb1)
  have T1 : Hid (Two false true (fun i => PairX gp gl gm (fun a => some (L a)) (fun a => some (M a)) i ∨ i = w.heap.size) w1 base gd gx N st st) := h.two.more hb1 (fun i hi => by
    rcases hi with h | h
    · exact .inl h
    · exact .inr ⟨by omega, by omega⟩)
  have HB1 : Hid (Below base w w1) := hb1.mono hbase
  have PK : Hid (Calls Tryz.prog 28 #[.int .i64 nn, .int .i64 2] w1 fun e w' => e = .returned (.int .i64 0) ∧ w1 = w') := by
    have := pick_any nn 2 w1 (by omega) (by omega) hn1 hn2
    rwa [ha] at this
  have HSZ := Lib.hid hs1
  clear hG h hbase hb1 hs1 ha
  go_enter Tryz.func25, Tryz.ntmps25
  go_wp2_with fail
  have hw1' : w.alloc (.cells #[.int .i64 4, .int .i64 nn, .int .i64 fk, .slice xA xm xc] 30) = w1 := hw1.symm
  rw [hw1']
  clear hw1 hw1'
  go_must (refine PK.out.mono ?_)
  rintro e _ ⟨rfl, rfl⟩
  have b0 : w1.cell? ⟨w.heap.size, 0, none⟩ = some (.int .i64 4) := HK1.out.cell 0
  have b1 : w1.cell? ⟨w.heap.size, 1, none⟩ = some (.int .i64 nn) := HK1.out.cell 1
  have b2 : w1.cell? ⟨w.heap.size, 2, none⟩ = some (.int .i64 fk) := HK1.out.cell 2
  have b3 : w1.cell? ⟨w.heap.size, 3, none⟩ = some (.slice xA xm xc) := HK1.out.cell 3
  have c0 : w1.cell? ⟨gp, 0, none⟩ = some (.pointer (some ⟨gd, 0, none⟩)) := PB1.out.bp.cell 0
  have c1 : w1.cell? ⟨gp, 1, none⟩ = some (.pointer (some ⟨gx, 0, none⟩)) := PB1.out.bp.cell 1
  have c2 : w1.cell? ⟨gp, 2, none⟩ = some (.slice (some ⟨gl, 0, none⟩) 2 2) := PB1.out.bp.cell 2
  have c3 : w1.cell? ⟨gp, 3, none⟩ = some (.slice (some ⟨gm, 0, none⟩) 2 2) := PB1.out.bp.cell 3
  have d1 : w1.cell? ⟨gl, 0, none⟩ = some (.pointer (some ⟨L false, 0, none⟩)) := PB1.out.bl.cell 0
  clear PK
  have C1 := Lib.hid (popen_false pg base gp gl gm gd gx N st (fun a => some (L a)) (fun a => some (M a)) w1 (fun W hW => (HGB.out W (HB1.out.trans hW)).1) ⟨T1.out.less (fun i h => .inl h), PB1.out, HAB.out⟩ T1.out.base_le)
  go_wp2_with fail
  go_must (refine C1.out.mono ?_)
  rintro e w2 ⟨rfl, l1, m1, hp, hb2⟩
  rw [updF_some, updF_some] at hp
  have HP := Lib.hid hp
  have HB2 := Lib.hid (HB1.out.trans hb2)
  clear hp hb2 C1
  go_wp2_with fail
  go_ret
  exact ⟨rfl, _, _, _, HP.out, HB2.out⟩
set_option maxRecDepth 100000 in
set_option maxHeartbeats 8000000 in
theorem pdo_3_false (nn fk : Int) (xA : Option Addr) (xm xc : Nat) (bs : List UInt8) (B : Nat) (pg : Addr) (base gp gl gm gd gx N : Nat) (st : DSt) (L M : Bool → Nat) (w : World) (hG : ∀ W, Below base w W → Glob pg W ∧ Reads W B 1 xA xm (bs.map bval)) (hgb : 3 ≤ base) (hB : B ≤ base) (hm : xm ≤ 4096) (hmc : xm ≤ xc)
    (h : PairAt w base gp gl gm gd gx N st st (fun a => some (L a)) (fun a => some (M a))) (hbase : base ≤ w.heap.size) (hn1 : -9223372036854775808 ≤ nn) (hn2 : nn ≤ 9223372036854775807) (ha : nn % 2 = 0) :
    Calls Tryz.prog 25 #[.pointer (some ⟨gp, 0, none⟩), .agg #[.int .i64 3, ival nn, ival fk, .slice xA xm xc]] w (DoPost base gp gl gm gd gx N w) := by
  have HGB := Lib.hid hG
  have HBS := Lib.hid hbase
  have HAB := Lib.hid h.ab
  have HLB : Hid (bs.length = xm) := (hG w (Below.refl _ _)).2.bytes_len
  obtain ⟨w1, hw1⟩ : ∃ w1, w1 = w.alloc (.cells #[.int .i64 3, .int .i64 nn, .int .i64 fk, .slice xA xm xc] 30) := ⟨_, rfl⟩
  have hb1 : Below w.heap.size w w1 := by rw [hw1]; exact (Below.refl _ _).alloc (Nat.le_refl _) _
  have HK1 : Hid (Blk w1 w.heap.size 30 #[.int .i64 3, .int .i64 nn, .int .i64 fk, .slice xA xm xc]) := by show Blk _ _ _ _; rw [hw1]; exact Blk.new _ _ _
  have hs1 : w1.heap.size = w.heap.size + 1 := by rw [hw1]; simp
  have PB1 := Lib.hid (h.b.below hb1)
  have T1 : Hid (Two false true (fun i => PairX gp gl gm (fun a => some (L a)) (fun a => some (M a)) i ∨ i = w.heap.size) w1 base gd gx N st st) := h.two.more hb1 (fun i hi => by
    rcases hi with h | h
    · exact .inl h
    · exact .inr ⟨by omega, by omega⟩)
  have HB1 : Hid (Below base w w1) := hb1.mono hbase
  have PK : Hid (Calls Tryz.prog 28 #[.int .i64 nn, .int .i64 2] w1 fun e w' => e = .returned (.int .i64 0) ∧ w1 = w') := by
    have := pick_any nn 2 w1 (by omega) (by omega) hn1 hn2
    rwa [ha] at this
  have HSZ := Lib.hid hs1
  clear hG h hbase hb1 hs1 ha
  go_enter Tryz.func25, Tryz.ntmps25
  go_wp2_with fail
  have hw1' : w.alloc (.cells #[.int .i64 3, .int .i64 nn, .int .i64 fk, .slice xA xm xc] 30) = w1 := hw1.symm
  rw [hw1']
  clear hw1 hw1'
  go_must (refine PK.out.mono ?_)
  rintro e _ ⟨rfl, rfl⟩
  have b0 : w1.cell? ⟨w.heap.size, 0, none⟩ = some (.int .i64 3) := HK1.out.cell 0
  have b1 : w1.cell? ⟨w.heap.size, 1, none⟩ = some (.int .i64 nn) := HK1.out.cell 1
  have b2 : w1.cell? ⟨w.heap.size, 2, none⟩ = some (.int .i64 fk) := HK1.out.cell 2
  have b3 : w1.cell? ⟨w.heap.size, 3, none⟩ = some (.slice xA xm xc) := HK1.out.cell 3
  have c0 : w1.cell? ⟨gp, 0, none⟩ = some (.pointer (some ⟨gd, 0, none⟩)) := PB1.out.bp.cell 0
  have c1 : w1.cell? ⟨gp, 1, none⟩ = some (.pointer (some ⟨gx, 0, none⟩)) := PB1.out.bp.cell 1
  have c2 : w1.cell? ⟨gp, 2, none⟩ = some (.slice (some ⟨gl, 0, none⟩) 2 2) := PB1.out.bp.cell 2
  have c3 : w1.cell? ⟨gp, 3, none⟩ = some (.slice (some ⟨gm, 0, none⟩) 2 2) := PB1.out.bp.cell 3
  have d1 : w1.cell? ⟨gl, 0, none⟩ = some (.pointer (some ⟨L false, 0, none⟩)) := PB1.out.bl.cell 0
  clear PK
  have D1 : Hid (Calls Tryz.prog 15 #[.pointer (some ⟨gd, 0, none⟩), .int .i64 nn] (w1.drewN 1) fun e w' => e = .returned (.tuple #[]) ∧ Two false true (fun i => PairX gp gl gm (fun a => some (L a)) (fun a => some (M a)) i ∨ i = w.heap.size) w' base gd gx N (st.crash nn) st ∧ Only (Rest base (fun i => PairX gp gl gm (fun a => some (L a)) (fun a => some (M a)) i ∨ i = w.heap.size)) (w1.drewN 1) w') :=
    (T1.out.below (below_drewN (Below.refl _ _) 1)).left (fun S hd hb => crash_any base gd N S st nn (w1.drewN 1) hd hb)
  go_wp2_with fail
  go_still_tail 6, (by kernel_rfl)
  change wpList _ _ _ _ _ (w1.drewN 1)
  go_wp2_with fail
  go_must (refine D1.out.mono ?_)
  rintro e w2 ⟨rfl, ht2, ho2⟩
  have T2 := Lib.hid ht2
  have PB2 := Lib.hid ((PB1.out.only ((Only.refl (fun _ => False) w1).drewN 1) (fun _ _ h => h)).only ho2 (fun i hi h => h.2 (.inl hi)))
  have K2 := Lib.hid ((HK1.out.drewN 1).only ho2 (fun h => h.2 (.inr rfl)))
  have HB2 := Lib.hid ((below_drewN HB1.out 1).trans (ho2.rest (show base ≤ w1.heap.size from T1.out.base_le)))
  clear ht2 ho2 D1 b0 b1 b2 b3 c0 c1 c2 c3 d1
  have b1 : w2.cell? ⟨w.heap.size, 1, none⟩ = some (.int .i64 nn) := K2.out.cell 1
  have c1 : w2.cell? ⟨gp, 1, none⟩ = some (.pointer (some ⟨gx, 0, none⟩)) := PB2.out.bp.cell 1
  have D2 : Hid (Calls Tryz.prog 45 #[.pointer (some ⟨gx, 0, none⟩), .int .i64 nn] (w2.drewN 1) fun e w' => e = .returned (.tuple #[]) ∧ Two false true (fun i => PairX gp gl gm (fun a => some (L a)) (fun a => some (M a)) i ∨ i = w.heap.size) w' base gd gx N (st.crash nn) (st.crash nn) ∧ Only (Rest base (fun i => PairX gp gl gm (fun a => some (L a)) (fun a => some (M a)) i ∨ i = w.heap.size)) (w2.drewN 1) w') :=
    (T2.out.below (below_drewN (Below.refl _ _) 1)).right (fun S hd hb => rcrash_any base gx N S st nn (w2.drewN 1) hd hb)
  go_wp2_with fail
  go_still_tail 6, (by kernel_rfl)
  change wpList _ _ _ _ _ (w2.drewN 1)
  go_wp2_with fail
  go_must (refine D2.out.mono ?_)
  rintro e w3 ⟨rfl, ht3, ho3⟩
  have T3 := Lib.hid ht3
  have PB3 := Lib.hid ((PB2.out.only ((Only.refl (fun _ => False) w2).drewN 1) (fun _ _ h => h)).only ho3 (fun i hi h => h.2 (.inl hi)))
  have HB3 := Lib.hid ((below_drewN HB2.out 1).trans (ho3.rest (show base ≤ w2.heap.size from T2.out.base_le)))
  clear ht3 ho3 D2 b1 c1
  have C1 := Lib.hid (popen_false pg base gp gl gm gd gx N (st.crash nn) (fun a => some (L a)) (fun a => some (M a)) w3 (fun W hW => (HGB.out W (HB3.out.trans hW)).1) ⟨T3.out.less (fun i h => .inl h), PB3.out, HAB.out⟩ T3.out.base_le)
  go_wp2_with fail
  go_must (refine C1.out.mono ?_)
  rintro e w4 ⟨rfl, l1, m1, hp, hb4⟩
  rw [updF_some, updF_some] at hp
  have HP := Lib.hid hp
  have HB4 := Lib.hid (HB3.out.trans hb4)
  have C2 := Lib.hid (popen_true pg base gp gl gm gd gx N (openSt (st.crash nn) false) _ _ w4 (fun W hW => (HGB.out W (HB4.out.trans hW)).1) hp hp.two.base_le)
  clear hp hb4 C1
  go_wp2_with fail
  go_must (refine C2.out.mono ?_)
  rintro e w5 ⟨rfl, l2, m2, hp, hb5⟩
  rw [updF_some, updF_some] at hp
  have HP5 := Lib.hid hp
  have HB5 := Lib.hid (HB4.out.trans hb5)
  clear hp hb5 C2
  go_wp2_with fail
  go_ret
  exact ⟨rfl, _, _, _, HP5.out, HB5.out⟩
set_option maxRecDepth 100000 in
set_option maxHeartbeats 8000000 in
theorem pdo_5_false (nn fk : Int) (xA : Option Addr) (xm xc : Nat) (bs : List UInt8) (B : Nat) (pg : Addr) (base gp gl gm gd gx N : Nat) (st : DSt) (L M : Bool → Nat) (w : World) (hG : ∀ W, Below base w W → Glob pg W ∧ Reads W B 1 xA xm (bs.map bval)) (hgb : 3 ≤ base) (hB : B ≤ base) (hm : xm ≤ 4096) (hmc : xm ≤ xc)
    (h : PairAt w base gp gl gm gd gx N st st (fun a => some (L a)) (fun a => some (M a))) (hbase : base ≤ w.heap.size) (hn1 : -9223372036854775808 ≤ nn) (hn2 : nn ≤ 9223372036854775807) (ha : nn % 2 = 0) :
    Calls Tryz.prog 25 #[.pointer (some ⟨gp, 0, none⟩), .agg #[.int .i64 5, ival nn, ival fk, .slice xA xm xc]] w (DoPost base gp gl gm gd gx N w) := by
  have HGB := Lib.hid hG
  have HBS := Lib.hid hbase
  have HAB := Lib.hid h.ab
  have HLB : Hid (bs.length = xm) := (hG w (Below.refl _ _)).2.bytes_len
  obtain ⟨w1, hw1⟩ : ∃ w1, w1 = w.alloc (.cells #[.int .i64 5, .int .i64 nn, .int .i64 fk, .slice xA xm xc] 30) := ⟨_, rfl⟩
  have hb1 : Below w.heap.size w w1 := by rw [hw1]; exact (Below.refl _ _).alloc (Nat.le_refl _) _
  have HK1 : Hid (Blk w1 w.heap.size 30 #[.int .i64 5, .int .i64 nn, .int .i64 fk, .slice xA xm xc]) := by show Blk _ _ _ _; rw [hw1]; exact Blk.new _ _ _
  have hs1 : w1.heap.size = w.heap.size + 1 := by rw [hw1]; simp
  have PB1 := Lib.hid (h.b.below hb1)
  have T1 : Hid (Two false true (fun i => PairX gp gl gm (fun a => some (L a)) (fun a => some (M a)) i ∨ i = w.heap.size) w1 base gd gx N st st) := h.two.more hb1 (fun i hi => by
    rcases hi with h | h
    · exact .inl h
    · exact .inr ⟨by omega, by omega⟩)
  have HB1 : Hid (Below base w w1) := hb1.mono hbase
  have PK : Hid (Calls Tryz.prog 28 #[.int .i64 nn, .int .i64 2] w1 fun e w' => e = .returned (.int .i64 0) ∧ w1 = w') := by
    have := pick_any nn 2 w1 (by omega) (by omega) hn1 hn2
    rwa [ha] at this
  have HSZ := Lib.hid hs1
  clear hG h hbase hb1 hs1 ha
  go_enter Tryz.func25, Tryz.ntmps25
  go_wp2_with fail
  have hw1' : w.alloc (.cells #[.int .i64 5, .int .i64 nn, .int .i64 fk, .slice xA xm xc] 30) = w1 := hw1.symm
  rw [hw1']
  clear hw1 hw1'
  go_must (refine PK.out.mono ?_)
  rintro e _ ⟨rfl, rfl⟩
  have b0 : w1.cell? ⟨w.heap.size, 0, none⟩ = some (.int .i64 5) := HK1.out.cell 0
  have b1 : w1.cell? ⟨w.heap.size, 1, none⟩ = some (.int .i64 nn) := HK1.out.cell 1
  have b2 : w1.cell? ⟨w.heap.size, 2, none⟩ = some (.int .i64 fk) := HK1.out.cell 2
  have b3 : w1.cell? ⟨w.heap.size, 3, none⟩ = some (.slice xA xm xc) := HK1.out.cell 3
  have c0 : w1.cell? ⟨gp, 0, none⟩ = some (.pointer (some ⟨gd, 0, none⟩)) := PB1.out.bp.cell 0
  have c1 : w1.cell? ⟨gp, 1, none⟩ = some (.pointer (some ⟨gx, 0, none⟩)) := PB1.out.bp.cell 1
  have c2 : w1.cell? ⟨gp, 2, none⟩ = some (.slice (some ⟨gl, 0, none⟩) 2 2) := PB1.out.bp.cell 2
  have c3 : w1.cell? ⟨gp, 3, none⟩ = some (.slice (some ⟨gm, 0, none⟩) 2 2) := PB1.out.bp.cell 3
  have d1 : w1.cell? ⟨gl, 0, none⟩ = some (.pointer (some ⟨L false, 0, none⟩)) := PB1.out.bl.cell 0
  clear PK
  have HRB := Lib.hid (fun W hW => (HGB.out W hW).2)
  obtain ⟨wN, hwN⟩ := wroteB N st false bs
  have q1 : Below base w w1.drew := HB1.out.drew
  have D1 : Hid (Calls Tryz.prog 46 #[.pointer (some ⟨gd, 0, none⟩), .int .i64 0, .slice xA xm xc] w1.drew fun e w' => e = .returned (.int .i64 (wN : Int)) ∧ Two false true (fun i => PairX gp gl gm (fun a => some (L a)) (fun a => some (M a)) i ∨ i = w.heap.size) w' base gd gx N (st.write N false bs) st ∧ Only (Rest base (fun i => PairX gp gl gm (fun a => some (L a)) (fun a => some (M a)) i ∨ i = w.heap.size)) w1.drew w') :=
    (T1.out.below (Below.refl _ _).drew).left (fun S hd hb => by
      have := writeI base gd N S st (aI false) xA xm xc B bs w1.drew hd hb (HRB.out _ q1) (by unfold maxLen; omega)
      unfold DSt.writeI wroteI at this
      rw [onArea_aI, onArea_aI, hwN] at this
      exact this)
  have D2 : Hid (∀ W, Below base w W → Two false true (fun i => PairX gp gl gm (fun a => some (L a)) (fun a => some (M a)) i ∨ i = w.heap.size) W base gd gx N (st.write N false bs) st → Calls Tryz.prog 47 #[.pointer (some ⟨gx, 0, none⟩), .int .i64 0, .slice xA xm xc] W fun e w' => e = .returned (.int .i64 (wN : Int)) ∧ Two false true (fun i => PairX gp gl gm (fun a => some (L a)) (fun a => some (M a)) i ∨ i = w.heap.size) w' base gd gx N (st.write N false bs) (st.write N false bs) ∧ Only (Rest base (fun i => PairX gp gl gm (fun a => some (L a)) (fun a => some (M a)) i ∨ i = w.heap.size)) W w') := fun W hW hT =>
    hT.right (fun S hd hb => by
      have := rwriteI base gx N S st (aI false) xA xm xc B bs W hd hb (HRB.out _ hW) (by unfold maxLen; omega)
      unfold DSt.writeI wroteI at this
      rw [onArea_aI, onArea_aI, hwN] at this
      exact this)
  have PBD := Lib.hid (PB1.out.only ((Only.refl (fun _ => False) w1).drew) (fun _ _ h => h))
  have KD := Lib.hid HK1.out.drew
  have hww : ((wN : Int) == (wN : Int)) = true := by simp
  clear hwN
  go_wp2_with fail
  go_region_held3 (fun W => W.cell? ⟨gp, 0, none⟩ = some (.pointer (some ⟨gd, 0, none⟩)) ∧ W.cell? ⟨gp, 1, none⟩ = some (.pointer (some ⟨gx, 0, none⟩)) ∧ W.cell? ⟨w.heap.size, 3, none⟩ = some (.slice xA xm xc)) (first | exact ⟨c0, c1, b3⟩ | exact ⟨PB2.out.bp.cell 0, PB2.out.bp.cell 1, K2.out.cell 3⟩ | exact ⟨PB3.out.bp.cell 0, PB3.out.bp.cell 1, K3.out.cell 3⟩) ((first | (go_at_call 46; refine D1.out.mono ?_; rintro e w2 ⟨rfl, ht2, ho2⟩; have T2 := Lib.hid ht2; have PB2 := Lib.hid (PBD.out.only ho2 (fun i hi h => h.2 (.inl hi))); have K2 := Lib.hid (KD.out.only ho2 (fun h => h.2 (.inr rfl))); have HB2 := Lib.hid (q1.trans (ho2.rest (show base ≤ w1.heap.size from T1.out.base_le))); clear ht2 ho2) | (go_at_call 47; refine (D2.out w2 HB2.out T2.out).mono ?_; rintro e w3 ⟨rfl, ht3, ho3⟩; have T3 := Lib.hid ht3; have PB3 := Lib.hid (PB2.out.only ho3 (fun i hi h => h.2 (.inl hi))); have K3 := Lib.hid (K2.out.only ho3 (fun h => h.2 (.inr rfl))); have HB3 := Lib.hid (HB2.out.trans (ho3.rest T2.out.base_le)); clear ht3 ho3) | fail))
  go_wp2_with fail
  go_ret
  exact ⟨rfl, _, L, M, ⟨T3.out.less (fun i h => .inl h), PB3.out, HAB.out⟩, HB3.out⟩
set_option maxRecDepth 100000 in
set_option maxHeartbeats 8000000 in
theorem pdo_k_false (k : Int) (hk0 : (k == 0) = false) (hk1 : (k == 1) = false) (hk2 : (k == 2) = false) (hk3 : (k == 3) = false) (hk4 : (k == 4) = false) (hk5 : (k == 5) = false) (nn fk : Int) (xA : Option Addr) (xm xc : Nat) (bs : List UInt8) (B : Nat) (pg : Addr) (base gp gl gm gd gx N : Nat) (st : DSt) (L M : Bool → Nat) (w : World) (hG : ∀ W, Below base w W → Glob pg W ∧ Reads W B 1 xA xm (bs.map bval)) (hgb : 3 ≤ base) (hB : B ≤ base) (hm : xm ≤ 4096) (hmc : xm ≤ xc)
    (h : PairAt w base gp gl gm gd gx N st st (fun a => some (L a)) (fun a => some (M a))) (hbase : base ≤ w.heap.size) (hn1 : -9223372036854775808 ≤ nn) (hn2 : nn ≤ 9223372036854775807) (ha : nn % 2 = 0) :
    Calls Tryz.prog 25 #[.pointer (some ⟨gp, 0, none⟩), .agg #[.int .i64 k, ival nn, ival fk, .slice xA xm xc]] w (DoPost base gp gl gm gd gx N w) := by
  have HGB := Lib.hid hG
  have HBS := Lib.hid hbase
  have HAB := Lib.hid h.ab
  have HLB : Hid (bs.length = xm) := (hG w (Below.refl _ _)).2.bytes_len
  obtain ⟨w1, hw1⟩ : ∃ w1, w1 = w.alloc (.cells #[.int .i64 k, .int .i64 nn, .int .i64 fk, .slice xA xm xc] 30) := ⟨_, rfl⟩
  have hb1 : Below w.heap.size w w1 := by rw [hw1]; exact (Below.refl _ _).alloc (Nat.le_refl _) _
  have HK1 : Hid (Blk w1 w.heap.size 30 #[.int .i64 k, .int .i64 nn, .int .i64 fk, .slice xA xm xc]) := by show Blk _ _ _ _; rw [hw1]; exact Blk.new _ _ _
  have hs1 : w1.heap.size = w.heap.size + 1 := by rw [hw1]; simp
  have PB1 := Lib.hid (h.b.below hb1)
  have T1 : Hid (Two false true (fun i => PairX gp gl gm (fun a => some (L a)) (fun a => some (M a)) i ∨ i = w.heap.size) w1 base gd gx N st st) := h.two.more hb1 (fun i hi => by
    rcases hi with h | h
    · exact .inl h
    · exact .inr ⟨by omega, by omega⟩)
  have HB1 : Hid (Below base w w1) := hb1.mono hbase
  have PK : Hid (Calls Tryz.prog 28 #[.int .i64 nn, .int .i64 2] w1 fun e w' => e = .returned (.int .i64 0) ∧ w1 = w') := by
    have := pick_any nn 2 w1 (by omega) (by omega) hn1 hn2
    rwa [ha] at this
  have HSZ := Lib.hid hs1
  clear hG h hbase hb1 hs1 ha
  go_enter Tryz.func25, Tryz.ntmps25
  go_wp2_with fail
  have hw1' : w.alloc (.cells #[.int .i64 k, .int .i64 nn, .int .i64 fk, .slice xA xm xc] 30) = w1 := hw1.symm
  rw [hw1']
  clear hw1 hw1'
  go_must (refine PK.out.mono ?_)
  rintro e _ ⟨rfl, rfl⟩
  have b0 : w1.cell? ⟨w.heap.size, 0, none⟩ = some (.int .i64 k) := HK1.out.cell 0
  have b1 : w1.cell? ⟨w.heap.size, 1, none⟩ = some (.int .i64 nn) := HK1.out.cell 1
  have b2 : w1.cell? ⟨w.heap.size, 2, none⟩ = some (.int .i64 fk) := HK1.out.cell 2
  have b3 : w1.cell? ⟨w.heap.size, 3, none⟩ = some (.slice xA xm xc) := HK1.out.cell 3
  have c0 : w1.cell? ⟨gp, 0, none⟩ = some (.pointer (some ⟨gd, 0, none⟩)) := PB1.out.bp.cell 0
  have c1 : w1.cell? ⟨gp, 1, none⟩ = some (.pointer (some ⟨gx, 0, none⟩)) := PB1.out.bp.cell 1
  have c2 : w1.cell? ⟨gp, 2, none⟩ = some (.slice (some ⟨gl, 0, none⟩) 2 2) := PB1.out.bp.cell 2
  have c3 : w1.cell? ⟨gp, 3, none⟩ = some (.slice (some ⟨gm, 0, none⟩) 2 2) := PB1.out.bp.cell 3
  have d1 : w1.cell? ⟨gl, 0, none⟩ = some (.pointer (some ⟨L false, 0, none⟩)) := PB1.out.bl.cell 0
  clear PK
  go_wp2_with fail
  go_ret
  exact ⟨rfl, _, L, M, ⟨T1.out.less (fun i h => .inl h), PB1.out, HAB.out⟩, HB1.out⟩
set_option maxRecDepth 100000 in
set_option maxHeartbeats 8000000 in
theorem pdo_0_false (nn fk : Int) (xA : Option Addr) (xm xc : Nat) (bs : List UInt8) (B : Nat) (pg : Addr) (base gp gl gm gd gx N : Nat) (st : DSt) (L M : Bool → Nat) (w : World) (hG : ∀ W, Below base w W → Glob pg W ∧ Reads W B 1 xA xm (bs.map bval)) (hgb : 3 ≤ base) (hB : B ≤ base) (hm : xm ≤ 4096) (hmc : xm ≤ xc)
    (h : PairAt w base gp gl gm gd gx N st st (fun a => some (L a)) (fun a => some (M a))) (hbase : base ≤ w.heap.size) (hn1 : -9223372036854775808 ≤ nn) (hn2 : nn ≤ 9223372036854775807) (ha : nn % 2 = 0) :
    Calls Tryz.prog 25 #[.pointer (some ⟨gp, 0, none⟩), .agg #[.int .i64 0, ival nn, ival fk, .slice xA xm xc]] w (DoPost base gp gl gm gd gx N w) := by
  have HGB := Lib.hid hG
  have HBS := Lib.hid hbase
  have HAB := Lib.hid h.ab
  have HLB : Hid (bs.length = xm) := (hG w (Below.refl _ _)).2.bytes_len
  obtain ⟨w1, hw1⟩ : ∃ w1, w1 = w.alloc (.cells #[.int .i64 0, .int .i64 nn, .int .i64 fk, .slice xA xm xc] 30) := ⟨_, rfl⟩
  have hb1 : Below w.heap.size w w1 := by rw [hw1]; exact (Below.refl _ _).alloc (Nat.le_refl _) _
  have HK1 : Hid (Blk w1 w.heap.size 30 #[.int .i64 0, .int .i64 nn, .int .i64 fk, .slice xA xm xc]) := by show Blk _ _ _ _; rw [hw1]; exact Blk.new _ _ _
  have hs1 : w1.heap.size = w.heap.size + 1 := by rw [hw1]; simp
  have PB1 := Lib.hid (h.b.below hb1)
  have T1 : Hid (Two false true (fun i => PairX gp gl gm (fun a => some (L a)) (fun a => some (M a)) i ∨ i = w.heap.size) w1 base gd gx N st st) := h.two.more hb1 (fun i hi => by
    rcases hi with h | h
    · exact .inl h
    · exact .inr ⟨by omega, by omega⟩)
  have HB1 : Hid (Below base w w1) := hb1.mono hbase
  have PK : Hid (Calls Tryz.prog 28 #[.int .i64 nn, .int .i64 2] w1 fun e w' => e = .returned (.int .i64 0) ∧ w1 = w') := by
    have := pick_any nn 2 w1 (by omega) (by omega) hn1 hn2
    rwa [ha] at this
  have HSZ := Lib.hid hs1
  clear hG h hbase hb1 hs1 ha
  go_enter Tryz.func25, Tryz.ntmps25
  go_wp2_with fail
  have hw1' : w.alloc (.cells #[.int .i64 0, .int .i64 nn, .int .i64 fk, .slice xA xm xc] 30) = w1 := hw1.symm
  rw [hw1']
  clear hw1 hw1'
  go_must (refine PK.out.mono ?_)
  rintro e _ ⟨rfl, rfl⟩
  have b0 : w1.cell? ⟨w.heap.size, 0, none⟩ = some (.int .i64 0) := HK1.out.cell 0
  have b1 : w1.cell? ⟨w.heap.size, 1, none⟩ = some (.int .i64 nn) := HK1.out.cell 1
  have b2 : w1.cell? ⟨w.heap.size, 2, none⟩ = some (.int .i64 fk) := HK1.out.cell 2
  have b3 : w1.cell? ⟨w.heap.size, 3, none⟩ = some (.slice xA xm xc) := HK1.out.cell 3
  have c0 : w1.cell? ⟨gp, 0, none⟩ = some (.pointer (some ⟨gd, 0, none⟩)) := PB1.out.bp.cell 0
  have c1 : w1.cell? ⟨gp, 1, none⟩ = some (.pointer (some ⟨gx, 0, none⟩)) := PB1.out.bp.cell 1
  have c2 : w1.cell? ⟨gp, 2, none⟩ = some (.slice (some ⟨gl, 0, none⟩) 2 2) := PB1.out.bp.cell 2
  have c3 : w1.cell? ⟨gp, 3, none⟩ = some (.slice (some ⟨gm, 0, none⟩) 2 2) := PB1.out.bp.cell 3
  have d1 : w1.cell? ⟨gl, 0, none⟩ = some (.pointer (some ⟨L false, 0, none⟩)) := PB1.out.bl.cell 0
  clear PK
  have C1 := Lib.hid (lentBytes_any xA xm xc B bs w1 (HGB.out _ HB1.out).2 (Nat.le_trans hB T1.out.base_le) (by omega))
  go_wp2_with fail
  go_must (refine C1.out.mono ?_)
  rintro e w2 ⟨v6, rfl, hown6, hb2⟩
  obtain ⟨A6, c6, rfl, hc61, hc62, _⟩ := own_slice hown6
  have HB2 := Lib.hid (HB1.out.trans (hb2.mono T1.out.base_le))
  have PB2 := Lib.hid (PB1.out.below hb2)
  have K2 := Lib.hid (HK1.out.below hb2 HK1.out.lt)
  have O2 := Lib.hid hown6
  have T2 : Hid (Two false true (fun i => PairX gp gl gm (fun a => some (L a)) (fun a => some (M a)) i ∨ i = w.heap.size ∨ (Value.slice A6 (xm + 5) c6).ownBlock = some i) w2 base gd gx N st st) := T1.out.more hb2 (fun i hi => by
    rcases hi with h | h | h
    · exact .inl (.inl h)
    · exact .inl (.inr h)
    · exact .inr (hown6.lt i h))
  have hr6 : Reads w2 w2.heap.size 1 A6 xm (bs.map bval) := by
    have h3 := (Reads.of_own hown6).take (k := xm) (by omega)
    rw [Nat.mul_one, ← List.map_take] at h3
    have hl := HLB.out
    rwa [List.take_append_of_le_length (by omega), List.take_of_length_le (by omega)] at h3
  have HR6 := Lib.hid hr6
  clear hown6 hb2 hr6 C1 b0 b1 b2 b3 c0 c1 c2 c3 d1
  have b2 : w2.cell? ⟨w.heap.size, 2, none⟩ = some (.int .i64 fk) := K2.out.cell 2
  have b3 : w2.cell? ⟨w.heap.size, 3, none⟩ = some (.slice xA xm xc) := K2.out.cell 3
  have c2 : w2.cell? ⟨gp, 2, none⟩ = some (.slice (some ⟨gl, 0, none⟩) 2 2) := PB2.out.bp.cell 2
  have d1 : w2.cell? ⟨gl, 0, none⟩ = some (.pointer (some ⟨L false, 0, none⟩)) := PB2.out.bl.cell 0
  have hx6 : xm ≤ c6 := by omega
  have hx6I : (xm : Int) ≤ (c6 : Int) := by omega
  have D2' := (T2.out.below (below_drewN (Below.refl _ _) 1)).left (fun S hd hb => wappend_any false (L false) base gd N S st fk bs A6 xm c6 w2.heap.size pg (w2.drewN 1) (HGB.out _ (below_drewN HB2.out 1)).1 hgb hd hb ((PB2.out.lo false _ rfl).drewN 1) (HR6.out.drewN 1) (Nat.le_refl _) (by unfold maxLen; omega))
  have D4' : ∀ W, Below base w W → Two false true (fun i => PairX gp gl gm (fun a => some (L a)) (fun a => some (M a)) i ∨ i = w.heap.size ∨ (Value.slice A6 (xm + 5) c6).ownBlock = some i) W base gd gx N (appSt N st false ⟨fk, bs⟩) st → Blk W (M false) (lType true) (lCells gx false) → Calls Tryz.prog 42 #[.pointer (some ⟨M false, 0, none⟩), .agg #[ival fk, .slice xA xm xc]] W fun e w' => e = .returned (.int .i64 (appN N st false ⟨fk, bs⟩ : Nat)) ∧ Two false true (fun i => PairX gp gl gm (fun a => some (L a)) (fun a => some (M a)) i ∨ i = w.heap.size ∨ (Value.slice A6 (xm + 5) c6).ownBlock = some i) w' base gd gx N (appSt N st false ⟨fk, bs⟩) (appSt N st false ⟨fk, bs⟩) ∧ Only (Rest base (fun i => PairX gp gl gm (fun a => some (L a)) (fun a => some (M a)) i ∨ i = w.heap.size ∨ (Value.slice A6 (xm + 5) c6).ownBlock = some i)) W w' := fun W hW hT hK =>
    hT.right (fun S hd hb => rappend_any false (M false) base gx N S st fk bs xA xm xc B W hd hb hK (HGB.out _ hW).2 (Nat.le_trans hB hT.base_le) (by unfold maxLen; omega))
  generalize appN N st false ⟨fk, bs⟩ = E at *
  generalize appSt N st false ⟨fk, bs⟩ = s2 at *
  have D2 := Lib.hid D2'
  have D4 := Lib.hid D4'
  clear D2' D4'
  go_wp2_with fail
  go_still_tail 17, (by kernel_rfl)
  change wpList _ _ _ _ _ (w2.drewN 1)
  go_wp2_with fail
  go_must (refine D2.out.mono ?_)
  rintro e w3 ⟨rfl, ht3, ho3⟩
  have T3 := Lib.hid ht3
  have PB3 := Lib.hid ((PB2.out.only ((Only.refl (fun _ => False) w2).drewN 1) (fun _ _ h => h)).only ho3 (fun i hi h => h.2 (.inl hi)))
  have K3 := Lib.hid ((K2.out.drewN 1).only ho3 (fun h => h.2 (.inr (.inl rfl))))
  have O3 := Lib.hid (own_only (own_only O2.out ((Only.refl (fun _ => False) w2).drewN 1) (fun _ _ h => h)) ho3 (fun i hi h => h.2 (.inr (.inr hi))))
  have HB3 := Lib.hid ((below_drewN HB2.out 1).trans (ho3.rest (show base ≤ w2.heap.size from T2.out.base_le)))
  clear ht3 ho3 D2 b2 b3 c2 d1 T2 PB2 K2 O2 HB2 HR6
  have b3 : w3.cell? ⟨w.heap.size, 3, none⟩ = some (.slice xA xm xc) := K3.out.cell 3
  have C4 := Lib.hid (keptBytes_any A6 xA (xm + 5) c6 xm xc w3.heap.size B bs w3 (Reads.of_own O3.out) (HGB.out _ HB3.out).2 (by unfold maxLen; omega) hc61)
  go_wp2_with fail
  go_must (refine C4.out.mono ?_)
  rintro e w4 ⟨rfl, q4, hw4⟩
  have T4 : Hid (Two false true (fun i => PairX gp gl gm (fun a => some (L a)) (fun a => some (M a)) i ∨ i = w.heap.size ∨ (Value.slice A6 (xm + 5) c6).ownBlock = some i) w4 base gd gx N s2 st) := by show Two _ _ _ _ _ _ _ _ _ _; rw [hw4]; exact T3.out.below (below_drewN (Below.refl _ _) q4)
  have PB4 : Hid (PairB w4 gp gl gm gd gx (fun a => some (L a)) (fun a => some (M a))) := by rw [hw4]; exact PB3.out.only ((Only.refl (fun _ => False) w3).drewN q4) (fun _ _ h => h)
  have K4 : Hid (Blk w4 w.heap.size 30 #[.int .i64 0, .int .i64 nn, .int .i64 fk, .slice xA xm xc]) := by show Blk _ _ _ _; rw [hw4]; exact K3.out.drewN q4
  have O4 : Hid (w4.ownsRow w1.heap.size 5 1 (.slice A6 (xm + 5) c6) (xm + 5) ((bs ++ marks).map bval)) := by show World.ownsRow _ _ _ _ _ _ _; rw [hw4]; exact own_only O3.out ((Only.refl (fun _ => False) w3).drewN q4) (fun _ _ h => h)
  have HB4 : Hid (Below base w w4) := by show Below _ _ _; rw [hw4]; exact below_drewN HB3.out q4
  clear hw4 C4 T3 PB3 K3 O3 HB3 b3
  have C5 := Lib.hid (spoil_any A6 (xm + 5) c6 _ _ w4 O4.out (by omega))
  go_wp2_with fail
  go_must (refine C5.out.mono ?_)
  rintro e w5 ⟨rfl, ho5, _⟩
  have hv6 : ∀ i, (Value.slice A6 (xm + 5) c6).ownBlock = some i → w1.heap.size ≤ i := fun i hi => (O4.out.lt i hi).1
  have T5 := Lib.hid (T4.out.offX ho5 (fun i hi => .inr (.inr hi)))
  have PB5 := Lib.hid (PB4.out.only ho5 (fun i hi h => by have := hv6 i h; have := PB1.out.lt hi; omega))
  have K5 := Lib.hid (K4.out.only ho5 (fun h => by have := hv6 _ h; have := HSZ.out; omega))
  have HB5 := Lib.hid (HB4.out.trans (ho5.to (fun i hi => by have := hv6 i hi; have := HSZ.out; have := HBS.out; omega) T4.out.base_le))
  clear ho5 C5 T4 PB4 K4 O4 HB4 hv6
  have b2 : w5.cell? ⟨w.heap.size, 2, none⟩ = some (.int .i64 fk) := K5.out.cell 2
  have b3 : w5.cell? ⟨w.heap.size, 3, none⟩ = some (.slice xA xm xc) := K5.out.cell 3
  have c3 : w5.cell? ⟨gp, 3, none⟩ = some (.slice (some ⟨gm, 0, none⟩) 2 2) := PB5.out.bp.cell 3
  have d2 : w5.cell? ⟨gm, 0, none⟩ = some (.pointer (some ⟨M false, 0, none⟩)) := PB5.out.bm.cell 0
  have PB5D := Lib.hid (PB5.out.only ((Only.refl (fun _ => False) w5).drew) (fun _ _ h => h))
  have K5D := Lib.hid K5.out.drew
  have D5 := Lib.hid (D4.out w5.drew HB5.out.drew (T5.out.below (Below.refl _ _).drew) (PB5D.out.mo false _ rfl))
  have hEE : ((E : Int) == (E : Int)) = true := by simp
  clear D4
  go_wp2_with fail
  go_region_held3 (fun W => W.cell? ⟨gp, 3, none⟩ = some (.slice (some ⟨gm, 0, none⟩) 2 2) ∧ W.cell? ⟨gm, 0, none⟩ = some (.pointer (some ⟨M false, 0, none⟩)) ∧ W.cell? ⟨w.heap.size, 2, none⟩ = some (.int .i64 fk) ∧ W.cell? ⟨w.heap.size, 3, none⟩ = some (.slice xA xm xc)) (first | exact ⟨c3, d2, b2, b3⟩ | exact ⟨PB6.out.bp.cell 3, PB6.out.bm.cell 0, K6.out.cell 2, K6.out.cell 3⟩) ((first | (go_at_call 42; refine D5.out.mono ?_; rintro e w6 ⟨rfl, ht6, ho6⟩; have T6 := Lib.hid ht6; have PB6 := Lib.hid (PB5D.out.only ho6 (fun i hi h => h.2 (.inl hi))); have K6 := Lib.hid (K5D.out.only ho6 (fun h => h.2 (.inr (.inl rfl)))); have HB6 := Lib.hid (HB5.out.drew.trans (ho6.rest (show base ≤ w5.heap.size from T5.out.base_le))); clear ht6 ho6) | fail))
  go_wp2_with fail
  go_ret
  exact ⟨rfl, _, L, M, ⟨T6.out.less (fun i h => .inl h), PB6.out, HAB.out⟩, HB6.out⟩
set_option maxRecDepth 100000 in
set_option maxHeartbeats 8000000 in
theorem pdo_1_true (nn fk : Int) (xA : Option Addr) (xm xc : Nat) (bs : List UInt8) (B : Nat) (pg : Addr) (base gp gl gm gd gx N : Nat) (st : DSt) (L M : Bool → Nat) (w : World) (hG : ∀ W, Below base w W → Glob pg W ∧ Reads W B 1 xA xm (bs.map bval)) (hgb : 3 ≤ base) (hB : B ≤ base) (hm : xm ≤ 4096) (hmc : xm ≤ xc)
    (h : PairAt w base gp gl gm gd gx N st st (fun a => some (L a)) (fun a => some (M a))) (hbase : base ≤ w.heap.size) (hn1 : -9223372036854775808 ≤ nn) (hn2 : nn ≤ 9223372036854775807) (ha : nn % 2 = 1) :
    Calls Tryz.prog 25 #[.pointer (some ⟨gp, 0, none⟩), .agg #[.int .i64 1, ival nn, ival fk, .slice xA xm xc]] w (DoPost base gp gl gm gd gx N w) := by
  have HGB := Lib.hid hG
  have HBS := Lib.hid hbase
  have HAB := Lib.hid h.ab
  have HLB : Hid (bs.length = xm) := (hG w (Below.refl _ _)).2.bytes_len
  obtain ⟨w1, hw1⟩ : ∃ w1, w1 = w.alloc (.cells #[.int .i64 1, .int .i64 nn, .int .i64 fk, .slice xA xm xc] 30) := ⟨_, rfl⟩
  have hb1 : Below w.heap.size w w1 := by rw [hw1]; exact (Below.refl _ _).alloc (Nat.le_refl _) _
  have HK1 : Hid (Blk w1 w.heap.size 30 #[.int .i64 1, .int .i64 nn, .int .i64 fk, .slice xA xm xc]) := by show Blk _ _ _ _; rw [hw1]; exact Blk.new _ _ _
  have hs1 : w1.heap.size = w.heap.size + 1 := by rw [hw1]; simp
  have PB1 := Lib.hid (h.b.below hb1)
  have T1 : Hid (Two false true (fun i => PairX gp gl gm (fun a => some (L a)) (fun a => some (M a)) i ∨ i = w.heap.size) w1 base gd gx N st st) := h.two.more hb1 (fun i hi => by
    rcases hi with h | h
    · exact .inl h
    · exact .inr ⟨by omega, by omega⟩)
  have HB1 : Hid (Below base w w1) := hb1.mono hbase
  have PK : Hid (Calls Tryz.prog 28 #[.int .i64 nn, .int .i64 2] w1 fun e w' => e = .returned (.int .i64 1) ∧ w1 = w') := by
    have := pick_any nn 2 w1 (by omega) (by omega) hn1 hn2
    rwa [ha] at this
  have HSZ := Lib.hid hs1
  clear hG h hbase hb1 hs1 ha
  go_enter Tryz.func25, Tryz.ntmps25
  go_wp2_with fail
  have hw1' : w.alloc (.cells #[.int .i64 1, .int .i64 nn, .int .i64 fk, .slice xA xm xc] 30) = w1 := hw1.symm
  rw [hw1']
  clear hw1 hw1'
  go_must (refine PK.out.mono ?_)
  rintro e _ ⟨rfl, rfl⟩
  have b0 : w1.cell? ⟨w.heap.size, 0, none⟩ = some (.int .i64 1) := HK1.out.cell 0
  have b1 : w1.cell? ⟨w.heap.size, 1, none⟩ = some (.int .i64 nn) := HK1.out.cell 1
  have b2 : w1.cell? ⟨w.heap.size, 2, none⟩ = some (.int .i64 fk) := HK1.out.cell 2
  have b3 : w1.cell? ⟨w.heap.size, 3, none⟩ = some (.slice xA xm xc) := HK1.out.cell 3
  have c0 : w1.cell? ⟨gp, 0, none⟩ = some (.pointer (some ⟨gd, 0, none⟩)) := PB1.out.bp.cell 0
  have c1 : w1.cell? ⟨gp, 1, none⟩ = some (.pointer (some ⟨gx, 0, none⟩)) := PB1.out.bp.cell 1
  have c2 : w1.cell? ⟨gp, 2, none⟩ = some (.slice (some ⟨gl, 0, none⟩) 2 2) := PB1.out.bp.cell 2
  have c3 : w1.cell? ⟨gp, 3, none⟩ = some (.slice (some ⟨gm, 0, none⟩) 2 2) := PB1.out.bp.cell 3
  have d1 : w1.cell? ⟨gl, 1, none⟩ = some (.pointer (some ⟨L true, 0, none⟩)) := PB1.out.bl.cell 1
  clear PK
  have D1 : Hid (Calls Tryz.prog 14 #[.pointer (some ⟨L true, 0, none⟩)] w1 fun e w' => e = .returned (.tuple #[]) ∧ Two false true (fun i => PairX gp gl gm (fun a => some (L a)) (fun a => some (M a)) i ∨ i = w.heap.size) w' base gd gx N (st.sync true) st ∧ Only (Rest base (fun i => PairX gp gl gm (fun a => some (L a)) (fun a => some (M a)) i ∨ i = w.heap.size)) w1 w') :=
    T1.out.left (fun S hd hb => wsync_any true (L true) base gd N S st w1 hd hb (PB1.out.lo true _ rfl))
  go_wp2_with fail
  go_must (refine D1.out.mono ?_)
  rintro e w2 ⟨rfl, ht2, ho2⟩
  have T2 := Lib.hid ht2
  have PB2 := Lib.hid (PB1.out.only ho2 (fun i hi h => h.2 (.inl hi)))
  have HB2 := Lib.hid (HB1.out.trans (ho2.rest T1.out.base_le))
  clear ht2 ho2 D1 b0 b1 b2 b3 c0 c1 c2 c3 d1
  have c3 : w2.cell? ⟨gp, 3, none⟩ = some (.slice (some ⟨gm, 0, none⟩) 2 2) := PB2.out.bp.cell 3
  have d2 : w2.cell? ⟨gm, 1, none⟩ = some (.pointer (some ⟨M true, 0, none⟩)) := PB2.out.bm.cell 1
  have D2 : Hid (Calls Tryz.prog 43 #[.pointer (some ⟨M true, 0, none⟩)] w2 fun e w' => e = .returned (.tuple #[]) ∧ Two false true (fun i => PairX gp gl gm (fun a => some (L a)) (fun a => some (M a)) i ∨ i = w.heap.size) w' base gd gx N (st.sync true) (st.sync true) ∧ Only (Rest base (fun i => PairX gp gl gm (fun a => some (L a)) (fun a => some (M a)) i ∨ i = w.heap.size)) w2 w') :=
    T2.out.right (fun S hd hb => rsync_any true (M true) base gx N S st w2 hd hb (PB2.out.mo true _ rfl))
  go_wp2_with fail
  go_must (refine D2.out.mono ?_)
  rintro e w3 ⟨rfl, ht3, ho3⟩
  have T3 := Lib.hid ht3
  have PB3 := Lib.hid (PB2.out.only ho3 (fun i hi h => h.2 (.inl hi)))
  have HB3 := Lib.hid (HB2.out.trans (ho3.rest T2.out.base_le))
  clear ht3 ho3 D2 c3 d2
  go_wp2_with fail
  go_ret
  exact ⟨rfl, _, L, M, ⟨T3.out.less (fun i h => .inl h), PB3.out, HAB.out⟩, HB3.out⟩
set_option maxRecDepth 100000 in
set_option maxHeartbeats 8000000 in
theorem pdo_2_true (nn fk : Int) (xA : Option Addr) (xm xc : Nat) (bs : List UInt8) (B : Nat) (pg : Addr) (base gp gl gm gd gx N : Nat) (st : DSt) (L M : Bool → Nat) (w : World) (hG : ∀ W, Below base w W → Glob pg W ∧ Reads W B 1 xA xm (bs.map bval)) (hgb : 3 ≤ base) (hB : B ≤ base) (hm : xm ≤ 4096) (hmc : xm ≤ xc)
    (h : PairAt w base gp gl gm gd gx N st st (fun a => some (L a)) (fun a => some (M a))) (hbase : base ≤ w.heap.size) (hn1 : -9223372036854775808 ≤ nn) (hn2 : nn ≤ 9223372036854775807) (ha : nn % 2 = 1) :
    Calls Tryz.prog 25 #[.pointer (some ⟨gp, 0, none⟩), .agg #[.int .i64 2, ival nn, ival fk, .slice xA xm xc]] w (DoPost base gp gl gm gd gx N w) := by
  have HGB := Lib.hid hG
  have HBS := Lib.hid hbase
  have HAB := Lib.hid h.ab
  have HLB : Hid (bs.length = xm) := (hG w (Below.refl _ _)).2.bytes_len
  obtain ⟨w1, hw1⟩ : ∃ w1, w1 = w.alloc (.cells #[.int .i64 2, .int .i64 nn, .int .i64 fk, .slice xA xm xc] 30) := ⟨_, rfl⟩
  have hb1 : Below w.heap.size w w1 := by rw [hw1]; exact (Below.refl _ _).alloc (Nat.le_refl _) _
  have HK1 : Hid (Blk w1 w.heap.size 30 #[.int .i64 2, .int .i64 nn, .int .i64 fk, .slice xA xm xc]) := by show Blk _ _ _ _; rw [hw1]; exact Blk.new _ _ _
  have hs1 : w1.heap.size = w.heap.size + 1 := by rw [hw1]; simp
  have PB1 := Lib.hid (h.b.below hb1)
  have T1 : Hid (Two false true (fun i => PairX gp gl gm (fun a => some (L a)) (fun a => some (M a)) i ∨ i = w.heap.size) w1 base gd gx N st st) := h.two.more hb1 (fun i hi => by
    rcases hi with h | h
    · exact .inl h
    · exact .inr ⟨by omega, by omega⟩)
  have HB1 : Hid (Below base w w1) := hb1.mono hbase
  have PK : Hid (Calls Tryz.prog 28 #[.int .i64 nn, .int .i64 2] w1 fun e w' => e = .returned (.int .i64 1) ∧ w1 = w') := by
    have := pick_any nn 2 w1 (by omega) (by omega) hn1 hn2
    rwa [ha] at this
  have HSZ := Lib.hid hs1
  clear hG h hbase hb1 hs1 ha
  go_enter Tryz.func25, Tryz.ntmps25
  go_wp2_with fail
  have hw1' : w.alloc (.cells #[.int .i64 2, .int .i64 nn, .int .i64 fk, .slice xA xm xc] 30) = w1 := hw1.symm
  rw [hw1']
  clear hw1 hw1'
  go_must (refine PK.out.mono ?_)
  rintro e _ ⟨rfl, rfl⟩
  have b0 : w1.cell? ⟨w.heap.size, 0, none⟩ = some (.int .i64 2) := HK1.out.cell 0
  have b1 : w1.cell? ⟨w.heap.size, 1, none⟩ = some (.int .i64 nn) := HK1.out.cell 1
  have b2 : w1.cell? ⟨w.heap.size, 2, none⟩ = some (.int .i64 fk) := HK1.out.cell 2
  have b3 : w1.cell? ⟨w.heap.size, 3, none⟩ = some (.slice xA xm xc) := HK1.out.cell 3
  have c0 : w1.cell? ⟨gp, 0, none⟩ = some (.pointer (some ⟨gd, 0, none⟩)) := PB1.out.bp.cell 0
  have c1 : w1.cell? ⟨gp, 1, none⟩ = some (.pointer (some ⟨gx, 0, none⟩)) := PB1.out.bp.cell 1
  have c2 : w1.cell? ⟨gp, 2, none⟩ = some (.slice (some ⟨gl, 0, none⟩) 2 2) := PB1.out.bp.cell 2
  have c3 : w1.cell? ⟨gp, 3, none⟩ = some (.slice (some ⟨gm, 0, none⟩) 2 2) := PB1.out.bp.cell 3
  have d1 : w1.cell? ⟨gl, 1, none⟩ = some (.pointer (some ⟨L true, 0, none⟩)) := PB1.out.bl.cell 1
  clear PK
  have D1 : Hid (Calls Tryz.prog 21 #[.pointer (some ⟨L true, 0, none⟩)] w1 fun e w' => e = .returned (.tuple #[]) ∧ Two false true (fun i => PairX gp gl gm (fun a => some (L a)) (fun a => some (M a)) i ∨ i = w.heap.size) w' base gd gx N (st.cut true 0) st ∧ Only (Rest base (fun i => PairX gp gl gm (fun a => some (L a)) (fun a => some (M a)) i ∨ i = w.heap.size)) w1 w') :=
    T1.out.left (fun S hd hb => wreset_any true (L true) base gd N S st w1 hd hb (PB1.out.lo true _ rfl))
  go_wp2_with fail
  go_must (refine D1.out.mono ?_)
  rintro e w2 ⟨rfl, ht2, ho2⟩
  have T2 := Lib.hid ht2
  have PB2 := Lib.hid (PB1.out.only ho2 (fun i hi h => h.2 (.inl hi)))
  have HB2 := Lib.hid (HB1.out.trans (ho2.rest T1.out.base_le))
  clear ht2 ho2 D1 b0 b1 b2 b3 c0 c1 c2 c3 d1
  have c3 : w2.cell? ⟨gp, 3, none⟩ = some (.slice (some ⟨gm, 0, none⟩) 2 2) := PB2.out.bp.cell 3
  have d2 : w2.cell? ⟨gm, 1, none⟩ = some (.pointer (some ⟨M true, 0, none⟩)) := PB2.out.bm.cell 1
  have D2 : Hid (Calls Tryz.prog 44 #[.pointer (some ⟨M true, 0, none⟩)] w2 fun e w' => e = .returned (.tuple #[]) ∧ Two false true (fun i => PairX gp gl gm (fun a => some (L a)) (fun a => some (M a)) i ∨ i = w.heap.size) w' base gd gx N (st.cut true 0) (st.cut true 0) ∧ Only (Rest base (fun i => PairX gp gl gm (fun a => some (L a)) (fun a => some (M a)) i ∨ i = w.heap.size)) w2 w') :=
    T2.out.right (fun S hd hb => rreset_any true (M true) base gx N S st w2 hd hb (PB2.out.mo true _ rfl))
  go_wp2_with fail
  go_must (refine D2.out.mono ?_)
  rintro e w3 ⟨rfl, ht3, ho3⟩
  have T3 := Lib.hid ht3
  have PB3 := Lib.hid (PB2.out.only ho3 (fun i hi h => h.2 (.inl hi)))
  have HB3 := Lib.hid (HB2.out.trans (ho3.rest T2.out.base_le))
  clear ht3 ho3 D2 c3 d2
  go_wp2_with fail
  go_ret
  exact ⟨rfl, _, L, M, ⟨T3.out.less (fun i h => .inl h), PB3.out, HAB.out⟩, HB3.out⟩
set_option maxRecDepth 100000 in
set_option maxHeartbeats 8000000 in
theorem pdo_4_true (nn fk : Int) (xA : Option Addr) (xm xc : Nat) (bs : List UInt8) (B : Nat) (pg : Addr) (base gp gl gm gd gx N : Nat) (st : DSt) (L M : Bool → Nat) (w : World) (hG : ∀ W, Below base w W → Glob pg W ∧ Reads W B 1 xA xm (bs.map bval)) (hgb : 3 ≤ base) (hB : B ≤ base) (hm : xm ≤ 4096) (hmc : xm ≤ xc)
    (h : PairAt w base gp gl gm gd gx N st st (fun a => some (L a)) (fun a => some (M a))) (hbase : base ≤ w.heap.size) (hn1 : -9223372036854775808 ≤ nn) (hn2 : nn ≤ 9223372036854775807) (ha : nn % 2 = 1) :
    Calls Tryz.prog 25 #[.pointer (some ⟨gp, 0, none⟩), .agg #[.int .i64 4, ival nn, ival fk, .slice xA xm xc]] w (DoPost base gp gl gm gd gx N w) := by
  have HGB := Lib.hid hG
  have HBS := Lib.hid hbase
  have HAB := Lib.hid h.ab
  have HLB : Hid (bs.length = xm) := (hG w (Below.refl _ _)).2.bytes_len
  obtain ⟨w1, hw1⟩ : ∃ w1, w1 = w.alloc (.cells #[.int .i64 4, .int .i64 nn, .int .i64 fk, .slice xA xm xc] 30) := ⟨_, rfl⟩
  have hb1 : Below w.heap.size w w1 := by rw [hw1]; exact (Below.refl _ _).alloc (Nat.le_refl _) _
  have HK1 : Hid (Blk w1 w.heap.size 30 #[.int .i64 4, .int .i64 nn, .int .i64 fk, .slice xA xm xc]) := by show Blk _ _ _ _; rw [hw1]; exact Blk.new _ _ _
  have hs1 : w1.heap.size = w.heap.size + 1 := by rw [hw1]; simp
  have PB1 := Lib.hid (h.b.below hb1)
  have T1 : Hid (Two false true (fun i => PairX gp gl gm (fun a => some (L a)) (fun a => some (M a)) i ∨ i = w.heap.size) w1 base gd gx N st st) := h.two.more hb1 (fun i hi => by
    rcases hi with h | h
    · exact .inl h
    · exact .inr ⟨by omega, by omega⟩)
  have HB1 : Hid (Below base w w1) := hb1.mono hbase
  have PK : Hid (Calls Tryz.prog 28 #[.int .i64 nn, .int .i64 2] w1 fun e w' => e = .returned (.int .i64 1) ∧ w1 = w') := by
    have := pick_any nn 2 w1 (by omega) (by omega) hn1 hn2
    rwa [ha] at this
  have HSZ := Lib.hid hs1
  clear hG h hbase hb1 hs1 ha
  go_enter Tryz.func25, Tryz.ntmps25
  go_wp2_with fail
  have hw1' : w.alloc (.cells #[.int .i64 4, .int .i64 nn, .int .i64 fk, .slice xA xm xc] 30) = w1 := hw1.symm
  rw [hw1']
  clear hw1 hw1'
  go_must (refine PK.out.mono ?_)
  rintro e _ ⟨rfl, rfl⟩
  have b0 : w1.cell? ⟨w.heap.size, 0, none⟩ = some (.int .i64 4) := HK1.out.cell 0
  have b1 : w1.cell? ⟨w.heap.size, 1, none⟩ = some (.int .i64 nn) := HK1.out.cell 1
  have b2 : w1.cell? ⟨w.heap.size, 2, none⟩ = some (.int .i64 fk) := HK1.out.cell 2
  have b3 : w1.cell? ⟨w.heap.size, 3, none⟩ = some (.slice xA xm xc) := HK1.out.cell 3
  have c0 : w1.cell? ⟨gp, 0, none⟩ = some (.pointer (some ⟨gd, 0, none⟩)) := PB1.out.bp.cell 0
  have c1 : w1.cell? ⟨gp, 1, none⟩ = some (.pointer (some ⟨gx, 0, none⟩)) := PB1.out.bp.cell 1
  have c2 : w1.cell? ⟨gp, 2, none⟩ = some (.slice (some ⟨gl, 0, none⟩) 2 2) := PB1.out.bp.cell 2
  have c3 : w1.cell? ⟨gp, 3, none⟩ = some (.slice (some ⟨gm, 0, none⟩) 2 2) := PB1.out.bp.cell 3
  have d1 : w1.cell? ⟨gl, 1, none⟩ = some (.pointer (some ⟨L true, 0, none⟩)) := PB1.out.bl.cell 1
  clear PK
  have C1 := Lib.hid (popen_true pg base gp gl gm gd gx N st (fun a => some (L a)) (fun a => some (M a)) w1 (fun W hW => (HGB.out W (HB1.out.trans hW)).1) ⟨T1.out.less (fun i h => .inl h), PB1.out, HAB.out⟩ T1.out.base_le)
  go_wp2_with fail
  go_must (refine C1.out.mono ?_)
  rintro e w2 ⟨rfl, l1, m1, hp, hb2⟩
  rw [updF_some, updF_some] at hp
  have HP := Lib.hid hp
  have HB2 := Lib.hid (HB1.out.trans hb2)
  clear hp hb2 C1
  go_wp2_with fail
  go_ret
  exact ⟨rfl, _, _, _, HP.out, HB2.out⟩
set_option maxRecDepth 100000 in
set_option maxHeartbeats 8000000 in
theorem pdo_3_true (nn fk : Int) (xA : Option Addr) (xm xc : Nat) (bs : List UInt8) (B : Nat) (pg : Addr) (base gp gl gm gd gx N : Nat) (st : DSt) (L M : Bool → Nat) (w : World) (hG : ∀ W, Below base w W → Glob pg W ∧ Reads W B 1 xA xm (bs.map bval)) (hgb : 3 ≤ base) (hB : B ≤ base) (hm : xm ≤ 4096) (hmc : xm ≤ xc)
    (h : PairAt w base gp gl gm gd gx N st st (fun a => some (L a)) (fun a => some (M a))) (hbase : base ≤ w.heap.size) (hn1 : -9223372036854775808 ≤ nn) (hn2 : nn ≤ 9223372036854775807) (ha : nn % 2 = 1) :
    Calls Tryz.prog 25 #[.pointer (some ⟨gp, 0, none⟩), .agg #[.int .i64 3, ival nn, ival fk, .slice xA xm xc]] w (DoPost base gp gl gm gd gx N w) := by
  have HGB := Lib.hid hG
  have HBS := Lib.hid hbase
  have HAB := Lib.hid h.ab
  have HLB : Hid (bs.length = xm) := (hG w (Below.refl _ _)).2.bytes_len
  obtain ⟨w1, hw1⟩ : ∃ w1, w1 = w.alloc (.cells #[.int .i64 3, .int .i64 nn, .int .i64 fk, .slice xA xm xc] 30) := ⟨_, rfl⟩
  have hb1 : Below w.heap.size w w1 := by rw [hw1]; exact (Below.refl _ _).alloc (Nat.le_refl _) _
  have HK1 : Hid (Blk w1 w.heap.size 30 #[.int .i64 3, .int .i64 nn, .int .i64 fk, .slice xA xm xc]) := by show Blk _ _ _ _; rw [hw1]; exact Blk.new _ _ _
  have hs1 : w1.heap.size = w.heap.size + 1 := by rw [hw1]; simp
  have PB1 := Lib.hid (h.b.below hb1)
  have T1 : Hid (Two false true (fun i => PairX gp gl gm (fun a => some (L a)) (fun a => some (M a)) i ∨ i = w.heap.size) w1 base gd gx N st st) := h.two.more hb1 (fun i hi => by
    rcases hi with h | h
    · exact .inl h
    · exact .inr ⟨by omega, by omega⟩)
  have HB1 : Hid (Below base w w1) := hb1.mono hbase
  have PK : Hid (Calls Tryz.prog 28 #[.int .i64 nn, .int .i64 2] w1 fun e w' => e = .returned (.int .i64 1) ∧ w1 = w') := by
    have := pick_any nn 2 w1 (by omega) (by omega) hn1 hn2
    rwa [ha] at this
  have HSZ := Lib.hid hs1
  clear hG h hbase hb1 hs1 ha
  go_enter Tryz.func25, Tryz.ntmps25
  go_wp2_with fail
  have hw1' : w.alloc (.cells #[.int .i64 3, .int .i64 nn, .int .i64 fk, .slice xA xm xc] 30) = w1 := hw1.symm
  rw [hw1']
  clear hw1 hw1'
  go_must (refine PK.out.mono ?_)
  rintro e _ ⟨rfl, rfl⟩
  have b0 : w1.cell? ⟨w.heap.size, 0, none⟩ = some (.int .i64 3) := HK1.out.cell 0
  have b1 : w1.cell? ⟨w.heap.size, 1, none⟩ = some (.int .i64 nn) := HK1.out.cell 1
  have b2 : w1.cell? ⟨w.heap.size, 2, none⟩ = some (.int .i64 fk) := HK1.out.cell 2
  have b3 : w1.cell? ⟨w.heap.size, 3, none⟩ = some (.slice xA xm xc) := HK1.out.cell 3
  have c0 : w1.cell? ⟨gp, 0, none⟩ = some (.pointer (some ⟨gd, 0, none⟩)) := PB1.out.bp.cell 0
  have c1 : w1.cell? ⟨gp, 1, none⟩ = some (.pointer (some ⟨gx, 0, none⟩)) := PB1.out.bp.cell 1
  have c2 : w1.cell? ⟨gp, 2, none⟩ = some (.slice (some ⟨gl, 0, none⟩) 2 2) := PB1.out.bp.cell 2
  have c3 : w1.cell? ⟨gp, 3, none⟩ = some (.slice (some ⟨gm, 0, none⟩) 2 2) := PB1.out.bp.cell 3
  have d1 : w1.cell? ⟨gl, 1, none⟩ = some (.pointer (some ⟨L true, 0, none⟩)) := PB1.out.bl.cell 1
  clear PK
  have D1 : Hid (Calls Tryz.prog 15 #[.pointer (some ⟨gd, 0, none⟩), .int .i64 nn] (w1.drewN 1) fun e w' => e = .returned (.tuple #[]) ∧ Two false true (fun i => PairX gp gl gm (fun a => some (L a)) (fun a => some (M a)) i ∨ i = w.heap.size) w' base gd gx N (st.crash nn) st ∧ Only (Rest base (fun i => PairX gp gl gm (fun a => some (L a)) (fun a => some (M a)) i ∨ i = w.heap.size)) (w1.drewN 1) w') :=
    (T1.out.below (below_drewN (Below.refl _ _) 1)).left (fun S hd hb => crash_any base gd N S st nn (w1.drewN 1) hd hb)
  go_wp2_with fail
  go_still_tail 6, (by kernel_rfl)
  change wpList _ _ _ _ _ (w1.drewN 1)
  go_wp2_with fail
  go_must (refine D1.out.mono ?_)
  rintro e w2 ⟨rfl, ht2, ho2⟩
  have T2 := Lib.hid ht2
  have PB2 := Lib.hid ((PB1.out.only ((Only.refl (fun _ => False) w1).drewN 1) (fun _ _ h => h)).only ho2 (fun i hi h => h.2 (.inl hi)))
  have K2 := Lib.hid ((HK1.out.drewN 1).only ho2 (fun h => h.2 (.inr rfl)))
  have HB2 := Lib.hid ((below_drewN HB1.out 1).trans (ho2.rest (show base ≤ w1.heap.size from T1.out.base_le)))
  clear ht2 ho2 D1 b0 b1 b2 b3 c0 c1 c2 c3 d1
  have b1 : w2.cell? ⟨w.heap.size, 1, none⟩ = some (.int .i64 nn) := K2.out.cell 1
  have c1 : w2.cell? ⟨gp, 1, none⟩ = some (.pointer (some ⟨gx, 0, none⟩)) := PB2.out.bp.cell 1
  have D2 : Hid (Calls Tryz.prog 45 #[.pointer (some ⟨gx, 0, none⟩), .int .i64 nn] (w2.drewN 1) fun e w' => e = .returned (.tuple #[]) ∧ Two false true (fun i => PairX gp gl gm (fun a => some (L a)) (fun a => some (M a)) i ∨ i = w.heap.size) w' base gd gx N (st.crash nn) (st.crash nn) ∧ Only (Rest base (fun i => PairX gp gl gm (fun a => some (L a)) (fun a => some (M a)) i ∨ i = w.heap.size)) (w2.drewN 1) w') :=
    (T2.out.below (below_drewN (Below.refl _ _) 1)).right (fun S hd hb => rcrash_any base gx N S st nn (w2.drewN 1) hd hb)
  go_wp2_with fail
  go_still_tail 6, (by kernel_rfl)
  change wpList _ _ _ _ _ (w2.drewN 1)
  go_wp2_with fail
  go_must (refine D2.out.mono ?_)
  rintro e w3 ⟨rfl, ht3, ho3⟩
  have T3 := Lib.hid ht3
  have PB3 := Lib.hid ((PB2.out.only ((Only.refl (fun _ => False) w2).drewN 1) (fun _ _ h => h)).only ho3 (fun i hi h => h.2 (.inl hi)))
  have HB3 := Lib.hid ((below_drewN HB2.out 1).trans (ho3.rest (show base ≤ w2.heap.size from T2.out.base_le)))
  clear ht3 ho3 D2 b1 c1
  have C1 := Lib.hid (popen_false pg base gp gl gm gd gx N (st.crash nn) (fun a => some (L a)) (fun a => some (M a)) w3 (fun W hW => (HGB.out W (HB3.out.trans hW)).1) ⟨T3.out.less (fun i h => .inl h), PB3.out, HAB.out⟩ T3.out.base_le)
  go_wp2_with fail
  go_must (refine C1.out.mono ?_)
  rintro e w4 ⟨rfl, l1, m1, hp, hb4⟩
  rw [updF_some, updF_some] at hp
  have HP := Lib.hid hp
  have HB4 := Lib.hid (HB3.out.trans hb4)
  have C2 := Lib.hid (popen_true pg base gp gl gm gd gx N (openSt (st.crash nn) false) _ _ w4 (fun W hW => (HGB.out W (HB4.out.trans hW)).1) hp hp.two.base_le)
  clear hp hb4 C1
  go_wp2_with fail
  go_must (refine C2.out.mono ?_)
  rintro e w5 ⟨rfl, l2, m2, hp, hb5⟩
  rw [updF_some, updF_some] at hp
  have HP5 := Lib.hid hp
  have HB5 := Lib.hid (HB4.out.trans hb5)
  clear hp hb5 C2
  go_wp2_with fail
  go_ret
  exact ⟨rfl, _, _, _, HP5.out, HB5.out⟩
set_option maxRecDepth 100000 in
set_option maxHeartbeats 8000000 in
theorem pdo_5_true (nn fk : Int) (xA : Option Addr) (xm xc : Nat) (bs : List UInt8) (B : Nat) (pg : Addr) (base gp gl gm gd gx N : Nat) (st : DSt) (L M : Bool → Nat) (w : World) (hG : ∀ W, Below base w W → Glob pg W ∧ Reads W B 1 xA xm (bs.map bval)) (hgb : 3 ≤ base) (hB : B ≤ base) (hm : xm ≤ 4096) (hmc : xm ≤ xc)
    (h : PairAt w base gp gl gm gd gx N st st (fun a => some (L a)) (fun a => some (M a))) (hbase : base ≤ w.heap.size) (hn1 : -9223372036854775808 ≤ nn) (hn2 : nn ≤ 9223372036854775807) (ha : nn % 2 = 1) :
    Calls Tryz.prog 25 #[.pointer (some ⟨gp, 0, none⟩), .agg #[.int .i64 5, ival nn, ival fk, .slice xA xm xc]] w (DoPost base gp gl gm gd gx N w) := by
  have HGB := Lib.hid hG
  have HBS := Lib.hid hbase
  have HAB := Lib.hid h.ab
  have HLB : Hid (bs.length = xm) := (hG w (Below.refl _ _)).2.bytes_len
  obtain ⟨w1, hw1⟩ : ∃ w1, w1 = w.alloc (.cells #[.int .i64 5, .int .i64 nn, .int .i64 fk, .slice xA xm xc] 30) := ⟨_, rfl⟩
  have hb1 : Below w.heap.size w w1 := by rw [hw1]; exact (Below.refl _ _).alloc (Nat.le_refl _) _
  have HK1 : Hid (Blk w1 w.heap.size 30 #[.int .i64 5, .int .i64 nn, .int .i64 fk, .slice xA xm xc]) := by show Blk _ _ _ _; rw [hw1]; exact Blk.new _ _ _
  have hs1 : w1.heap.size = w.heap.size + 1 := by rw [hw1]; simp
  have PB1 := Lib.hid (h.b.below hb1)
  have T1 : Hid (Two false true (fun i => PairX gp gl gm (fun a => some (L a)) (fun a => some (M a)) i ∨ i = w.heap.size) w1 base gd gx N st st) := h.two.more hb1 (fun i hi => by
    rcases hi with h | h
    · exact .inl h
    · exact .inr ⟨by omega, by omega⟩)
  have HB1 : Hid (Below base w w1) := hb1.mono hbase
  have PK : Hid (Calls Tryz.prog 28 #[.int .i64 nn, .int .i64 2] w1 fun e w' => e = .returned (.int .i64 1) ∧ w1 = w') := by
    have := pick_any nn 2 w1 (by omega) (by omega) hn1 hn2
    rwa [ha] at this
  have HSZ := Lib.hid hs1
  clear hG h hbase hb1 hs1 ha
  go_enter Tryz.func25, Tryz.ntmps25
  go_wp2_with fail
  have hw1' : w.alloc (.cells #[.int .i64 5, .int .i64 nn, .int .i64 fk, .slice xA xm xc] 30) = w1 := hw1.symm
  rw [hw1']
  clear hw1 hw1'
  go_must (refine PK.out.mono ?_)
  rintro e _ ⟨rfl, rfl⟩
  have b0 : w1.cell? ⟨w.heap.size, 0, none⟩ = some (.int .i64 5) := HK1.out.cell 0
  have b1 : w1.cell? ⟨w.heap.size, 1, none⟩ = some (.int .i64 nn) := HK1.out.cell 1
  have b2 : w1.cell? ⟨w.heap.size, 2, none⟩ = some (.int .i64 fk) := HK1.out.cell 2
  have b3 : w1.cell? ⟨w.heap.size, 3, none⟩ = some (.slice xA xm xc) := HK1.out.cell 3
  have c0 : w1.cell? ⟨gp, 0, none⟩ = some (.pointer (some ⟨gd, 0, none⟩)) := PB1.out.bp.cell 0
  have c1 : w1.cell? ⟨gp, 1, none⟩ = some (.pointer (some ⟨gx, 0, none⟩)) := PB1.out.bp.cell 1
  have c2 : w1.cell? ⟨gp, 2, none⟩ = some (.slice (some ⟨gl, 0, none⟩) 2 2) := PB1.out.bp.cell 2
  have c3 : w1.cell? ⟨gp, 3, none⟩ = some (.slice (some ⟨gm, 0, none⟩) 2 2) := PB1.out.bp.cell 3
  have d1 : w1.cell? ⟨gl, 1, none⟩ = some (.pointer (some ⟨L true, 0, none⟩)) := PB1.out.bl.cell 1
  clear PK
  have HRB := Lib.hid (fun W hW => (HGB.out W hW).2)
  obtain ⟨wN, hwN⟩ := wroteB N st true bs
  have q1 : Below base w w1.drew := HB1.out.drew
  have D1 : Hid (Calls Tryz.prog 46 #[.pointer (some ⟨gd, 0, none⟩), .int .i64 1, .slice xA xm xc] w1.drew fun e w' => e = .returned (.int .i64 (wN : Int)) ∧ Two false true (fun i => PairX gp gl gm (fun a => some (L a)) (fun a => some (M a)) i ∨ i = w.heap.size) w' base gd gx N (st.write N true bs) st ∧ Only (Rest base (fun i => PairX gp gl gm (fun a => some (L a)) (fun a => some (M a)) i ∨ i = w.heap.size)) w1.drew w') :=
    (T1.out.below (Below.refl _ _).drew).left (fun S hd hb => by
      have := writeI base gd N S st (aI true) xA xm xc B bs w1.drew hd hb (HRB.out _ q1) (by unfold maxLen; omega)
      unfold DSt.writeI wroteI at this
      rw [onArea_aI, onArea_aI, hwN] at this
      exact this)
  have D2 : Hid (∀ W, Below base w W → Two false true (fun i => PairX gp gl gm (fun a => some (L a)) (fun a => some (M a)) i ∨ i = w.heap.size) W base gd gx N (st.write N true bs) st → Calls Tryz.prog 47 #[.pointer (some ⟨gx, 0, none⟩), .int .i64 1, .slice xA xm xc] W fun e w' => e = .returned (.int .i64 (wN : Int)) ∧ Two false true (fun i => PairX gp gl gm (fun a => some (L a)) (fun a => some (M a)) i ∨ i = w.heap.size) w' base gd gx N (st.write N true bs) (st.write N true bs) ∧ Only (Rest base (fun i => PairX gp gl gm (fun a => some (L a)) (fun a => some (M a)) i ∨ i = w.heap.size)) W w') := fun W hW hT =>
    hT.right (fun S hd hb => by
      have := rwriteI base gx N S st (aI true) xA xm xc B bs W hd hb (HRB.out _ hW) (by unfold maxLen; omega)
      unfold DSt.writeI wroteI at this
      rw [onArea_aI, onArea_aI, hwN] at this
      exact this)
  have PBD := Lib.hid (PB1.out.only ((Only.refl (fun _ => False) w1).drew) (fun _ _ h => h))
  have KD := Lib.hid HK1.out.drew
  have hww : ((wN : Int) == (wN : Int)) = true := by simp
  clear hwN
  go_wp2_with fail
  go_region_held3 (fun W => W.cell? ⟨gp, 0, none⟩ = some (.pointer (some ⟨gd, 0, none⟩)) ∧ W.cell? ⟨gp, 1, none⟩ = some (.pointer (some ⟨gx, 0, none⟩)) ∧ W.cell? ⟨w.heap.size, 3, none⟩ = some (.slice xA xm xc)) (first | exact ⟨c0, c1, b3⟩ | exact ⟨PB2.out.bp.cell 0, PB2.out.bp.cell 1, K2.out.cell 3⟩ | exact ⟨PB3.out.bp.cell 0, PB3.out.bp.cell 1, K3.out.cell 3⟩) ((first | (go_at_call 46; refine D1.out.mono ?_; rintro e w2 ⟨rfl, ht2, ho2⟩; have T2 := Lib.hid ht2; have PB2 := Lib.hid (PBD.out.only ho2 (fun i hi h => h.2 (.inl hi))); have K2 := Lib.hid (KD.out.only ho2 (fun h => h.2 (.inr rfl))); have HB2 := Lib.hid (q1.trans (ho2.rest (show base ≤ w1.heap.size from T1.out.base_le))); clear ht2 ho2) | (go_at_call 47; refine (D2.out w2 HB2.out T2.out).mono ?_; rintro e w3 ⟨rfl, ht3, ho3⟩; have T3 := Lib.hid ht3; have PB3 := Lib.hid (PB2.out.only ho3 (fun i hi h => h.2 (.inl hi))); have K3 := Lib.hid (K2.out.only ho3 (fun h => h.2 (.inr rfl))); have HB3 := Lib.hid (HB2.out.trans (ho3.rest T2.out.base_le)); clear ht3 ho3) | fail))
  go_wp2_with fail
  go_ret
  exact ⟨rfl, _, L, M, ⟨T3.out.less (fun i h => .inl h), PB3.out, HAB.out⟩, HB3.out⟩
set_option maxRecDepth 100000 in
set_option maxHeartbeats 8000000 in
theorem pdo_k_true (k : Int) (hk0 : (k == 0) = false) (hk1 : (k == 1) = false) (hk2 : (k == 2) = false) (hk3 : (k == 3) = false) (hk4 : (k == 4) = false) (hk5 : (k == 5) = false) (nn fk : Int) (xA : Option Addr) (xm xc : Nat) (bs : List UInt8) (B : Nat) (pg : Addr) (base gp gl gm gd gx N : Nat) (st : DSt) (L M : Bool → Nat) (w : World) (hG : ∀ W, Below base w W → Glob pg W ∧ Reads W B 1 xA xm (bs.map bval)) (hgb : 3 ≤ base) (hB : B ≤ base) (hm : xm ≤ 4096) (hmc : xm ≤ xc)
    (h : PairAt w base gp gl gm gd gx N st st (fun a => some (L a)) (fun a => some (M a))) (hbase : base ≤ w.heap.size) (hn1 : -9223372036854775808 ≤ nn) (hn2 : nn ≤ 9223372036854775807) (ha : nn % 2 = 1) :
    Calls Tryz.prog 25 #[.pointer (some ⟨gp, 0, none⟩), .agg #[.int .i64 k, ival nn, ival fk, .slice xA xm xc]] w (DoPost base gp gl gm gd gx N w) := by
  have HGB := Lib.hid hG
  have HBS := Lib.hid hbase
  have HAB := Lib.hid h.ab
  have HLB : Hid (bs.length = xm) := (hG w (Below.refl _ _)).2.bytes_len
  obtain ⟨w1, hw1⟩ : ∃ w1, w1 = w.alloc (.cells #[.int .i64 k, .int .i64 nn, .int .i64 fk, .slice xA xm xc] 30) := ⟨_, rfl⟩
  have hb1 : Below w.heap.size w w1 := by rw [hw1]; exact (Below.refl _ _).alloc (Nat.le_refl _) _
  have HK1 : Hid (Blk w1 w.heap.size 30 #[.int .i64 k, .int .i64 nn, .int .i64 fk, .slice xA xm xc]) := by show Blk _ _ _ _; rw [hw1]; exact Blk.new _ _ _
  have hs1 : w1.heap.size = w.heap.size + 1 := by rw [hw1]; simp
  have PB1 := Lib.hid (h.b.below hb1)
  have T1 : Hid (Two false true (fun i => PairX gp gl gm (fun a => some (L a)) (fun a => some (M a)) i ∨ i = w.heap.size) w1 base gd gx N st st) := h.two.more hb1 (fun i hi => by
    rcases hi with h | h
    · exact .inl h
    · exact .inr ⟨by omega, by omega⟩)
  have HB1 : Hid (Below base w w1) := hb1.mono hbase
  have PK : Hid (Calls Tryz.prog 28 #[.int .i64 nn, .int .i64 2] w1 fun e w' => e = .returned (.int .i64 1) ∧ w1 = w') := by
    have := pick_any nn 2 w1 (by omega) (by omega) hn1 hn2
    rwa [ha] at this
  have HSZ := Lib.hid hs1
  clear hG h hbase hb1 hs1 ha
  go_enter Tryz.func25, Tryz.ntmps25
  go_wp2_with fail
  have hw1' : w.alloc (.cells #[.int .i64 k, .int .i64 nn, .int .i64 fk, .slice xA xm xc] 30) = w1 := hw1.symm
  rw [hw1']
  clear hw1 hw1'
  go_must (refine PK.out.mono ?_)
  rintro e _ ⟨rfl, rfl⟩
  have b0 : w1.cell? ⟨w.heap.size, 0, none⟩ = some (.int .i64 k) := HK1.out.cell 0
  have b1 : w1.cell? ⟨w.heap.size, 1, none⟩ = some (.int .i64 nn) := HK1.out.cell 1
  have b2 : w1.cell? ⟨w.heap.size, 2, none⟩ = some (.int .i64 fk) := HK1.out.cell 2
  have b3 : w1.cell? ⟨w.heap.size, 3, none⟩ = some (.slice xA xm xc) := HK1.out.cell 3
  have c0 : w1.cell? ⟨gp, 0, none⟩ = some (.pointer (some ⟨gd, 0, none⟩)) := PB1.out.bp.cell 0
  have c1 : w1.cell? ⟨gp, 1, none⟩ = some (.pointer (some ⟨gx, 0, none⟩)) := PB1.out.bp.cell 1
  have c2 : w1.cell? ⟨gp, 2, none⟩ = some (.slice (some ⟨gl, 0, none⟩) 2 2) := PB1.out.bp.cell 2
  have c3 : w1.cell? ⟨gp, 3, none⟩ = some (.slice (some ⟨gm, 0, none⟩) 2 2) := PB1.out.bp.cell 3
  have d1 : w1.cell? ⟨gl, 1, none⟩ = some (.pointer (some ⟨L true, 0, none⟩)) := PB1.out.bl.cell 1
  clear PK
  go_wp2_with fail
  go_ret
  exact ⟨rfl, _, L, M, ⟨T1.out.less (fun i h => .inl h), PB1.out, HAB.out⟩, HB1.out⟩
set_option maxRecDepth 100000 in
set_option maxHeartbeats 8000000 in
theorem pdo_0_true (nn fk : Int) (xA : Option Addr) (xm xc : Nat) (bs : List UInt8) (B : Nat) (pg : Addr) (base gp gl gm gd gx N : Nat) (st : DSt) (L M : Bool → Nat) (w : World) (hG : ∀ W, Below base w W → Glob pg W ∧ Reads W B 1 xA xm (bs.map bval)) (hgb : 3 ≤ base) (hB : B ≤ base) (hm : xm ≤ 4096) (hmc : xm ≤ xc)
    (h : PairAt w base gp gl gm gd gx N st st (fun a => some (L a)) (fun a => some (M a))) (hbase : base ≤ w.heap.size) (hn1 : -9223372036854775808 ≤ nn) (hn2 : nn ≤ 9223372036854775807) (ha : nn % 2 = 1) :
    Calls Tryz.prog 25 #[.pointer (some ⟨gp, 0, none⟩), .agg #[.int .i64 0, ival nn, ival fk, .slice xA xm xc]] w (DoPost base gp gl gm gd gx N w) := by
  have HGB := Lib.hid hG
  have HBS := Lib.hid hbase
  have HAB := Lib.hid h.ab
  have HLB : Hid (bs.length = xm) := (hG w (Below.refl _ _)).2.bytes_len
  obtain ⟨w1, hw1⟩ : ∃ w1, w1 = w.alloc (.cells #[.int .i64 0, .int .i64 nn, .int .i64 fk, .slice xA xm xc] 30) := ⟨_, rfl⟩
  have hb1 : Below w.heap.size w w1 := by rw [hw1]; exact (Below.refl _ _).alloc (Nat.le_refl _) _
  have HK1 : Hid (Blk w1 w.heap.size 30 #[.int .i64 0, .int .i64 nn, .int .i64 fk, .slice xA xm xc]) := by show Blk _ _ _ _; rw [hw1]; exact Blk.new _ _ _
  have hs1 : w1.heap.size = w.heap.size + 1 := by rw [hw1]; simp
  have PB1 := Lib.hid (h.b.below hb1)
  have T1 : Hid (Two false true (fun i => PairX gp gl gm (fun a => some (L a)) (fun a => some (M a)) i ∨ i = w.heap.size) w1 base gd gx N st st) := h.two.more hb1 (fun i hi => by
    rcases hi with h | h
    · exact .inl h
    · exact .inr ⟨by omega, by omega⟩)
  have HB1 : Hid (Below base w w1) := hb1.mono hbase
  have PK : Hid (Calls Tryz.prog 28 #[.int .i64 nn, .int .i64 2] w1 fun e w' => e = .returned (.int .i64 1) ∧ w1 = w') := by
    have := pick_any nn 2 w1 (by omega) (by omega) hn1 hn2
    rwa [ha] at this
  have HSZ := Lib.hid hs1
  clear hG h hbase hb1 hs1 ha
  go_enter Tryz.func25, Tryz.ntmps25
  go_wp2_with fail
  have hw1' : w.alloc (.cells #[.int .i64 0, .int .i64 nn, .int .i64 fk, .slice xA xm xc] 30) = w1 := hw1.symm
  rw [hw1']
  clear hw1 hw1'
  go_must (refine PK.out.mono ?_)
  rintro e _ ⟨rfl, rfl⟩
  have b0 : w1.cell? ⟨w.heap.size, 0, none⟩ = some (.int .i64 0) := HK1.out.cell 0
  have b1 : w1.cell? ⟨w.heap.size, 1, none⟩ = some (.int .i64 nn) := HK1.out.cell 1
  have b2 : w1.cell? ⟨w.heap.size, 2, none⟩ = some (.int .i64 fk) := HK1.out.cell 2
  have b3 : w1.cell? ⟨w.heap.size, 3, none⟩ = some (.slice xA xm xc) := HK1.out.cell 3
  have c0 : w1.cell? ⟨gp, 0, none⟩ = some (.pointer (some ⟨gd, 0, none⟩)) := PB1.out.bp.cell 0
  have c1 : w1.cell? ⟨gp, 1, none⟩ = some (.pointer (some ⟨gx, 0, none⟩)) := PB1.out.bp.cell 1
  have c2 : w1.cell? ⟨gp, 2, none⟩ = some (.slice (some ⟨gl, 0, none⟩) 2 2) := PB1.out.bp.cell 2
  have c3 : w1.cell? ⟨gp, 3, none⟩ = some (.slice (some ⟨gm, 0, none⟩) 2 2) := PB1.out.bp.cell 3
  have d1 : w1.cell? ⟨gl, 1, none⟩ = some (.pointer (some ⟨L true, 0, none⟩)) := PB1.out.bl.cell 1
  clear PK
  have C1 := Lib.hid (lentBytes_any xA xm xc B bs w1 (HGB.out _ HB1.out).2 (Nat.le_trans hB T1.out.base_le) (by omega))
  go_wp2_with fail
  go_must (refine C1.out.mono ?_)
  rintro e w2 ⟨v6, rfl, hown6, hb2⟩
  obtain ⟨A6, c6, rfl, hc61, hc62, _⟩ := own_slice hown6
  have HB2 := Lib.hid (HB1.out.trans (hb2.mono T1.out.base_le))
  have PB2 := Lib.hid (PB1.out.below hb2)
  have K2 := Lib.hid (HK1.out.below hb2 HK1.out.lt)
  have O2 := Lib.hid hown6
  have T2 : Hid (Two false true (fun i => PairX gp gl gm (fun a => some (L a)) (fun a => some (M a)) i ∨ i = w.heap.size ∨ (Value.slice A6 (xm + 5) c6).ownBlock = some i) w2 base gd gx N st st) := T1.out.more hb2 (fun i hi => by
    rcases hi with h | h | h
    · exact .inl (.inl h)
    · exact .inl (.inr h)
    · exact .inr (hown6.lt i h))
  have hr6 : Reads w2 w2.heap.size 1 A6 xm (bs.map bval) := by
    have h3 := (Reads.of_own hown6).take (k := xm) (by omega)
    rw [Nat.mul_one, ← List.map_take] at h3
    have hl := HLB.out
    rwa [List.take_append_of_le_length (by omega), List.take_of_length_le (by omega)] at h3
  have HR6 := Lib.hid hr6
  clear hown6 hb2 hr6 C1 b0 b1 b2 b3 c0 c1 c2 c3 d1
  have b2 : w2.cell? ⟨w.heap.size, 2, none⟩ = some (.int .i64 fk) := K2.out.cell 2
  have b3 : w2.cell? ⟨w.heap.size, 3, none⟩ = some (.slice xA xm xc) := K2.out.cell 3
  have c2 : w2.cell? ⟨gp, 2, none⟩ = some (.slice (some ⟨gl, 0, none⟩) 2 2) := PB2.out.bp.cell 2
  have d1 : w2.cell? ⟨gl, 1, none⟩ = some (.pointer (some ⟨L true, 0, none⟩)) := PB2.out.bl.cell 1
  have hx6 : xm ≤ c6 := by omega
  have hx6I : (xm : Int) ≤ (c6 : Int) := by omega
  have D2' := (T2.out.below (below_drewN (Below.refl _ _) 1)).left (fun S hd hb => wappend_any true (L true) base gd N S st fk bs A6 xm c6 w2.heap.size pg (w2.drewN 1) (HGB.out _ (below_drewN HB2.out 1)).1 hgb hd hb ((PB2.out.lo true _ rfl).drewN 1) (HR6.out.drewN 1) (Nat.le_refl _) (by unfold maxLen; omega))
  have D4' : ∀ W, Below base w W → Two false true (fun i => PairX gp gl gm (fun a => some (L a)) (fun a => some (M a)) i ∨ i = w.heap.size ∨ (Value.slice A6 (xm + 5) c6).ownBlock = some i) W base gd gx N (appSt N st true ⟨fk, bs⟩) st → Blk W (M true) (lType true) (lCells gx true) → Calls Tryz.prog 42 #[.pointer (some ⟨M true, 0, none⟩), .agg #[ival fk, .slice xA xm xc]] W fun e w' => e = .returned (.int .i64 (appN N st true ⟨fk, bs⟩ : Nat)) ∧ Two false true (fun i => PairX gp gl gm (fun a => some (L a)) (fun a => some (M a)) i ∨ i = w.heap.size ∨ (Value.slice A6 (xm + 5) c6).ownBlock = some i) w' base gd gx N (appSt N st true ⟨fk, bs⟩) (appSt N st true ⟨fk, bs⟩) ∧ Only (Rest base (fun i => PairX gp gl gm (fun a => some (L a)) (fun a => some (M a)) i ∨ i = w.heap.size ∨ (Value.slice A6 (xm + 5) c6).ownBlock = some i)) W w' := fun W hW hT hK =>
    hT.right (fun S hd hb => rappend_any true (M true) base gx N S st fk bs xA xm xc B W hd hb hK (HGB.out _ hW).2 (Nat.le_trans hB hT.base_le) (by unfold maxLen; omega))
  generalize appN N st true ⟨fk, bs⟩ = E at *
  generalize appSt N st true ⟨fk, bs⟩ = s2 at *
  have D2 := Lib.hid D2'
  have D4 := Lib.hid D4'
  clear D2' D4'
  go_wp2_with fail
  go_still_tail 17, (by kernel_rfl)
  change wpList _ _ _ _ _ (w2.drewN 1)
  go_wp2_with fail
  go_must (refine D2.out.mono ?_)
  rintro e w3 ⟨rfl, ht3, ho3⟩
  have T3 := Lib.hid ht3
  have PB3 := Lib.hid ((PB2.out.only ((Only.refl (fun _ => False) w2).drewN 1) (fun _ _ h => h)).only ho3 (fun i hi h => h.2 (.inl hi)))
  have K3 := Lib.hid ((K2.out.drewN 1).only ho3 (fun h => h.2 (.inr (.inl rfl))))
  have O3 := Lib.hid (own_only (own_only O2.out ((Only.refl (fun _ => False) w2).drewN 1) (fun _ _ h => h)) ho3 (fun i hi h => h.2 (.inr (.inr hi))))
  have HB3 := Lib.hid ((below_drewN HB2.out 1).trans (ho3.rest (show base ≤ w2.heap.size from T2.out.base_le)))
  clear ht3 ho3 D2 b2 b3 c2 d1 T2 PB2 K2 O2 HB2 HR6
  have b3 : w3.cell? ⟨w.heap.size, 3, none⟩ = some (.slice xA xm xc) := K3.out.cell 3
  have C4 := Lib.hid (keptBytes_any A6 xA (xm + 5) c6 xm xc w3.heap.size B bs w3 (Reads.of_own O3.out) (HGB.out _ HB3.out).2 (by unfold maxLen; omega) hc61)
  go_wp2_with fail
  go_must (refine C4.out.mono ?_)
  rintro e w4 ⟨rfl, q4, hw4⟩
  have T4 : Hid (Two false true (fun i => PairX gp gl gm (fun a => some (L a)) (fun a => some (M a)) i ∨ i = w.heap.size ∨ (Value.slice A6 (xm + 5) c6).ownBlock = some i) w4 base gd gx N s2 st) := by show Two _ _ _ _ _ _ _ _ _ _; rw [hw4]; exact T3.out.below (below_drewN (Below.refl _ _) q4)
  have PB4 : Hid (PairB w4 gp gl gm gd gx (fun a => some (L a)) (fun a => some (M a))) := by rw [hw4]; exact PB3.out.only ((Only.refl (fun _ => False) w3).drewN q4) (fun _ _ h => h)
  have K4 : Hid (Blk w4 w.heap.size 30 #[.int .i64 0, .int .i64 nn, .int .i64 fk, .slice xA xm xc]) := by show Blk _ _ _ _; rw [hw4]; exact K3.out.drewN q4
  have O4 : Hid (w4.ownsRow w1.heap.size 5 1 (.slice A6 (xm + 5) c6) (xm + 5) ((bs ++ marks).map bval)) := by show World.ownsRow _ _ _ _ _ _ _; rw [hw4]; exact own_only O3.out ((Only.refl (fun _ => False) w3).drewN q4) (fun _ _ h => h)
  have HB4 : Hid (Below base w w4) := by show Below _ _ _; rw [hw4]; exact below_drewN HB3.out q4
  clear hw4 C4 T3 PB3 K3 O3 HB3 b3
  have C5 := Lib.hid (spoil_any A6 (xm + 5) c6 _ _ w4 O4.out (by omega))
  go_wp2_with fail
  go_must (refine C5.out.mono ?_)
  rintro e w5 ⟨rfl, ho5, _⟩
  have hv6 : ∀ i, (Value.slice A6 (xm + 5) c6).ownBlock = some i → w1.heap.size ≤ i := fun i hi => (O4.out.lt i hi).1
  have T5 := Lib.hid (T4.out.offX ho5 (fun i hi => .inr (.inr hi)))
  have PB5 := Lib.hid (PB4.out.only ho5 (fun i hi h => by have := hv6 i h; have := PB1.out.lt hi; omega))
  have K5 := Lib.hid (K4.out.only ho5 (fun h => by have := hv6 _ h; have := HSZ.out; omega))
  have HB5 := Lib.hid (HB4.out.trans (ho5.to (fun i hi => by have := hv6 i hi; have := HSZ.out; have := HBS.out; omega) T4.out.base_le))
  clear ho5 C5 T4 PB4 K4 O4 HB4 hv6
  have b2 : w5.cell? ⟨w.heap.size, 2, none⟩ = some (.int .i64 fk) := K5.out.cell 2
  have b3 : w5.cell? ⟨w.heap.size, 3, none⟩ = some (.slice xA xm xc) := K5.out.cell 3
  have c3 : w5.cell? ⟨gp, 3, none⟩ = some (.slice (some ⟨gm, 0, none⟩) 2 2) := PB5.out.bp.cell 3
  have d2 : w5.cell? ⟨gm, 1, none⟩ = some (.pointer (some ⟨M true, 0, none⟩)) := PB5.out.bm.cell 1
  have PB5D := Lib.hid (PB5.out.only ((Only.refl (fun _ => False) w5).drew) (fun _ _ h => h))
  have K5D := Lib.hid K5.out.drew
  have D5 := Lib.hid (D4.out w5.drew HB5.out.drew (T5.out.below (Below.refl _ _).drew) (PB5D.out.mo true _ rfl))
  have hEE : ((E : Int) == (E : Int)) = true := by simp
  clear D4
  go_wp2_with fail
  go_region_held3 (fun W => W.cell? ⟨gp, 3, none⟩ = some (.slice (some ⟨gm, 0, none⟩) 2 2) ∧ W.cell? ⟨gm, 1, none⟩ = some (.pointer (some ⟨M true, 0, none⟩)) ∧ W.cell? ⟨w.heap.size, 2, none⟩ = some (.int .i64 fk) ∧ W.cell? ⟨w.heap.size, 3, none⟩ = some (.slice xA xm xc)) (first | exact ⟨c3, d2, b2, b3⟩ | exact ⟨PB6.out.bp.cell 3, PB6.out.bm.cell 1, K6.out.cell 2, K6.out.cell 3⟩) ((first | (go_at_call 42; refine D5.out.mono ?_; rintro e w6 ⟨rfl, ht6, ho6⟩; have T6 := Lib.hid ht6; have PB6 := Lib.hid (PB5D.out.only ho6 (fun i hi h => h.2 (.inl hi))); have K6 := Lib.hid (K5D.out.only ho6 (fun h => h.2 (.inr (.inl rfl)))); have HB6 := Lib.hid (HB5.out.drew.trans (ho6.rest (show base ≤ w5.heap.size from T5.out.base_le))); clear ht6 ho6) | fail))
  go_wp2_with fail
  go_ret
  exact ⟨rfl, _, L, M, ⟨T6.out.less (fun i h => .inl h), PB6.out, HAB.out⟩, HB6.out⟩
end Go.Proofs.YtalkglmneicpoaaGreatDoor
