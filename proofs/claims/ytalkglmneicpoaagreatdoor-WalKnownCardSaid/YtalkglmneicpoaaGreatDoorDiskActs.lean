/-
  The program's disk: what each act leaves.
-/
import Derived.Test.YtalkglmneicpoaaGreatDoorDiskCut
namespace Go.Proofs.YtalkglmneicpoaaGreatDoor
set_option linter.unusedVariables false
set_option linter.unusedSimpArgs false
open Go.RowKit
theorem cut_of {base g N : Nat} {S : Nat → Prop} {st : DSt} {n : Int} {w w' : World} {x : Bool → Value} {e : Ending} (hx : DAtX false w base g N S st x) (hbase : base ≤ w.heap.size) (a : Bool)
    (h : CutPost w g (aO a) (dType false) (dCells false N x st) (cutK n (st a).1) (cutL n (st a).1) e w') : DPost false base g N S w (.tuple #[]) (st.cut a n) e w' := by
  obtain ⟨v, rfl, hb, hown, ho⟩ := h
  have ho' : Only S w w' := ho.mono (fun i h => by subst h; exact hx.self)
  refine ⟨rfl, ⟨updF a v x, ?_⟩, ho'⟩
  have hl := cutL_len n (st a).1
  refine hx.step ho' hbase a v _ _ ?_ (own_base (by rw [hl]; exact hown) (fun _ _ => Nat.zero_le _)) (fun i hi => .inr (hown.lt i hi).1) (own_only (hx.row (!a)) ho (fun i hi h => hx.self_ne (!a) (by rw [hi, h]))) (by rw [hl]; exact Nat.le_trans (cutK_le _ _) (hx.ok.2 a).1) (Nat.le_refl _)
  rw [hl]
  cases a <;> exact hb
theorem cut_any (a : Bool) (base g N : Nat) (S : Nat → Prop) (st : DSt) (n : Int) (w : World) (h : DAt false w base g N S st) (hbase : base ≤ w.heap.size) :
    Calls Tryz.prog 32 #[.pointer (some ⟨g, aO a, none⟩), .int .i64 n] w (DPost false base g N S w (.tuple #[]) (st.cut a n)) := by
  obtain ⟨x, hx⟩ := h
  obtain ⟨A, c, he, hc1, hc2, _⟩ := own_slice (hx.row a)
  have hr := hx.row a
  rw [he] at hr
  have hk := cutK_le n (st a).1
  have hrd := (Reads.of_own hr).take hk
  rw [Nat.mul_one, ← List.map_take] at hrd
  refine (cut_raw g (aO a) (dType false) (dCells false N x st) A (st a).1.length c (st a).2 (cutK n (st a).1) n (if ((st a).1.length : Int) < n then ((st a).1.length : Int) else n) (cutL n (st a).1) w (dType_ne false).symm hx.blk ?_ ?_ hrd hk hc1 (Nat.le_trans (hx.ok.2 a).1 hx.ok.1) rfl ?_).mono fun e w' h => cut_of hx hbase a h
  · rw [← he]; cases a <;> rfl
  · cases a <;> rfl
  · unfold cutK; split <;> split <;> omega

set_option maxRecDepth 100000 in
set_option maxHeartbeats 4000000 in
theorem dcut_false (base g N : Nat) (S : Nat → Prop) (st : DSt) (n : Int) (w : World) (h : DAt false w base g N S st) (hbase : base ≤ w.heap.size) :
    Calls Tryz.prog 30 #[.pointer (some ⟨g, 0, none⟩), .int .i64 0, .int .i64 n] w (DPost false base g N S w (.tuple #[]) (st.cut false n)) := by
  have D : Hid (Calls Tryz.prog 32 #[.pointer (some ⟨g, 1, none⟩), .int .i64 n] w (DPost false base g N S w (.tuple #[]) (st.cut false n))) := cut_any false base g N S st n w h hbase
  have C := Lib.hid (at_false g)
  clear h hbase
  go_enter Tryz.func30, Tryz.ntmps30
  go_wp2_with fail
  go_must (refine (C.out _).mono ?_)
  rintro e w1 ⟨rfl, rfl⟩
  go_wp2_with fail
  go_must (refine D.out.mono ?_)
  rintro e w1 ⟨rfl, hd⟩
  have HD := Lib.hid hd
  clear hd
  go_wp2_with fail
  go_end0
  exact ⟨rfl, HD.out⟩

set_option maxRecDepth 100000 in
set_option maxHeartbeats 4000000 in
theorem sync_false (base g N : Nat) (S : Nat → Prop) (st : DSt) (w : World) (h : DAt false w base g N S st) (hbase : base ≤ w.heap.size) :
    Calls Tryz.prog 31 #[.pointer (some ⟨g, 0, none⟩), .int .i64 0] w (DPost false base g N S w (.tuple #[]) (st.sync false)) := by
  obtain ⟨x, hx⟩ := h
  have c1 : w.cell? ⟨g, 1, none⟩ = some (x false) := hx.blk.cell 1
  have c2 : w.cell? ⟨g, 2, none⟩ = some (ival (st false).2) := hx.blk.cell 2
  have f2 : w.frozen? ⟨g, 2, none⟩ = false := hx.blk.frozen 2
  obtain ⟨A, c, he, hc1, hc2, _⟩ := own_slice (hx.row false)
  rw [he] at c1
  have hend : Hid (∀ u, u = ival (st false).1.length → DPost false base g N S w (.tuple #[]) (st.sync false) (.returned (.tuple #[])) (w.setCell ⟨g, 2, none⟩ u)) := fun u hu => by
    subst hu
    have ho : Only S w (w.setCell ⟨g, 2, none⟩ (ival (st false).1.length)) := (Only.refl S w).setCell (.inl hx.self) 2 _
    refine ⟨rfl, ⟨updF false (x false) x, hx.step ho hbase false (x false) (st false).1 _ (hx.blk.set_ 2 _) ?_ (fun i hi => .inl hi) ?_ (hx.ok.2 false).1 (Nat.le_refl _)⟩, ho⟩
    · exact own_only (hx.row false) ((Only.refl (fun i => i = g) w).setCell (.inl rfl) 2 _) (fun i hi h => hx.self_ne false (by rw [hi, h]))
    · exact own_only (hx.row (!false)) ((Only.refl (fun i => i = g) w).setCell (.inl rfl) 2 _) (fun i hi h => hx.self_ne (!false) (by rw [hi, h]))
  have C := Lib.hid (at_false g)
  clear hx he hbase
  go_enter Tryz.func31, Tryz.ntmps31
  go_wp2_with fail
  go_must (refine (C.out _).mono ?_)
  rintro e w1 ⟨rfl, rfl⟩
  go_wp2_with fail
  go_end0
  exact hend.out _ rfl

set_option maxRecDepth 100000 in
set_option maxHeartbeats 4000000 in
theorem write_false (base g N : Nat) (S : Nat → Prop) (st : DSt) (Ab : Option Addr) (m cb B : Nat) (b : List UInt8) (w : World) (h : DAt false w base g N S st) (hbase : base ≤ w.heap.size) (hb : Reads w B 1 Ab m (b.map bval)) (hm : m ≤ maxLen) :
    Calls Tryz.prog 46 #[.pointer (some ⟨g, 0, none⟩), .int .i64 0, .slice Ab m cb] w (DPost false base g N S w (.int .i64 (wrote N st false b)) (st.write N false b)) := by
  have C := Lib.hid (at_false g)
  have R := Lib.hid (room_false base g N S st w h)
  have hbl := hb.bytes_len
  obtain ⟨x, hx⟩ := h
  have hN := hx.ok.1
  have hl := (hx.ok.2 false).1
  by_cases hf : b.length + (st false).1.length ≤ N
  · have hfit : fits N (st false).1 b = true := by simpa [fits] using hf
    have HE1 : Hid (wrote N st false b = 0) := by show _ = _; unfold wrote; rw [if_pos hfit]
    have HE2 : Hid (st.write N false b = updF false ((st false).1 ++ b, (st false).2) st) := by show _ = _; unfold DSt.write; rw [if_pos hfit]
    have hd : decide ((N : Int) - ((st false).1.length : Int) < (m : Int)) = false := by simp; omega
    obtain ⟨A, c, he, hc1, hc2, _⟩ := own_slice (hx.row false)
    have hrow := hx.row false
    rw [he] at hrow
    have hbl2 : (st false).1.length + m ≤ 262144 := by omega
    have c1 : ∀ q, (w.drewN q).cell? ⟨g, 1, none⟩ = some (.slice A (st false).1.length c) := fun q => by rw [← he]; exact hx.blk.cell 1
    obtain ⟨i0, hi, hz, hs, hby⟩ := info_parts (show (Tryz.prog.info? 5).map (fun i => (i.zero, i.size, i.bytes)) = some (some (.int .u8 0), 1, 1) by kernel_rfl)
    have h1c : ∀ u ∈ b.map bval, u.oneCell' = true := fun u hu => by obtain ⟨b, _, rfl⟩ := List.mem_map.1 hu; rfl
    have h2c : (st false).1.length + m ≤ maxLen := by unfold maxLen; omega
    have h3c : ((st false).1.length + m) * 1 ≤ 140737488355328 := by omega
    have HX := Lib.hid hx
    have HROW := Lib.hid hrow
    have HRB := Lib.hid hb
    have HBE := Lib.hid hbl
    have HEQ := Lib.hid he
    have hend : Hid (∀ q w1 v1, w1.ownsRow 0 5 1 v1 ((st false).1.length + m) ((st false).1.map bval ++ b.map bval) → (w.drewN q).grownBy w1 (Value.slice A (st false).1.length c).ownBlock → (v1.ownBlock = (Value.slice A (st false).1.length c).ownBlock ∨ v1.ownBlock = some (w.drewN q).heap.size) →
        DPost false base g N S w (.int .i64 (wrote N st false b)) (st.write N false b) (.returned (.int .i64 0)) (w1.setCell ⟨g, 1, none⟩ v1)) := fun q w1 v1 hown hg hv => by
      have hrowb : ∀ i, (Value.slice A (st false).1.length c).ownBlock = some i → S i := fun i hi => hx.inS false i (by rw [he]; exact hi)
      have ho1 : Only S w w1 := ((Only.refl S w).drewN q).grown hg (fun i hi => .inl (hrowb i hi))
      have ho : Only S w (w1.setCell ⟨g, 1, none⟩ v1) := ho1.setCell (.inl hx.self) 1 _
      have hgn : some g ≠ (Value.slice A (st false).1.length c).ownBlock := by rw [← he]; exact fun h => hx.self_ne false h.symm
      have hsz : w.heap.size ≤ w1.heap.size := ho1.size
      have hvg : ∀ i, v1.ownBlock = some i → ¬ (i = g) := fun i hi h => by
        subst h
        rcases hv with h1 | h1
        · exact hgn (by rw [← h1, hi])
        · rw [hi] at h1
          have : i = w.heap.size := Option.some.inj h1
          have := hx.blk.lt
          omega
      rw [HE1.out, HE2.out]
      refine ⟨rfl, ⟨updF false v1 x, hx.step ho hbase false v1 _ _ (((hx.blk.drewN q).grown hg hgn).set_ 1 _) ?_ ?_ ?_ (by rw [List.length_append]; omega) (by rw [List.length_append]; have := (hx.ok.2 false).2; omega)⟩, ho⟩
      · have := own_only hown ((Only.refl (fun i => i = g) w1).setCell (.inl rfl) 1 v1) hvg
        rwa [← List.map_append, ← HBE.out, ← List.length_append] at this
      · intro i hi
        rcases hv with h1 | h1
        · exact .inl (by rw [he, ← h1]; exact hi)
        · rw [hi] at h1
          exact .inr (Nat.le_of_eq (Option.some.inj h1).symm)
      · have h1 : w1.ownsRow 0 5 1 (x (!false)) (st (!false)).1.length ((st (!false)).1.map bval) := (own_only (S := fun _ => False) (hx.row (!false)) ((Only.refl _ w).drewN q) (fun _ _ h => h)).kept hg (by
          cases hh : (x (!false)).ownBlock with
          | none => exact .inl rfl
          | some i =>
            refine .inr fun h => ?_
            have h2 : (x false).ownBlock = some i := by rw [he]; exact h.symm
            exact hx.apart false i h2 hh)
        exact own_only h1 ((Only.refl (fun i => i = g) w1).setCell (.inl rfl) 1 v1) (fun i hi h => hx.self_ne (!false) (by rw [hi, h]))
    generalize (st false).1.length = len at *
    clear hx hf hfit he hrow hb hbl
    go_enter Tryz.func46, Tryz.ntmps46
    go_wp2_with fail
    go_must (refine (C.out _).mono ?_)
    rintro e w1 ⟨rfl, rfl⟩
    go_wp2_with fail
    go_must (refine R.out.mono ?_)
    rintro e w1 ⟨rfl, q, rfl⟩
    have HO := Lib.hid (own_only (S := fun _ => False) HROW.out ((Only.refl _ w).drewN q) (fun _ _ h => h))
    have HRB2 := Lib.hid (HRB.out.drewN q)
    go_wp2_with
      (at_builtin
       go_must (refine wpList_append_any (w.drewN q) rfl (.tmp 25) (.tmp 26) 22 rfl 0 5 i0 (.int .u8 0) 1 1 Tryz.underlying22 hi hz hs hby rfl (by decide) _ len _ rfl HO.out B Ab m cb (b.map bval) rfl HRB2.out h1c h2c h3c (Nat.zero_le _) ?_)
       intro v1 w1 hown1 hg1 hv1
       have hgn : some g ≠ (Value.slice A len c).ownBlock := by rw [← HEQ.out]; exact fun h => HX.out.self_ne false h.symm
       have kk := (HX.out.blk.drewN q).grown hg1 hgn
       have y1 : w1.cell? ⟨g, 1, none⟩ = some (.slice A len c) := by rw [← HEQ.out]; exact kk.cell 1
       have y2 : w1.frozen? ⟨g, 1, none⟩ = false := kk.frozen 1
       have HEND := Lib.hid (hend.out q w1 v1 hown1 hg1 hv1)
       obtain ⟨A1, cc1, rfl, hd1, hd2, _⟩ := own_slice hown1
       clear hown1 hg1 hv1 hgn kk c1)
    go_ret
    exact HEND.out
  · have hfit : fits N (st false).1 b = false := by simpa [fits] using hf
    have HE1 : Hid (wrote N st false b = 12) := by show _ = _; unfold wrote; rw [if_neg (by simp [hfit])]
    have HE2 : Hid (st.write N false b = st) := by show _ = _; unfold DSt.write; rw [if_neg (by simp [hfit])]
    have hd : (N : Int) - ((st false).1.length : Int) < (m : Int) := by omega
    have hend : Hid (∀ q, DPost false base g N S w (.int .i64 (wrote N st false b)) (st.write N false b) (.returned (.int .i64 12)) (w.drewN q)) := fun q => by
      rw [HE1.out, HE2.out]
      have ho := (Only.refl S w).drewN q
      refine ⟨rfl, ?_, ho⟩
      have h1 : DAt false (w.drewN q) base g N S st := DAt.drewN ⟨x, hx⟩ q
      exact h1.more (fun i hi => .inl hi) (fun i hi => by
        rcases hi with h | ⟨h1, h2⟩
        · exact hx.all i h
        · exact absurd (show i < w.heap.size from h2) (by omega))
    generalize (st false).1.length = len at *
    clear hx hf hfit hb hbl
    go_enter Tryz.func46, Tryz.ntmps46
    go_wp2_with fail
    go_must (refine (C.out _).mono ?_)
    rintro e w1 ⟨rfl, rfl⟩
    go_wp2_with fail
    go_must (refine R.out.mono ?_)
    rintro e w1 ⟨rfl, q, rfl⟩
    go_wp2_with fail
    go_ret
    exact hend.out q

set_option maxRecDepth 100000 in
set_option maxHeartbeats 4000000 in
theorem dcut_true (base g N : Nat) (S : Nat → Prop) (st : DSt) (n : Int) (w : World) (h : DAt false w base g N S st) (hbase : base ≤ w.heap.size) :
    Calls Tryz.prog 30 #[.pointer (some ⟨g, 0, none⟩), .int .i64 1, .int .i64 n] w (DPost false base g N S w (.tuple #[]) (st.cut true n)) := by
  have D : Hid (Calls Tryz.prog 32 #[.pointer (some ⟨g, 3, none⟩), .int .i64 n] w (DPost false base g N S w (.tuple #[]) (st.cut true n))) := cut_any true base g N S st n w h hbase
  have C := Lib.hid (at_true g)
  clear h hbase
  go_enter Tryz.func30, Tryz.ntmps30
  go_wp2_with fail
  go_must (refine (C.out _).mono ?_)
  rintro e w1 ⟨rfl, rfl⟩
  go_wp2_with fail
  go_must (refine D.out.mono ?_)
  rintro e w1 ⟨rfl, hd⟩
  have HD := Lib.hid hd
  clear hd
  go_wp2_with fail
  go_end0
  exact ⟨rfl, HD.out⟩

set_option maxRecDepth 100000 in
set_option maxHeartbeats 4000000 in
theorem sync_true (base g N : Nat) (S : Nat → Prop) (st : DSt) (w : World) (h : DAt false w base g N S st) (hbase : base ≤ w.heap.size) :
    Calls Tryz.prog 31 #[.pointer (some ⟨g, 0, none⟩), .int .i64 1] w (DPost false base g N S w (.tuple #[]) (st.sync true)) := by
  obtain ⟨x, hx⟩ := h
  have c1 : w.cell? ⟨g, 3, none⟩ = some (x true) := hx.blk.cell 3
  have c2 : w.cell? ⟨g, 4, none⟩ = some (ival (st true).2) := hx.blk.cell 4
  have f2 : w.frozen? ⟨g, 4, none⟩ = false := hx.blk.frozen 4
  obtain ⟨A, c, he, hc1, hc2, _⟩ := own_slice (hx.row true)
  rw [he] at c1
  have hend : Hid (∀ u, u = ival (st true).1.length → DPost false base g N S w (.tuple #[]) (st.sync true) (.returned (.tuple #[])) (w.setCell ⟨g, 4, none⟩ u)) := fun u hu => by
    subst hu
    have ho : Only S w (w.setCell ⟨g, 4, none⟩ (ival (st true).1.length)) := (Only.refl S w).setCell (.inl hx.self) 4 _
    refine ⟨rfl, ⟨updF true (x true) x, hx.step ho hbase true (x true) (st true).1 _ (hx.blk.set_ 4 _) ?_ (fun i hi => .inl hi) ?_ (hx.ok.2 true).1 (Nat.le_refl _)⟩, ho⟩
    · exact own_only (hx.row true) ((Only.refl (fun i => i = g) w).setCell (.inl rfl) 4 _) (fun i hi h => hx.self_ne true (by rw [hi, h]))
    · exact own_only (hx.row (!true)) ((Only.refl (fun i => i = g) w).setCell (.inl rfl) 4 _) (fun i hi h => hx.self_ne (!true) (by rw [hi, h]))
  have C := Lib.hid (at_true g)
  clear hx he hbase
  go_enter Tryz.func31, Tryz.ntmps31
  go_wp2_with fail
  go_must (refine (C.out _).mono ?_)
  rintro e w1 ⟨rfl, rfl⟩
  go_wp2_with fail
  go_end0
  exact hend.out _ rfl

set_option maxRecDepth 100000 in
set_option maxHeartbeats 4000000 in
theorem write_true (base g N : Nat) (S : Nat → Prop) (st : DSt) (Ab : Option Addr) (m cb B : Nat) (b : List UInt8) (w : World) (h : DAt false w base g N S st) (hbase : base ≤ w.heap.size) (hb : Reads w B 1 Ab m (b.map bval)) (hm : m ≤ maxLen) :
    Calls Tryz.prog 46 #[.pointer (some ⟨g, 0, none⟩), .int .i64 1, .slice Ab m cb] w (DPost false base g N S w (.int .i64 (wrote N st true b)) (st.write N true b)) := by
  have C := Lib.hid (at_true g)
  have R := Lib.hid (room_true base g N S st w h)
  have hbl := hb.bytes_len
  obtain ⟨x, hx⟩ := h
  have hN := hx.ok.1
  have hl := (hx.ok.2 true).1
  by_cases hf : b.length + (st true).1.length ≤ N
  · have hfit : fits N (st true).1 b = true := by simpa [fits] using hf
    have HE1 : Hid (wrote N st true b = 0) := by show _ = _; unfold wrote; rw [if_pos hfit]
    have HE2 : Hid (st.write N true b = updF true ((st true).1 ++ b, (st true).2) st) := by show _ = _; unfold DSt.write; rw [if_pos hfit]
    have hd : decide ((N : Int) - ((st true).1.length : Int) < (m : Int)) = false := by simp; omega
    obtain ⟨A, c, he, hc1, hc2, _⟩ := own_slice (hx.row true)
    have hrow := hx.row true
    rw [he] at hrow
    have hbl2 : (st true).1.length + m ≤ 262144 := by omega
    have c1 : ∀ q, (w.drewN q).cell? ⟨g, 3, none⟩ = some (.slice A (st true).1.length c) := fun q => by rw [← he]; exact hx.blk.cell 3
    obtain ⟨i0, hi, hz, hs, hby⟩ := info_parts (show (Tryz.prog.info? 5).map (fun i => (i.zero, i.size, i.bytes)) = some (some (.int .u8 0), 1, 1) by kernel_rfl)
    have h1c : ∀ u ∈ b.map bval, u.oneCell' = true := fun u hu => by obtain ⟨b, _, rfl⟩ := List.mem_map.1 hu; rfl
    have h2c : (st true).1.length + m ≤ maxLen := by unfold maxLen; omega
    have h3c : ((st true).1.length + m) * 1 ≤ 140737488355328 := by omega
    have HX := Lib.hid hx
    have HROW := Lib.hid hrow
    have HRB := Lib.hid hb
    have HBE := Lib.hid hbl
    have HEQ := Lib.hid he
    have hend : Hid (∀ q w1 v1, w1.ownsRow 0 5 1 v1 ((st true).1.length + m) ((st true).1.map bval ++ b.map bval) → (w.drewN q).grownBy w1 (Value.slice A (st true).1.length c).ownBlock → (v1.ownBlock = (Value.slice A (st true).1.length c).ownBlock ∨ v1.ownBlock = some (w.drewN q).heap.size) →
        DPost false base g N S w (.int .i64 (wrote N st true b)) (st.write N true b) (.returned (.int .i64 0)) (w1.setCell ⟨g, 3, none⟩ v1)) := fun q w1 v1 hown hg hv => by
      have hrowb : ∀ i, (Value.slice A (st true).1.length c).ownBlock = some i → S i := fun i hi => hx.inS true i (by rw [he]; exact hi)
      have ho1 : Only S w w1 := ((Only.refl S w).drewN q).grown hg (fun i hi => .inl (hrowb i hi))
      have ho : Only S w (w1.setCell ⟨g, 3, none⟩ v1) := ho1.setCell (.inl hx.self) 3 _
      have hgn : some g ≠ (Value.slice A (st true).1.length c).ownBlock := by rw [← he]; exact fun h => hx.self_ne true h.symm
      have hsz : w.heap.size ≤ w1.heap.size := ho1.size
      have hvg : ∀ i, v1.ownBlock = some i → ¬ (i = g) := fun i hi h => by
        subst h
        rcases hv with h1 | h1
        · exact hgn (by rw [← h1, hi])
        · rw [hi] at h1
          have : i = w.heap.size := Option.some.inj h1
          have := hx.blk.lt
          omega
      rw [HE1.out, HE2.out]
      refine ⟨rfl, ⟨updF true v1 x, hx.step ho hbase true v1 _ _ (((hx.blk.drewN q).grown hg hgn).set_ 3 _) ?_ ?_ ?_ (by rw [List.length_append]; omega) (by rw [List.length_append]; have := (hx.ok.2 true).2; omega)⟩, ho⟩
      · have := own_only hown ((Only.refl (fun i => i = g) w1).setCell (.inl rfl) 3 v1) hvg
        rwa [← List.map_append, ← HBE.out, ← List.length_append] at this
      · intro i hi
        rcases hv with h1 | h1
        · exact .inl (by rw [he, ← h1]; exact hi)
        · rw [hi] at h1
          exact .inr (Nat.le_of_eq (Option.some.inj h1).symm)
      · have h1 : w1.ownsRow 0 5 1 (x (!true)) (st (!true)).1.length ((st (!true)).1.map bval) := (own_only (S := fun _ => False) (hx.row (!true)) ((Only.refl _ w).drewN q) (fun _ _ h => h)).kept hg (by
          cases hh : (x (!true)).ownBlock with
          | none => exact .inl rfl
          | some i =>
            refine .inr fun h => ?_
            have h2 : (x true).ownBlock = some i := by rw [he]; exact h.symm
            exact hx.apart true i h2 hh)
        exact own_only h1 ((Only.refl (fun i => i = g) w1).setCell (.inl rfl) 3 v1) (fun i hi h => hx.self_ne (!true) (by rw [hi, h]))
    generalize (st true).1.length = len at *
    clear hx hf hfit he hrow hb hbl
    go_enter Tryz.func46, Tryz.ntmps46
    go_wp2_with fail
    go_must (refine (C.out _).mono ?_)
    rintro e w1 ⟨rfl, rfl⟩
    go_wp2_with fail
    go_must (refine R.out.mono ?_)
    rintro e w1 ⟨rfl, q, rfl⟩
    have HO := Lib.hid (own_only (S := fun _ => False) HROW.out ((Only.refl _ w).drewN q) (fun _ _ h => h))
    have HRB2 := Lib.hid (HRB.out.drewN q)
    go_wp2_with
      (at_builtin
       go_must (refine wpList_append_any (w.drewN q) rfl (.tmp 25) (.tmp 26) 22 rfl 0 5 i0 (.int .u8 0) 1 1 Tryz.underlying22 hi hz hs hby rfl (by decide) _ len _ rfl HO.out B Ab m cb (b.map bval) rfl HRB2.out h1c h2c h3c (Nat.zero_le _) ?_)
       intro v1 w1 hown1 hg1 hv1
       have hgn : some g ≠ (Value.slice A len c).ownBlock := by rw [← HEQ.out]; exact fun h => HX.out.self_ne true h.symm
       have kk := (HX.out.blk.drewN q).grown hg1 hgn
       have y1 : w1.cell? ⟨g, 3, none⟩ = some (.slice A len c) := by rw [← HEQ.out]; exact kk.cell 3
       have y2 : w1.frozen? ⟨g, 3, none⟩ = false := kk.frozen 3
       have HEND := Lib.hid (hend.out q w1 v1 hown1 hg1 hv1)
       obtain ⟨A1, cc1, rfl, hd1, hd2, _⟩ := own_slice hown1
       clear hown1 hg1 hv1 hgn kk c1)
    go_ret
    exact HEND.out
  · have hfit : fits N (st true).1 b = false := by simpa [fits] using hf
    have HE1 : Hid (wrote N st true b = 12) := by show _ = _; unfold wrote; rw [if_neg (by simp [hfit])]
    have HE2 : Hid (st.write N true b = st) := by show _ = _; unfold DSt.write; rw [if_neg (by simp [hfit])]
    have hd : (N : Int) - ((st true).1.length : Int) < (m : Int) := by omega
    have hend : Hid (∀ q, DPost false base g N S w (.int .i64 (wrote N st true b)) (st.write N true b) (.returned (.int .i64 12)) (w.drewN q)) := fun q => by
      rw [HE1.out, HE2.out]
      have ho := (Only.refl S w).drewN q
      refine ⟨rfl, ?_, ho⟩
      have h1 : DAt false (w.drewN q) base g N S st := DAt.drewN ⟨x, hx⟩ q
      exact h1.more (fun i hi => .inl hi) (fun i hi => by
        rcases hi with h | ⟨h1, h2⟩
        · exact hx.all i h
        · exact absurd (show i < w.heap.size from h2) (by omega))
    generalize (st true).1.length = len at *
    clear hx hf hfit hb hbl
    go_enter Tryz.func46, Tryz.ntmps46
    go_wp2_with fail
    go_must (refine (C.out _).mono ?_)
    rintro e w1 ⟨rfl, rfl⟩
    go_wp2_with fail
    go_must (refine R.out.mono ?_)
    rintro e w1 ⟨rfl, q, rfl⟩
    go_wp2_with fail
    go_ret
    exact hend.out q

end Go.Proofs.YtalkglmneicpoaaGreatDoor
