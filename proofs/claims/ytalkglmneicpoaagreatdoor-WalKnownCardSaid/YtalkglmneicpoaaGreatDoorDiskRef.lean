/-
  The reference's disk: what each of its functions does.
-/
import Derived.Test.YtalkglmneicpoaaGreatDoorDiskCrash
namespace Go.Proofs.YtalkglmneicpoaaGreatDoor
set_option linter.unusedVariables false
set_option linter.unusedSimpArgs false
open Go.RowKit

set_option maxRecDepth 100000 in
set_option maxHeartbeats 4000000 in
theorem there_false (w : World) : Calls Tryz.prog 49 #[.int .i64 0] w fun e w' => e = .returned (.bool true) ∧ w = w' := by
  go_enter Tryz.func49, Tryz.ntmps49
  go_wp2_with fail
  go_ret
  exact ⟨rfl, rfl⟩

set_option maxRecDepth 100000 in
set_option maxHeartbeats 4000000 in
theorem there_true (w : World) : Calls Tryz.prog 49 #[.int .i64 1] w fun e w' => e = .returned (.bool true) ∧ w = w' := by
  go_enter Tryz.func49, Tryz.ntmps49
  go_wp2_with fail
  go_ret
  exact ⟨rfl, rfl⟩

set_option maxRecDepth 100000 in
set_option maxHeartbeats 4000000 in
theorem there_no (no : Int) (h : no < 0 ∨ 2 ≤ no) (w : World) : Calls Tryz.prog 49 #[.int .i64 no] w fun e w' => e = .returned (.bool false) ∧ w = w' := by
  have h1 : (no == 0) = false := by simp; omega
  have h2 : (no == 1) = false := by simp; omega
  clear h
  go_enter Tryz.func49, Tryz.ntmps49
  go_wp2_with fail
  go_ret
  exact ⟨rfl, rfl⟩

set_option maxRecDepth 100000 in
set_option maxHeartbeats 4000000 in
theorem rroom_false (base g N : Nat) (S : Nat → Prop) (st : DSt) (w : World) (h : DAt true w base g N S st) :
    Calls Tryz.prog 48 #[.pointer (some ⟨g, 0, none⟩), .int .i64 0] w fun e w' => e = .returned (.int .i64 ((N : Int) - ((st false).1.length : Int))) ∧ ∃ m, w' = w.drewN m := by
  obtain ⟨x, hx⟩ := h
  have c0 : w.cell? ⟨g, 0, none⟩ = some (ival N) := hx.blk.cell 0
  have c1 : w.cell? ⟨g, 1, none⟩ = some (x false) := hx.blk.cell 1
  obtain ⟨A, c, he, hc1, hc2, _⟩ := own_slice (hx.row false)
  rw [he] at c1
  have hl := (hx.ok.2 false).1
  have hN := hx.ok.1
  have C := Lib.hid there_false
  generalize (st false).1.length = n at *
  clear hx he
  have hq : IntKind.i64.wrap ((N : Int) - (n : Int)) = (N : Int) - (n : Int) := IntWalk.i64_in _ (by omega)
  go_enter Tryz.func48, Tryz.ntmps48
  go_wp2_with fail
  go_must (refine (C.out _).mono ?_)
  rintro e w1 ⟨rfl, rfl⟩
  go_wp2_with fail
  go_quiet (fail)
  go_wp2_with fail
  go_ret
  exact ⟨rfl, _, rfl⟩

set_option maxRecDepth 100000 in
set_option maxHeartbeats 4000000 in
theorem rbytes_false (base g N : Nat) (S : Nat → Prop) (st : DSt) (w : World) (h : DAt true w base g N S st) :
    Calls Tryz.prog 27 #[.pointer (some ⟨g, 0, none⟩), .int .i64 0] w fun e w' => ∃ v, e = .returned v ∧ w'.ownsRow w.heap.size 5 1 v (st false).1.length ((st false).1.map bval) ∧ Below w.heap.size w w' := by
  obtain ⟨x, hx⟩ := h
  have c1 : w.cell? ⟨g, 1, none⟩ = some (x false) := hx.blk.cell 1
  obtain ⟨A, c, he, hc1, hc2, _⟩ := own_slice (hx.row false)
  rw [he] at c1
  have hr := hx.row false
  rw [he] at hr
  have hl := (hx.ok.2 false).1
  have hN := hx.ok.1
  have C := Lib.hid there_false
  have HR := Lib.hid (Reads.of_own hr)
  obtain ⟨i0, hi, hz, hs, hby⟩ := info_parts (show (Tryz.prog.info? 5).map (fun i => (i.zero, i.size, i.bytes)) = some (some (.int .u8 0), 1, 1) by kernel_rfl)
  have h1c : ∀ u ∈ (st false).1.map bval, u.oneCell' = true := fun u hu => by obtain ⟨b, _, rfl⟩ := List.mem_map.1 hu; rfl
  have h2c : 0 + (st false).1.length ≤ maxLen := by unfold maxLen; omega
  have h3c : (0 + (st false).1.length) * 1 ≤ 140737488355328 := by omega
  generalize hlen : (st false).1.length = len at *
  generalize (st false).1 = L at *
  clear hx he hr hlen
  go_enter Tryz.func27, Tryz.ntmps27
  go_wp2_with fail
  go_must (refine (C.out _).mono ?_)
  rintro e w1 ⟨rfl, rfl⟩
  go_wp2_with
    (at_builtin
     go_must (refine wpList_append_any w rfl (.tmp 8) (.tmp 14) 22 rfl w.heap.size 5 i0 (.int .u8 0) 1 1 Tryz.underlying22 hi hz hs hby rfl (by decide) _ 0 [] rfl (World.ownsRow_nil _ _ _ _) w.heap.size A len c (L.map bval) rfl HR.out h1c h2c h3c (Nat.le_refl _) ?_)
     intro v1 w1 hown1 hg1 hv1)
  simp only [Nat.zero_add, List.nil_append] at hown1
  have hb1 : Below w.heap.size w w1 := (Below.refl _ _).grown hg1 (Nat.le_refl _) (fun k hk => by cases hk)
  clear hg1 hv1
  go_wp2_with fail
  go_ret
  exact ⟨_, rfl, hown1, hb1⟩

set_option maxRecDepth 100000 in
set_option maxHeartbeats 4000000 in
theorem rsync_raw_false (g : Nat) (A : Option Addr) (n c : Nat) (u : Int) (w : World) (c1 : w.cell? ⟨g, 1, none⟩ = some (.slice A n c)) (c2 : w.cell? ⟨g, 3, none⟩ = some (ival u)) (f2 : w.frozen? ⟨g, 3, none⟩ = false) :
    Calls Tryz.prog 60 #[.pointer (some ⟨g, 0, none⟩), .int .i64 0] w fun e w' => e = .returned (.tuple #[]) ∧ w' = (w.setCell ⟨g, 3, none⟩ (ival n)).drewN 1 := by
  have C := Lib.hid there_false
  go_enter Tryz.func60, Tryz.ntmps60
  go_wp2_with fail
  go_must (refine (C.out _).mono ?_)
  rintro e w1 ⟨rfl, rfl⟩
  go_wp2_with fail
  go_region
  all_goals
    go_wp2_with fail
    go_end0
    exact ⟨rfl, rfl⟩
theorem rsync_false (base g N : Nat) (S : Nat → Prop) (st : DSt) (w : World) (h : DAt true w base g N S st) (hbase : base ≤ w.heap.size) :
    Calls Tryz.prog 60 #[.pointer (some ⟨g, 0, none⟩), .int .i64 0] w (DPost true base g N S w (.tuple #[]) (st.sync false)) := by
  obtain ⟨x, hx⟩ := h
  have c1 : w.cell? ⟨g, 1, none⟩ = some (x false) := hx.blk.cell 1
  have c2 : w.cell? ⟨g, 3, none⟩ = some (ival (st false).2) := hx.blk.cell 3
  have f2 : w.frozen? ⟨g, 3, none⟩ = false := hx.blk.frozen 3
  obtain ⟨A, c, he, hc1, hc2, _⟩ := own_slice (hx.row false)
  rw [he] at c1
  refine (rsync_raw_false g A _ c _ w c1 c2 f2).mono fun e w' h => ?_
  obtain ⟨rfl, rfl⟩ := h
  have ho : Only S w ((w.setCell ⟨g, 3, none⟩ (ival (st false).1.length)).drewN 1) := ((Only.refl S w).setCell (.inl hx.self) 3 _).drewN 1
  have hg : Only (fun i => i = g) w ((w.setCell ⟨g, 3, none⟩ (ival (st false).1.length)).drewN 1) := ((Only.refl (fun i => i = g) w).setCell (.inl rfl) 3 _).drewN 1
  refine ⟨rfl, ⟨updF false (x false) x, hx.step ho hbase false (x false) (st false).1 _ ((hx.blk.set_ 3 _).drewN 1) ?_ (fun i hi => .inl hi) ?_ (hx.ok.2 false).1 (Nat.le_refl _)⟩, ho⟩
  · exact own_only (hx.row false) hg (fun i hi h => hx.self_ne false (by rw [hi, h]))
  · exact own_only (hx.row (!false)) hg (fun i hi h => hx.self_ne (!false) (by rw [hi, h]))

set_option maxRecDepth 100000 in
set_option maxHeartbeats 4000000 in
theorem rcut_false (base g N : Nat) (S : Nat → Prop) (st : DSt) (n : Int) (w : World) (h : DAt true w base g N S st) (hbase : base ≤ w.heap.size) :
    Calls Tryz.prog 56 #[.pointer (some ⟨g, 0, none⟩), .int .i64 0, .int .i64 n] w (DPost true base g N S w (.tuple #[]) (st.cut false n)) := by
  have C := Lib.hid there_false
  by_cases hn : n < ((st false).1.length : Int)
  · obtain ⟨x, hx⟩ := h
    have c1 : w.cell? ⟨g, 1, none⟩ = some (x false) := hx.blk.cell 1
    have f1 : w.frozen? ⟨g, 1, none⟩ = false := hx.blk.frozen 1
    obtain ⟨A, c, he, hc1, hc2, _⟩ := own_slice (hx.row false)
    rw [he] at c1
    have hk := cutK_le n (st false).1
    have hm : (if (0 : Int) < n then n else 0) = ((cutK n (st false).1 : Nat) : Int) := by unfold cutK; split <;> omega
    have hkc : cutK n (st false).1 ≤ c := Nat.le_trans hk hc1
    have hend : Hid (∀ k v, v = Value.slice A k c → k = cutK n (st false).1 → DPost true base g N S w (.tuple #[]) (st.cut false n) (.returned (.tuple #[])) ((((w.setCell ⟨g, 1, none⟩ v).drewN 1).setCell ⟨g, 3, none⟩ (ival k)).drewN 1)) := fun k v hv hkk => by
      subst hv
      subst hkk
      have hl := cutL_len n (st false).1
      have ho : Only S w ((((w.setCell ⟨g, 1, none⟩ (.slice A (cutK n (st false).1) c)).drewN 1).setCell ⟨g, 3, none⟩ (ival (cutK n (st false).1))).drewN 1) := ((((Only.refl S w).setCell (.inl hx.self) 1 _).drewN 1).setCell (.inl hx.self) 3 _).drewN 1
      have hg : Only (fun i => i = g) w ((((w.setCell ⟨g, 1, none⟩ (.slice A (cutK n (st false).1) c)).drewN 1).setCell ⟨g, 3, none⟩ (ival (cutK n (st false).1))).drewN 1) := ((((Only.refl (fun i => i = g) w).setCell (.inl rfl) 1 _).drewN 1).setCell (.inl rfl) 3 _).drewN 1
      have hrow := hx.row false
      rw [he] at hrow
      have hne : ∀ i, (Value.slice A (cutK n (st false).1) c).ownBlock = some i → (x false).ownBlock = some i := fun i hi => by rw [he, ← hi]; exact own_inj (base := 0)
      refine ⟨rfl, ⟨updF false (.slice A (cutK n (st false).1) c) x, ?_⟩, ho⟩
      refine hx.step ho hbase false _ _ _ ?_ ?_ (fun i hi => .inl (hne i hi)) ?_ (by rw [hl]; exact Nat.le_trans hk (hx.ok.2 false).1) (Nat.le_refl _)
      · rw [hl]
        exact (((hx.blk.set_ 1 _).drewN 1).set_ 3 _).drewN 1
      · have := own_take hrow hk
        rw [← List.map_take] at this
        have h2 := own_only this hg (fun i hi h => hx.self_ne false (by rw [hne i hi, h]))
        rw [hl]
        exact h2
      · exact own_only (hx.row (!false)) hg (fun i hi h => hx.self_ne (!false) (by rw [hi, h]))
    have c2 : w.cell? ⟨g, 3, none⟩ = some (ival (st false).2) := hx.blk.cell 3
    have f2 : w.frozen? ⟨g, 3, none⟩ = false := hx.blk.frozen 3
    have C2 := Lib.hid c2
    have F2 := Lib.hid f2
    have C1 := Lib.hid c1
    generalize cutK n (st false).1 = k at *
    generalize (st false).1.length = len at *
    clear hx he c2 f2
    go_enter Tryz.func56, Tryz.ntmps56
    go_wp2_with fail
    go_must (refine (C.out _).mono ?_)
    rintro e w1 ⟨rfl, rfl⟩
    go_wp2_with fail
    go_region
    all_goals
      go_wp2_with fail
      go_must (refine (rsync_raw_false g A k c (st false).2 ((w.setCell ⟨g, 1, none⟩ (.slice A k c)).drewN 1) ?_ ?_ ?_).mono ?_)
      · show (w.setCell ⟨g, 1, none⟩ (.slice A k c)).cell? _ = _
        exact World.cell?_setCell_same' w ⟨g, 1, none⟩ _ (by rw [C1.out]; rfl)
      · show (w.setCell ⟨g, 1, none⟩ (.slice A k c)).cell? _ = _
        rw [World.cell?_setCell_other w ⟨g, 1, none⟩ ⟨g, 3, none⟩ _ (by simp)]
        exact C2.out
      · show (w.setCell ⟨g, 1, none⟩ (.slice A k c)).frozen? _ = _
        rw [World.frozen?_setCell]
        exact F2.out
      rintro e w1 ⟨rfl, rfl⟩
      have HE := Lib.hid (hend.out k _ rfl rfl)
      go_wp2_with fail
      go_end0
      exact HE.out
  · have D := Lib.hid (rsync_false base g N S st w h hbase)
    have hst : st.sync false = st.cut false n := by
      have hk : cutK n (st false).1 = (st false).1.length := by unfold cutK; omega
      have : cutL n (st false).1 = (st false).1 := by unfold cutL; rw [hk]; exact List.take_of_length_le (Nat.le_refl _)
      unfold DSt.cut DSt.sync
      rw [this]
    rw [hst] at D
    obtain ⟨x, hx⟩ := h
    have c1 : w.cell? ⟨g, 1, none⟩ = some (x false) := hx.blk.cell 1
    obtain ⟨A, c, he, hc1, hc2, _⟩ := own_slice (hx.row false)
    rw [he] at c1
    have hd : decide (n < ((st false).1.length : Int)) = false := by simpa using hn
    generalize (st false).1.length = len at *
    clear hx he hn hst
    go_enter Tryz.func56, Tryz.ntmps56
    go_wp2_with fail
    go_must (refine (C.out _).mono ?_)
    rintro e w1 ⟨rfl, rfl⟩
    go_wp2_with fail
    go_must (refine D.out.mono ?_)
    rintro e w1 ⟨rfl, hd1⟩
    have HD := Lib.hid hd1
    clear hd1
    go_wp2_with fail
    go_end0
    exact ⟨rfl, HD.out⟩

set_option maxRecDepth 100000 in
set_option maxHeartbeats 4000000 in
theorem rroom_true (base g N : Nat) (S : Nat → Prop) (st : DSt) (w : World) (h : DAt true w base g N S st) :
    Calls Tryz.prog 48 #[.pointer (some ⟨g, 0, none⟩), .int .i64 1] w fun e w' => e = .returned (.int .i64 ((N : Int) - ((st true).1.length : Int))) ∧ ∃ m, w' = w.drewN m := by
  obtain ⟨x, hx⟩ := h
  have c0 : w.cell? ⟨g, 0, none⟩ = some (ival N) := hx.blk.cell 0
  have c1 : w.cell? ⟨g, 2, none⟩ = some (x true) := hx.blk.cell 2
  obtain ⟨A, c, he, hc1, hc2, _⟩ := own_slice (hx.row true)
  rw [he] at c1
  have hl := (hx.ok.2 true).1
  have hN := hx.ok.1
  have C := Lib.hid there_true
  generalize (st true).1.length = n at *
  clear hx he
  have hq : IntKind.i64.wrap ((N : Int) - (n : Int)) = (N : Int) - (n : Int) := IntWalk.i64_in _ (by omega)
  go_enter Tryz.func48, Tryz.ntmps48
  go_wp2_with fail
  go_must (refine (C.out _).mono ?_)
  rintro e w1 ⟨rfl, rfl⟩
  go_wp2_with fail
  go_quiet (fail)
  go_wp2_with fail
  go_ret
  exact ⟨rfl, _, rfl⟩

set_option maxRecDepth 100000 in
set_option maxHeartbeats 4000000 in
theorem rbytes_true (base g N : Nat) (S : Nat → Prop) (st : DSt) (w : World) (h : DAt true w base g N S st) :
    Calls Tryz.prog 27 #[.pointer (some ⟨g, 0, none⟩), .int .i64 1] w fun e w' => ∃ v, e = .returned v ∧ w'.ownsRow w.heap.size 5 1 v (st true).1.length ((st true).1.map bval) ∧ Below w.heap.size w w' := by
  obtain ⟨x, hx⟩ := h
  have c1 : w.cell? ⟨g, 2, none⟩ = some (x true) := hx.blk.cell 2
  obtain ⟨A, c, he, hc1, hc2, _⟩ := own_slice (hx.row true)
  rw [he] at c1
  have hr := hx.row true
  rw [he] at hr
  have hl := (hx.ok.2 true).1
  have hN := hx.ok.1
  have C := Lib.hid there_true
  have HR := Lib.hid (Reads.of_own hr)
  obtain ⟨i0, hi, hz, hs, hby⟩ := info_parts (show (Tryz.prog.info? 5).map (fun i => (i.zero, i.size, i.bytes)) = some (some (.int .u8 0), 1, 1) by kernel_rfl)
  have h1c : ∀ u ∈ (st true).1.map bval, u.oneCell' = true := fun u hu => by obtain ⟨b, _, rfl⟩ := List.mem_map.1 hu; rfl
  have h2c : 0 + (st true).1.length ≤ maxLen := by unfold maxLen; omega
  have h3c : (0 + (st true).1.length) * 1 ≤ 140737488355328 := by omega
  generalize hlen : (st true).1.length = len at *
  generalize (st true).1 = L at *
  clear hx he hr hlen
  go_enter Tryz.func27, Tryz.ntmps27
  go_wp2_with fail
  go_must (refine (C.out _).mono ?_)
  rintro e w1 ⟨rfl, rfl⟩
  go_wp2_with
    (at_builtin
     go_must (refine wpList_append_any w rfl (.tmp 8) (.tmp 14) 22 rfl w.heap.size 5 i0 (.int .u8 0) 1 1 Tryz.underlying22 hi hz hs hby rfl (by decide) _ 0 [] rfl (World.ownsRow_nil _ _ _ _) w.heap.size A len c (L.map bval) rfl HR.out h1c h2c h3c (Nat.le_refl _) ?_)
     intro v1 w1 hown1 hg1 hv1)
  simp only [Nat.zero_add, List.nil_append] at hown1
  have hb1 : Below w.heap.size w w1 := (Below.refl _ _).grown hg1 (Nat.le_refl _) (fun k hk => by cases hk)
  clear hg1 hv1
  go_wp2_with fail
  go_ret
  exact ⟨_, rfl, hown1, hb1⟩

set_option maxRecDepth 100000 in
set_option maxHeartbeats 4000000 in
theorem rsync_raw_true (g : Nat) (A : Option Addr) (n c : Nat) (u : Int) (w : World) (c1 : w.cell? ⟨g, 2, none⟩ = some (.slice A n c)) (c2 : w.cell? ⟨g, 4, none⟩ = some (ival u)) (f2 : w.frozen? ⟨g, 4, none⟩ = false) :
    Calls Tryz.prog 60 #[.pointer (some ⟨g, 0, none⟩), .int .i64 1] w fun e w' => e = .returned (.tuple #[]) ∧ w' = (w.setCell ⟨g, 4, none⟩ (ival n)).drewN 1 := by
  have C := Lib.hid there_true
  go_enter Tryz.func60, Tryz.ntmps60
  go_wp2_with fail
  go_must (refine (C.out _).mono ?_)
  rintro e w1 ⟨rfl, rfl⟩
  go_wp2_with fail
  go_region
  all_goals
    go_wp2_with fail
    go_end0
    exact ⟨rfl, rfl⟩
theorem rsync_true (base g N : Nat) (S : Nat → Prop) (st : DSt) (w : World) (h : DAt true w base g N S st) (hbase : base ≤ w.heap.size) :
    Calls Tryz.prog 60 #[.pointer (some ⟨g, 0, none⟩), .int .i64 1] w (DPost true base g N S w (.tuple #[]) (st.sync true)) := by
  obtain ⟨x, hx⟩ := h
  have c1 : w.cell? ⟨g, 2, none⟩ = some (x true) := hx.blk.cell 2
  have c2 : w.cell? ⟨g, 4, none⟩ = some (ival (st true).2) := hx.blk.cell 4
  have f2 : w.frozen? ⟨g, 4, none⟩ = false := hx.blk.frozen 4
  obtain ⟨A, c, he, hc1, hc2, _⟩ := own_slice (hx.row true)
  rw [he] at c1
  refine (rsync_raw_true g A _ c _ w c1 c2 f2).mono fun e w' h => ?_
  obtain ⟨rfl, rfl⟩ := h
  have ho : Only S w ((w.setCell ⟨g, 4, none⟩ (ival (st true).1.length)).drewN 1) := ((Only.refl S w).setCell (.inl hx.self) 4 _).drewN 1
  have hg : Only (fun i => i = g) w ((w.setCell ⟨g, 4, none⟩ (ival (st true).1.length)).drewN 1) := ((Only.refl (fun i => i = g) w).setCell (.inl rfl) 4 _).drewN 1
  refine ⟨rfl, ⟨updF true (x true) x, hx.step ho hbase true (x true) (st true).1 _ ((hx.blk.set_ 4 _).drewN 1) ?_ (fun i hi => .inl hi) ?_ (hx.ok.2 true).1 (Nat.le_refl _)⟩, ho⟩
  · exact own_only (hx.row true) hg (fun i hi h => hx.self_ne true (by rw [hi, h]))
  · exact own_only (hx.row (!true)) hg (fun i hi h => hx.self_ne (!true) (by rw [hi, h]))

set_option maxRecDepth 100000 in
set_option maxHeartbeats 4000000 in
theorem rcut_true (base g N : Nat) (S : Nat → Prop) (st : DSt) (n : Int) (w : World) (h : DAt true w base g N S st) (hbase : base ≤ w.heap.size) :
    Calls Tryz.prog 56 #[.pointer (some ⟨g, 0, none⟩), .int .i64 1, .int .i64 n] w (DPost true base g N S w (.tuple #[]) (st.cut true n)) := by
  have C := Lib.hid there_true
  by_cases hn : n < ((st true).1.length : Int)
  · obtain ⟨x, hx⟩ := h
    have c1 : w.cell? ⟨g, 2, none⟩ = some (x true) := hx.blk.cell 2
    have f1 : w.frozen? ⟨g, 2, none⟩ = false := hx.blk.frozen 2
    obtain ⟨A, c, he, hc1, hc2, _⟩ := own_slice (hx.row true)
    rw [he] at c1
    have hk := cutK_le n (st true).1
    have hm : (if (0 : Int) < n then n else 0) = ((cutK n (st true).1 : Nat) : Int) := by unfold cutK; split <;> omega
    have hkc : cutK n (st true).1 ≤ c := Nat.le_trans hk hc1
    have hend : Hid (∀ k v, v = Value.slice A k c → k = cutK n (st true).1 → DPost true base g N S w (.tuple #[]) (st.cut true n) (.returned (.tuple #[])) ((((w.setCell ⟨g, 2, none⟩ v).drewN 1).setCell ⟨g, 4, none⟩ (ival k)).drewN 1)) := fun k v hv hkk => by
      subst hv
      subst hkk
      have hl := cutL_len n (st true).1
      have ho : Only S w ((((w.setCell ⟨g, 2, none⟩ (.slice A (cutK n (st true).1) c)).drewN 1).setCell ⟨g, 4, none⟩ (ival (cutK n (st true).1))).drewN 1) := ((((Only.refl S w).setCell (.inl hx.self) 2 _).drewN 1).setCell (.inl hx.self) 4 _).drewN 1
      have hg : Only (fun i => i = g) w ((((w.setCell ⟨g, 2, none⟩ (.slice A (cutK n (st true).1) c)).drewN 1).setCell ⟨g, 4, none⟩ (ival (cutK n (st true).1))).drewN 1) := ((((Only.refl (fun i => i = g) w).setCell (.inl rfl) 2 _).drewN 1).setCell (.inl rfl) 4 _).drewN 1
      have hrow := hx.row true
      rw [he] at hrow
      have hne : ∀ i, (Value.slice A (cutK n (st true).1) c).ownBlock = some i → (x true).ownBlock = some i := fun i hi => by rw [he, ← hi]; exact own_inj (base := 0)
      refine ⟨rfl, ⟨updF true (.slice A (cutK n (st true).1) c) x, ?_⟩, ho⟩
      refine hx.step ho hbase true _ _ _ ?_ ?_ (fun i hi => .inl (hne i hi)) ?_ (by rw [hl]; exact Nat.le_trans hk (hx.ok.2 true).1) (Nat.le_refl _)
      · rw [hl]
        exact (((hx.blk.set_ 2 _).drewN 1).set_ 4 _).drewN 1
      · have := own_take hrow hk
        rw [← List.map_take] at this
        have h2 := own_only this hg (fun i hi h => hx.self_ne true (by rw [hne i hi, h]))
        rw [hl]
        exact h2
      · exact own_only (hx.row (!true)) hg (fun i hi h => hx.self_ne (!true) (by rw [hi, h]))
    have c2 : w.cell? ⟨g, 4, none⟩ = some (ival (st true).2) := hx.blk.cell 4
    have f2 : w.frozen? ⟨g, 4, none⟩ = false := hx.blk.frozen 4
    have C2 := Lib.hid c2
    have F2 := Lib.hid f2
    have C1 := Lib.hid c1
    generalize cutK n (st true).1 = k at *
    generalize (st true).1.length = len at *
    clear hx he c2 f2
    go_enter Tryz.func56, Tryz.ntmps56
    go_wp2_with fail
    go_must (refine (C.out _).mono ?_)
    rintro e w1 ⟨rfl, rfl⟩
    go_wp2_with fail
    go_region
    all_goals
      go_wp2_with fail
      go_must (refine (rsync_raw_true g A k c (st true).2 ((w.setCell ⟨g, 2, none⟩ (.slice A k c)).drewN 1) ?_ ?_ ?_).mono ?_)
      · show (w.setCell ⟨g, 2, none⟩ (.slice A k c)).cell? _ = _
        exact World.cell?_setCell_same' w ⟨g, 2, none⟩ _ (by rw [C1.out]; rfl)
      · show (w.setCell ⟨g, 2, none⟩ (.slice A k c)).cell? _ = _
        rw [World.cell?_setCell_other w ⟨g, 2, none⟩ ⟨g, 4, none⟩ _ (by simp)]
        exact C2.out
      · show (w.setCell ⟨g, 2, none⟩ (.slice A k c)).frozen? _ = _
        rw [World.frozen?_setCell]
        exact F2.out
      rintro e w1 ⟨rfl, rfl⟩
      have HE := Lib.hid (hend.out k _ rfl rfl)
      go_wp2_with fail
      go_end0
      exact HE.out
  · have D := Lib.hid (rsync_true base g N S st w h hbase)
    have hst : st.sync true = st.cut true n := by
      have hk : cutK n (st true).1 = (st true).1.length := by unfold cutK; omega
      have : cutL n (st true).1 = (st true).1 := by unfold cutL; rw [hk]; exact List.take_of_length_le (Nat.le_refl _)
      unfold DSt.cut DSt.sync
      rw [this]
    rw [hst] at D
    obtain ⟨x, hx⟩ := h
    have c1 : w.cell? ⟨g, 2, none⟩ = some (x true) := hx.blk.cell 2
    obtain ⟨A, c, he, hc1, hc2, _⟩ := own_slice (hx.row true)
    rw [he] at c1
    have hd : decide (n < ((st true).1.length : Int)) = false := by simpa using hn
    generalize (st true).1.length = len at *
    clear hx he hn hst
    go_enter Tryz.func56, Tryz.ntmps56
    go_wp2_with fail
    go_must (refine (C.out _).mono ?_)
    rintro e w1 ⟨rfl, rfl⟩
    go_wp2_with fail
    go_must (refine D.out.mono ?_)
    rintro e w1 ⟨rfl, hd1⟩
    have HD := Lib.hid hd1
    clear hd1
    go_wp2_with fail
    go_end0
    exact ⟨rfl, HD.out⟩

end Go.Proofs.YtalkglmneicpoaaGreatDoor
