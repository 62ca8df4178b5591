/-
  The reference's disk: write, crash, new; acts on no area.
-/
import Derived.Test.YtalkglmneicpoaaGreatDoorDiskRef
import Derived.Deep.RegionLaw
namespace Go.Proofs.YtalkglmneicpoaaGreatDoor
set_option linter.unusedVariables false
set_option linter.unusedSimpArgs false
open Go.RowKit

set_option maxRecDepth 100000 in
set_option maxHeartbeats 4000000 in
theorem rwrite_false (base g N : Nat) (S : Nat → Prop) (st : DSt) (Ab : Option Addr) (m cb B : Nat) (b : List UInt8) (w : World) (h : DAt true w base g N S st) (hbase : base ≤ w.heap.size) (hb : Reads w B 1 Ab m (b.map bval)) (hm : m ≤ maxLen) :
    Calls Tryz.prog 47 #[.pointer (some ⟨g, 0, none⟩), .int .i64 0, .slice Ab m cb] w (DPost true base g N S w (.int .i64 (wrote N st false b)) (st.write N false b)) := by
  have C := Lib.hid there_false
  have hbl := hb.bytes_len
  obtain ⟨x, hx⟩ := h
  have hN := hx.ok.1
  have hl := (hx.ok.2 false).1
  unfold maxLen at hm
  have c0 : w.cell? ⟨g, 0, none⟩ = some (ival N) := hx.blk.cell 0
  obtain ⟨A, c, he, hc1, hc2, _⟩ := own_slice (hx.row false)
  have c1 : w.cell? ⟨g, 1, none⟩ = some (.slice A (st false).1.length c) := by rw [← he]; exact hx.blk.cell 1
  have hq : IntKind.i64.wrap ((N : Int) - ((st false).1.length : Int)) = (N : Int) - ((st false).1.length : Int) := IntWalk.i64_in _ (by omega)
  by_cases hf : b.length + (st false).1.length ≤ N
  · have hfit : fits N (st false).1 b = true := by simpa [fits] using hf
    have HE1 : Hid (wrote N st false b = 0) := by show _ = _; unfold wrote; rw [if_pos hfit]
    have HE2 : Hid (st.write N false b = updF false ((st false).1 ++ b, (st false).2) st) := by show _ = _; unfold DSt.write; rw [if_pos hfit]
    have hd : decide ((N : Int) - ((st false).1.length : Int) < (m : Int)) = false := by simp; omega
    have hrow := hx.row false
    rw [he] at hrow
    have hbl2 : (st false).1.length + m ≤ 262144 := by omega
    obtain ⟨i0, hi, hz, hs, hby⟩ := info_parts (show (Tryz.prog.info? 5).map (fun i => (i.zero, i.size, i.bytes)) = some (some (.int .u8 0), 1, 1) by kernel_rfl)
    have h1c : ∀ u ∈ b.map bval, u.oneCell' = true := fun u hu => by obtain ⟨b, _, rfl⟩ := List.mem_map.1 hu; rfl
    have h2c : (st false).1.length + m ≤ maxLen := by unfold maxLen; omega
    have h3c : ((st false).1.length + m) * 1 ≤ 140737488355328 := by omega
    have HX := Lib.hid hx
    have HROW := Lib.hid hrow
    have HRB := Lib.hid hb
    have HBE := Lib.hid hbl
    have HEQ := Lib.hid he
    have hend : Hid (∀ w0 q w1 v1, Only (fun _ => False) w w0 → w0.heap.size = w.heap.size → w1.ownsRow 0 5 1 v1 ((st false).1.length + m) ((st false).1.map bval ++ b.map bval) → w0.grownBy w1 (Value.slice A (st false).1.length c).ownBlock → (v1.ownBlock = (Value.slice A (st false).1.length c).ownBlock ∨ v1.ownBlock = some w0.heap.size) →
        DPost true base g N S w (.int .i64 (wrote N st false b)) (st.write N false b) (.returned (.int .i64 0)) ((w1.setCell ⟨g, 1, none⟩ v1).drewN q)) := fun w0 q w1 v1 h0 hsz0 hown hg hv => by
      have hrowb : ∀ i, (Value.slice A (st false).1.length c).ownBlock = some i → S i := fun i hi => hx.inS false i (by rw [he]; exact hi)
      have ho1 : Only S w w1 := (h0.mono (fun _ h => False.elim h)).grown hg (fun i hi => .inl (hrowb i hi))
      have ho : Only S w ((w1.setCell ⟨g, 1, none⟩ v1).drewN q) := (ho1.setCell (.inl hx.self) 1 _).drewN q
      have hgn : some g ≠ (Value.slice A (st false).1.length c).ownBlock := by rw [← he]; exact fun h => hx.self_ne false h.symm
      have hsz : w.heap.size ≤ w1.heap.size := ho1.size
      have hvg : ∀ i, v1.ownBlock = some i → ¬ (i = g) := fun i hi h => by
        subst h
        rcases hv with h1 | h1
        · exact hgn (by rw [← h1, hi])
        · rw [hi, hsz0] at h1
          have : i = w.heap.size := Option.some.inj h1
          have := hx.blk.lt
          omega
      have hog : Only (fun i => i = g) w1 ((w1.setCell ⟨g, 1, none⟩ v1).drewN q) := ((Only.refl (fun i => i = g) w1).setCell (.inl rfl) 1 v1).drewN q
      rw [HE1.out, HE2.out]
      refine ⟨rfl, ⟨updF false v1 x, hx.step ho hbase false v1 _ _ ((((hx.blk.only h0 (fun h => h)).grown hg hgn).set_ 1 _).drewN q) ?_ ?_ ?_ (by rw [List.length_append]; omega) (by rw [List.length_append]; have := (hx.ok.2 false).2; omega)⟩, ho⟩
      · have := own_only hown hog hvg
        rwa [← List.map_append, ← HBE.out, ← List.length_append] at this
      · intro i hi
        rcases hv with h1 | h1
        · exact .inl (by rw [he, ← h1]; exact hi)
        · rw [hi, hsz0] at h1
          exact .inr (Nat.le_of_eq (Option.some.inj h1).symm)
      · have h1 : w1.ownsRow 0 5 1 (x (!false)) (st (!false)).1.length ((st (!false)).1.map bval) := (own_only (S := fun _ => False) (hx.row (!false)) h0 (fun _ _ h => h)).kept hg (by
          cases hh : (x (!false)).ownBlock with
          | none => exact .inl rfl
          | some i =>
            refine .inr fun h => ?_
            have h2 : (x false).ownBlock = some i := by rw [he]; exact h.symm
            exact hx.apart false i h2 hh)
        exact own_only h1 hog (fun i hi h => hx.self_ne (!false) (by rw [hi, h]))
    generalize (st false).1.length = len at *
    clear hx hf hfit he hrow hb hbl
    go_enter Tryz.func47, Tryz.ntmps47
    go_wp2_with fail
    go_must (refine (C.out _).mono ?_)
    rintro e w1 ⟨rfl, rfl⟩
    go_wp2_with fail
    go_quiet (fail)
    have HW := Lib.hid ((Only.refl (fun _ => False) w).drewN nq)
    have hsz0 : (w.drewN nq).heap.size = w.heap.size := rfl
    have HSZ := Lib.hid hsz0
    have C1 : Hid ((w.drewN nq).cell? ⟨g, 1, none⟩ = some (.slice A len c)) := c1
    have HRB1 := Lib.hid (HRB.out.drewN nq)
    clear hsz0 c0 c1 hq
    generalize w.drewN nq = w0 at *
    have c1 := C1.out
    have HO := Lib.hid (own_only (S := fun _ => False) HROW.out HW.out.drew (fun _ _ h => h))
    have HRB2 : Hid (Reads w0.drew B 1 Ab m (b.map bval)) := HRB1.out.drew
    go_wp2_with fail
    go_region_law ((refine step_append_any _ rfl (.tmp 32) (.tmp 33) 22 rfl 0 5 i0 (.int .u8 0) 1 1 Tryz.underlying22 hi hz hs hby rfl (by decide) _ len _ rfl HO.out B Ab m cb (b.map bval) rfl HRB2.out h1c h2c h3c (Nat.zero_le _) ?_; intro v1 w1 hown1 hg1 hv1; have hgn : some g ≠ (Value.slice A len c).ownBlock := (by rw [← HEQ.out]; exact fun h => HX.out.self_ne false h.symm); have kk := (HX.out.blk.only HW.out.drew (fun h => h)).grown hg1 hgn; have y1 : w1.cell? ⟨g, 1, none⟩ = some (.slice A len c) := (by rw [← HEQ.out]; exact kk.cell 1); have y2 : w1.frozen? ⟨g, 1, none⟩ = false := kk.frozen 1; have HEND := Lib.hid (fun q => hend.out w0.drew q w1 v1 HW.out.drew HSZ.out hown1 hg1 hv1); obtain ⟨A1, cc1, rfl, hd1, hd2, _⟩ := own_slice hown1; clear hown1 hg1 hv1 hgn kk c1))
    all_goals
      go_wp2_with fail
      go_ret
      exact HEND.out 0
  · have hfit : fits N (st false).1 b = false := by simpa [fits] using hf
    have HE1 : Hid (wrote N st false b = 12) := by show _ = _; unfold wrote; rw [if_neg (by simp [hfit])]
    have HE2 : Hid (st.write N false b = st) := by show _ = _; unfold DSt.write; rw [if_neg (by simp [hfit])]
    have hd : (N : Int) - ((st false).1.length : Int) < (m : Int) := by omega
    have hend : Hid (∀ q, DPost true base g N S w (.int .i64 (wrote N st false b)) (st.write N false b) (.returned (.int .i64 12)) (w.drewN q)) := fun q => by
      rw [HE1.out, HE2.out]
      exact ⟨rfl, DAt.draws ⟨x, hx⟩ q, (Only.refl S w).drewN q⟩
    generalize (st false).1.length = len at *
    clear hx hf hfit hb hbl he
    go_enter Tryz.func47, Tryz.ntmps47
    go_wp2_with fail
    go_must (refine (C.out _).mono ?_)
    rintro e w1 ⟨rfl, rfl⟩
    go_wp2_with fail
    go_quiet (fail)
    clear c0 c1 hq
    go_wp2_with fail
    go_ret
    exact hend.out _

set_option maxRecDepth 100000 in
set_option maxHeartbeats 4000000 in
theorem rwrite_true (base g N : Nat) (S : Nat → Prop) (st : DSt) (Ab : Option Addr) (m cb B : Nat) (b : List UInt8) (w : World) (h : DAt true w base g N S st) (hbase : base ≤ w.heap.size) (hb : Reads w B 1 Ab m (b.map bval)) (hm : m ≤ maxLen) :
    Calls Tryz.prog 47 #[.pointer (some ⟨g, 0, none⟩), .int .i64 1, .slice Ab m cb] w (DPost true base g N S w (.int .i64 (wrote N st true b)) (st.write N true b)) := by
  have C := Lib.hid there_true
  have hbl := hb.bytes_len
  obtain ⟨x, hx⟩ := h
  have hN := hx.ok.1
  have hl := (hx.ok.2 true).1
  unfold maxLen at hm
  have c0 : w.cell? ⟨g, 0, none⟩ = some (ival N) := hx.blk.cell 0
  obtain ⟨A, c, he, hc1, hc2, _⟩ := own_slice (hx.row true)
  have c1 : w.cell? ⟨g, 2, none⟩ = some (.slice A (st true).1.length c) := by rw [← he]; exact hx.blk.cell 2
  have hq : IntKind.i64.wrap ((N : Int) - ((st true).1.length : Int)) = (N : Int) - ((st true).1.length : Int) := IntWalk.i64_in _ (by omega)
  by_cases hf : b.length + (st true).1.length ≤ N
  · have hfit : fits N (st true).1 b = true := by simpa [fits] using hf
    have HE1 : Hid (wrote N st true b = 0) := by show _ = _; unfold wrote; rw [if_pos hfit]
    have HE2 : Hid (st.write N true b = updF true ((st true).1 ++ b, (st true).2) st) := by show _ = _; unfold DSt.write; rw [if_pos hfit]
    have hd : decide ((N : Int) - ((st true).1.length : Int) < (m : Int)) = false := by simp; omega
    have hrow := hx.row true
    rw [he] at hrow
    have hbl2 : (st true).1.length + m ≤ 262144 := by omega
    obtain ⟨i0, hi, hz, hs, hby⟩ := info_parts (show (Tryz.prog.info? 5).map (fun i => (i.zero, i.size, i.bytes)) = some (some (.int .u8 0), 1, 1) by kernel_rfl)
    have h1c : ∀ u ∈ b.map bval, u.oneCell' = true := fun u hu => by obtain ⟨b, _, rfl⟩ := List.mem_map.1 hu; rfl
    have h2c : (st true).1.length + m ≤ maxLen := by unfold maxLen; omega
    have h3c : ((st true).1.length + m) * 1 ≤ 140737488355328 := by omega
    have HX := Lib.hid hx
    have HROW := Lib.hid hrow
    have HRB := Lib.hid hb
    have HBE := Lib.hid hbl
    have HEQ := Lib.hid he
    have hend : Hid (∀ w0 q w1 v1, Only (fun _ => False) w w0 → w0.heap.size = w.heap.size → w1.ownsRow 0 5 1 v1 ((st true).1.length + m) ((st true).1.map bval ++ b.map bval) → w0.grownBy w1 (Value.slice A (st true).1.length c).ownBlock → (v1.ownBlock = (Value.slice A (st true).1.length c).ownBlock ∨ v1.ownBlock = some w0.heap.size) →
        DPost true base g N S w (.int .i64 (wrote N st true b)) (st.write N true b) (.returned (.int .i64 0)) ((w1.setCell ⟨g, 2, none⟩ v1).drewN q)) := fun w0 q w1 v1 h0 hsz0 hown hg hv => by
      have hrowb : ∀ i, (Value.slice A (st true).1.length c).ownBlock = some i → S i := fun i hi => hx.inS true i (by rw [he]; exact hi)
      have ho1 : Only S w w1 := (h0.mono (fun _ h => False.elim h)).grown hg (fun i hi => .inl (hrowb i hi))
      have ho : Only S w ((w1.setCell ⟨g, 2, none⟩ v1).drewN q) := (ho1.setCell (.inl hx.self) 2 _).drewN q
      have hgn : some g ≠ (Value.slice A (st true).1.length c).ownBlock := by rw [← he]; exact fun h => hx.self_ne true h.symm
      have hsz : w.heap.size ≤ w1.heap.size := ho1.size
      have hvg : ∀ i, v1.ownBlock = some i → ¬ (i = g) := fun i hi h => by
        subst h
        rcases hv with h1 | h1
        · exact hgn (by rw [← h1, hi])
        · rw [hi, hsz0] at h1
          have : i = w.heap.size := Option.some.inj h1
          have := hx.blk.lt
          omega
      have hog : Only (fun i => i = g) w1 ((w1.setCell ⟨g, 2, none⟩ v1).drewN q) := ((Only.refl (fun i => i = g) w1).setCell (.inl rfl) 2 v1).drewN q
      rw [HE1.out, HE2.out]
      refine ⟨rfl, ⟨updF true v1 x, hx.step ho hbase true v1 _ _ ((((hx.blk.only h0 (fun h => h)).grown hg hgn).set_ 2 _).drewN q) ?_ ?_ ?_ (by rw [List.length_append]; omega) (by rw [List.length_append]; have := (hx.ok.2 true).2; omega)⟩, ho⟩
      · have := own_only hown hog hvg
        rwa [← List.map_append, ← HBE.out, ← List.length_append] at this
      · intro i hi
        rcases hv with h1 | h1
        · exact .inl (by rw [he, ← h1]; exact hi)
        · rw [hi, hsz0] at h1
          exact .inr (Nat.le_of_eq (Option.some.inj h1).symm)
      · have h1 : w1.ownsRow 0 5 1 (x (!true)) (st (!true)).1.length ((st (!true)).1.map bval) := (own_only (S := fun _ => False) (hx.row (!true)) h0 (fun _ _ h => h)).kept hg (by
          cases hh : (x (!true)).ownBlock with
          | none => exact .inl rfl
          | some i =>
            refine .inr fun h => ?_
            have h2 : (x true).ownBlock = some i := by rw [he]; exact h.symm
            exact hx.apart true i h2 hh)
        exact own_only h1 hog (fun i hi h => hx.self_ne (!true) (by rw [hi, h]))
    generalize (st true).1.length = len at *
    clear hx hf hfit he hrow hb hbl
    go_enter Tryz.func47, Tryz.ntmps47
    go_wp2_with fail
    go_must (refine (C.out _).mono ?_)
    rintro e w1 ⟨rfl, rfl⟩
    go_wp2_with fail
    go_quiet (fail)
    have HW := Lib.hid ((Only.refl (fun _ => False) w).drewN nq)
    have hsz0 : (w.drewN nq).heap.size = w.heap.size := rfl
    have HSZ := Lib.hid hsz0
    have C1 : Hid ((w.drewN nq).cell? ⟨g, 2, none⟩ = some (.slice A len c)) := c1
    have HRB1 := Lib.hid (HRB.out.drewN nq)
    clear hsz0 c0 c1 hq
    generalize w.drewN nq = w0 at *
    have c1 := C1.out
    have HO := Lib.hid (own_only (S := fun _ => False) HROW.out HW.out.drew (fun _ _ h => h))
    have HRB2 : Hid (Reads w0.drew B 1 Ab m (b.map bval)) := HRB1.out.drew
    go_wp2_with fail
    go_region_law ((refine step_append_any _ rfl (.tmp 32) (.tmp 33) 22 rfl 0 5 i0 (.int .u8 0) 1 1 Tryz.underlying22 hi hz hs hby rfl (by decide) _ len _ rfl HO.out B Ab m cb (b.map bval) rfl HRB2.out h1c h2c h3c (Nat.zero_le _) ?_; intro v1 w1 hown1 hg1 hv1; have hgn : some g ≠ (Value.slice A len c).ownBlock := (by rw [← HEQ.out]; exact fun h => HX.out.self_ne true h.symm); have kk := (HX.out.blk.only HW.out.drew (fun h => h)).grown hg1 hgn; have y1 : w1.cell? ⟨g, 2, none⟩ = some (.slice A len c) := (by rw [← HEQ.out]; exact kk.cell 2); have y2 : w1.frozen? ⟨g, 2, none⟩ = false := kk.frozen 2; have HEND := Lib.hid (fun q => hend.out w0.drew q w1 v1 HW.out.drew HSZ.out hown1 hg1 hv1); obtain ⟨A1, cc1, rfl, hd1, hd2, _⟩ := own_slice hown1; clear hown1 hg1 hv1 hgn kk c1))
    all_goals
      go_wp2_with fail
      go_ret
      exact HEND.out 0
  · have hfit : fits N (st true).1 b = false := by simpa [fits] using hf
    have HE1 : Hid (wrote N st true b = 12) := by show _ = _; unfold wrote; rw [if_neg (by simp [hfit])]
    have HE2 : Hid (st.write N true b = st) := by show _ = _; unfold DSt.write; rw [if_neg (by simp [hfit])]
    have hd : (N : Int) - ((st true).1.length : Int) < (m : Int) := by omega
    have hend : Hid (∀ q, DPost true base g N S w (.int .i64 (wrote N st true b)) (st.write N true b) (.returned (.int .i64 12)) (w.drewN q)) := fun q => by
      rw [HE1.out, HE2.out]
      exact ⟨rfl, DAt.draws ⟨x, hx⟩ q, (Only.refl S w).drewN q⟩
    generalize (st true).1.length = len at *
    clear hx hf hfit hb hbl he
    go_enter Tryz.func47, Tryz.ntmps47
    go_wp2_with fail
    go_must (refine (C.out _).mono ?_)
    rintro e w1 ⟨rfl, rfl⟩
    go_wp2_with fail
    go_quiet (fail)
    clear c0 c1 hq
    go_wp2_with fail
    go_ret
    exact hend.out _

set_option maxRecDepth 100000 in
set_option maxHeartbeats 4000000 in
theorem rcrash_any (base g N : Nat) (S : Nat → Prop) (st : DSt) (keep : Int) (w : World) (h : DAt true w base g N S st) (hbase : base ≤ w.heap.size) :
    Calls Tryz.prog 45 #[.pointer (some ⟨g, 0, none⟩), .int .i64 keep] w (DPost true base g N S w (.tuple #[]) (st.crash keep)) := by
  have H := Lib.hid h.same
  clear h
  go_enter Tryz.func45, Tryz.ntmps45
  go_wp2_with fail
  go_loopw [4] (fun i wr => ∃ k : Nat, k ≤ 2 ∧ i = .int .i64 k ∧ DAt true wr base g N (growS S w wr) (crashK k st keep) ∧ Only S w wr) (fun i _ => 2 - (intOf i).toNat)
  case atStart => exact ⟨0, by omega, rfl, H.out, Only.refl _ _⟩
  case round =>
    obtain ⟨k, hk, rfl, hD, hO⟩ := hrel
    clear H
    rcases (by omega : k = 0 ∨ k = 1 ∨ k = 2) with rfl | rfl | rfl
    · have hd := hD
      rw [show crashK 0 st keep = st from rfl] at hd
      have hK : keepN keep (st false) = ((st false).2 : Int) + (if (0 : Int) < (if (((st false).1.length : Int) - ((st false).2 : Int)) < keep then (((st false).1.length : Int) - ((st false).2 : Int)) else keep) then (if (((st false).1.length : Int) - ((st false).2 : Int)) < keep then (((st false).1.length : Int) - ((st false).2 : Int)) else keep) else 0) ∧ _ ∧ _ := keepN_is keep (st false) _ _ (hd.ok.2 false).2 rfl rfl
      have D := Lib.hid (fun q => rcut_false base g N _ st (keepN keep (st false)) (wr.drewN q) (hd.drewN q) (Nat.le_trans hbase hO.size))
      have hstep : st.cut false (keepN keep (st false)) = crashK 1 st keep := rfl
      rw [hstep] at D
      obtain ⟨x, hx⟩ := hd
      have c1 : wr.cell? ⟨g, 1, none⟩ = some (x false) := hx.blk.cell 1
      have c2 : wr.cell? ⟨g, 3, none⟩ = some (ival (st false).2) := hx.blk.cell 3
      obtain ⟨A, c, he, hc1, hc2, _⟩ := own_slice (hx.row false)
      rw [he] at c1
      have hs := (hx.ok.2 false).2
      have hl := Nat.le_trans (hx.ok.2 false).1 hx.ok.1
      clear hx he hD
      obtain ⟨hk1, hk2, hk3⟩ := hK
      rw [hk1] at D
      clear hk1
      generalize (st false).1.length = len at *
      generalize (st false).2 = s at *
      generalize hm1 : (if ((len : Int) - (s : Int)) < keep then ((len : Int) - (s : Int)) else keep) = m at *
      generalize hm2 : (if (0 : Int) < m then m else 0) = m2 at *
      have HO := Lib.hid hO
      clear hO
      have hw1 : IntKind.i64.wrap ((len : Int) - (s : Int)) = (len : Int) - (s : Int) := IntWalk.i64_in _ (by omega)
      have hw2 : IntKind.i64.wrap ((s : Int) + m2) = (s : Int) + m2 := IntWalk.i64_in _ (by omega)
      go_wp2_with fail
      go_quiet (fail)
      clear hw1
      go_wp2_with fail
      go_must (refine (D.out nq).mono ?_)
      rintro e w2 ⟨rfl, hd2, ho2⟩
      have HD2 := Lib.hid hd2
      have HO2 := Lib.hid ho2
      clear hd2 ho2 hw2 hm1 hm2 c1 c2
      go_wp2_with fail
      go_roundw
      case rel =>
        have ho2' : Only (growS S w wr) wr w2 := ((Only.refl _ wr).drewN nq).trans HO2.out (fun i hi => .inl hi)
        have hd2' : DAt true w2 base g N (growS (growS S w wr) wr w2) (crashK 1 st keep) := HD2.out
        exact ⟨1, by omega, rfl, hd2'.two HO.out ho2', HO.out.grow ho2'⟩
      case measure => simp [intOf]
    · have hd := hD
      rw [show crashK 1 st keep = (st.crash1 false keep) from rfl] at hd
      have hK : keepN keep ((st.crash1 false keep) true) = (((st.crash1 false keep) true).2 : Int) + (if (0 : Int) < (if ((((st.crash1 false keep) true).1.length : Int) - (((st.crash1 false keep) true).2 : Int)) < keep then ((((st.crash1 false keep) true).1.length : Int) - (((st.crash1 false keep) true).2 : Int)) else keep) then (if ((((st.crash1 false keep) true).1.length : Int) - (((st.crash1 false keep) true).2 : Int)) < keep then ((((st.crash1 false keep) true).1.length : Int) - (((st.crash1 false keep) true).2 : Int)) else keep) else 0) ∧ _ ∧ _ := keepN_is keep ((st.crash1 false keep) true) _ _ (hd.ok.2 true).2 rfl rfl
      have D := Lib.hid (fun q => rcut_true base g N _ (st.crash1 false keep) (keepN keep ((st.crash1 false keep) true)) (wr.drewN q) (hd.drewN q) (Nat.le_trans hbase hO.size))
      have hstep : (st.crash1 false keep).cut true (keepN keep ((st.crash1 false keep) true)) = crashK 2 st keep := rfl
      rw [hstep] at D
      obtain ⟨x, hx⟩ := hd
      have c1 : wr.cell? ⟨g, 2, none⟩ = some (x true) := hx.blk.cell 2
      have c2 : wr.cell? ⟨g, 4, none⟩ = some (ival ((st.crash1 false keep) true).2) := hx.blk.cell 4
      obtain ⟨A, c, he, hc1, hc2, _⟩ := own_slice (hx.row true)
      rw [he] at c1
      have hs := (hx.ok.2 true).2
      have hl := Nat.le_trans (hx.ok.2 true).1 hx.ok.1
      clear hx he hD
      obtain ⟨hk1, hk2, hk3⟩ := hK
      rw [hk1] at D
      clear hk1
      generalize ((st.crash1 false keep) true).1.length = len at *
      generalize ((st.crash1 false keep) true).2 = s at *
      generalize hm1 : (if ((len : Int) - (s : Int)) < keep then ((len : Int) - (s : Int)) else keep) = m at *
      generalize hm2 : (if (0 : Int) < m then m else 0) = m2 at *
      have HO := Lib.hid hO
      clear hO
      have hw1 : IntKind.i64.wrap ((len : Int) - (s : Int)) = (len : Int) - (s : Int) := IntWalk.i64_in _ (by omega)
      have hw2 : IntKind.i64.wrap ((s : Int) + m2) = (s : Int) + m2 := IntWalk.i64_in _ (by omega)
      go_wp2_with fail
      go_quiet (fail)
      clear hw1
      go_wp2_with fail
      go_must (refine (D.out nq).mono ?_)
      rintro e w2 ⟨rfl, hd2, ho2⟩
      have HD2 := Lib.hid hd2
      have HO2 := Lib.hid ho2
      clear hd2 ho2 hw2 hm1 hm2 c1 c2
      go_wp2_with fail
      go_roundw
      case rel =>
        have ho2' : Only (growS S w wr) wr w2 := ((Only.refl _ wr).drewN nq).trans HO2.out (fun i hi => .inl hi)
        have hd2' : DAt true w2 base g N (growS (growS S w wr) wr w2) (crashK 2 st keep) := HD2.out
        exact ⟨2, by omega, rfl, hd2'.two HO.out ho2', HO.out.grow ho2'⟩
      case measure => simp [intOf]
    · have HD : Hid (DPost true base g N S w (.tuple #[]) (st.crash keep) (.returned (.tuple #[])) wr) := ⟨rfl, hD, hO⟩
      clear hD hO
      go_wp2_with fail
      go_end0
      exact HD.out

set_option maxRecDepth 100000 in
set_option maxHeartbeats 4000000 in
theorem rnew_no (n : Int) (h : n < 64 ∨ 262144 < n) (w : World) :
    Calls Tryz.prog 23 #[.int .i64 n] w fun e w' => e = .returned (.tuple #[.pointer none, .int .i64 1]) ∧ w = w' := by
  rcases h with h | h
  · go_enter Tryz.func23, Tryz.ntmps23
    go_wp2_with fail
    go_ret2
    exact ⟨rfl, rfl⟩
  · have h1 : decide (n < 64) = false := by simp; omega
    go_enter Tryz.func23, Tryz.ntmps23
    go_wp2_with fail
    go_ret2
    exact ⟨rfl, rfl⟩

set_option maxRecDepth 100000 in
set_option maxHeartbeats 4000000 in
theorem rnew_any (N : Nat) (h1 : 64 ≤ N) (h2 : N ≤ 262144) (w : World) :
    Calls Tryz.prog 23 #[.int .i64 N] w fun e w' => ∃ g, e = .returned (.tuple #[.pointer (some ⟨g, 0, none⟩), .int .i64 0]) ∧ g = w.heap.size ∧ Below w.heap.size w w' ∧ w.heap.size < w'.heap.size ∧ ∀ base, base ≤ w.heap.size → DAt true w' base g N (fun i => i = g) DSt.new := by
  have d1 : decide ((N : Int) < 64) = false := by simp; omega
  have d2 : decide ((262144 : Int) < (N : Int)) = false := by simp; omega
  go_enter Tryz.func23, Tryz.ntmps23
  go_wp2_with fail
  go_ret2
  exact ⟨_, rfl, rfl, (Below.refl _ _).alloc (Nat.le_refl _) _, by simp, fun base hb => DAt.fresh true N h2 w hb _ rfl⟩

set_option maxRecDepth 100000 in
set_option maxHeartbeats 4000000 in
theorem rroom_no (g : Nat) (no : Int) (h : no < 0 ∨ 2 ≤ no) (w : World) : Calls Tryz.prog 48 #[.pointer (some ⟨g, 0, none⟩), .int .i64 no] w fun e w' => e = .returned (.int .i64 0) ∧ w = w' := by
  have C := Lib.hid (there_no no h)
  clear h
  go_enter Tryz.func48, Tryz.ntmps48
  go_wp2_with fail
  go_must (refine (C.out _).mono ?_)
  rintro e w1 ⟨rfl, rfl⟩
  go_wp2_with fail
  go_ret
  exact ⟨rfl, rfl⟩

set_option maxRecDepth 100000 in
set_option maxHeartbeats 4000000 in
theorem rbytes_no (g : Nat) (no : Int) (h : no < 0 ∨ 2 ≤ no) (w : World) : Calls Tryz.prog 27 #[.pointer (some ⟨g, 0, none⟩), .int .i64 no] w fun e w' => e = .returned (.slice none 0 0) ∧ w = w' := by
  have C := Lib.hid (there_no no h)
  clear h
  go_enter Tryz.func27, Tryz.ntmps27
  go_wp2_with fail
  go_must (refine (C.out _).mono ?_)
  rintro e w1 ⟨rfl, rfl⟩
  go_wp2_with fail
  go_ret
  exact ⟨rfl, rfl⟩

set_option maxRecDepth 100000 in
set_option maxHeartbeats 4000000 in
theorem rsync_no (g : Nat) (no : Int) (h : no < 0 ∨ 2 ≤ no) (w : World) : Calls Tryz.prog 60 #[.pointer (some ⟨g, 0, none⟩), .int .i64 no] w fun e w' => e = .returned (.tuple #[]) ∧ w = w' := by
  have C := Lib.hid (there_no no h)
  clear h
  go_enter Tryz.func60, Tryz.ntmps60
  go_wp2_with fail
  go_must (refine (C.out _).mono ?_)
  rintro e w1 ⟨rfl, rfl⟩
  go_wp2_with fail
  go_end0
  exact ⟨rfl, rfl⟩

set_option maxRecDepth 100000 in
set_option maxHeartbeats 4000000 in
theorem rcut_no (g : Nat) (no : Int) (n : Int) (h : no < 0 ∨ 2 ≤ no) (w : World) : Calls Tryz.prog 56 #[.pointer (some ⟨g, 0, none⟩), .int .i64 no, .int .i64 n] w fun e w' => e = .returned (.tuple #[]) ∧ w = w' := by
  have C := Lib.hid (there_no no h)
  clear h
  go_enter Tryz.func56, Tryz.ntmps56
  go_wp2_with fail
  go_must (refine (C.out _).mono ?_)
  rintro e w1 ⟨rfl, rfl⟩
  go_wp2_with fail
  ((try simp only [Exit.inBlock, Exit.then]); refine bodyPost_ret (results_none rfl _ _ _) rfl ?_)
  exact ⟨rfl, rfl⟩

set_option maxRecDepth 100000 in
set_option maxHeartbeats 4000000 in
theorem rwrite_no (g : Nat) (no : Int) (Ab : Option Addr) (m cb : Nat) (h : no < 0 ∨ 2 ≤ no) (w : World) : Calls Tryz.prog 47 #[.pointer (some ⟨g, 0, none⟩), .int .i64 no, .slice Ab m cb] w fun e w' => e = .returned (.int .i64 1) ∧ w = w' := by
  have C := Lib.hid (there_no no h)
  clear h
  go_enter Tryz.func47, Tryz.ntmps47
  go_wp2_with fail
  go_must (refine (C.out _).mono ?_)
  rintro e w1 ⟨rfl, rfl⟩
  go_wp2_with fail
  go_ret
  exact ⟨rfl, rfl⟩

end Go.Proofs.YtalkglmneicpoaaGreatDoor
