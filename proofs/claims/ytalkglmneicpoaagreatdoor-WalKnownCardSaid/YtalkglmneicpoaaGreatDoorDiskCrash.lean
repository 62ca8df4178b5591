/-
  The program's disk: a crash; a new disk; acts on no area.
-/
import Derived.Test.YtalkglmneicpoaaGreatDoorDiskActs
namespace Go.Proofs.YtalkglmneicpoaaGreatDoor
set_option linter.unusedVariables false
set_option linter.unusedSimpArgs false
open Go.RowKit
theorem DAt.same {ref : Bool} {base g N : Nat} {S : Nat → Prop} {st : DSt} {w : World} (h : DAt ref w base g N S st) : DAt ref w base g N (growS S w w) st :=
  h.more (fun i hi => .inl hi) fun i hi => by
    rcases hi with h1 | ⟨h1, h2⟩
    · exact h.all i h1
    · omega
theorem DAt.draws {ref : Bool} {base g N : Nat} {S : Nat → Prop} {st : DSt} {w : World} (h : DAt ref w base g N S st) (q : Nat) : DAt ref (w.drewN q) base g N (growS S w (w.drewN q)) st :=
  (h.drewN q).more (fun i hi => .inl hi) fun i hi => by
    rcases hi with h1 | ⟨h1, h2⟩
    · exact h.all i h1
    · exact absurd (show i < w.heap.size from h2) (by omega)
/-- Two acts, one behind the other. -/
theorem DAt.two {ref : Bool} {base g N : Nat} {S : Nat → Prop} {st : DSt} {w w1 w2 : World} (h : DAt ref w2 base g N (growS (growS S w w1) w1 w2) st) (h1 : Only S w w1) (h2 : Only (growS S w w1) w1 w2) : DAt ref w2 base g N (growS S w w2) st :=
  h.more (fun i hi => by
    rcases hi with (h3 | ⟨h3, h4⟩) | ⟨h3, h4⟩
    · exact .inl h3
    · exact .inr ⟨h3, Nat.lt_of_lt_of_le h4 h2.size⟩
    · exact .inr ⟨Nat.le_trans h1.size h3, h4⟩) fun i hi => h.all i (by
    rcases hi with h3 | ⟨h3, h4⟩
    · exact .inl (.inl h3)
    · by_cases hl : i < w1.heap.size
      · exact .inl (.inr ⟨h3, hl⟩)
      · exact .inr ⟨by omega, h4⟩)
theorem dpost_two {ref : Bool} {base g N : Nat} {S : Nat → Prop} {st : DSt} {v : Value} {w w1 w2 : World} {e : Ending} (h1 : Only S w w1) (h : DPost ref base g N (growS S w w1) w1 v st e w2) : DPost ref base g N S w v st e w2 :=
  ⟨h.1, h.2.1.two h1 h.2.2, h1.grow h.2.2⟩
def crashK (k : Nat) (st : DSt) (keep : Int) : DSt := if k = 0 then st else if k = 1 then st.crash1 false keep else st.crash keep
theorem crashK_ok {k N : Nat} {st : DSt} (keep : Int) (h : st.Ok N) : (crashK k st keep).Ok N := by
  unfold crashK; split
  · exact h
  · split
    · exact h.crash1 _ _
    · exact h.crash _
theorem keepN_is (keep : Int) (r : Ar) (m m2 : Int) (h : r.2 ≤ r.1.length) (hm1 : (if ((r.1.length : Int) - (r.2 : Int)) < keep then ((r.1.length : Int) - (r.2 : Int)) else keep) = m) (hm2 : (if (0 : Int) < m then m else 0) = m2) :
    keepN keep r = (r.2 : Int) + m2 ∧ 0 ≤ m2 ∧ m2 ≤ (r.1.length : Int) := by
  unfold keepN; subst hm1; subst hm2; split <;> split <;> omega

set_option maxRecDepth 100000 in
set_option maxHeartbeats 4000000 in
theorem crash_any (base g N : Nat) (S : Nat → Prop) (st : DSt) (keep : Int) (w : World) (h : DAt false w base g N S st) (hbase : base ≤ w.heap.size) :
    Calls Tryz.prog 15 #[.pointer (some ⟨g, 0, none⟩), .int .i64 keep] w (DPost false base g N S w (.tuple #[]) (st.crash keep)) := by
  have H := Lib.hid h.same
  clear h
  go_enter Tryz.func15, Tryz.ntmps15
  go_wp2_with fail
  go_loopw [6] (fun i wr => ∃ k : Nat, k ≤ 2 ∧ i = .int .i64 k ∧ DAt false wr base g N (growS S w wr) (crashK k st keep) ∧ Only S w wr) (fun i _ => 2 - (intOf i).toNat)
  case atStart => exact ⟨0, by omega, rfl, H.out, Only.refl _ _⟩
  case round =>
    obtain ⟨k, hk, rfl, hD, hO⟩ := hrel
    clear H
    rcases (by omega : k = 0 ∨ k = 1 ∨ k = 2) with rfl | rfl | rfl
    · have hd := hD
      rw [show crashK 0 st keep = st from rfl] at hd
      have hK : keepN keep (st false) = ((st false).2 : Int) + (if (0 : Int) < (if (((st false).1.length : Int) - ((st false).2 : Int)) < keep then (((st false).1.length : Int) - ((st false).2 : Int)) else keep) then (if (((st false).1.length : Int) - ((st false).2 : Int)) < keep then (((st false).1.length : Int) - ((st false).2 : Int)) else keep) else 0) ∧ _ ∧ _ := keepN_is keep (st false) _ _ (hd.ok.2 false).2 rfl rfl
      have hD2 := (hd.drewN 1)
      have D := Lib.hid (cut_any false base g N _ st (keepN keep (st false)) (wr.drewN 1) hD2 (Nat.le_trans hbase hO.size))
      have hstep : st.cut false (keepN keep (st false)) = crashK 1 st keep := rfl
      rw [hstep] at D
      obtain ⟨x, hx⟩ := hd
      have c1 : wr.cell? ⟨g, 1, none⟩ = some (x false) := hx.blk.cell 1
      have c2 : wr.cell? ⟨g, 2, none⟩ = some (ival (st false).2) := hx.blk.cell 2
      obtain ⟨A, c, he, hc1, hc2, _⟩ := own_slice (hx.row false)
      rw [he] at c1
      have hs := (hx.ok.2 false).2
      have hl := Nat.le_trans (hx.ok.2 false).1 hx.ok.1
      clear hx he hD hD2
      obtain ⟨hk1, hk2, hk3⟩ := hK
      rw [hk1] at D
      clear hk1
      generalize (st false).1.length = len at *
      generalize (st false).2 = s at *
      generalize hm1 : (if ((len : Int) - (s : Int)) < keep then ((len : Int) - (s : Int)) else keep) = m at *
      generalize hm2 : (if (0 : Int) < m then m else 0) = m2 at *
      have HO := Lib.hid hO
      clear hO
      have hw1 : IntKind.i64.wrap ((len : Int) - (s : Int)) = (len : Int) - (s : Int) := IntWalk.i64_in _ (by omega)
      have hw2 : IntKind.i64.wrap ((s : Int) + m2) = (s : Int) + m2 := IntWalk.i64_in _ (by omega)
      go_wp2_with fail
      go_still_tail 19, (by kernel_rfl)
      change wpList _ _ _ _ _ (wr.drewN 1)
      go_wp2_with fail
      go_must (refine D.out.mono ?_)
      rintro e w2 ⟨rfl, hd2, ho2⟩
      have HD2 := Lib.hid hd2
      have HO2 := Lib.hid ho2
      clear hd2 ho2 hw1 hw2 hm1 hm2 c1 c2
      go_wp2_with fail
      go_roundw
      case rel =>
        have ho2' : Only (growS S w wr) wr w2 := ((Only.refl _ wr).drewN 1).trans HO2.out (fun i hi => .inl hi)
        have hd2' : DAt false w2 base g N (growS (growS S w wr) wr w2) (crashK 1 st keep) := HD2.out
        exact ⟨1, by omega, rfl, hd2'.two HO.out ho2', HO.out.grow ho2'⟩
      case measure => simp [intOf]
    · have hd := hD
      rw [show crashK 1 st keep = (st.crash1 false keep) from rfl] at hd
      have hK : keepN keep ((st.crash1 false keep) true) = (((st.crash1 false keep) true).2 : Int) + (if (0 : Int) < (if ((((st.crash1 false keep) true).1.length : Int) - (((st.crash1 false keep) true).2 : Int)) < keep then ((((st.crash1 false keep) true).1.length : Int) - (((st.crash1 false keep) true).2 : Int)) else keep) then (if ((((st.crash1 false keep) true).1.length : Int) - (((st.crash1 false keep) true).2 : Int)) < keep then ((((st.crash1 false keep) true).1.length : Int) - (((st.crash1 false keep) true).2 : Int)) else keep) else 0) ∧ _ ∧ _ := keepN_is keep ((st.crash1 false keep) true) _ _ (hd.ok.2 true).2 rfl rfl
      have hD2 := (hd.drewN 1)
      have D := Lib.hid (cut_any true base g N _ (st.crash1 false keep) (keepN keep ((st.crash1 false keep) true)) (wr.drewN 1) hD2 (Nat.le_trans hbase hO.size))
      have hstep : (st.crash1 false keep).cut true (keepN keep ((st.crash1 false keep) true)) = crashK 2 st keep := rfl
      rw [hstep] at D
      obtain ⟨x, hx⟩ := hd
      have c1 : wr.cell? ⟨g, 3, none⟩ = some (x true) := hx.blk.cell 3
      have c2 : wr.cell? ⟨g, 4, none⟩ = some (ival ((st.crash1 false keep) true).2) := hx.blk.cell 4
      obtain ⟨A, c, he, hc1, hc2, _⟩ := own_slice (hx.row true)
      rw [he] at c1
      have hs := (hx.ok.2 true).2
      have hl := Nat.le_trans (hx.ok.2 true).1 hx.ok.1
      clear hx he hD hD2
      obtain ⟨hk1, hk2, hk3⟩ := hK
      rw [hk1] at D
      clear hk1
      generalize ((st.crash1 false keep) true).1.length = len at *
      generalize ((st.crash1 false keep) true).2 = s at *
      generalize hm1 : (if ((len : Int) - (s : Int)) < keep then ((len : Int) - (s : Int)) else keep) = m at *
      generalize hm2 : (if (0 : Int) < m then m else 0) = m2 at *
      have HO := Lib.hid hO
      clear hO
      have hw1 : IntKind.i64.wrap ((len : Int) - (s : Int)) = (len : Int) - (s : Int) := IntWalk.i64_in _ (by omega)
      have hw2 : IntKind.i64.wrap ((s : Int) + m2) = (s : Int) + m2 := IntWalk.i64_in _ (by omega)
      go_wp2_with fail
      go_still_tail 19, (by kernel_rfl)
      change wpList _ _ _ _ _ (wr.drewN 1)
      go_wp2_with fail
      go_must (refine D.out.mono ?_)
      rintro e w2 ⟨rfl, hd2, ho2⟩
      have HD2 := Lib.hid hd2
      have HO2 := Lib.hid ho2
      clear hd2 ho2 hw1 hw2 hm1 hm2 c1 c2
      go_wp2_with fail
      go_roundw
      case rel =>
        have ho2' : Only (growS S w wr) wr w2 := ((Only.refl _ wr).drewN 1).trans HO2.out (fun i hi => .inl hi)
        have hd2' : DAt false w2 base g N (growS (growS S w wr) wr w2) (crashK 2 st keep) := HD2.out
        exact ⟨2, by omega, rfl, hd2'.two HO.out ho2', HO.out.grow ho2'⟩
      case measure => simp [intOf]
    · have HD : Hid (DPost false base g N S w (.tuple #[]) (st.crash keep) (.returned (.tuple #[])) wr) := ⟨rfl, hD, hO⟩
      clear hD hO
      go_wp2_with fail
      go_end0
      exact HD.out

set_option maxRecDepth 100000 in
set_option maxHeartbeats 4000000 in
theorem new_no (n : Int) (h : n < 64 ∨ 262144 < n) (w : World) :
    Calls Tryz.prog 10 #[.int .i64 n] w fun e w' => e = .returned (.tuple #[.pointer none, .int .i64 1]) ∧ w = w' := by
  rcases h with h | h
  · go_enter Tryz.func10, Tryz.ntmps10
    go_wp2_with fail
    go_ret2
    exact ⟨rfl, rfl⟩
  · have h1 : decide (n < 64) = false := by simp; omega
    go_enter Tryz.func10, Tryz.ntmps10
    go_wp2_with fail
    go_ret2
    exact ⟨rfl, rfl⟩

theorem DAt.fresh (ref : Bool) (N : Nat) (hN : N ≤ 262144) (w : World) {base : Nat} (hb : base ≤ w.heap.size) (C : Array Value) (hC : C = dCells ref N (fun _ => .slice none 0 0) DSt.new) : DAt ref (w.alloc (.cells C (dType ref))) base w.heap.size N (fun i => i = w.heap.size) DSt.new := by
  subst hC
  exact ⟨fun _ => .slice none 0 0, ⟨Blk.new _ _ _, fun a => World.ownsRow_nil _ _ _ _, (fun a i h => by cases h), (fun a i h => by cases h), rfl, (fun i hi => by subst hi; exact ⟨hb, by simp⟩), DSt.Ok.new hN⟩⟩

set_option maxRecDepth 100000 in
set_option maxHeartbeats 4000000 in
theorem new_any (N : Nat) (h1 : 64 ≤ N) (h2 : N ≤ 262144) (w : World) :
    Calls Tryz.prog 10 #[.int .i64 N] w fun e w' => ∃ g, e = .returned (.tuple #[.pointer (some ⟨g, 0, none⟩), .int .i64 0]) ∧ g = w.heap.size ∧ Below w.heap.size w w' ∧ w.heap.size < w'.heap.size ∧ ∀ base, base ≤ w.heap.size → DAt false w' base g N (fun i => i = g) DSt.new := by
  have d1 : decide ((N : Int) < 64) = false := by simp; omega
  have d2 : decide ((262144 : Int) < (N : Int)) = false := by simp; omega
  go_enter Tryz.func10, Tryz.ntmps10
  go_wp2_with fail
  go_ret2
  exact ⟨_, rfl, rfl, (Below.refl _ _).alloc (Nat.le_refl _) _, by simp, fun base hb => DAt.fresh false N h2 w hb _ rfl⟩

set_option maxRecDepth 100000 in
set_option maxHeartbeats 4000000 in
theorem room_no (g : Nat) (no : Int) (h : no < 0 ∨ 2 ≤ no) (w : World) : Calls Tryz.prog 35 #[.pointer (some ⟨g, 0, none⟩), .int .i64 no] w fun e w' => e = .returned (.int .i64 0) ∧ w = w' := by
  have C := Lib.hid (at_no g no h)
  clear h
  go_enter Tryz.func35, Tryz.ntmps35
  go_wp2_with fail
  go_must (refine (C.out _).mono ?_)
  rintro e w1 ⟨rfl, rfl⟩
  go_wp2_with fail
  go_ret
  exact ⟨rfl, rfl⟩

set_option maxRecDepth 100000 in
set_option maxHeartbeats 4000000 in
theorem bytes_no (g : Nat) (no : Int) (h : no < 0 ∨ 2 ≤ no) (w : World) : Calls Tryz.prog 19 #[.pointer (some ⟨g, 0, none⟩), .int .i64 no] w fun e w' => e = .returned (.slice none 0 0) ∧ w = w' := by
  have C := Lib.hid (at_no g no h)
  clear h
  go_enter Tryz.func19, Tryz.ntmps19
  go_wp2_with fail
  go_must (refine (C.out _).mono ?_)
  rintro e w1 ⟨rfl, rfl⟩
  go_wp2_with fail
  go_ret
  exact ⟨rfl, rfl⟩

set_option maxRecDepth 100000 in
set_option maxHeartbeats 4000000 in
theorem sync_no (g : Nat) (no : Int) (h : no < 0 ∨ 2 ≤ no) (w : World) : Calls Tryz.prog 31 #[.pointer (some ⟨g, 0, none⟩), .int .i64 no] w fun e w' => e = .returned (.tuple #[]) ∧ w = w' := by
  have C := Lib.hid (at_no g no h)
  clear h
  go_enter Tryz.func31, Tryz.ntmps31
  go_wp2_with fail
  go_must (refine (C.out _).mono ?_)
  rintro e w1 ⟨rfl, rfl⟩
  go_wp2_with fail
  go_end0
  exact ⟨rfl, rfl⟩

set_option maxRecDepth 100000 in
set_option maxHeartbeats 4000000 in
theorem dcut_no (g : Nat) (no : Int) (n : Int) (h : no < 0 ∨ 2 ≤ no) (w : World) : Calls Tryz.prog 30 #[.pointer (some ⟨g, 0, none⟩), .int .i64 no, .int .i64 n] w fun e w' => e = .returned (.tuple #[]) ∧ w = w' := by
  have C := Lib.hid (at_no g no h)
  clear h
  go_enter Tryz.func30, Tryz.ntmps30
  go_wp2_with fail
  go_must (refine (C.out _).mono ?_)
  rintro e w1 ⟨rfl, rfl⟩
  go_wp2_with fail
  go_end0
  exact ⟨rfl, rfl⟩

set_option maxRecDepth 100000 in
set_option maxHeartbeats 4000000 in
theorem write_no (g : Nat) (no : Int) (Ab : Option Addr) (m cb : Nat) (h : no < 0 ∨ 2 ≤ no) (w : World) : Calls Tryz.prog 46 #[.pointer (some ⟨g, 0, none⟩), .int .i64 no, .slice Ab m cb] w fun e w' => e = .returned (.int .i64 1) ∧ w = w' := by
  have C := Lib.hid (at_no g no h)
  clear h
  go_enter Tryz.func46, Tryz.ntmps46
  go_wp2_with fail
  go_must (refine (C.out _).mono ?_)
  rintro e w1 ⟨rfl, rfl⟩
  go_wp2_with fail
  go_ret
  exact ⟨rfl, rfl⟩

end Go.Proofs.YtalkglmneicpoaaGreatDoor
