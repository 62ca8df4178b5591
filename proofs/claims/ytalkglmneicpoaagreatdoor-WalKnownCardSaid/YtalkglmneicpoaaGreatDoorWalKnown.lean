/-
  WalKnown: the chapter's examples.
-/
import Derived.Test.YtalkglmneicpoaaGreatDoorWalLasts
import Derived.Test.YtalkglmneicpoaaGreatDoorWalRoom
import Derived.Test.YtalkglmneicpoaaGreatDoorWalRuns
import Derived.Test.YtalkglmneicpoaaGreatDoorRow
namespace Go.Proofs.YtalkglmneicpoaaGreatDoor
set_option linter.unusedVariables false
set_option linter.unusedSimpArgs false
open Go.RowKit
def actC (q : WAct) : List Value := [ival q.kd, ival q.nn, ival q.fk, q.x.val]
theorem actC_at (L : List WAct) : ∀ (i j : Nat) (q : WAct), j < 4 → L[i]? = some q → (L.flatMap actC)[i * 4 + j]? = (actC q)[j]? := by
  induction L with
  | nil => intro i j q _ h; cases h
  | cons y L ih =>
    intro i j q hj h
    have e : (y :: L).flatMap actC = actC y ++ L.flatMap actC := rfl
    have hl : (actC y).length = 4 := rfl
    rw [e]
    cases i with
    | zero =>
      simp only [List.getElem?_cons_zero, Option.some.injEq] at h
      subst h
      rw [List.getElem?_append_left (by omega)]
      simp
    | succ i =>
      rw [List.getElem?_append_right (by omega), hl, show (i + 1) * 4 + j - 4 = i * 4 + j by omega]
      exact ih i j q hj (by simpa using h)
def act0 : WAct := ⟨0, 0, 0, ⟨none, 0, 0, []⟩⟩
/-- A list of acts just laid. -/
theorem WActs.new (w : World) (L : List WAct) (B : Nat) (hB : w.heap.size < B) (h : ∀ q ∈ L, q.Ok ∧ q.x.m ≤ q.x.c ∧ q.x.c ≤ maxLen ∧ Reads (w.alloc (.cells (L.flatMap actC).toArray 30)) B 1 q.x.A q.x.m (q.x.bs.map bval)) :
    WActs (w.alloc (.cells (L.flatMap actC).toArray 30)) B (some ⟨w.heap.size, 0, none⟩) L.length (fun i => L.getD i act0) := fun i hi => by
  have hq : L[i]? = some L[i] := List.getElem?_eq_getElem hi
  have hg : L.getD i act0 = L[i] := by rw [List.getD_eq_getElem?_getD, hq]; rfl
  obtain ⟨h1, h2, h3, h4⟩ := h L[i] (List.getElem_mem hi)
  have hc : ∀ j u, j < 4 → (actC L[i])[j]? = some u → (w.alloc (.cells (L.flatMap actC).toArray 30)).cell? ⟨w.heap.size, i * 4 + j, none⟩ = some u := fun j u hj hu => by
    rw [cell_new, List.getElem?_toArray, actC_at L i j L[i] hj hq, hu]
  refine ⟨_, rfl, hB, ?_, by show (L.getD i act0).Ok; rw [hg]; exact h1⟩
  show WActAt _ _ _ (L.getD i act0)
  rw [hg, add_zero_block]
  exact ⟨hc 0 _ (by omega) rfl, hc 1 _ (by omega) rfl, hc 2 _ (by omega) rfl, hc 3 _ (by omega) rfl, h2, h3, h4⟩
set_option maxRecDepth 100000 in
set_option maxHeartbeats 32000000 in
theorem walKnown_any (pg : Addr) (w : World) (hG : Glob pg w) : Calls Tryz.prog 3 #[] w fun e w' => e = .returned (.bool true) ∧ Below w.heap.size w w' := by
  have hlt := hG.lt
  have HGW : Hid (∀ W, Below w.heap.size w W → Glob pg W) := fun W hW => hG.below hW hlt
  clear hG
  have R3 := Lib.hid (fun W => row_any 3 W (by omega))
  have R5 := Lib.hid (fun W => row_any 5 W (by omega))
  have R1 := Lib.hid (fun W => row_any 1 W (by omega))
  go_enter Tryz.func3, Tryz.ntmps3
  go_wp2_with fail
  go_must (refine (R3.out _).mono ?_)
  rintro e w1 ⟨va, rfl, howna, hb1⟩
  obtain ⟨Aa, ca, rfl, hca1, hca2, _⟩ := own_slice howna
  obtain ⟨w2, hw2⟩ : ∃ w2, w2 = w1.alloc (.cells #[.int .i64 1, .slice Aa 3 ca, .int .i64 255, .slice none 0 0] 25) := ⟨_, rfl⟩
  have hb2 : Below w1.heap.size w1 w2 := by rw [hw2]; exact (Below.refl _ _).alloc (Nat.le_refl _) _
  have HKA : Hid (Blk w2 w1.heap.size 25 #[.int .i64 1, .slice Aa 3 ca, .int .i64 255, .slice none 0 0]) := by show Blk _ _ _ _; rw [hw2]; exact Blk.new _ _ _
  have HRA : Hid (Reads w2 w2.heap.size 1 Aa 3 ((rowL 3).map bval)) := ((Reads.of_own howna).below hb2).more hb2.size
  have HB2 := Lib.hid (hb1.trans (hb2.mono hb1.size))
  clear howna hb1 hb2
  go_wp2_with fail
  rw [← hw2]
  clear hw2
  generalize w1.heap.size = ga at *
  go_must (refine (R5.out _).mono ?_)
  rintro e w3 ⟨vb, rfl, hownb, hb3⟩
  obtain ⟨Ab, cb, rfl, hcb1, hcb2, _⟩ := own_slice hownb
  go_wp2_with fail
  go_must (refine (R1.out _).mono ?_)
  rintro e w3' ⟨vc, rfl, hownc, hb3'⟩
  obtain ⟨Ac, cc, rfl, hcc1, hcc2, _⟩ := own_slice hownc
  obtain ⟨w4, hw4⟩ : ∃ w4, w4 = w3'.alloc (.cells #[.int .i64 2, .slice Ab 5 cb, .int .i64 3, .slice Ac 1 cc] 25) := ⟨_, rfl⟩
  have hb4 : Below w3'.heap.size w3' w4 := by rw [hw4]; exact (Below.refl _ _).alloc (Nat.le_refl _) _
  have hb34 : Below w3.heap.size w3 w4 := hb3'.trans (hb4.mono hb3'.size)
  have hb24 : Below w2.heap.size w2 w4 := hb3.trans (hb34.mono hb3.size)
  have HKB : Hid (Blk w4 w3'.heap.size 25 #[.int .i64 2, .slice Ab 5 cb, .int .i64 3, .slice Ac 1 cc]) := by show Blk _ _ _ _; rw [hw4]; exact Blk.new _ _ _
  have HKA4 := Lib.hid (HKA.out.below hb24 HKA.out.lt)
  have HRA4 : Hid (Reads w4 w4.heap.size 1 Aa 3 ((rowL 3).map bval)) := (HRA.out.below hb24).more hb24.size
  have HRB4 : Hid (Reads w4 w4.heap.size 1 Ab 5 ((rowL 5).map bval)) := ((Reads.of_own hownb).below hb34).more hb34.size
  have HRC4 : Hid (Reads w4 w4.heap.size 1 Ac 1 ((rowL 1).map bval)) := ((Reads.of_own hownc).below hb4).more hb4.size
  have HB4 := Lib.hid (HB2.out.trans (hb24.mono HB2.out.size))
  clear hownb hownc hb3 hb3' hb4 hb34 hb24 HKA HRA HB2
  go_wp2_with fail
  rw [← hw4]
  clear hw4
  generalize w3'.heap.size = gb at *
  have HD : Hid (∀ W, Below w4.heap.size w4 W → Glob pg W ∧ Below w.heap.size w W ∧ FrsR W W.heap.size (some ⟨ga, 0, none⟩) [(⟨1, rowL 3⟩, .slice Aa 3 ca), (⟨255, []⟩, .slice none 0 0)] ∧ FrsR W W.heap.size (some ⟨gb, 0, none⟩) [(⟨2, rowL 5⟩, .slice Ab 5 cb), (⟨3, rowL 1⟩, .slice Ac 1 cc)]) := fun W hW => by
    have h := HB4.out.trans (hW.mono HB4.out.size)
    have ka := HKA4.out.below hW HKA4.out.lt
    have kb := HKB.out.below hW HKB.out.lt
    refine ⟨HGW.out W h, h, ⟨⟨rfl, fun _ => ⟨_, rfl, ka.lt, fun j u hu => ?_⟩⟩, fun x hx => ?_⟩, ⟨⟨rfl, fun _ => ⟨_, rfl, kb.lt, fun j u hu => ?_⟩⟩, fun x hx => ?_⟩⟩
    · rw [add_zero_block, ka.cell j, ← hu, List.getElem?_toArray]
      rfl
    · simp only [List.mem_cons, List.mem_nil_iff, or_false] at hx
      rcases hx with rfl | rfl
      · exact ⟨⟨Aa, 3, ca⟩, rfl, hca1, hca2, (HRA4.out.below hW).more hW.size⟩
      · exact ⟨⟨none, 0, 0⟩, rfl, Nat.le_refl _, by simp [maxLen], Reads.none_⟩
    · rw [add_zero_block, kb.cell j, ← hu, List.getElem?_toArray]
      rfl
    · simp only [List.mem_cons, List.mem_nil_iff, or_false] at hx
      rcases hx with rfl | rfl
      · exact ⟨⟨Ab, 5, cb⟩, rfl, hcb1, hcb2, (HRB4.out.below hW).more hW.size⟩
      · exact ⟨⟨Ac, 1, cc⟩, rfl, hcc1, hcc2, (HRC4.out.below hW).more hW.size⟩
  have HRD : Hid (∀ W, Below w4.heap.size w4 W → Reads W W.heap.size 1 Aa 3 ((rowL 3).map bval) ∧ Reads W W.heap.size 1 Ab 5 ((rowL 5).map bval) ∧ Reads W W.heap.size 1 Ac 1 ((rowL 1).map bval)) := fun W hW =>
    ⟨(HRA4.out.below hW).more hW.size, (HRB4.out.below hW).more hW.size, (HRC4.out.below hW).more hW.size⟩
  have HC : Hid (∀ W, Below w4.heap.size w4 W → W.cell? ⟨ga, 0, none⟩ = some (.int .i64 1) ∧ W.cell? ⟨ga, 1, none⟩ = some (.slice Aa 3 ca) ∧ W.cell? ⟨ga, 2, none⟩ = some (.int .i64 255) ∧ W.cell? ⟨ga, 3, none⟩ = some (.slice none 0 0) ∧ W.cell? ⟨gb, 0, none⟩ = some (.int .i64 2) ∧ W.cell? ⟨gb, 1, none⟩ = some (.slice Ab 5 cb) ∧ W.cell? ⟨gb, 2, none⟩ = some (.int .i64 3) ∧ W.cell? ⟨gb, 3, none⟩ = some (.slice Ac 1 cc)) := fun W hW => by
    have ka := HKA4.out.below hW HKA4.out.lt
    have kb := HKB.out.below hW HKB.out.lt
    exact ⟨ka.cell 0, ka.cell 1, ka.cell 2, ka.cell 3, kb.cell 0, kb.cell 1, kb.cell 2, kb.cell 3⟩
  clear HKA4 HKB HRA4 HRB4 HRC4 R3 R5 R1
  go_wp2_with fail
  go_loopw [3] (fun i wr => ∃ q : Nat, q ≤ 31 ∧ i = .int .i64 ((q : Int) - 1) ∧ Below w4.heap.size w4 wr) (fun i _ => 31 - (intOf i + 1).toNat)
  case atStart => exact ⟨0, by omega, rfl, Below.refl _ _⟩
  case round =>
    obtain ⟨q, hq, rfl, hbel⟩ := hrel
    have HB := Lib.hid hbel
    clear hbel
    by_cases hlt31 : q < 31
    · have hltI : (q : Int) - 1 < 30 := by omega
      obtain ⟨w5, hw5⟩ : ∃ w5, w5 = wr.alloc (.cells #[.int .u8 1] 5) := ⟨_, rfl⟩
      have hb5 : Below wr.heap.size wr w5 := by rw [hw5]; exact (Below.refl _ _).alloc (Nat.le_refl _) _
      have hr5 : Reads w5 w5.heap.size 1 (some ⟨wr.heap.size, 0, none⟩) 1 (([1] : List UInt8).map bval) := by
        rw [hw5]; exact (Reads.new wr #[.int .u8 1] 5 (0, 0)).more (by simp)
      have HB5 := Lib.hid (HB.out.trans (hb5.mono HB.out.size))
      have P1 := Lib.hid (walLasts_any 30 (some ⟨ga, 0, none⟩) 2 2 _ _ rfl (some ⟨gb, 0, none⟩) 2 2 _ _ rfl ((q : Int) - 1) 9 [1] (some ⟨wr.heap.size, 0, none⟩) 1 1 pg w5 (HD.out _ HB5.out).1 (by omega) (by omega) (by omega) (by omega) (HD.out _ HB5.out).2.2.1 rfl (Nat.le_refl _) (by decide) (HD.out _ HB5.out).2.2.2 rfl (by decide) hr5 (Nat.le_refl _) (by decide))
      clear hb5 hr5
      go_wp2_with fail
      rw [← hw5]
      clear hw5
      go_must (refine P1.out.mono ?_)
      rintro e w6 ⟨rfl, hb6⟩
      have HB6 := Lib.hid (HB5.out.trans (hb6.mono HB5.out.size))
      obtain ⟨_, _, _, _, y0, y1, _, _⟩ := HC.out _ HB6.out
      have P2 := Lib.hid (walLasts_any ((q : Int) - 1) (some ⟨ga, 0, none⟩) 2 2 _ _ rfl (some ⟨gb, 0, none⟩) 2 2 _ _ rfl 4611686018427387904 2 (rowL 5) Ab 5 cb pg w6 (HD.out _ HB6.out).1 (by omega) (by omega) (by omega) (by omega) (HD.out _ HB6.out).2.2.1 rfl (Nat.le_refl _) (by decide) (HD.out _ HB6.out).2.2.2 rfl (by decide) (HRD.out _ HB6.out).2.1 hcb1 hcb2)
      clear P1 hb6 HB5
      go_wp2_with fail
      go_must (refine P2.out.mono ?_)
      rintro e w7 ⟨rfl, hb7⟩
      have HB7 := Lib.hid (HB6.out.trans (hb7.mono HB6.out.size))
      clear y0 y1
      obtain ⟨_, _, _, _, y0, y1, _, _⟩ := HC.out _ HB7.out
      have P3 := Lib.hid (walRoom_any ((q : Int) - 1) (some ⟨ga, 0, none⟩) 2 2 _ 2 (rowL 5) Ab 5 cb pg w7 (HD.out _ HB7.out).1 (by omega) (by omega) (HD.out _ HB7.out).2.2.1.frd rfl (by decide) (HRD.out _ HB7.out).2.1 (by decide))
      clear P2 hb7 HB6
      go_wp2_with fail
      go_must (refine P3.out.mono ?_)
      rintro e w8 ⟨rfl, hb8⟩
      have HB8 := Lib.hid (HB7.out.trans (hb8.mono HB7.out.size))
      obtain ⟨rr, hrr⟩ : ∃ rr : Nat, rr = 45 + (q - 1) := ⟨_, rfl⟩
      have RM : Hid (∀ z : Int, z = (rr : Int) → Calls Tryz.prog 4 #[.int .i64 z] w8 fun e w' => ∃ v, e = .returned v ∧ w'.ownsRow w8.heap.size 5 1 v rr ((rowL rr).map bval) ∧ Below w8.heap.size w8 w') := fun z hz => by
        rw [hz]; exact row_any rr w8 (by omega)
      have HRR := Lib.hid hrr
      have HQ0 : Hid (q = 0 ∨ q = 1 ∨ 2 ≤ q) := (by omega : q = 0 ∨ q = 1 ∨ 2 ≤ q)
      clear P3 hb8 HB7 y0 y1 hrr
      go_wp2_with fail
      all_goals
        go_must (refine (RM.out _ (by have := HRR.out; omega)).mono ?_)
        rintro e w9 ⟨v9, rfl, hown9, hb9⟩
        obtain ⟨A9, c9, rfl, hc91, hc92, _⟩ := own_slice hown9
        have HB9 := Lib.hid (HB8.out.trans (hb9.mono HB8.out.size))
        have P4 := Lib.hid (walRoom_any 0 none 0 0 [] ((q : Int) - 1) (rowL (rr)) A9 (rr) c9 pg w9 (HD.out _ HB9.out).1 (by omega) (by omega) (fun i f hi => by cases hi) rfl (by decide) (Reads.of_own hown9) (by have := HRR.out; unfold maxLen; omega))
        clear RM hown9 hb9 HB8
        go_wp2_with fail
        go_must (refine P4.out.mono ?_)
        rintro e w10 ⟨rfl, hb10⟩
        have HB10 := Lib.hid (HB9.out.trans (hb10.mono HB9.out.size))
        have RQ : Hid (∀ W : World, Calls Tryz.prog 4 #[.int .i64 (IntKind.i64.wrap (q : Int))] W fun e w' => ∃ v, e = .returned v ∧ w'.ownsRow W.heap.size 5 1 v q ((rowL q).map bval) ∧ Below W.heap.size W w') := fun W => by
          rw [IntWalk.i64_in (q : Int) (by omega)]; exact row_any q W (by omega)
        have q0 : Below w4.heap.size w4 w10.drew := HB10.out.drew
        clear P4 hb10 HB9
        go_wp2_with fail
        go_region_held3 (fun W => W.cell? ⟨ga, 0, none⟩ = some (.int .i64 1) ∧ W.cell? ⟨ga, 1, none⟩ = some (.slice Aa 3 ca) ∧ W.cell? ⟨ga, 2, none⟩ = some (.int .i64 255) ∧ W.cell? ⟨ga, 3, none⟩ = some (.slice none 0 0) ∧ W.cell? ⟨gb, 0, none⟩ = some (.int .i64 2) ∧ W.cell? ⟨gb, 1, none⟩ = some (.slice Ab 5 cb) ∧ W.cell? ⟨gb, 2, none⟩ = some (.int .i64 3) ∧ W.cell? ⟨gb, 3, none⟩ = some (.slice Ac 1 cc)) (first | exact HC.out _ q0 | exact HC.out _ q1 | exact HC.out _ (q1.alloc q1.size _)) ((first | (go_at_call 4; refine (RQ.out _).mono ?_; rintro e w11 ⟨v11, rfl, hown11, hb11⟩; obtain ⟨Ar, cr, rfl, hcr1, hcr2, _⟩ := own_slice hown11; have q1 : Below w4.heap.size w4 w11 := q0.trans (hb11.mono q0.size)) | fail))
        have hAl : ∀ X, Below w11.heap.size w11 (w11.alloc X) := fun X => (Below.refl _ _).alloc (Nat.le_refl _) _
        have HWA : WActs (w11.alloc (.cells #[.int .i64 0, .int .i64 0, .int .i64 1, .slice Aa 3 ca, .int .i64 0, .int .i64 1, .int .i64 2, .slice Ab 5 cb, .int .i64 1, .int .i64 ((q : Int) - 1), .int .i64 0, .slice none 0 0, .int .i64 0, .int .i64 0, .int .i64 255, .slice none 0 0, .int .i64 0, .int .i64 1, .int .i64 3, .slice Ac 1 cc, .int .i64 3, .int .i64 ((q : Int) - 1), .int .i64 0, .slice none 0 0, .int .i64 0, .int .i64 0, .int .i64 3, .slice Ac 1 cc, .int .i64 5, .int .i64 0, .int .i64 0, .slice Ar q cr, .int .i64 4, .int .i64 0, .int .i64 0, .slice none 0 0, .int .i64 0, .int .i64 0, .int .i64 255, .slice none 0 0, .int .i64 4, .int .i64 0, .int .i64 0, .slice none 0 0, .int .i64 2, .int .i64 ((q : Int) - 1), .int .i64 0, .slice none 0 0, .int .i64 4, .int .i64 1, .int .i64 0, .slice none 0 0, .int .i64 9, .int .i64 0, .int .i64 0, .slice none 0 0] 30)) (w11.heap.size + 1) (some ⟨w11.heap.size, 0, none⟩) 14 (fun i => List.getD [⟨0, 0, 1, ⟨Aa, 3, ca, rowL 3⟩⟩, ⟨0, 1, 2, ⟨Ab, 5, cb, rowL 5⟩⟩, ⟨1, ((q : Int) - 1), 0, ⟨none, 0, 0, []⟩⟩, ⟨0, 0, 255, ⟨none, 0, 0, []⟩⟩, ⟨0, 1, 3, ⟨Ac, 1, cc, rowL 1⟩⟩, ⟨3, ((q : Int) - 1), 0, ⟨none, 0, 0, []⟩⟩, ⟨0, 0, 3, ⟨Ac, 1, cc, rowL 1⟩⟩, ⟨5, 0, 0, ⟨Ar, q, cr, rowL q⟩⟩, ⟨4, 0, 0, ⟨none, 0, 0, []⟩⟩, ⟨0, 0, 255, ⟨none, 0, 0, []⟩⟩, ⟨4, 0, 0, ⟨none, 0, 0, []⟩⟩, ⟨2, ((q : Int) - 1), 0, ⟨none, 0, 0, []⟩⟩, ⟨4, 1, 0, ⟨none, 0, 0, []⟩⟩, ⟨9, 0, 0, ⟨none, 0, 0, []⟩⟩] i act0) := by
          refine WActs.new w11 [⟨0, 0, 1, ⟨Aa, 3, ca, rowL 3⟩⟩, ⟨0, 1, 2, ⟨Ab, 5, cb, rowL 5⟩⟩, ⟨1, ((q : Int) - 1), 0, ⟨none, 0, 0, []⟩⟩, ⟨0, 0, 255, ⟨none, 0, 0, []⟩⟩, ⟨0, 1, 3, ⟨Ac, 1, cc, rowL 1⟩⟩, ⟨3, ((q : Int) - 1), 0, ⟨none, 0, 0, []⟩⟩, ⟨0, 0, 3, ⟨Ac, 1, cc, rowL 1⟩⟩, ⟨5, 0, 0, ⟨Ar, q, cr, rowL q⟩⟩, ⟨4, 0, 0, ⟨none, 0, 0, []⟩⟩, ⟨0, 0, 255, ⟨none, 0, 0, []⟩⟩, ⟨4, 0, 0, ⟨none, 0, 0, []⟩⟩, ⟨2, ((q : Int) - 1), 0, ⟨none, 0, 0, []⟩⟩, ⟨4, 1, 0, ⟨none, 0, 0, []⟩⟩, ⟨9, 0, 0, ⟨none, 0, 0, []⟩⟩] _ (Nat.lt_succ_self _) (fun x hx => ?_)
          have hR0 : ∀ X, Reads (w11.alloc X) (w11.heap.size + 1) 1 Aa 3 ((rowL 3).map bval) := fun X => ((HRD.out _ q1).1.below (hAl X)).more (Nat.le_succ _)
          have hR1 : ∀ X, Reads (w11.alloc X) (w11.heap.size + 1) 1 Ab 5 ((rowL 5).map bval) := fun X => ((HRD.out _ q1).2.1.below (hAl X)).more (Nat.le_succ _)
          have hR2 : ∀ X, Reads (w11.alloc X) (w11.heap.size + 1) 1 Ac 1 ((rowL 1).map bval) := fun X => ((HRD.out _ q1).2.2.below (hAl X)).more (Nat.le_succ _)
          have hR3 : ∀ X, Reads (w11.alloc X) (w11.heap.size + 1) 1 Ar q ((rowL q).map bval) := fun X => ((Reads.of_own hown11).below (hAl X)).more (Nat.le_succ _)
          simp only [List.mem_cons, List.mem_nil_iff, or_false] at hx
          rcases hx with rfl | rfl | rfl | rfl | rfl | rfl | rfl | rfl | rfl | rfl | rfl | rfl | rfl | rfl
          all_goals
            refine ⟨⟨⟨?_, ?_⟩, ⟨?_, ?_⟩⟩, ?_, ?_, ?_⟩
            all_goals dsimp only
            all_goals first | exact hca1 | exact hca2 | exact hcb1 | exact hcb2 | exact hcc1 | exact hcc2 | exact hcr1 | exact hcr2 | exact Nat.zero_le _ | exact hR0 _ | exact hR1 _ | exact hR2 _ | exact hR3 _ | exact Reads.none_ | omega
        obtain ⟨wA, hwA⟩ : ∃ wA, wA = w11.alloc (.cells #[.int .i64 0, .int .i64 0, .int .i64 1, .slice Aa 3 ca, .int .i64 0, .int .i64 1, .int .i64 2, .slice Ab 5 cb, .int .i64 1, .int .i64 ((q : Int) - 1), .int .i64 0, .slice none 0 0, .int .i64 0, .int .i64 0, .int .i64 255, .slice none 0 0, .int .i64 0, .int .i64 1, .int .i64 3, .slice Ac 1 cc, .int .i64 3, .int .i64 ((q : Int) - 1), .int .i64 0, .slice none 0 0, .int .i64 0, .int .i64 0, .int .i64 3, .slice Ac 1 cc, .int .i64 5, .int .i64 0, .int .i64 0, .slice Ar q cr, .int .i64 4, .int .i64 0, .int .i64 0, .slice none 0 0, .int .i64 0, .int .i64 0, .int .i64 255, .slice none 0 0, .int .i64 4, .int .i64 0, .int .i64 0, .slice none 0 0, .int .i64 2, .int .i64 ((q : Int) - 1), .int .i64 0, .slice none 0 0, .int .i64 4, .int .i64 1, .int .i64 0, .slice none 0 0, .int .i64 9, .int .i64 0, .int .i64 0, .slice none 0 0] 30) := ⟨_, rfl⟩
        have hbA : Below w11.heap.size w11 wA := by rw [hwA]; exact hAl _
        have hsA : wA.heap.size = w11.heap.size + 1 := by rw [hwA]; simp
        rw [← hwA, ← hsA] at HWA
        have HB12 := Lib.hid (q1.trans (hbA.mono q1.size))
        have RN : Hid (∀ z : Int, z = ((q : Int) - 1) * 3 → Calls Tryz.prog 7 #[.int .i64 z, .slice (some ⟨w11.heap.size, 0, none⟩) 14 14] wA fun e w' => e = .returned (.bool true) ∧ Below wA.heap.size wA w') := fun z hz => by
          rw [hz]; exact walRuns_any _ _ 14 14 _ pg wA (HD.out _ HB12.out).1 (by omega) (by omega) HWA (by decide)
        rw [← hwA]
        clear HWA hAl hwA hbA hsA q0 q1 RQ hown11 hb11
        generalize w11.heap.size = gw at *
        go_wp2_with fail
        go_must (refine (RN.out _ (by first | rfl | exact IntWalk.i64_in _ (by omega) | omega)).mono ?_)
        rintro e w13 ⟨rfl, hb13⟩
        have HB13 := Lib.hid (HB12.out.trans (hb13.mono HB12.out.size))
        clear RN HB12 hb13
        go_wp2_with fail
        go_roundw
        case rel => exact ⟨q + 1, by omega, by first | go_num | (simp; omega), HB13.out⟩
        case measure => simp [intOf]; omega
    · obtain rfl : q = 31 := by omega
      rw [show ((31 : Nat) : Int) - 1 = 30 from rfl]
      have WK := Lib.hid (wworks_any pg wr (HD.out _ HB.out).1)
      have HBw := Lib.hid (HD.out _ HB.out).2.1
      go_wp2_with fail
      go_must (refine WK.out.mono ?_)
      rintro e w8 ⟨rfl, hb8⟩
      go_wp2_with fail
      go_ret
      exact ⟨rfl, HBw.out.trans (hb8.mono HBw.out.size)⟩
end Go.Proofs.YtalkglmneicpoaaGreatDoor
