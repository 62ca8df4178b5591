/-
  The document's answer for Align: its cells, Blocked, Barrier.
-/
import Derived.Test.YtcikjghinjdmmaaAlignSim
import Derived.Test.YtcikjghinjdmmaaInts
namespace Go.Proofs.Ytcikjghinjdmmaa
set_option linter.unusedVariables false
set_option linter.unusedSimpArgs false
open Go.RowKit

abbrev refCells (n : Int) (v : Value) (wt dn : Bool) (no cp : Int) : Array Value := #[ival n, v, .bool wt, .bool dn, ival no, ival cp]
def RefRep (w : World) (r n : Nat) (m : RefSt) (v : Value) : Prop :=
  Blk w r 44 (refCells n v m.wt m.dn m.no m.cp) ∧ w.ownsRow 0 3 1 v m.L.length (m.L.map ival) ∧ m.L.length ≤ n
/-- Only block r, and the list's block, may have turned. -/
def Two (w w' : World) (r : Nat) (ob : Option Nat) : Prop :=
  w'.os = w.os ∧ w'.tape = w.tape ∧ w'.output = w.output ∧ w.heap.size ≤ w'.heap.size ∧ ∀ k, k < w.heap.size → k ≠ r → some k ≠ ob → w'.heap[k]? = w.heap[k]?
theorem Two.refl (w : World) (r : Nat) (ob : Option Nat) : Two w w r ob := ⟨rfl, rfl, rfl, Nat.le_refl _, fun _ _ _ _ => rfl⟩
theorem Two.drewN {w w' : World} {r : Nat} {ob : Option Nat} (h : Two w w' r ob) (m : Nat) : Two w (w'.drewN m) r ob := h
theorem Two.setCell {w w' : World} {r : Nat} {ob : Option Nat} (h : Two w w' r ob) (k : Nat) (u : Value) : Two w (w'.setCell ⟨r, k, none⟩ u) r ob :=
  ⟨h.1, h.2.1, h.2.2.1, by simpa [World.setCell] using h.2.2.2.1, fun i hi hr ho => (Below.heap_setCell w' ⟨r, k, none⟩ u i hr).trans (h.2.2.2.2 i hi hr ho)⟩
theorem Two.grown {w w1 w2 : World} {r : Nat} {ob ob' : Option Nat} (h : Two w w1 r ob) (hg : w1.grownBy w2 ob') (ho : ob' = none ∨ ob' = ob ∨ ∀ b, ob' = some b → w.heap.size ≤ b) : Two w w2 r ob :=
  ⟨hg.os.trans h.1, hg.tape.trans h.2.1, hg.output.trans h.2.2.1, Nat.le_trans h.2.2.2.1 hg.size, fun i hi hr hn =>
    (hg.block i (Nat.lt_of_lt_of_le hi h.2.2.2.1) (by
      rcases ho with ho | ho | ho
      · rw [ho]; simp
      · rw [ho]; exact hn
      · intro he; have := ho i he.symm; omega)).trans (h.2.2.2.2 i hi hr hn)⟩

set_option maxRecDepth 100000 in
set_option maxHeartbeats 400000 in
theorem rnew_any (n : Nat) (w : World) :
    Calls Try.prog 12 #[.int .i64 (n : Int)] w fun e w' => e = .returned (.pointer (some ⟨w.heap.size, 0, none⟩)) ∧ w' = w.alloc (.cells (refCells n (.slice none 0 0) false false 0 0) 44) := by
  go_enter Try.func12, Try.ntmps12
  go_wp2_with fail
  go_ret
  exact ⟨rfl, rfl⟩
set_option maxRecDepth 100000 in
set_option maxHeartbeats 1000000 in
theorem rblocked_any (r B : Nat) (A : Option Addr) (c : Nat) (L : List Int) (i : Int) (w : World) (hc1 : w.cell? ⟨r, 1, none⟩ = some (.slice A L.length c)) (hr : Reads w B 1 A L.length (L.map ival)) (hm : L.length ≤ maxLen) :
    Calls Try.prog 16 #[.pointer (some ⟨r, 0, none⟩), .int .i64 i] w fun e w' => e = .returned (.bool (decide (i ∈ L))) ∧ w = w' := by
  unfold maxLen at hm
  generalize hn : L.length = n at *
  have HN := Lib.hid hn
  clear hn
  go_enter Try.func16, Try.ntmps16
  go_wp2_with fail
  go_loopw [5] (fun j wr => ∃ k : Nat, k ≤ n ∧ j = .int .i64 k ∧ Hid (i ∉ L.take k) ∧ wr = w) (fun j _ => n - (intOf j).toNat)
  case atStart => exact ⟨0, by omega, rfl, (by simp : i ∉ L.take 0), rfl⟩
  case round =>
    obtain ⟨k, hk, rfl, hnot, rfl⟩ := hrel
    by_cases hlt : k < n
    · have hkL : k < L.length := by have := HN.out; omega
      obtain ⟨ad, rfl, _, hcell⟩ := hr.int hkL
      have HZ : Hid (L.take (k + 1) = L.take k ++ [L[k]]) := by show _ = _; rw [List.take_succ_eq_append_getElem hkL]
      have HM : Hid (L[k] ∈ L) := List.getElem_mem hkL
      generalize L[k] = z at *
      by_cases hz : z = i
      · subst hz
        go_wp2_with fail
        go_ret
        exact ⟨ret_bool (by simpa using HM.out), rfl⟩
      · have hz1 : (z == i) = false := by simpa using hz
        have HZ2 := Lib.hid hz
        clear hz
        go_wp2_with fail
        go_roundw
        case rel =>
          refine ⟨k + 1, by omega, by go_num, ?_, trivial⟩
          show i ∉ L.take (k + 1)
          rw [HZ.out]
          simp only [List.mem_append, List.mem_singleton, not_or]
          exact ⟨hnot.out, fun h => HZ2.out h.symm⟩
        case measure => simp [intOf]; omega
    · have hnk : n ≤ k := by omega
      have HE : Hid (decide (i ∈ L) = false) := by
        show _ = _
        have := hnot.out
        rw [List.take_of_length_le (by have := HN.out; omega)] at this
        simpa using this
      clear hr
      go_wp2_with fail
      go_ret
      exact ⟨ret_bool HE.out.symm, rfl⟩

/-- What is asked of Barrier's end. -/
def RefPost (w : World) (r n : Nat) (b : RefSt × Bool) (v : Value) (e : Ending) (w' : World) : Prop :=
  ∃ v', e = .returned (.bool b.2) ∧ RefRep w' r n b.1 v' ∧ Two w w' r v.ownBlock ∧ (∀ b, v'.ownBlock = some b → v.ownBlock = some b ∨ w.heap.size ≤ b)
theorem ref_kept {w : World} {r n : Nat} {m : RefSt} {v : Value} (h : RefRep w r n m v) : RefPost w r n (m, false) v (.returned (.bool false)) w :=
  ⟨v, rfl, h, Two.refl _ _ _, fun _ h => .inl h⟩
set_option maxRecDepth 100000 in
set_option maxHeartbeats 1000000 in
theorem rbar_no (r n : Nat) (m : RefSt) (v : Value) (i no : Int) (w : World) (hr : refRefuses n m i no = true) (h : RefRep w r n m v) :
    Calls Try.prog 14 #[.pointer (some ⟨r, 0, none⟩), .int .i64 i, .int .i64 no] w (RefPost w r n (m, false) v) := by
  obtain ⟨L, wt, dn, mo, cp⟩ := m
  have hb := h.1
  have hc0 : w.cell? ⟨r, 0, none⟩ = some (ival n) := hb.cell 0
  have hc2 : w.cell? ⟨r, 2, none⟩ = some (.bool wt) := hb.cell 2
  have hc3 : w.cell? ⟨r, 3, none⟩ = some (.bool dn) := hb.cell 3
  have hc4 : w.cell? ⟨r, 4, none⟩ = some (ival mo) := hb.cell 4
  have hc5 : w.cell? ⟨r, 5, none⟩ = some (ival cp) := hb.cell 5
  have H := Lib.hid h
  clear hb h
  unfold refRefuses at hr
  by_cases h0 : i < 0
  · have t0 : decide (i < 0) = true := by simpa using h0
    clear hr hc2 hc3 hc4 hc5
    go_enter Try.func14, Try.ntmps14
    go_wp2_with fail
    go_ret
    exact ref_kept H.out
  have t0 : decide (i < 0) = false := by simpa using h0
  by_cases h1 : (n : Int) ≤ i
  · have t1 : decide ((n : Int) ≤ i) = true := by simpa using h1
    clear hr hc2 hc3 hc4 hc5
    go_enter Try.func14, Try.ntmps14
    go_wp2_with fail
    go_ret
    exact ref_kept H.out
  have t1 : decide ((n : Int) ≤ i) = false := by simpa using h1
  rw [t0, t1] at hr
  simp only [Bool.false_or] at hr
  clear h0 h1
  by_cases h2 : no ≤ cp
  · have t2 : decide (no ≤ cp) = true := by simpa using h2
    cases dn
    · cases wt
      · simp at hr
      · have t3 : decide (no < mo) = true := by simpa using hr
        clear hr
        go_enter Try.func14, Try.ntmps14
        go_wp2_with fail
        go_ret
        exact ref_kept H.out
    · clear hr
      go_enter Try.func14, Try.ntmps14
      go_wp2_with fail
      go_ret
      exact ref_kept H.out
  · have t2 : decide (no ≤ cp) = false := by simpa using h2
    cases wt
    · simp [t2] at hr
    · have t3 : decide (no < mo) = true := by simpa [t2] using hr
      clear hr h2
      cases dn
      · go_enter Try.func14, Try.ntmps14
        go_wp2_with fail
        go_ret
        exact ref_kept H.out
      · go_enter Try.func14, Try.ntmps14
        go_wp2_with fail
        go_ret
        exact ref_kept H.out

/-- Behind the first tests: what the object holds. -/
def RefCut (w : World) (r n : Nat) (m : RefSt) (no : Int) (v : Value) (wx : World) : Prop :=
  ∃ v1, RefRep wx r n ⟨refL1 m no, true, m.dn, no, m.cp⟩ v1 ∧ Two w wx r v.ownBlock ∧ w.heap.size ≤ wx.heap.size ∧ (∀ b, v1.ownBlock = some b → v.ownBlock = some b)
set_option maxRecDepth 100000 in
set_option maxHeartbeats 16000000 in
theorem rbar_yes (r n : Nat) (m : RefSt) (v : Value) (i no : Int) (w : World) (hn96 : n ≤ 96) (hr : refRefuses n m i no = false) (h : RefRep w r n m v) :
    Calls Try.prog 14 #[.pointer (some ⟨r, 0, none⟩), .int .i64 i, .int .i64 no] w (RefPost w r n (refBar n m i no) v) := by
  have HBar : Hid (refBar n m i no = if (refL m i no).length < n then (⟨refL m i no, true, m.dn, no, m.cp⟩, false) else (⟨[], false, true, no, no⟩, true)) := by
    show _ = _; unfold refBar; rw [if_neg (by simp [hr])]
  have HRefL : Hid (refL m i no = if i ∈ refL1 m no then refL1 m no else refL1 m no ++ [i]) := rfl
  obtain ⟨L, wt, dn, mo, cp⟩ := m
  have hb := h.1
  have hc0 : w.cell? ⟨r, 0, none⟩ = some (ival n) := hb.cell 0
  have hc1 : w.cell? ⟨r, 1, none⟩ = some v := hb.cell 1
  have hc2 : w.cell? ⟨r, 2, none⟩ = some (.bool wt) := hb.cell 2
  have hc3 : w.cell? ⟨r, 3, none⟩ = some (.bool dn) := hb.cell 3
  have hc4 : w.cell? ⟨r, 4, none⟩ = some (ival mo) := hb.cell 4
  have hc5 : w.cell? ⟨r, 5, none⟩ = some (ival cp) := hb.cell 5
  have hf1 := hb.frozen 1
  have hf2 := hb.frozen 2
  have hf4 := hb.frozen 4
  have H := Lib.hid h
  clear hb h
  unfold refRefuses at hr
  rw [Bool.or_eq_false_iff, Bool.or_eq_false_iff, Bool.or_eq_false_iff] at hr
  obtain ⟨⟨⟨t0, t1⟩, t2⟩, t3⟩ := hr
  have HFresh : Hid (refFresh ⟨L, wt, dn, mo, cp⟩ no = true → RefCut w r n ⟨L, wt, dn, mo, cp⟩ no v (((w.setCell ⟨r, 1, none⟩ (.slice none 0 0)).setCell ⟨r, 4, none⟩ (ival no)).setCell ⟨r, 2, none⟩ (.bool true))) := by
    intro hf
    refine ⟨.slice none 0 0, ⟨?_, ⟨by simp [refL1, hf], .inl ⟨rfl, by simp [refL1, hf]⟩⟩, by simp [refL1, hf]⟩, (((Two.refl w r _).setCell 1 _).setCell 4 _).setCell 2 _, by simp [World.setCell], fun b h => by cases h⟩
    exact ((H.out.1.set_ 1 _).set_ 4 _).set_ 2 _
  have HSame : Hid (refFresh ⟨L, wt, dn, mo, cp⟩ no = false → RefCut w r n ⟨L, wt, dn, mo, cp⟩ mo v w ∧ refL1 ⟨L, wt, dn, mo, cp⟩ no = L ∧ wt = true) := by
    intro hf
    obtain ⟨hb, hown, hlen⟩ := H.out
    have hwt : wt = true := by unfold refFresh at hf; revert hf; cases wt <;> simp
    have hmo : ¬ mo < mo := by omega
    subst hwt
    have h1 : ∀ no', refFresh ⟨L, true, dn, mo, cp⟩ no' = false → refL1 ⟨L, true, dn, mo, cp⟩ no' = L := fun no' h => by simp [refL1, h]
    have hf2 : refFresh ⟨L, true, dn, mo, cp⟩ mo = false := by simp [refFresh]
    exact ⟨⟨v, by rw [h1 mo hf2]; exact ⟨hb, hown, hlen⟩, Two.refl _ _ _, Nat.le_refl _, fun _ h => h⟩, h1 no hf, rfl⟩
  have hcase : (wt = false) ∨ (wt = true ∧ decide (no < mo) = false ∧ decide (mo < no) = true) ∨ (wt = true ∧ mo = no) := by
    cases wt
    · exact .inl rfl
    · have t3' : ¬ no < mo := by simpa using t3
      by_cases h : mo < no
      · exact .inr (.inl ⟨rfl, by simpa using t3, by simpa using h⟩)
      · exact .inr (.inr ⟨rfl, by omega⟩)
  have hdn : dn = false ∨ (dn = true ∧ decide (no ≤ cp) = false) := by
    cases dn
    · exact .inl rfl
    · exact .inr ⟨rfl, by simpa using t2⟩
  clear t2 t3
  have HF0 : wt = false → refFresh ⟨L, wt, dn, mo, cp⟩ no = true := fun h => by simp [refFresh, h]
  have HF1 : decide (mo < no) = true → refFresh ⟨L, wt, dn, mo, cp⟩ no = true := fun h => by simp only [refFresh, h, Bool.or_true]
  obtain ⟨w1, hw1, hcut⟩ : ∃ w1, Hid (w1 = if refFresh ⟨L, wt, dn, mo, cp⟩ no = true then (((w.setCell ⟨r, 1, none⟩ (.slice none 0 0)).setCell ⟨r, 4, none⟩ (ival no)).setCell ⟨r, 2, none⟩ (.bool true)) else w) ∧ RefCut w r n ⟨L, wt, dn, mo, cp⟩ no v w1 := by
    by_cases hf : refFresh ⟨L, wt, dn, mo, cp⟩ no = true
    · exact ⟨_, rfl, by rw [if_pos hf]; exact HFresh.out hf⟩
    · have hmo : mo = no := by
        rcases hcase with h | ⟨_, _, h⟩ | ⟨_, h⟩
        · exact absurd (HF0 h) hf
        · exact absurd (HF1 h) hf
        · exact h
      refine ⟨_, rfl, ?_⟩
      rw [if_neg hf]
      have := (HSame.out (by simpa using hf)).1
      rw [hmo] at this
      rw [hmo]
      exact this
  obtain ⟨v1, ⟨hb1, hown1, hlen1⟩, htwo1, hsz1, hob1⟩ := hcut
  have HTwo := Lib.hid htwo1
  have HSz := Lib.hid hsz1
  have HOb := Lib.hid hob1
  have HB1 := Lib.hid hb1
  have HOwn1 := Lib.hid hown1
  have HLen1 := Lib.hid hlen1
  clear htwo1 hsz1 hob1 hb1 hown1 hlen1 HFresh HSame
  have HL1 : Hid (∃ L1, L1 = refL1 ⟨L, wt, dn, mo, cp⟩ no) := ⟨_, rfl⟩
  obtain ⟨L1, hL1⟩ := HL1.out
  have HB2 : Hid (Blk w1 r 44 (refCells n v1 true dn no cp)) := HB1.out
  have HOwn2 : Hid (w1.ownsRow 0 3 1 v1 L1.length (L1.map ival)) := by rw [hL1]; exact HOwn1.out
  have HLen2 : Hid (L1.length ≤ n) := by rw [hL1]; exact HLen1.out
  have HBar2 : Hid (refBar n ⟨L, wt, dn, mo, cp⟩ i no = if (if i ∈ L1 then L1 else L1 ++ [i]).length < n then (⟨if i ∈ L1 then L1 else L1 ++ [i], true, dn, no, cp⟩, false) else (⟨[], false, true, no, no⟩, true)) := by
    show _ = _
    rw [HBar.out, HRefL.out, ← hL1]
  clear HB1 HOwn1 HLen1 HBar HRefL hL1 HL1
  obtain ⟨A, c, rfl, hc, hcm, _⟩ := own_slice HOwn2.out
  have kc0 : w1.cell? ⟨r, 0, none⟩ = some (ival n) := HB2.out.cell 0
  have kc1 : w1.cell? ⟨r, 1, none⟩ = some (.slice A L1.length c) := HB2.out.cell 1
  have D := rblocked_any r w1.heap.size A c L1 i w1 kc1 (Reads.of_own HOwn2.out) (Nat.le_trans hc hcm)
  have kc2 : w1.cell? ⟨r, 2, none⟩ = some (.bool true) := HB2.out.cell 2
  have kc3 : w1.cell? ⟨r, 3, none⟩ = some (.bool dn) := HB2.out.cell 3
  have kc5 : w1.cell? ⟨r, 5, none⟩ = some (ival cp) := HB2.out.cell 5
  have kf1 := HB2.out.frozen 1
  have kf2 := HB2.out.frozen 2
  have kf3 := HB2.out.frozen 3
  have kf5 := HB2.out.frozen 5
  have HC := Lib.hid (And.intro hc hcm)
  clear hc hcm
  by_cases hi : i ∈ L1
  · rw [decide_eq_true hi] at D
    have HBar3 : Hid (refBar n ⟨L, wt, dn, mo, cp⟩ i no = if L1.length < n then (⟨L1, true, dn, no, cp⟩, false) else (⟨[], false, true, no, no⟩, true)) := by
      show _ = _
      rw [HBar2.out, if_pos hi]
    have HD := Lib.hid D
    generalize hq : L1.length = q at *
    have HQ := Lib.hid hq
    clear D HBar2 hi hq
    have hlt : (decide (q < n) = true) ∨ (decide (q < n) = false) := by cases decide (q < n) <;> simp
    rcases hlt with hlt | hlt <;> rcases hdn with rfl | ⟨rfl, t2⟩ <;> rcases hcase with rfl | ⟨rfl, t3, t4⟩ | ⟨rfl, rfl⟩ <;>
    ( have hw2 := hw1.out
      first | rw [if_pos (HF0 rfl)] at hw2 | rw [if_pos (HF1 t4)] at hw2 | rw [if_neg (by simp [refFresh])] at hw2
      clear hw1 HF0 HF1
      go_enter Try.func14, Try.ntmps14
      go_wp2_with fail
      first | rw [← hw2] | subst hw2
      try clear hw2
      try clear hc0 hc1 hc2 hc3 hc4 hc5
      go_must (refine HD.out.mono ?_)
      rintro e w2 ⟨rfl, rfl⟩
      go_wp2_with fail
      go_quiet (fail)
      go_wp2_with fail
      go_ret
      first
      | (refine ⟨.slice A q c, by rw [HBar3.out, if_pos (of_decide_eq_true hlt)]; rfl, ?_, HTwo.out.drewN _, fun b h => .inl (HOb.out b h)⟩
         rw [HBar3.out, if_pos (of_decide_eq_true hlt)]
         have HOwn3 : World.ownsRow w1 0 3 1 (.slice A q c) L1.length (L1.map ival) := by rw [HQ.out]; exact HOwn2.out
         have HLen3 : L1.length ≤ n := by rw [HQ.out]; exact HLen2.out
         exact ⟨HB2.out.drewN _, HOwn3, HLen3⟩)
      | (refine ⟨.slice none 0 0, by rw [HBar3.out, if_neg (of_decide_eq_false hlt)]; rfl, ?_, ((((HTwo.out.drewN _).setCell 1 _).setCell 2 _).setCell 3 _).setCell 5 _, fun b h => by cases h⟩
         rw [HBar3.out, if_neg (of_decide_eq_false hlt)]
         exact ⟨((((HB2.out.drewN _).set_ 1 _).set_ 2 _).set_ 3 _).set_ 5 _, ⟨by simp, .inl ⟨rfl, by simp⟩⟩, by simp⟩) )
  · rw [decide_eq_false hi] at D
    have HBar3 : Hid (refBar n ⟨L, wt, dn, mo, cp⟩ i no = if L1.length + 1 < n then (⟨L1 ++ [i], true, dn, no, cp⟩, false) else (⟨[], false, true, no, no⟩, true)) := by
      show _ = _
      rw [HBar2.out, if_neg hi, List.length_append]
      rfl
    have HD := Lib.hid D
    generalize hq : L1.length = q at *
    have HQ := Lib.hid hq
    clear D HBar2 hi hq
    have hlt : ((q + 1 < n) ∧ decide (q + 1 < n) = true ∧ decide ((q : Int) + 1 < (n : Int)) = true) ∨ ((¬ q + 1 < n) ∧ decide (q + 1 < n) = false ∧ decide ((q : Int) + 1 < (n : Int)) = false) := by
      by_cases h : q + 1 < n
      · exact .inl ⟨h, by simpa using h, by simp; omega⟩
      · exact .inr ⟨h, by simpa using h, by simp; omega⟩
    rcases hlt with ⟨hlq, hlt, hlt2⟩ | ⟨hlq, hlt, hlt2⟩ <;> rcases hdn with rfl | ⟨rfl, t2⟩ <;> rcases hcase with rfl | ⟨rfl, t3, t4⟩ | ⟨rfl, rfl⟩ <;>
    ( have hw2 := hw1.out
      have HLQ := Lib.hid hlq
      clear hlq
      first | rw [if_pos (HF0 rfl)] at hw2 | rw [if_pos (HF1 t4)] at hw2 | rw [if_neg (by simp [refFresh])] at hw2
      clear hw1 HF0 HF1
      go_enter Try.func14, Try.ntmps14
      go_wp2_with fail
      first | rw [← hw2] | subst hw2
      try clear hw2
      try clear hc0 hc1 hc2 hc3 hc4 hc5
      go_must (refine HD.out.mono ?_)
      rintro e w2 ⟨rfl, rfl⟩
      have hq8 : (q + 1) * 8 ≤ 140737488355328 := by have := HLen2.out; omega
      go_wp2_with
        (at_builtin
         go_must (refine wpList_push w1 Try.elInts (.tmp 76) (.tmp 78) rfl rfl HOwn2.out rfl [.int .i64 i] rfl rfl rfl rfl hq8 (Nat.zero_le _) ?_))
      intro v2 w3 hown3 hg3 hv3 _ hs3
      have hb3 := HB2.out.grown hg3 (fun h => own_blk_ne HOwn2.out HB2.out (by decide) h.symm)
      have hno := own_blk_ne hown3 hb3 (by decide)
      have hb4 := hb3.set_ 1 v2
      have hown4 := hown3.kept (only_setCell (p := ⟨r, 1, none⟩) (World.grownBy.refl w3 (some r)) (.inl rfl) v2) (.inr hno)
      have HTwo4 := Lib.hid ((HTwo.out.grown hg3 (by
        cases h : (Value.slice A q c).ownBlock with
        | none => exact .inl rfl
        | some b => exact .inr (.inl (HOb.out b h).symm))).setCell 1 v2)
      have HOb4 : Hid (∀ b, v2.ownBlock = some b → v.ownBlock = some b ∨ w.heap.size ≤ b) := by
        intro b h
        rcases hv3 with h1 | h1
        · exact .inl (HOb.out b (h1.symm.trans h))
        · right
          rw [h1] at h
          injection h with h
          have := HSz.out
          omega
      have x1 : w3.cell? ⟨r, 1, none⟩ = some (.slice A q c) := hb3.cell 1
      have xf : w3.frozen? ⟨r, 1, none⟩ = false := hb3.frozen 1
      obtain ⟨A2, c2, rfl, _, _, _⟩ := own_slice hown3
      have HB4 := Lib.hid hb4
      have HOwn4 := Lib.hid hown4
      clear hb4 hown4 hb3 hown3 hg3 hv3 hs3 hno kc0 kc1 kc2 kc3 kc5 kf1 kf2 kf3 kf5
      go_wp2_with fail
      generalize w3.setCell ⟨r, 1, none⟩ (.slice A2 (q + 1) c2) = w4 at *
      have kc0 : w4.cell? ⟨r, 0, none⟩ = some (ival n) := HB4.out.cell 0
      have kc1 : w4.cell? ⟨r, 1, none⟩ = some (.slice A2 (q + 1) c2) := HB4.out.cell 1
      have kc2 : w4.cell? ⟨r, 2, none⟩ = some (.bool true) := HB4.out.cell 2
      have kc3 := HB4.out.cell 3
      have kc5 : w4.cell? ⟨r, 5, none⟩ = some (ival cp) := HB4.out.cell 5
      simp only [refCells] at kc3
      have kf1 := HB4.out.frozen 1
      have kf2 := HB4.out.frozen 2
      have kf3 := HB4.out.frozen 3
      have kf5 := HB4.out.frozen 5
      clear x1 xf
      go_quiet (fail)
      go_wp2_with fail
      go_ret
      have HOwn5 : Hid (w4.ownsRow 0 3 1 (.slice A2 (q + 1) c2) (L1 ++ [i]).length ((L1 ++ [i]).map ival)) := by
        show World.ownsRow _ _ _ _ _ _ _
        rw [List.length_append, List.map_append, HQ.out]
        exact HOwn4.out
      first
      | (refine ⟨.slice A2 (q + 1) c2, by rw [HBar3.out, if_pos (of_decide_eq_true hlt)]; rfl, ?_, HTwo4.out.drewN _, HOb4.out⟩
         rw [HBar3.out, if_pos (of_decide_eq_true hlt)]
         have HLen3 : (L1 ++ [i]).length ≤ n := by rw [List.length_append, HQ.out]; exact Nat.le_of_lt HLQ.out
         exact ⟨HB4.out.drewN _, HOwn5.out, HLen3⟩)
      | (refine ⟨.slice none 0 0, by rw [HBar3.out, if_neg (of_decide_eq_false hlt)]; rfl, ?_, ((((HTwo4.out.drewN _).setCell 1 _).setCell 2 _).setCell 3 _).setCell 5 _, fun b h => by cases h⟩
         rw [HBar3.out, if_neg (of_decide_eq_false hlt)]
         exact ⟨((((HB4.out.drewN _).set_ 1 _).set_ 2 _).set_ 3 _).set_ 5 _, ⟨by simp, .inl ⟨rfl, by simp⟩⟩, by simp⟩) )
theorem rbar_any (r n : Nat) (m : RefSt) (v : Value) (i no : Int) (w : World) (hn96 : n ≤ 96) (h : RefRep w r n m v) :
    Calls Try.prog 14 #[.pointer (some ⟨r, 0, none⟩), .int .i64 i, .int .i64 no] w (RefPost w r n (refBar n m i no) v) := by
  by_cases hr : refRefuses n m i no = true
  · rw [show refBar n m i no = (m, false) by unfold refBar; rw [if_pos hr]]
    exact rbar_no r n m v i no w hr h
  · exact rbar_yes r n m v i no w hn96 (by simpa using hr) h
end Go.Proofs.Ytcikjghinjdmmaa
