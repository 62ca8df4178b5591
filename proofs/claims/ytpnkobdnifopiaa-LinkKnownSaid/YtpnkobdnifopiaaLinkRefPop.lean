/-
  The document's Pop.
-/
import Derived.Test.YtpnkobdnifopiaaLinkRefPush
namespace Go.Proofs.Ytpnkobdnifopiaa
set_option linter.unusedVariables false
set_option linter.unusedSimpArgs false
open Go.RowKit
theorem ret_pop (L : List Msg) : Ending.returned (.tuple #[msgV (L.headD Msg.zero), .bool (!L.isEmpty)]) = .returned (.tuple #[msgV (L.head?.getD Msg.zero), .bool (!L.isEmpty)]) := by cases L <;> rfl
theorem take_tail (L : List Msg) (j : Nat) (m : Msg) (h : L[j + 1]? = some m) : L.tail.take (j + 1) = L.tail.take j ++ [m] := by
  cases L with
  | nil => cases h
  | cons x L =>
    simp only [List.tail_cons, List.getElem?_cons_succ] at h ⊢
    rw [List.take_add_one, h]
    rfl
set_option maxRecDepth 100000 in
set_option maxHeartbeats 4000000 in
theorem rpop_any (base g most : Nat) (v : Value) (L : List Msg) (w : World) (hl64 : L.length ≤ 64) (h : RAt w base g most v L) :
    Calls Try.prog 14 #[.pointer (some ⟨g, 0, none⟩)] w fun e w' => e = .returned (.tuple #[msgV (L.headD Msg.zero), .bool (!L.isEmpty)]) ∧ (∃ v', RAt w' base g most v' L.tail) ∧ Below base w w' ∧ Only (fun i => i = g) w w' := by
  obtain ⟨A, c, hv, hc, hm, hb⟩ := own_slice h.own
  subst hv
  have hbg := h.bg
  have hlt := h.blk.lt
  have hne : w.heap.size ≠ g := by omega
  have hb1 : Below w.heap.size w (w.alloc (.cells #[ival 0, ival 0, ival 0, ival 0] 31)) := (Below.refl _ _).alloc (Nat.le_refl _) _
  have C := Lib.hid (rpeek_any base g most _ L _ (h.below hb1))
  have H := Lib.hid h
  have Z1 : Hid (Blk (w.alloc (.cells #[ival 0, ival 0, ival 0, ival 0] 31)) w.heap.size 31 #[ival 0, ival 0, ival 0, ival 0]) := Blk.new _ _ _
  have HB1 := Lib.hid hb1
  clear h hb1
  go_enter Try.func14, Try.ntmps14
  go_wp2_with fail
  go_must (refine C.out.mono ?_)
  rintro e w2 ⟨rfl, hb2⟩
  have Z2 := Lib.hid (Z1.out.below hb2 Z1.out.lt)
  have HB2 : Hid (Below w.heap.size w w2) := HB1.out.trans (hb2.mono (by simp))
  have HS2 : Hid (w.heap.size < w2.heap.size) := by
    have := hb2.size
    simp at this
    show _ < _
    omega
  clear C HB1 Z1 hb2
  generalize hme : L.headD Msg.zero = m at *
  generalize hbe : (!L.isEmpty) = b at *
  go_wp2_with fail
  have Z3 : Hid (Blk (w2.alloc (.cells #[ival m.k, ival m.n, ival m.key, ival m.v] 31)) w.heap.size 31 #[ival 0, ival 0, ival 0, ival 0]) := Z2.out.alloc _
  have M3 : Hid (Blk (w2.alloc (.cells #[ival m.k, ival m.n, ival m.key, ival m.v] 31)) w2.heap.size 31 #[ival m.k, ival m.n, ival m.key, ival m.v]) := Blk.new _ _ _
  have HB3 : Hid (Below w.heap.size w (w2.alloc (.cells #[ival m.k, ival m.n, ival m.key, ival m.v] 31))) := HB2.out.alloc (by have := HS2.out; omega) _
  have HS3 : Hid (w2.heap.size < (w2.alloc (.cells #[ival m.k, ival m.n, ival m.key, ival m.v] 31)).heap.size) := by show _ < _; simp
  have HN2 : Hid (w2.heap.size ≠ w.heap.size ∧ w2.heap.size ≠ g) := by have := HS2.out; exact ⟨by omega, by omega⟩
  clear Z2 HB2 hb hm
  generalize w2.alloc (.cells #[ival m.k, ival m.n, ival m.key, ival m.v] 31) = w3 at *
  go_loopw [6, 7] (fun x i wr => ∃ j : Nat, j ≤ L.length - 1 ∧ i = .int .i64 ((j : Int) + 1) ∧ wr.ownsRow w3.heap.size 31 4 x j (cellsL (L.tail.take j)) ∧ Below w3.heap.size w3 wr) (fun _ i _ => L.length - (intOf i).toNat)
  case atStart => exact ⟨0, by omega, rfl, World.ownsRow_nil _ _ _ _, Below.refl _ _⟩
  case round =>
    obtain ⟨j, hj, rfl, hown, hbel⟩ := hrel
    have HR : Hid (RAt wr base g most (.slice A L.length c) L) := H.out.below (HB3.out.trans (hbel.mono (by have := HS3.out; have := HS2.out; omega)))
    have c0 : wr.cell? ⟨g, 0, none⟩ = some (.slice A L.length c) := HR.out.blk.cell 0
    have ZW : Hid (Blk wr w.heap.size 31 #[ival 0, ival 0, ival 0, ival 0]) := Z3.out.below hbel Z3.out.lt
    have MW : Hid (Blk wr w2.heap.size 31 #[ival m.k, ival m.n, ival m.key, ival m.v]) := M3.out.below hbel M3.out.lt
    by_cases hlt1 : j + 1 < L.length
    · obtain ⟨bb, cap, hvb, _, hblt⟩ := HR.out.own.form (by omega)
      have hA : A = some ⟨bb, 0, none⟩ := by injection hvb
      subst hA
      have hm1 : L[j + 1]? = some (L[j + 1]'hlt1) := List.getElem?_eq_getElem hlt1
      generalize (L[j + 1]'hlt1) = m1 at *
      have ec : ∀ r, r < 4 → wr.cell? ⟨bb, (j + 1) * 4 + r, none⟩ = (msgC m1)[r]? := fun r hr => (HR.out.own.cellAt ((j + 1) * 4 + r) (by omega)).trans (cellsL_at L (j + 1) r hr m1 hm1)
      have e0 : wr.cell? ⟨bb, (j + 1) * 4, none⟩ = (msgC m1)[0]? := ec 0 (by omega)
      have e1 := ec 1 (by omega)
      have e2 := ec 2 (by omega)
      have e3 := ec 3 (by omega)
      simp only [msgC, List.getElem?_cons_zero, List.getElem?_cons_succ] at e0 e1 e2 e3
      have HT : Hid (cellsL (L.tail.take j) ++ msgC m1 = cellsL (L.tail.take (j + 1))) := by
        show _ = _
        rw [take_tail L j m1 hm1, cellsL_push]
      have hq : (j + 1) * 32 ≤ 140737488355328 := by omega
      clear ec hvb
      go_wp2_with
        (at_builtin
         go_must (refine wpList_push wr elMsg (.tmp 22) (.tmp 30) rfl rfl hown rfl [ival m1.k, ival m1.n, ival m1.key, ival m1.v] rfl rfl rfl rfl hq hbel.size ?_)
         intro v1 w4 hown1 hg1 hv1 hb1 hs1)
      rw [show cellsL (L.tail.take j) ++ [ival m1.k, ival m1.n, ival m1.key, ival m1.v] = _ from HT.out] at hown1
      have hbel1 := hbel.trans hb1
      clear hown hbel hg1 hv1 hs1 c0 hb1 e0 e1 e2 e3 hm1
      go_wp2_with fail
      go_roundw
      case rel => exact ⟨j + 1, by omega, by go_num, hown1, hbel1⟩
      case measure => simp [intOf]; omega
    · obtain rfl : j = L.length - 1 := by omega
      have HT : L.tail.take (L.length - 1) = L.tail := List.take_of_length_le (by simp)
      rw [HT] at hown
      have d0 : ∀ q, (wr.drewN q).cell? ⟨g, 0, none⟩ = some (.slice A L.length c) := fun q => (HR.out.blk.drewN q).cell 0
      have f0 : wr.frozen? ⟨g, 0, none⟩ = false := HR.out.blk.frozen 0
      have hnl : ¬ (((L.length - 1 : Nat) : Int) + 1 < (L.length : Int)) := by omega
      obtain ⟨A1, cc1, rfl, hd1, hd2, _⟩ := own_slice hown
      have m0 : ∀ V, (wr.setCell ⟨g, 0, none⟩ V).cell? ⟨w2.heap.size, 0, none⟩ = some (ival m.k) := fun V => (MW.out.far (p := ⟨g, 0, none⟩) HN2.out.2 V).cell 0
      have m1 : ∀ V, (wr.setCell ⟨g, 0, none⟩ V).cell? ⟨w2.heap.size, 1, none⟩ = some (ival m.n) := fun V => (MW.out.far (p := ⟨g, 0, none⟩) HN2.out.2 V).cell 1
      have m2 : ∀ V, (wr.setCell ⟨g, 0, none⟩ V).cell? ⟨w2.heap.size, 2, none⟩ = some (ival m.key) := fun V => (MW.out.far (p := ⟨g, 0, none⟩) HN2.out.2 V).cell 2
      have m3 : ∀ V, (wr.setCell ⟨g, 0, none⟩ V).cell? ⟨w2.heap.size, 3, none⟩ = some (ival m.v) := fun V => (MW.out.far (p := ⟨g, 0, none⟩) HN2.out.2 V).cell 3
      have x0 : ∀ V, (wr.setCell ⟨g, 0, none⟩ V).cell? ⟨w.heap.size, 0, none⟩ = some (ival 0) := fun V => (ZW.out.far (p := ⟨g, 0, none⟩) hne V).cell 0
      have x1 : ∀ V, (wr.setCell ⟨g, 0, none⟩ V).cell? ⟨w.heap.size, 1, none⟩ = some (ival 0) := fun V => (ZW.out.far (p := ⟨g, 0, none⟩) hne V).cell 1
      have x2 : ∀ V, (wr.setCell ⟨g, 0, none⟩ V).cell? ⟨w.heap.size, 2, none⟩ = some (ival 0) := fun V => (ZW.out.far (p := ⟨g, 0, none⟩) hne V).cell 2
      have x3 : ∀ V, (wr.setCell ⟨g, 0, none⟩ V).cell? ⟨w.heap.size, 3, none⟩ = some (ival 0) := fun V => (ZW.out.far (p := ⟨g, 0, none⟩) hne V).cell 3
      have y0 : ∀ V, (wr.setCell ⟨g, 0, none⟩ V).frozen? ⟨w.heap.size, 0, none⟩ = false := fun V => (ZW.out.far (p := ⟨g, 0, none⟩) hne V).frozen 0
      have y1 : ∀ V, (wr.setCell ⟨g, 0, none⟩ V).frozen? ⟨w.heap.size, 1, none⟩ = false := fun V => (ZW.out.far (p := ⟨g, 0, none⟩) hne V).frozen 1
      have y2 : ∀ V, (wr.setCell ⟨g, 0, none⟩ V).frozen? ⟨w.heap.size, 2, none⟩ = false := fun V => (ZW.out.far (p := ⟨g, 0, none⟩) hne V).frozen 2
      have y3 : ∀ V, (wr.setCell ⟨g, 0, none⟩ V).frozen? ⟨w.heap.size, 3, none⟩ = false := fun V => (ZW.out.far (p := ⟨g, 0, none⟩) hne V).frozen 3
      go_wp2_with fail
      refine end_msg2 rfl rfl rfl (show Blk _ _ _ #[ival m.k, ival m.n, ival m.key, ival m.v] from ((((ZW.out.far (p := ⟨g, 0, none⟩) hne _).set_ 0 _).set_ 1 _).set_ 2 _).set_ 3 _) rfl rfl ?_
      have hog : Only (fun i => i = g ∨ i = w.heap.size) wr (((((wr.setCell ⟨g, 0, none⟩ (.slice A1 (L.length - 1) cc1)).setCell ⟨w.heap.size, 0, none⟩ (ival m.k)).setCell ⟨w.heap.size, 1, none⟩ (ival m.n)).setCell ⟨w.heap.size, 2, none⟩ (ival m.key)).setCell ⟨w.heap.size, 3, none⟩ (ival m.v)) :=
        (((((Only.refl (fun i => i = g ∨ i = w.heap.size) wr).setCell (.inl (.inl rfl)) 0 _).setCell (.inl (.inr rfl)) 0 _).setCell (.inl (.inr rfl)) 1 _).setCell (.inl (.inr rfl)) 2 _).setCell (.inl (.inr rfl)) 3 _
      have hs3 := HS3.out
      have hs2 := HS2.out
      have hsr := hbel.size
      refine ⟨by rw [← hme, ← hbe]; exact ret_pop L, ⟨.slice A1 (L.length - 1) cc1, ⟨?_, ?_, hbg⟩⟩, ?_, ?_⟩
      · exact ((((HR.out.blk.set_ 0 _).far (p := ⟨w.heap.size, 0, none⟩) (fun h => hne h.symm) _).far (p := ⟨w.heap.size, 1, none⟩) (fun h => hne h.symm) _).far (p := ⟨w.heap.size, 2, none⟩) (fun h => hne h.symm) _).far (p := ⟨w.heap.size, 3, none⟩) (fun h => hne h.symm) _
      · have h1 : wr.ownsRow base 31 4 (.slice A1 (L.length - 1) cc1) (L.length - 1) (cellsL L.tail) := own_base hown (fun i hi => by have := (hown.lt i hi).1; omega)
        have h2 := own_only h1 hog (fun i hi h => by have := (hown.lt i hi).1; rcases h with h | h <;> omega)
        rwa [← List.length_tail] at h2 ⊢
      · exact ((HB3.out.trans (hbel.mono (by omega))).mono (by omega)).trans (hog.to (fun i hi => by rcases hi with h | h <;> omega) (by omega))
      · exact ((Only.of_below (S := fun i => i = g) HB3.out).trans (Only.of_below (S := fun _ => False) hbel) (fun i hi => hi.elim)).trans hog (fun i hi => by rcases hi with h | h; exact .inl h; exact .inr (by omega))
end Go.Proofs.Ytpnkobdnifopiaa
