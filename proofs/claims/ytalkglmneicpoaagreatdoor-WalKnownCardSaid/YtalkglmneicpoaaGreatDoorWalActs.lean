/-
  A list of acts of the chapter that came in.
-/
import Derived.Test.YtalkglmneicpoaaGreatDoorActs
namespace Go.Proofs.YtalkglmneicpoaaGreatDoor
set_option linter.unusedVariables false
set_option linter.unusedSimpArgs false
open Go.ChangeShapes Go.WideShapes Go.Deep Go.RowKit
/-- An act: its kind, its number, its frame's kind and body. -/
structure WAct where
  kd : Int
  nn : Int
  fk : Int
  x : ActB
abbrev WAct.val (q : WAct) : Value := .agg #[ival q.kd, ival q.nn, ival q.fk, q.x.val]
def WAct.Ok (q : WAct) : Prop := (-9223372036854775808 ≤ q.kd ∧ q.kd ≤ 9223372036854775807) ∧ (-9223372036854775808 ≤ q.nn ∧ q.nn ≤ 9223372036854775807)
structure WActAt (W : World) (B : Nat) (ad : Addr) (q : WAct) : Prop where
  c0 : W.cell? ad = some (ival q.kd)
  c1 : W.cell? ⟨ad.block, ad.off + 1, none⟩ = some (ival q.nn)
  c2 : W.cell? ⟨ad.block, ad.off + 2, none⟩ = some (ival q.fk)
  c3 : W.cell? ⟨ad.block, ad.off + 3, none⟩ = some q.x.val
  mc : q.x.m ≤ q.x.c
  cm : q.x.c ≤ maxLen
  rd : Reads W B 1 q.x.A q.x.m (q.x.bs.map bval)
def WActs (W : World) (B : Nat) (A : Option Addr) (n : Nat) (Q : Nat → WAct) : Prop :=
  ∀ i, i < n → ∃ ad, A = some ad ∧ ad.block < B ∧ WActAt W B (ad.add (i * 4)) (Q i) ∧ (Q i).Ok
theorem WActs.below {W W' : World} {B n : Nat} {A : Option Addr} {Q : Nat → WAct} (h : WActs W B A n Q) (hb : Below B W W') : WActs W' B A n Q := fun i hi => by
  obtain ⟨ad, hA, hB, h1, h2⟩ := h i hi
  have hk : (ad.add (i * 4)).block < B := by rw [block_of_add]; exact hB
  exact ⟨ad, hA, hB, ⟨(hb.cell (p := ad.add (i * 4)) hk).trans h1.c0, (hb.cell (p := ⟨(ad.add (i * 4)).block, (ad.add (i * 4)).off + 1, none⟩) hk).trans h1.c1, (hb.cell (p := ⟨(ad.add (i * 4)).block, (ad.add (i * 4)).off + 2, none⟩) hk).trans h1.c2,
    (hb.cell (p := ⟨(ad.add (i * 4)).block, (ad.add (i * 4)).off + 3, none⟩) hk).trans h1.c3, h1.mc, h1.cm, h1.rd.below hb⟩, h2⟩
section
variable {H : Type} {enc : TypeId × Value → H} {P : Program} {W : World}
theorem open_wacts {t e te tb tu : TypeId} {f0 f1 f2 g0 g1 : Field} {v : Value} {d : DataW H} {p : List MemPlace} {b0 : Nat} (ht : P.underlying t = some (.slice e)) (he : P.underlying e = some (.struct #[f0, f1, f2])) (hC : P.cellsOf e = 4)
    (ho : f0.offset = 0 ∧ f1.offset = 1 ∧ f2.offset = 2) (u0 : P.underlying f0.type = some (.int .i64)) (u1 : P.underlying f1.type = some (.int .i64)) (k0 : P.cellsOf f0.type = 1) (k1 : P.cellsOf f1.type = 1) (hft : f2.type = te)
    (hte : P.underlying te = some (.struct #[g0, g1])) (hCe : P.cellsOf te = 2) (hog : g0.offset = 0 ∧ g1.offset = 1) (v0 : P.underlying g0.type = some (.int .i64)) (kg0 : P.cellsOf g0.type = 1) (hgt : g1.type = tb) (kg1 : P.cellsOf tb = 1)
    (hb : P.underlying tb = some (.slice tu)) (htu : P.underlying tu = some (.int .u8)) (hc1 : P.cellsOf tu = 1)
    (hok : Value.okWide P W .any b0 t v) (h : DataW.Trod enc P W 0 (fun _ => true) true t v d p) :
    ∃ (A : Option Addr) (n c : Nat) (Q : Nat → WAct), v = .slice A n c ∧ n ≤ c ∧ c ≤ maxLen ∧ WActs W W.heap.size A n Q := by
  obtain ⟨a, n, c, rfl⟩ := okWide_slice ht hok
  obtain ⟨fuel, hf⟩ := h
  rcases open_slice ht hf with ⟨hcs, _⟩ | ⟨x, len, cap, mm, n', D, Pl, hcs, _, hl, hmx, hmm, _, hi⟩
  · simp [Value.cells] at hcs
    obtain ⟨rfl, rfl, rfl⟩ := hcs
    exact ⟨none, 0, 0, fun _ => ⟨0, 0, 0, ⟨none, 0, 0, []⟩⟩, rfl, Nat.le_refl _, by simp [maxLen], fun i hi => absurd hi (by omega)⟩
  · simp [Value.cells] at hcs
    obtain ⟨rfl, rfl, rfl⟩ := hcs
    have hrow : ∀ i, i < n → ∃ q : WAct, WActAt W W.heap.size (x.add (i * 4)) q ∧ q.Ok := by
      intro i hin
      obtain ⟨cs', hc, htr⟩ := hi i (by simp at hmm; omega)
      rw [hC] at hc
      obtain ⟨ys, n1, _, _, hlen, hyl, hfs⟩ := DataW.trod_struct he htr
      obtain ⟨_, hcl, hat⟩ := World.cells?_some hc
      have hyl3 : ys.length = 3 := hyl
      rcases cs' with _ | ⟨e0, _ | ⟨e1, _ | ⟨e2, _ | ⟨e3, _ | ⟨e4, cs'⟩⟩⟩⟩⟩ <;> simp at hcl
      have a0 := hat 0 (by omega)
      have a1 := hat 1 (by omega)
      have a2 := hat 2 (by omega)
      have a3 := hat 3 (by omega)
      simp only [List.getElem?_cons_zero, List.getElem?_cons_succ] at a0 a1 a2 a3
      have h0 := hfs 0 f0 rfl
      have h1 := hfs 1 f1 rfl
      have h2 := hfs 2 f2 rfl
      rw [ho.1, k0, List.getElem?_eq_getElem (by omega)] at h0
      rw [ho.2.1, k1, List.getElem?_eq_getElem (by omega)] at h1
      rw [ho.2.2, hft, hCe, List.getElem?_eq_getElem (by omega)] at h2
      simp only [List.drop_zero, List.drop_succ_cons, List.take_succ_cons, List.take_zero] at h0 h1 h2
      obtain ⟨z0, q0, _, w0⟩ := DataW.trod_int u0 h0
      obtain ⟨z1, q1, _, w1⟩ := DataW.trod_int u1 h1
      injection q0 with q0
      injection q1 with q1
      subst q0 q1
      obtain ⟨zs, n2, _, _, _, hzl, hgs⟩ := DataW.trod_struct hte h2
      have hzl2 : zs.length = 2 := hzl
      have g0' := hgs 0 g0 rfl
      have g1' := hgs 1 g1 rfl
      rw [hog.1, kg0, List.getElem?_eq_getElem (by omega)] at g0'
      rw [hog.2, hgt, kg1, List.getElem?_eq_getElem (by omega)] at g1'
      simp only [List.drop_zero, List.drop_succ_cons, List.take_succ_cons, List.take_zero] at g0' g1'
      obtain ⟨z2, q2, _, w2⟩ := DataW.trod_int v0 g0'
      injection q2 with q2
      subst q2
      obtain ⟨xb, rfl, hm1, hm2, hr⟩ := bytes_trod hb htu hc1 g1'
      have hb0 : (x.add (i * 4)).add 0 = x.add (i * 4) := (add_of_add x (i * 4) 0).trans (by rw [Nat.add_zero])
      have hbk : ∀ (y : Addr), y.add 1 = ⟨y.block, y.off + 1, none⟩ ∧ y.add 2 = ⟨y.block, y.off + 2, none⟩ ∧ y.add 3 = ⟨y.block, y.off + 3, none⟩ := fun y => by simp [Addr.add]
      rw [hb0] at a0
      rw [(hbk _).1] at a1
      rw [(hbk _).2.1] at a2
      rw [(hbk _).2.2] at a3
      exact ⟨⟨z0, z1, z2, xb⟩, ⟨a0, a1, a2, a3, hm1, hm2, hr⟩, bounds_i64 w0, bounds_i64 w1⟩
    have hrow' : ∀ i, ∃ q : WAct, i < n → WActAt W W.heap.size (x.add (i * 4)) q ∧ q.Ok := fun i => by
      by_cases h : i < n
      · obtain ⟨q, hq⟩ := hrow i h
        exact ⟨q, fun _ => hq⟩
      · exact ⟨⟨0, 0, 0, ⟨none, 0, 0, []⟩⟩, fun h' => absurd h' h⟩
    obtain ⟨Q, hQ⟩ := Classical.axiomOfChoice hrow'
    refine ⟨some x, n, c, Q, rfl, hl, hmx, fun i hin => ⟨x, rfl, ?_, (hQ i hin).1, (hQ i hin).2⟩⟩
    have := World.block_lt_of_cell? W _ (hQ i hin).1.c0
    rw [block_of_add] at this
    exact this
end
end Go.Proofs.YtalkglmneicpoaaGreatDoor
