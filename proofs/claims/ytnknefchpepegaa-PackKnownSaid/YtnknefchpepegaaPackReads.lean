/-
  (*pack.Reader).Int and Count: what each call answers and leaves.
-/
import Derived.Test.YtnknefchpepegaaPackCount
namespace Go.Proofs.Ytnknefchpepegaa
set_option linter.unusedVariables false
set_option linter.unusedSimpArgs false
open Go.RowKit
theorem RdAt.keep {W W' : World} {p B C : Nat} {bs : List UInt8} {er : Int} {A : Option Addr} {m c : Nat} (h : RdAt W p B bs er A m c) (hb : Below C W W') (hp : p < C) : RdAt W' p B bs er A m c :=
  ⟨h.blk.below hb hp, h.rd.below (hb.mono (Nat.le_trans h.bp (Nat.le_of_lt hp))), h.mc, h.cm, h.bp⟩
theorem Only.belowAt {S : Nat → Prop} {w w1 w2 : World} (h : Only S w w1) (hb : Below w.heap.size w1 w2) : Only S w w2 :=
  ⟨hb.os.trans h.os, hb.tape.trans h.tape, hb.output.trans h.output, Nat.le_trans h.size hb.size, fun i hi hn => (hb.block i hi).trans (h.block i hi hn)⟩
/-- A reader, whatever its slice. -/
def RdOf (W : World) (g B : Nat) (bs : List UInt8) (er : Int) : Prop := ∃ A m c, RdAt W g B bs er A m c
/-- A reading of a number: what it answers, what is left, the errno. -/
def rdNum (r : Nat ⊕ (Nat × List UInt8)) (bs : List UInt8) (er : Int) : Int × List UInt8 × Int :=
  if er ≠ 0 then (0, bs, er) else match r with
    | .inl k => (0, bs, (k : Int))
    | .inr (u, l) => (zag u, l, 0)
theorem callFunc_int (args : Array Value) (w : World) : (callFunc 18 args).run Try.prog w = .ok (.enter 18 args) w := by simp [go_sem]
theorem callFunc_count (args : Array Value) (w : World) : (callFunc 22 args).run Try.prog w = .ok (.enter 22 args) w := by simp [go_sem]
theorem rdNum_failed {r : Nat ⊕ (Nat × List UInt8)} {bs : List UInt8} {er : Int} (he : er ≠ 0) : rdNum r bs er = (0, bs, er) := by unfold rdNum; rw [if_pos he]
theorem rdNum_inl {k : Nat} {bs : List UInt8} : rdNum (.inl k) bs 0 = (0, bs, (k : Int)) := by unfold rdNum; rw [if_neg (by simp)]
theorem rdNum_inr {u : Nat} {l bs : List UInt8} : rdNum (.inr (u, l)) bs 0 = (zag u, l, 0) := by unfold rdNum; rw [if_neg (by simp)]
/-- A reading of a number through whatever closure. -/
theorem readNum (g B p2 F : Nat) (caps : Array Value) (bs : List UInt8) (er : Int) (r : Nat ⊕ (Nat × List UInt8)) (W : World) (h : RdOf W g B bs er) (k2 : Blk W p2 3 #[.int .i64 0]) (hB : B ≤ p2)
    (hF : ∀ (args : Array Value) (w : World), (callFunc F args).run Try.prog w = .ok (.enter F args) w)
    (hclo : er = 0 → ∀ w1, Below W.heap.size W w1 → Calls Try.prog F caps w1 (CloPost g B p2 w1 r)) :
    Calls Try.prog 17 #[.pointer (some ⟨g, 0, none⟩), .func (.func F) #[] caps] W fun e w' =>
      ∃ (ok : Bool) (x : Int), e = .returned (.bool ok) ∧ RdOf w' g B (rdNum r bs er).2.1 (rdNum r bs er).2.2 ∧ Blk w' p2 3 #[.int .i64 x] ∧ (ok = true → x = (rdNum r bs er).1) ∧ (ok = false → (rdNum r bs er).1 = 0) ∧ Only (fun i => i = g ∨ i = p2) W w' := by
  obtain ⟨A, m, c, h⟩ := h
  have hlt := h.blk.lt
  have hlt2 := k2.lt
  have hne : p2 ≠ g := Blk.ne_ k2 h.blk (by decide)
  by_cases he : er = 0
  · subst he
    rcases r with k | ⟨u, l⟩
    · refine (read_fail g B bs A m c F caps (fun i => i = g) k W h (fun i hi => ⟨by omega, by have := h.bp; omega⟩) rfl hF (fun w1 hb => (hclo rfl w1 hb).mono ?_)).mono ?_
      · rintro e w' (⟨k', hk, rfl, h2, h3⟩ | ⟨u, l, A', c', hk, _⟩)
        · cases hk; exact ⟨rfl, h2, h3⟩
        · cases hk
      · rintro e w' ⟨rfl, h2, h3⟩
        rw [rdNum_inl]
        exact ⟨false, 0, rfl, ⟨A, m, c, h2⟩, k2.only h3 hne, by simp, fun _ => rfl, h3.mono (fun i hi => .inl hi)⟩
    · refine (read_ok g B bs A m c F caps (fun i => i = g ∨ i = p2) (fun _ w2 => (∃ A' c', RdAt w2 g B l 0 A' l.length c') ∧ Blk w2 p2 3 #[.int .i64 (zag u)]) W h (fun i hi => by rcases hi with rfl | rfl <;> assumption) hF (fun w1 hb => (hclo rfl w1 hb).mono ?_)).mono ?_
      · rintro e w' (⟨k', hk, _⟩ | ⟨u', l', A', c', hk, rfl, h2, h3, h4⟩)
        · cases hk
        · cases hk; exact ⟨rfl, h4, ⟨A', c', h2⟩, h3⟩
      · rintro e w' ⟨rfl, w1, w2, hb, ho, ⟨⟨A', c', h2⟩, h3⟩, hb2, _⟩
        rw [rdNum_inr]
        refine ⟨true, zag u, rfl, ⟨A', _, c', h2.keep hb2 hlt⟩, h3.below hb2 hlt2, fun _ => rfl, by simp, ?_⟩
        exact ((Only.of_below hb).trans ho (fun i hi => .inl hi)).belowAt hb2
  · refine (read_failed g B bs er he A m c _ W h).mono ?_
    rintro e w' ⟨rfl, hb⟩
    rw [rdNum_failed he]
    exact ⟨false, 0, rfl, ⟨A, m, c, h.keep hb hlt⟩, k2.below hb hlt2, by simp, fun _ => rfl, Only.of_below hb⟩
set_option maxRecDepth 100000 in
set_option maxHeartbeats 1000000 in
theorem readInt_any (g B : Nat) (bs : List UInt8) (er : Int) (w : World) (h : RdOf w g B bs er) :
    Calls Try.prog 10 #[.pointer (some ⟨g, 0, none⟩)] w fun e w' =>
      e = .returned (.int .i64 (rdNum (rd bs 0 0) bs er).1) ∧ RdOf w' g B (rdNum (rd bs 0 0) bs er).2.1 (rdNum (rd bs 0 0) bs er).2.2 ∧ Only (fun i => i = g) w w' := by
  obtain ⟨A, m, c, h'⟩ := h
  have hlt := h'.blk.lt
  have hbp := h'.bp
  have hmf : ∀ (fn : Fn) (first cap : Array Value) (w : World), (Instr.makeFunc fn first cap).run Try.prog w = .ok (.func fn first cap) w := fun _ _ _ _ => rfl
  have H := Lib.hid h'
  clear h'
  generalize hrd : rd bs 0 0 = r at *
  have HRD := Lib.hid hrd
  clear hrd
  go_enter Try.func10, Try.ntmps10
  go_wp2_with fail
  have hb0 : Below w.heap.size w ((w.alloc (.cells #[.pointer (some ⟨g, 0, none⟩)] 27)).alloc (.cells #[.int .i64 0] 3)) := ((Below.refl _ _).alloc (Nat.le_refl _) _).alloc (by simp) _
  have k0 : Blk ((w.alloc (.cells #[.pointer (some ⟨g, 0, none⟩)] 27)).alloc (.cells #[.int .i64 0] 3)) w.heap.size 27 #[.pointer (some ⟨g, 0, none⟩)] := (Blk.new _ _ _).alloc _
  have k2 : Blk ((w.alloc (.cells #[.pointer (some ⟨g, 0, none⟩)] 27)).alloc (.cells #[.int .i64 0] 3)) (w.heap.size + 1) 3 #[.int .i64 0] := Blk.new_at _ _ _ _ (by simp)
  have hsz : ((w.alloc (.cells #[.pointer (some ⟨g, 0, none⟩)] 27)).alloc (.cells #[.int .i64 0] 3)).heap.size = w.heap.size + 2 := by simp
  generalize (w.alloc (.cells #[.pointer (some ⟨g, 0, none⟩)] 27)).alloc (.cells #[.int .i64 0] 3) = W at *
  have h1 := H.out.keep hb0 hlt
  go_must (refine (readNum g B (w.heap.size + 1) 18 #[.pointer (some ⟨w.heap.size, 0, none⟩), .pointer (some ⟨w.heap.size + 1, 0, none⟩)] bs er r W ⟨A, m, c, h1⟩ k2 (by omega) callFunc_int ?_).mono ?_)
  · rintro rfl w1 hb1
    rw [← HRD.out]
    exact intClo_any _ _ _ _ _ _ _ _ _ _ (h1.keep hb1 (by omega)) (k0.below hb1 (by omega)) (k2.below hb1 (by omega)) (by omega)
  · rintro e w2 ⟨ok, x, rfl, h2, h3, h4, h5, h6⟩
    have y0 := h3.cell 0
    have z0 := h3.frozen 0
    have K3 := Lib.hid h3
    have H2 := Lib.hid h2
    have HO := Lib.hid (((Only.of_below hb0).trans h6 (fun i hi => by rcases hi with rfl | rfl; exact .inl rfl; exact .inr (by omega)) : Only (fun i => i = g) w w2))
    have H4 := Lib.hid h4
    have H5 := Lib.hid h5
    have hw2 := h6.size
    clear h2 h3 h4 h5 h6 hb0 k0 k2 h1
    cases ok
    · go_wp2_with fail
      have hz := H5.out trivial
      obtain ⟨A2, m2, c2, h2⟩ := H2.out
      refine ⟨rfl, _, results_at rfl rfl (res_int ((K3.out.set_ 0 (.int .i64 0)).cell 0)), by rw [hz]; rfl, ⟨A2, m2, c2, h2.blk.far (by show g ≠ w.heap.size + 1; omega) _, h2.rd.setCell (by show B ≤ w.heap.size + 1; omega) _, h2.mc, h2.cm, h2.bp⟩, HO.out.setCell (.inr (by omega)) 0 _⟩
    · go_wp2_with fail
      have hz := H4.out trivial
      obtain ⟨A2, m2, c2, h2⟩ := H2.out
      refine ⟨rfl, _, results_at rfl rfl (res_int ((K3.out.set_ 0 (.int .i64 x)).cell 0)), by rw [← hz]; rfl, ⟨A2, m2, c2, h2.blk.far (by show g ≠ w.heap.size + 1; omega) _, h2.rd.setCell (by show B ≤ w.heap.size + 1; omega) _, h2.mc, h2.cm, h2.bp⟩, HO.out.setCell (.inr (by omega)) 0 _⟩
set_option maxRecDepth 100000 in
set_option maxHeartbeats 1000000 in
theorem readCount_any (g B : Nat) (bs : List UInt8) (er most : Int) (w : World) (h : RdOf w g B bs er) :
    Calls Try.prog 15 #[.pointer (some ⟨g, 0, none⟩), .int .i64 most] w fun e w' =>
      e = .returned (.int .i64 (rdNum (cnt most bs) bs er).1) ∧ RdOf w' g B (rdNum (cnt most bs) bs er).2.1 (rdNum (cnt most bs) bs er).2.2 ∧ Only (fun i => i = g) w w' := by
  obtain ⟨A, m, c, h'⟩ := h
  have hlt := h'.blk.lt
  have hbp := h'.bp
  have hmf : ∀ (fn : Fn) (first cap : Array Value) (w : World), (Instr.makeFunc fn first cap).run Try.prog w = .ok (.func fn first cap) w := fun _ _ _ _ => rfl
  have H := Lib.hid h'
  clear h'
  generalize hrd : cnt most bs = r at *
  have HRD := Lib.hid hrd
  clear hrd
  go_enter Try.func15, Try.ntmps15
  go_wp2_with fail
  have hb0 : Below w.heap.size w (((w.alloc (.cells #[.pointer (some ⟨g, 0, none⟩)] 27)).alloc (.cells #[.int .i64 most] 3)).alloc (.cells #[.int .i64 0] 3)) := (((Below.refl _ _).alloc (Nat.le_refl _) _).alloc (by simp) _).alloc (by simp; omega) _
  have k0 : Blk (((w.alloc (.cells #[.pointer (some ⟨g, 0, none⟩)] 27)).alloc (.cells #[.int .i64 most] 3)).alloc (.cells #[.int .i64 0] 3)) w.heap.size 27 #[.pointer (some ⟨g, 0, none⟩)] := ((Blk.new _ _ _).alloc _).alloc _
  have k1 : Blk (((w.alloc (.cells #[.pointer (some ⟨g, 0, none⟩)] 27)).alloc (.cells #[.int .i64 most] 3)).alloc (.cells #[.int .i64 0] 3)) (w.heap.size + 1) 3 #[.int .i64 most] := (Blk.new_at _ _ _ _ (by simp)).alloc _
  have k2 : Blk (((w.alloc (.cells #[.pointer (some ⟨g, 0, none⟩)] 27)).alloc (.cells #[.int .i64 most] 3)).alloc (.cells #[.int .i64 0] 3)) (w.heap.size + 1 + 1) 3 #[.int .i64 0] := Blk.new_at _ _ _ _ (by simp)
  have hsz : (((w.alloc (.cells #[.pointer (some ⟨g, 0, none⟩)] 27)).alloc (.cells #[.int .i64 most] 3)).alloc (.cells #[.int .i64 0] 3)).heap.size = w.heap.size + 3 := by simp
  generalize ((w.alloc (.cells #[.pointer (some ⟨g, 0, none⟩)] 27)).alloc (.cells #[.int .i64 most] 3)).alloc (.cells #[.int .i64 0] 3) = W at *
  have h1 := H.out.keep hb0 hlt
  go_must (refine (readNum g B (w.heap.size + 1 + 1) 22 #[.pointer (some ⟨w.heap.size, 0, none⟩), .pointer (some ⟨w.heap.size + 1, 0, none⟩), .pointer (some ⟨w.heap.size + 1 + 1, 0, none⟩)] bs er r W ⟨A, m, c, h1⟩ k2 (by omega) callFunc_count ?_).mono ?_)
  · rintro rfl w1 hb1
    rw [← HRD.out]
    exact countClo_any _ _ _ _ _ _ _ _ _ _ _ _ (h1.keep hb1 (by omega)) (k0.below hb1 (by omega)) (k1.below hb1 (by omega)) (k2.below hb1 (by omega)) (by omega)
  · rintro e w2 ⟨ok, x, rfl, h2, h3, h4, h5, h6⟩
    have y0 := h3.cell 0
    have z0 := h3.frozen 0
    have K3 := Lib.hid h3
    have H2 := Lib.hid h2
    have HO := Lib.hid (((Only.of_below hb0).trans h6 (fun i hi => by rcases hi with rfl | rfl; exact .inl rfl; exact .inr (by omega)) : Only (fun i => i = g) w w2))
    have H4 := Lib.hid h4
    have H5 := Lib.hid h5
    have hw2 := h6.size
    clear h2 h3 h4 h5 h6 hb0 k0 k1 k2 h1
    cases ok
    · go_wp2_with fail
      have hz := H5.out trivial
      obtain ⟨A2, m2, c2, h2⟩ := H2.out
      refine ⟨rfl, _, results_at rfl rfl (res_int ((K3.out.set_ 0 (.int .i64 0)).cell 0)), by rw [hz]; rfl, ⟨A2, m2, c2, h2.blk.far (by show g ≠ w.heap.size + 1 + 1; omega) _, h2.rd.setCell (by show B ≤ w.heap.size + 1 + 1; omega) _, h2.mc, h2.cm, h2.bp⟩, HO.out.setCell (.inr (by omega)) 0 _⟩
    · go_wp2_with fail
      have hz := H4.out trivial
      obtain ⟨A2, m2, c2, h2⟩ := H2.out
      refine ⟨rfl, _, results_at rfl rfl (res_int ((K3.out.set_ 0 (.int .i64 x)).cell 0)), by rw [← hz]; rfl, ⟨A2, m2, c2, h2.blk.far (by show g ≠ w.heap.size + 1 + 1; omega) _, h2.rd.setCell (by show B ≤ w.heap.size + 1 + 1; omega) _, h2.mc, h2.cm, h2.bp⟩, HO.out.setCell (.inr (by omega)) 0 _⟩
end Go.Proofs.Ytnknefchpepegaa
