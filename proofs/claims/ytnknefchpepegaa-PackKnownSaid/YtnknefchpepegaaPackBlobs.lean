/-
  (*pack.Reader).Blob: what it answers and leaves.
-/
import Derived.Test.YtnknefchpepegaaPackBlobRd
namespace Go.Proofs.Ytnknefchpepegaa
set_option linter.unusedVariables false
set_option linter.unusedSimpArgs false
open Go.RowKit
theorem callFunc_blob (args : Array Value) (w : World) : (callFunc 20 args).run Try.prog w = .ok (.enter 20 args) w := by simp [go_sem]
/-- A reading of bytes: what it answers, what is left, the errno. -/
def rdBytes (r : Nat ⊕ (List UInt8 × List UInt8)) (bs : List UInt8) (er : Int) : List UInt8 × List UInt8 × Int :=
  if er ≠ 0 then ([], bs, er) else match r with
    | .inl k => ([], bs, (k : Int))
    | .inr (x, l) => (x, l, 0)
theorem rdBytes_failed {r : Nat ⊕ (List UInt8 × List UInt8)} {bs : List UInt8} {er : Int} (he : er ≠ 0) : rdBytes r bs er = ([], bs, er) := by unfold rdBytes; rw [if_pos he]
theorem rdBytes_inl {k : Nat} {bs : List UInt8} : rdBytes (.inl k) bs 0 = ([], bs, (k : Int)) := by unfold rdBytes; rw [if_neg (by simp)]
theorem rdBytes_inr {x l bs : List UInt8} : rdBytes (.inr (x, l)) bs 0 = (x, l, 0) := by unfold rdBytes; rw [if_neg (by simp)]
theorem readBytes (g B p2 F : Nat) (caps : Array Value) (bs : List UInt8) (er : Int) (r : Nat ⊕ (List UInt8 × List UInt8)) (W : World) (h : RdOf W g B bs er) (k2 : Blk W p2 24 #[.slice none 0 0]) (hB : B ≤ p2)
    (hF : ∀ (args : Array Value) (w : World), (callFunc F args).run Try.prog w = .ok (.enter F args) w)
    (hclo : er = 0 → ∀ w1, Below W.heap.size W w1 → Calls Try.prog F caps w1 (BlobPost g B p2 w1 r)) :
    Calls Try.prog 17 #[.pointer (some ⟨g, 0, none⟩), .func (.func F) #[] caps] W fun e w' =>
      ∃ (ok : Bool) (v : Value), e = .returned (.bool ok) ∧ RdOf w' g B (rdBytes r bs er).2.1 (rdBytes r bs er).2.2 ∧ Blk w' p2 24 #[v] ∧ (∃ A n c, v = .slice A n c) ∧ (ok = true → w'.ownsRow W.heap.size 5 1 v (rdBytes r bs er).1.length ((rdBytes r bs er).1.map bval)) ∧ (ok = false → (rdBytes r bs er).1 = []) ∧ Only (fun i => i = g ∨ i = p2) W w' := by
  obtain ⟨A, m, c, h⟩ := h
  have hlt := h.blk.lt
  have hlt2 := k2.lt
  have hne : p2 ≠ g := Blk.ne_ k2 h.blk (by decide)
  by_cases he : er = 0
  · subst he
    rcases r with k | ⟨x, l⟩
    · refine (read_fail g B bs A m c F caps (fun i => i = g) k W h (fun i hi => ⟨by omega, by have := h.bp; omega⟩) rfl hF (fun w1 hb => (hclo rfl w1 hb).mono ?_)).mono ?_
      · rintro e w' (⟨k', hk, rfl, h2, h3⟩ | ⟨u, l, A', c', v, hk, _⟩)
        · cases hk; exact ⟨rfl, h2, h3⟩
        · cases hk
      · rintro e w' ⟨rfl, h2, h3⟩
        rw [rdBytes_inl]
        exact ⟨false, .slice none 0 0, rfl, ⟨A, m, c, h2⟩, k2.only h3 hne, ⟨_, _, _, rfl⟩, by simp, fun _ => rfl, h3.mono (fun i hi => .inl hi)⟩
    · refine (read_ok g B bs A m c F caps (fun i => i = g ∨ i = p2) (fun w1 w2 => (∃ A' c', RdAt w2 g B l 0 A' l.length c') ∧ ∃ v, Blk w2 p2 24 #[v] ∧ w2.ownsRow w1.heap.size 5 1 v x.length (x.map bval)) W h (fun i hi => by rcases hi with rfl | rfl <;> assumption) hF (fun w1 hb => (hclo rfl w1 hb).mono ?_)).mono ?_
      · rintro e w' (⟨k', hk, _⟩ | ⟨u', l', A', c', v, hk, rfl, h2, h3, h4, h5⟩)
        · cases hk
        · cases hk; exact ⟨rfl, h5, ⟨A', c', h2⟩, v, h3, h4⟩
      · rintro e w' ⟨rfl, w1, w2, hb, ho, ⟨⟨A', c', h2⟩, v, h3, h4⟩, hb2, b, hb3, hb4, ho2⟩
        rw [rdBytes_inr]
        obtain ⟨A5, c5, rfl, _⟩ := own_slice h4
        refine ⟨true, _, rfl, ⟨A', _, c', h2.keep hb2 hlt⟩, h3.below hb2 hlt2, ⟨_, _, _, rfl⟩, fun _ => ?_, by simp, ?_⟩
        · refine own_base (own_only h4 ho2 (fun i hi => ?_)) (fun i hi => ?_)
          · have h1 := (h4.lt i hi).1
            rintro rfl; omega
          · have h1 := (h4.lt i hi).1
            have := hb.size; omega
        · exact ((Only.of_below hb).trans ho (fun i hi => .inl hi)).belowAt hb2
  · refine (read_failed g B bs er he A m c _ W h).mono ?_
    rintro e w' ⟨rfl, hb⟩
    rw [rdBytes_failed he]
    exact ⟨false, .slice none 0 0, rfl, ⟨A, m, c, h.keep hb hlt⟩, k2.below hb hlt2, ⟨_, _, _, rfl⟩, by simp, fun _ => rfl, Only.of_below hb⟩
set_option maxRecDepth 100000 in
set_option maxHeartbeats 1000000 in
theorem readBlob_any (g B : Nat) (bs : List UInt8) (er : Int) (w : World) (h : RdOf w g B bs er) :
    Calls Try.prog 12 #[.pointer (some ⟨g, 0, none⟩)] w fun e w' =>
      ∃ v, e = .returned v ∧ w'.ownsRow w.heap.size 5 1 v (rdBytes (blb bs) bs er).1.length ((rdBytes (blb bs) bs er).1.map bval) ∧ RdOf w' g B (rdBytes (blb bs) bs er).2.1 (rdBytes (blb bs) bs er).2.2 ∧ Only (fun i => i = g) w w' := by
  obtain ⟨A, m, c, h'⟩ := h
  have hlt := h'.blk.lt
  have hbp := h'.bp
  have hmf : ∀ (fn : Fn) (first cap : Array Value) (w : World), (Instr.makeFunc fn first cap).run Try.prog w = .ok (.func fn first cap) w := fun _ _ _ _ => rfl
  have H := Lib.hid h'
  clear h'
  generalize hrd : blb bs = r at *
  have HRD := Lib.hid hrd
  clear hrd
  go_enter Try.func12, Try.ntmps12
  go_wp2_with fail
  have hb0 : Below w.heap.size w ((w.alloc (.cells #[.pointer (some ⟨g, 0, none⟩)] 27)).alloc (.cells #[.slice none 0 0] 24)) := ((Below.refl _ _).alloc (Nat.le_refl _) _).alloc (by simp) _
  have k0 : Blk ((w.alloc (.cells #[.pointer (some ⟨g, 0, none⟩)] 27)).alloc (.cells #[.slice none 0 0] 24)) w.heap.size 27 #[.pointer (some ⟨g, 0, none⟩)] := (Blk.new _ _ _).alloc _
  have k2 : Blk ((w.alloc (.cells #[.pointer (some ⟨g, 0, none⟩)] 27)).alloc (.cells #[.slice none 0 0] 24)) (w.heap.size + 1) 24 #[.slice none 0 0] := Blk.new_at _ _ _ _ (by simp)
  have hsz : ((w.alloc (.cells #[.pointer (some ⟨g, 0, none⟩)] 27)).alloc (.cells #[.slice none 0 0] 24)).heap.size = w.heap.size + 2 := by simp
  generalize (w.alloc (.cells #[.pointer (some ⟨g, 0, none⟩)] 27)).alloc (.cells #[.slice none 0 0] 24) = W at *
  have h1 := H.out.keep hb0 hlt
  go_must (refine (readBytes g B (w.heap.size + 1) 20 #[.pointer (some ⟨w.heap.size, 0, none⟩), .pointer (some ⟨w.heap.size + 1, 0, none⟩)] bs er r W ⟨A, m, c, h1⟩ k2 (by omega) callFunc_blob ?_).mono ?_)
  · rintro rfl w1 hb1
    rw [← HRD.out]
    exact blobClo_any _ _ _ _ _ _ _ _ _ (h1.keep hb1 (by omega)) (k0.below hb1 (by omega)) (k2.below hb1 (by omega)) (by omega)
  · rintro e w2 ⟨ok, x, rfl, h2, h3, ⟨A5, n5, c5, rfl⟩, h4, h5, h6⟩
    have y0 := h3.cell 0
    have z0 := h3.frozen 0
    have K3 := Lib.hid h3
    have H2 := Lib.hid h2
    have HO := Lib.hid (((Only.of_below hb0).trans h6 (fun i hi => by rcases hi with rfl | rfl; exact .inl rfl; exact .inr (by omega)) : Only (fun i => i = g) w w2))
    have H4 := Lib.hid h4
    have H5 := Lib.hid h5
    have hw2 := h6.size
    clear h2 h3 h4 h5 h6 hb0 k0 k2 h1
    cases ok
    · go_wp2_with fail
      have hz := H5.out trivial
      obtain ⟨A2, m2, c2, h2⟩ := H2.out
      refine ⟨rfl, _, results_at rfl rfl (res_slice ((K3.out.set_ 0 (.slice none 0 0)).cell 0)), _, rfl, ?_, ⟨A2, m2, c2, h2.blk.far (by show g ≠ w.heap.size + 1; omega) _, h2.rd.setCell (by show B ≤ w.heap.size + 1; omega) _, h2.mc, h2.cm, h2.bp⟩, HO.out.setCell (.inr (by omega)) 0 _⟩
      rw [hz]
      exact World.ownsRow_nil _ _ _ _
    · go_wp2_with fail
      have hz := H4.out trivial
      obtain ⟨A2, m2, c2, h2⟩ := H2.out
      refine ⟨rfl, _, results_at rfl rfl (res_slice ((K3.out.set_ 0 (.slice A5 n5 c5)).cell 0)), _, rfl, ?_, ⟨A2, m2, c2, h2.blk.far (by show g ≠ w.heap.size + 1; omega) _, h2.rd.setCell (by show B ≤ w.heap.size + 1; omega) _, h2.mc, h2.cm, h2.bp⟩, HO.out.setCell (.inr (by omega)) 0 _⟩
      refine own_base (own_only hz ((Only.refl (fun i => i = w.heap.size + 1) w2).setCell (.inl rfl) 0 _) (fun i hi => ?_)) (fun i hi => ?_)
      · have h1 := (hz.lt i hi).1
        rintro rfl; omega
      · have h1 := (hz.lt i hi).1
        omega
end Go.Proofs.Ytnknefchpepegaa
