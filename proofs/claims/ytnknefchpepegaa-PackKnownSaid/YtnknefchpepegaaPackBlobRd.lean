/-
  (*pack.Reader).Blob's closure.
-/
import Derived.Test.YtnknefchpepegaaPackReads
import Derived.Deep.RegionHeld3
import Derived.BigQuiet
namespace Go.Proofs.Ytnknefchpepegaa
set_option linter.unusedVariables false
set_option linter.unusedSimpArgs false
open Go.RowKit
theorem cnt_inr {most : Int} {bs l : List UInt8} {u : Nat} (h : cnt most bs = .inr (u, l)) : rd bs 0 0 = .inr (u, l) ∧ 0 ≤ zag u ∧ zag u ≤ most := by
  unfold cnt at h
  generalize rd bs 0 0 = r at h
  rcases r with k | ⟨u', l'⟩
  · cases h
  · simp only at h
    split at h
    · cases h
    · rename_i hn; cases h; exact ⟨rfl, by omega, by omega⟩
/-- Bytes with their length ahead. -/
def blb (bs : List UInt8) : Nat ⊕ (List UInt8 × List UInt8) :=
  match cnt 2147483647 bs with
  | .inl k => .inl k
  | .inr (u, l) => if l.length < (zag u).toNat then .inl 4 else .inr (l.take (zag u).toNat, l.drop (zag u).toNat)
theorem run_cut_h {P : Program} {t e : TypeId} {size bytes : Nat} (he : ElemInfo P t e size bytes) (A : Option Addr) (n c : Nat) {h : Nat} (h1 : h ≤ c) (W : World) :
    (Instr.slice t (.slice A n c) none (some (.int .i64 (h : Int))) none).run P W = .ok (.slice A h c) W := by
  rw [run_slice_h W t A n c (by rw [he.elem']; exact he.1) .i64 h (by omega) (by omega), he.elem', he.sizeOf' W]
  have e : ∀ ad : Addr, ad.add 0 = ad := fun ad => by unfold Addr.add; rfl
  rcases A with _ | ad <;> simp [Result.andThen, sliced, e]
/-- What Blob's closure leaves. -/
def BlobPost (g B p2 : Nat) (w : World) (r : Nat ⊕ (List UInt8 × List UInt8)) (e : Ending) (w' : World) : Prop :=
  (∃ k : Nat, r = .inl k ∧ e = .panicked (stopP (k : Int)) ∧ Only (fun i => i = g) w w' ∧ ∃ A2 m2 c2, Blk w' g 43 #[.slice A2 m2 c2, .int .i64 0]) ∨
  ∃ xs l A' c' v, r = .inr (xs, l) ∧ e = .returned (.tuple #[]) ∧ RdAt w' g B l 0 A' l.length c' ∧ Blk w' p2 24 #[v] ∧ w'.ownsRow w.heap.size 5 1 v xs.length (xs.map bval) ∧ Only (fun i => i = g ∨ i = p2) w w'
theorem blob_end {g B p2 n c' c5 : Nat} {l : List UInt8} {A' A2 A5 : Option Addr} {w w1 w2 : World} {r' : Nat ⊕ (List UInt8 × List UInt8)} (hne : p2 ≠ g) (hB : B ≤ p2) (hlg : g < w.heap.size) (hp2 : p2 < w.heap.size) (hln : ¬ l.length < n) (hmc : l.length ≤ c') (hcm : c' ≤ maxLen)
    (hR : r' = .inr (l.take n, l.drop n)) (h3 : RdAt w1 g B l 0 A' l.length c') (h4 : Only (fun i => i = g) w w1) (hA2 : cutA A' c' n 1 = A2)
    (hown : w2.ownsRow w1.drew.heap.size 5 1 (.slice A5 n c5) n ((l.take n).map bval)) (hb2 : Below w1.drew.heap.size w1.drew w2) (k22 : Blk w2 p2 24 #[.slice none 0 0]) (kg2 : Blk w2 g 43 #[.slice A' l.length c', .int .i64 0]) :
    BlobPost g B p2 w r' (.returned (.tuple #[])) ((w2.setCell ⟨p2, 0, none⟩ (.slice A5 n c5)).setCell ⟨g, 0, none⟩ (.slice A2 (l.length - n) (c' - n))) := by
  have hs1 := h4.size
  have h12 : Only (fun i => i = g ∨ i = p2) w1 w2 := ((Only.refl _ w1).drew).below hb2
  have h2w : Only (fun i => i = g ∨ i = p2) w2 ((w2.setCell ⟨p2, 0, none⟩ (.slice A5 n c5)).setCell ⟨g, 0, none⟩ (.slice A2 (l.length - n) (c' - n))) := ((Only.refl _ w2).setCell (.inl (.inr rfl)) 0 _).setCell (.inl (.inl rfl)) 0 _
  have h1w := h12.trans h2w (fun i hi => .inl hi)
  have hlt : (l.take n).length = n := by rw [List.length_take]; omega
  have hld : (l.drop n).length = l.length - n := by rw [List.length_drop]
  have hbp := h3.bp
  refine .inr ⟨l.take n, l.drop n, A2, c' - n, .slice A5 n c5, hR, rfl, ⟨?_, ?_, by omega, by omega, hbp⟩, ?_, ?_, ((h4.mono (fun i hi => .inl hi)).trans h1w (fun i hi => .inl hi))⟩
  · rw [hld]
    have := (kg2.far (p := ⟨p2, 0, none⟩) (fun h => hne h.symm) (.slice A5 n c5)).set_ 0 (.slice A2 (l.length - n) (c' - n))
    simpa using this
  · have hr := (h3.rd.cutA (k := n) (cap := c') (by omega) hmc).below (h1w.to (fun i hi => by rcases hi with rfl | rfl; exact hbp; exact hB) (by have := h3.blk.lt; omega))
    rw [hA2, Nat.mul_one] at hr
    rw [hld, List.map_drop]
    exact hr
  · exact (k22.set_ 0 _).far hne _
  · rw [hlt]
    refine own_base (own_only hown h2w (fun b hb => ?_)) (fun b hb => ?_)
    · have h1 := (hown.lt b hb).1
      have h1 : w1.heap.size ≤ b := h1
      rintro (rfl | rfl) <;> omega
    · have h1 := (hown.lt b hb).1
      have h1 : w1.heap.size ≤ b := h1
      omega
set_option maxRecDepth 100000 in
set_option maxHeartbeats 1000000 in
theorem blobClo_any (g B p0 p2 : Nat) (bs : List UInt8) (A : Option Addr) (m c : Nat) (w : World) (h : RdAt w g B bs 0 A m c) (k0 : Blk w p0 27 #[.pointer (some ⟨g, 0, none⟩)]) (k2 : Blk w p2 24 #[.slice none 0 0]) (hB : B ≤ p2) :
    Calls Try.prog 20 #[.pointer (some ⟨p0, 0, none⟩), .pointer (some ⟨p2, 0, none⟩)] w (BlobPost g B p2 w (blb bs)) := by
  have C1 := Lib.hid (count_any g B bs 0 2147483647 A m c w h)
  have y0 : w.cell? ⟨p0, 0, none⟩ = some (.pointer (some ⟨g, 0, none⟩)) := k0.cell 0
  have hne0 : p0 ≠ g := Blk.ne_ k0 h.blk (by decide)
  have hne : p2 ≠ g := Blk.ne_ k2 h.blk (by decide)
  have hne2 : p0 ≠ p2 := Blk.ne_ k0 k2 (by decide)
  have hp2 := k2.lt
  have hlg := h.blk.lt
  have K2 := Lib.hid k2
  have K0 := Lib.hid k0
  clear h k0 k2
  have HR : Hid (blb bs = match cnt 2147483647 bs with | .inl k => .inl k | .inr (u, l) => if l.length < (zag u).toNat then .inl 4 else .inr (l.take (zag u).toNat, l.drop (zag u).toNat)) := rfl
  have HC : Hid (∀ u l, cnt 2147483647 bs = .inr (u, l) → 0 ≤ zag u ∧ zag u ≤ 2147483647) := fun u l h => (cnt_inr h).2
  generalize cnt 2147483647 bs = r at *
  generalize blb bs = r' at *
  go_enter Try.func20, Try.ntmps20
  go_wp2_with fail
  go_must (refine C1.out.mono ?_)
  rintro e w1 (⟨k, rfl, rfl, h2, A2, m2, c2, h3⟩ | ⟨u, l, A', c', rfl, h2, rfl, h3, h4⟩)
  · have HR : Hid (r' = .inl k) := HR.out
    have H2 := Lib.hid h2
    have H3 := Lib.hid h3
    clear h2 h3 C1
    go_wp2_with fail
    exact ⟨rfl, .inl ⟨k, HR.out, rfl, H2.out, A2, m2, c2, H3.out⟩⟩
  · have HR : Hid (r' = if l.length < (zag u).toNat then .inl 4 else .inr (l.take (zag u).toNat, l.drop (zag u).toNat)) := HR.out
    obtain ⟨hz0, hz1⟩ := HC.out u l rfl
    have x0 : w1.cell? ⟨p0, 0, none⟩ = some (.pointer (some ⟨g, 0, none⟩)) := (K0.out.only h4 hne0).cell 0
    have x1 : w1.cell? ⟨g, 0, none⟩ = some (.slice A' l.length c') := h3.blk.cell 0
    obtain ⟨n, hn⟩ : ∃ n : Nat, zag u = n := ⟨(zag u).toNat, by omega⟩
    rw [hn] at hz0 hz1 HR ⊢
    rw [Int.toNat_natCast] at HR
    clear C1 HC hn
    have K21 := Lib.hid (K2.out.only h4 hne)
    have K01 := Lib.hid (K0.out.only h4 hne0)
    have H3 := Lib.hid h3
    have H4 := Lib.hid h4
    have hmc := h3.mc
    have hcm := h3.cm
    have hs1 := h4.size
    clear h3 h4
    by_cases hln : l.length < n
    · have HR : Hid (r' = .inl 4) := by have := HR.out; rw [if_pos hln] at this; exact this
      have hz : (l.length : Int) < (n : Int) := by omega
      go_wp2_with fail
      exact ⟨rfl, .inl ⟨4, HR.out, rfl, H4.out, _, _, _, H3.out.blk⟩⟩
    · have HR : Hid (r' = .inr (l.take n, l.drop n)) := by have := HR.out; rw [if_neg hln] at this; exact this
      have hz : ¬ (l.length : Int) < (n : Int) := by omega
      have hs1 : ∀ W, (Instr.slice 24 (.slice A' l.length c') none (some (.int .i64 (n : Int))) none).run Try.prog W = .ok (.slice A' n c') W := fun W => run_cut_h Try.el24 A' l.length c' (by omega) W
      have hs2 : ∀ W, (Instr.slice 24 (.slice A' l.length c') (some (.int .i64 (n : Int))) none none).run Try.prog W = .ok (.slice (cutA A' c' n 1) (l.length - n) (c' - n)) W := fun W => run_cut_l Try.el24 A' l.length c' (by omega) W
      have CL := Lib.hid (clone_any A' n c' B (l.take n) w1.drew (by have := (H3.out.rd.take (k := n) (by omega)).drew; rw [Nat.mul_one] at this; rw [List.map_take]; exact this) (by have := H3.out.bp; have := H3.out.blk.lt; show B ≤ w1.heap.size; omega) (by omega))
      have HS : Hid (∀ W, Only (fun i => i = p2) w1 W → W.cell? ⟨p0, 0, none⟩ = some (.pointer (some ⟨g, 0, none⟩)) ∧ W.cell? ⟨g, 0, none⟩ = some (.slice A' l.length c')) := fun W hW => ⟨(K01.out.only hW hne2).cell 0, (H3.out.blk.only hW (fun h => hne h.symm)).cell 0⟩
      generalize hA2 : cutA A' c' n 1 = A2 at *
      have HA2 := Lib.hid hA2
      clear hA2
      go_wp2_with fail
      have q1 : Only (fun i => i = p2) w1 w1.drew := (Only.refl _ _).drew
      -- FIN: (go_end0; exact blob_end hne hB hlg hp2 hln hmc hcm HR.out H3.out H4.out HA2.out hown2 hb2 k22 kg2)
      -- BEGIN (gen/packblob.py)
      refine wp_region_held_drew (S := (fun w' => w'.cell? ⟨p0, 0, none⟩ = some (.pointer (some ⟨g, 0, none⟩)))) (by kernel_rfl) (by exact (HS.out _ q1).1) (fun hHeld => ?_)
      refine wpAnyH_take (i := 0) (v := ?_) rfl (by kernel_rfl) (by kernel_rfl) (by kernel_rfl) (fun _ _ _ h => h) (Or.inl ⟨by rfl, ?_⟩) (by assumption) ?_
      rotate_left
      · intro w0 hSw; (try dsimp only at hSw); go_simp <;> with_reducible rfl
      try simp only [Act.put, List.getElem_toArray, List.getElem_cons_zero, List.getElem_cons_succ, List.setIfInBounds_toArray, List.set_cons_zero, List.set_cons_succ]
      refine wpAnyH_take (i := 1) (v := ?_) rfl (by kernel_rfl) (by kernel_rfl) (by kernel_rfl) (fun _ _ _ h => h) (Or.inl ⟨by rfl, ?_⟩) (by assumption) ?_
      rotate_left
      · intro w0 hSw; (try dsimp only at hSw); go_simp <;> with_reducible rfl
      try simp only [Act.put, List.getElem_toArray, List.getElem_cons_zero, List.getElem_cons_succ, List.setIfInBounds_toArray, List.set_cons_zero, List.set_cons_succ]
      refine wpAnyH_take (i := 2) (v := ?_) rfl (by kernel_rfl) (by kernel_rfl) (by kernel_rfl) (fun _ _ _ h => h) (Or.inl ⟨by rfl, ?_⟩) (by assumption) ?_
      rotate_left
      · intro w0 hSw; (try dsimp only at hSw); go_simp <;> with_reducible rfl
      try simp only [Act.put, List.getElem_toArray, List.getElem_cons_zero, List.getElem_cons_succ, List.setIfInBounds_toArray, List.set_cons_zero, List.set_cons_succ]
      refine wpAnyH_take (i := 3) (v := ?_) rfl (by kernel_rfl) (by kernel_rfl) (by kernel_rfl) (fun _ _ _ h => h) (Or.inl ⟨by rfl, ?_⟩) (by assumption) ?_
      rotate_left
      · intro w0 hSw; (try dsimp only at hSw); go_simp <;> with_reducible rfl
      try simp only [Act.put, List.getElem_toArray, List.getElem_cons_zero, List.getElem_cons_succ, List.setIfInBounds_toArray, List.set_cons_zero, List.set_cons_succ]
      refine wpAnyH_take (i := 5) (v := ?_) rfl (by kernel_rfl) (by kernel_rfl) (by kernel_rfl) (fun _ _ _ h => h) (Or.inl ⟨by rfl, ?_⟩) (by assumption) ?_
      rotate_left
      · intro w0 hSw; (try dsimp only at hSw); go_simp <;> with_reducible rfl
      try simp only [Act.put, List.getElem_toArray, List.getElem_cons_zero, List.getElem_cons_succ, List.setIfInBounds_toArray, List.set_cons_zero, List.set_cons_succ]
      refine wpAnyH_take (i := 8) (v := ?_) rfl (by kernel_rfl) (by kernel_rfl) (by kernel_rfl) (fun _ _ _ h => h) (Or.inl ⟨by rfl, ?_⟩) (by assumption) ?_
      rotate_left
      · intro w0 hSw; (try dsimp only at hSw); go_simp <;> with_reducible rfl
      try simp only [Act.put, List.getElem_toArray, List.getElem_cons_zero, List.getElem_cons_succ, List.setIfInBounds_toArray, List.set_cons_zero, List.set_cons_succ]
      refine wpAnyH_take (i := 9) (v := ?_) rfl (by kernel_rfl) (by kernel_rfl) (by kernel_rfl) (fun _ _ _ h => h) (Or.inl ⟨by rfl, ?_⟩) (by assumption) ?_
      rotate_left
      · intro w0 hSw; (try dsimp only at hSw); go_simp <;> with_reducible rfl
      try simp only [Act.put, List.getElem_toArray, List.getElem_cons_zero, List.getElem_cons_succ, List.setIfInBounds_toArray, List.set_cons_zero, List.set_cons_succ]
      refine wpAnyH_take (i := 10) (v := ?_) rfl (by kernel_rfl) (by kernel_rfl) (by kernel_rfl) (fun _ _ _ h => h) (Or.inl ⟨by rfl, ?_⟩) (by assumption) ?_
      rotate_left
      · intro w0 hSw; (try dsimp only at hSw); go_simp <;> with_reducible rfl
      try simp only [Act.put, List.getElem_toArray, List.getElem_cons_zero, List.getElem_cons_succ, List.setIfInBounds_toArray, List.set_cons_zero, List.set_cons_succ]
      refine wpAnyH_take (i := 12) (v := ?_) rfl (by kernel_rfl) (by kernel_rfl) (by kernel_rfl) (fun _ _ _ h => h) (Or.inl ⟨by rfl, ?_⟩) (by assumption) ?_
      rotate_left
      · intro w0 hSw; (try dsimp only at hSw); go_simp <;> with_reducible rfl
      try simp only [Act.put, List.getElem_toArray, List.getElem_cons_zero, List.getElem_cons_succ, List.setIfInBounds_toArray, List.set_cons_zero, List.set_cons_succ]
      refine wpAnyH_ready (rs := [4, 11]) (by kernel_rfl) (by simp) ?_
      refine AllReadyH.cons rfl (fun K hK => ?_) (AllReadyH.cons rfl (fun K hK => ?_) AllReadyH.nil)
      · go_simp
        refine hK.out _ _ (by (first | assumption | exact (HS.out _ q1).1 | exact (HS.out _ q2).1 | exact (HS.out _ (q2.setCell (.inl rfl) 0 _)).1 | exact ((K01.out.only q2 hne2).far hne2 _ |>.far hne0 _).cell 0)) (fun hHeld => ?_)
        clear hK K
        try simp only [Act.put, List.getElem_toArray, List.getElem_cons_zero, List.getElem_cons_succ, List.setIfInBounds_toArray, List.set_cons_zero, List.set_cons_succ]
        refine wpAnyH_take (i := 6) (v := ?_) rfl (by kernel_rfl) (by kernel_rfl) (by kernel_rfl) (fun _ _ _ h => h) (Or.inl ⟨by rfl, ?_⟩) (by assumption) ?_
        rotate_left
        · intro w0 hSw; (try dsimp only at hSw); go_simp <;> with_reducible rfl
        try simp only [Act.put, List.getElem_toArray, List.getElem_cons_zero, List.getElem_cons_succ, List.setIfInBounds_toArray, List.set_cons_zero, List.set_cons_succ]
        refine wpAnyH_ready (rs := [7, 11]) (by kernel_rfl) (by simp) ?_
        refine AllReadyH.cons rfl (fun K hK => ?_) (AllReadyH.cons rfl (fun K hK => ?_) AllReadyH.nil)
        · go_simp
          (go_at_call 16; refine CL.out.mono ?_; rintro e w2 ⟨v2, rfl, hown2, hb2⟩; obtain ⟨A5, c5, rfl, hc5, hc55, _⟩ := own_slice hown2; have q2 : Only (fun i => i = p2) w1 w2 := q1.below hb2; have q3 := HS.out _ q2; have q31 := q3.2; have q4 := HS.out _ (q2.setCell (.inl rfl) 0 (.slice A5 n c5)); have q41 := q4.2; have k22 : Blk w2 p2 24 #[.slice none 0 0] := K21.out.drew.below hb2 K21.out.lt; have f2 : w2.frozen? ⟨p2, 0, none⟩ = false := k22.frozen 0; have c2 : w2.cell? ⟨p2, 0, none⟩ = some (.slice none 0 0) := k22.cell 0; have kg2 := H3.out.blk.drew.below hb2 H3.out.blk.lt; have fg : w2.frozen? ⟨g, 0, none⟩ = false := kg2.frozen 0)
          refine hK.out _ _ (by (first | assumption | exact (HS.out _ q1).1 | exact (HS.out _ q2).1 | exact (HS.out _ (q2.setCell (.inl rfl) 0 _)).1 | exact ((K01.out.only q2 hne2).far hne2 _ |>.far hne0 _).cell 0)) (fun hHeld => ?_)
          clear hK K
          try simp only [Act.put, List.getElem_toArray, List.getElem_cons_zero, List.getElem_cons_succ, List.setIfInBounds_toArray, List.set_cons_zero, List.set_cons_succ]
          refine wpAnyH_ready (rs := [11]) (by kernel_rfl) (by simp) ?_
          refine AllReadyH.cons rfl (fun K hK => ?_) AllReadyH.nil
          go_simp
          refine hK.out _ _ (by (first | assumption | exact (HS.out _ q1).1 | exact (HS.out _ q2).1 | exact (HS.out _ (q2.setCell (.inl rfl) 0 _)).1 | exact ((K01.out.only q2 hne2).far hne2 _ |>.far hne0 _).cell 0)) (fun hHeld => ?_)
          clear hK K
          try simp only [Act.put, List.getElem_toArray, List.getElem_cons_zero, List.getElem_cons_succ, List.setIfInBounds_toArray, List.set_cons_zero, List.set_cons_succ]
          refine wpAnyH_take (i := 13) (v := ?_) rfl (by kernel_rfl) (by kernel_rfl) (by kernel_rfl) (fun _ _ _ h => h) (Or.inl ⟨by rfl, ?_⟩) (by assumption) ?_
          rotate_left
          · intro w0 hSw; (try dsimp only at hSw); go_simp <;> with_reducible rfl
          try simp only [Act.put, List.getElem_toArray, List.getElem_cons_zero, List.getElem_cons_succ, List.setIfInBounds_toArray, List.set_cons_zero, List.set_cons_succ]
          refine wpAnyH_ready (rs := [14]) (by kernel_rfl) (by simp) ?_
          refine AllReadyH.cons rfl (fun K hK => ?_) AllReadyH.nil
          go_simp
          refine hK.out _ _ (by (first | assumption | exact (HS.out _ q1).1 | exact (HS.out _ q2).1 | exact (HS.out _ (q2.setCell (.inl rfl) 0 _)).1 | exact ((K01.out.only q2 hne2).far hne2 _ |>.far hne0 _).cell 0)) (fun hHeld => ?_)
          clear hK K
          try simp only [Act.put, List.getElem_toArray, List.getElem_cons_zero, List.getElem_cons_succ, List.setIfInBounds_toArray, List.set_cons_zero, List.set_cons_succ]
          refine wpAnyH_take (i := 15) (v := ?_) rfl (by kernel_rfl) (by kernel_rfl) (by kernel_rfl) (fun _ _ _ h => h) (Or.inl ⟨by rfl, ?_⟩) (by assumption) ?_
          rotate_left
          · intro w0 hSw; (try dsimp only at hSw); go_simp <;> with_reducible rfl
          try simp only [Act.put, List.getElem_toArray, List.getElem_cons_zero, List.getElem_cons_succ, List.setIfInBounds_toArray, List.set_cons_zero, List.set_cons_succ]
          refine wpAnyH_take (i := 16) (v := ?_) rfl (by kernel_rfl) (by kernel_rfl) (by kernel_rfl) (fun _ _ _ h => h) (Or.inl ⟨by rfl, ?_⟩) (by assumption) ?_
          rotate_left
          · intro w0 hSw; (try dsimp only at hSw); go_simp <;> with_reducible rfl
          try simp only [Act.put, List.getElem_toArray, List.getElem_cons_zero, List.getElem_cons_succ, List.setIfInBounds_toArray, List.set_cons_zero, List.set_cons_succ]
          refine wpAnyH_ready (rs := [17]) (by kernel_rfl) (by simp) ?_
          refine AllReadyH.cons rfl (fun K hK => ?_) AllReadyH.nil
          go_simp
          refine hK.out _ _ (by (first | assumption | exact (HS.out _ q1).1 | exact (HS.out _ q2).1 | exact (HS.out _ (q2.setCell (.inl rfl) 0 _)).1 | exact ((K01.out.only q2 hne2).far hne2 _ |>.far hne0 _).cell 0)) (fun hHeld => ?_)
          clear hK K
          try simp only [Act.put, List.getElem_toArray, List.getElem_cons_zero, List.getElem_cons_succ, List.setIfInBounds_toArray, List.set_cons_zero, List.set_cons_succ]
          refine wpAnyH_done (by kernel_rfl) ?_ _
          (go_end0; exact blob_end hne hB hlg hp2 hln hmc hcm HR.out H3.out H4.out HA2.out hown2 hb2 k22 kg2)
        · go_simp
          refine hK.out _ _ (by (first | assumption | exact (HS.out _ q1).1 | exact (HS.out _ q2).1 | exact (HS.out _ (q2.setCell (.inl rfl) 0 _)).1 | exact ((K01.out.only q2 hne2).far hne2 _ |>.far hne0 _).cell 0)) (fun hHeld => ?_)
          clear hK K
          try simp only [Act.put, List.getElem_toArray, List.getElem_cons_zero, List.getElem_cons_succ, List.setIfInBounds_toArray, List.set_cons_zero, List.set_cons_succ]
          refine wpAnyH_take (i := 13) (v := ?_) rfl (by kernel_rfl) (by kernel_rfl) (by kernel_rfl) (fun _ _ _ h => h) (Or.inl ⟨by rfl, ?_⟩) (by assumption) ?_
          rotate_left
          · intro w0 hSw; (try dsimp only at hSw); go_simp <;> with_reducible rfl
          try simp only [Act.put, List.getElem_toArray, List.getElem_cons_zero, List.getElem_cons_succ, List.setIfInBounds_toArray, List.set_cons_zero, List.set_cons_succ]
          refine wpAnyH_ready (rs := [7]) (by kernel_rfl) (by simp) ?_
          refine AllReadyH.cons rfl (fun K hK => ?_) AllReadyH.nil
          go_simp
          (go_at_call 16; refine CL.out.mono ?_; rintro e w2 ⟨v2, rfl, hown2, hb2⟩; obtain ⟨A5, c5, rfl, hc5, hc55, _⟩ := own_slice hown2; have q2 : Only (fun i => i = p2) w1 w2 := q1.below hb2; have q3 := HS.out _ q2; have q31 := q3.2; have q4 := HS.out _ (q2.setCell (.inl rfl) 0 (.slice A5 n c5)); have q41 := q4.2; have k22 : Blk w2 p2 24 #[.slice none 0 0] := K21.out.drew.below hb2 K21.out.lt; have f2 : w2.frozen? ⟨p2, 0, none⟩ = false := k22.frozen 0; have c2 : w2.cell? ⟨p2, 0, none⟩ = some (.slice none 0 0) := k22.cell 0; have kg2 := H3.out.blk.drew.below hb2 H3.out.blk.lt; have fg : w2.frozen? ⟨g, 0, none⟩ = false := kg2.frozen 0)
          refine hK.out _ _ (by (first | assumption | exact (HS.out _ q1).1 | exact (HS.out _ q2).1 | exact (HS.out _ (q2.setCell (.inl rfl) 0 _)).1 | exact ((K01.out.only q2 hne2).far hne2 _ |>.far hne0 _).cell 0)) (fun hHeld => ?_)
          clear hK K
          try simp only [Act.put, List.getElem_toArray, List.getElem_cons_zero, List.getElem_cons_succ, List.setIfInBounds_toArray, List.set_cons_zero, List.set_cons_succ]
          refine wpAnyH_ready (rs := [14]) (by kernel_rfl) (by simp) ?_
          refine AllReadyH.cons rfl (fun K hK => ?_) AllReadyH.nil
          go_simp
          refine hK.out _ _ (by (first | assumption | exact (HS.out _ q1).1 | exact (HS.out _ q2).1 | exact (HS.out _ (q2.setCell (.inl rfl) 0 _)).1 | exact ((K01.out.only q2 hne2).far hne2 _ |>.far hne0 _).cell 0)) (fun hHeld => ?_)
          clear hK K
          try simp only [Act.put, List.getElem_toArray, List.getElem_cons_zero, List.getElem_cons_succ, List.setIfInBounds_toArray, List.set_cons_zero, List.set_cons_succ]
          refine wpAnyH_take (i := 15) (v := ?_) rfl (by kernel_rfl) (by kernel_rfl) (by kernel_rfl) (fun _ _ _ h => h) (Or.inl ⟨by rfl, ?_⟩) (by assumption) ?_
          rotate_left
          · intro w0 hSw; (try dsimp only at hSw); go_simp <;> with_reducible rfl
          try simp only [Act.put, List.getElem_toArray, List.getElem_cons_zero, List.getElem_cons_succ, List.setIfInBounds_toArray, List.set_cons_zero, List.set_cons_succ]
          refine wpAnyH_take (i := 16) (v := ?_) rfl (by kernel_rfl) (by kernel_rfl) (by kernel_rfl) (fun _ _ _ h => h) (Or.inl ⟨by rfl, ?_⟩) (by assumption) ?_
          rotate_left
          · intro w0 hSw; (try dsimp only at hSw); go_simp <;> with_reducible rfl
          try simp only [Act.put, List.getElem_toArray, List.getElem_cons_zero, List.getElem_cons_succ, List.setIfInBounds_toArray, List.set_cons_zero, List.set_cons_succ]
          refine wpAnyH_ready (rs := [17]) (by kernel_rfl) (by simp) ?_
          refine AllReadyH.cons rfl (fun K hK => ?_) AllReadyH.nil
          go_simp
          refine hK.out _ _ (by (first | assumption | exact (HS.out _ q1).1 | exact (HS.out _ q2).1 | exact (HS.out _ (q2.setCell (.inl rfl) 0 _)).1 | exact ((K01.out.only q2 hne2).far hne2 _ |>.far hne0 _).cell 0)) (fun hHeld => ?_)
          clear hK K
          try simp only [Act.put, List.getElem_toArray, List.getElem_cons_zero, List.getElem_cons_succ, List.setIfInBounds_toArray, List.set_cons_zero, List.set_cons_succ]
          refine wpAnyH_done (by kernel_rfl) ?_ _
          (go_end0; exact blob_end hne hB hlg hp2 hln hmc hcm HR.out H3.out H4.out HA2.out hown2 hb2 k22 kg2)
      · go_simp
        refine hK.out _ _ (by (first | assumption | exact (HS.out _ q1).1 | exact (HS.out _ q2).1 | exact (HS.out _ (q2.setCell (.inl rfl) 0 _)).1 | exact ((K01.out.only q2 hne2).far hne2 _ |>.far hne0 _).cell 0)) (fun hHeld => ?_)
        clear hK K
        try simp only [Act.put, List.getElem_toArray, List.getElem_cons_zero, List.getElem_cons_succ, List.setIfInBounds_toArray, List.set_cons_zero, List.set_cons_succ]
        refine wpAnyH_take (i := 13) (v := ?_) rfl (by kernel_rfl) (by kernel_rfl) (by kernel_rfl) (fun _ _ _ h => h) (Or.inl ⟨by rfl, ?_⟩) (by assumption) ?_
        rotate_left
        · intro w0 hSw; (try dsimp only at hSw); go_simp <;> with_reducible rfl
        try simp only [Act.put, List.getElem_toArray, List.getElem_cons_zero, List.getElem_cons_succ, List.setIfInBounds_toArray, List.set_cons_zero, List.set_cons_succ]
        refine wpAnyH_ready (rs := [4]) (by kernel_rfl) (by simp) ?_
        refine AllReadyH.cons rfl (fun K hK => ?_) AllReadyH.nil
        go_simp
        refine hK.out _ _ (by (first | assumption | exact (HS.out _ q1).1 | exact (HS.out _ q2).1 | exact (HS.out _ (q2.setCell (.inl rfl) 0 _)).1 | exact ((K01.out.only q2 hne2).far hne2 _ |>.far hne0 _).cell 0)) (fun hHeld => ?_)
        clear hK K
        try simp only [Act.put, List.getElem_toArray, List.getElem_cons_zero, List.getElem_cons_succ, List.setIfInBounds_toArray, List.set_cons_zero, List.set_cons_succ]
        refine wpAnyH_take (i := 6) (v := ?_) rfl (by kernel_rfl) (by kernel_rfl) (by kernel_rfl) (fun _ _ _ h => h) (Or.inl ⟨by rfl, ?_⟩) (by assumption) ?_
        rotate_left
        · intro w0 hSw; (try dsimp only at hSw); go_simp <;> with_reducible rfl
        try simp only [Act.put, List.getElem_toArray, List.getElem_cons_zero, List.getElem_cons_succ, List.setIfInBounds_toArray, List.set_cons_zero, List.set_cons_succ]
        refine wpAnyH_ready (rs := [7]) (by kernel_rfl) (by simp) ?_
        refine AllReadyH.cons rfl (fun K hK => ?_) AllReadyH.nil
        go_simp
        (go_at_call 16; refine CL.out.mono ?_; rintro e w2 ⟨v2, rfl, hown2, hb2⟩; obtain ⟨A5, c5, rfl, hc5, hc55, _⟩ := own_slice hown2; have q2 : Only (fun i => i = p2) w1 w2 := q1.below hb2; have q3 := HS.out _ q2; have q31 := q3.2; have q4 := HS.out _ (q2.setCell (.inl rfl) 0 (.slice A5 n c5)); have q41 := q4.2; have k22 : Blk w2 p2 24 #[.slice none 0 0] := K21.out.drew.below hb2 K21.out.lt; have f2 : w2.frozen? ⟨p2, 0, none⟩ = false := k22.frozen 0; have c2 : w2.cell? ⟨p2, 0, none⟩ = some (.slice none 0 0) := k22.cell 0; have kg2 := H3.out.blk.drew.below hb2 H3.out.blk.lt; have fg : w2.frozen? ⟨g, 0, none⟩ = false := kg2.frozen 0)
        refine hK.out _ _ (by (first | assumption | exact (HS.out _ q1).1 | exact (HS.out _ q2).1 | exact (HS.out _ (q2.setCell (.inl rfl) 0 _)).1 | exact ((K01.out.only q2 hne2).far hne2 _ |>.far hne0 _).cell 0)) (fun hHeld => ?_)
        clear hK K
        try simp only [Act.put, List.getElem_toArray, List.getElem_cons_zero, List.getElem_cons_succ, List.setIfInBounds_toArray, List.set_cons_zero, List.set_cons_succ]
        refine wpAnyH_ready (rs := [14]) (by kernel_rfl) (by simp) ?_
        refine AllReadyH.cons rfl (fun K hK => ?_) AllReadyH.nil
        go_simp
        refine hK.out _ _ (by (first | assumption | exact (HS.out _ q1).1 | exact (HS.out _ q2).1 | exact (HS.out _ (q2.setCell (.inl rfl) 0 _)).1 | exact ((K01.out.only q2 hne2).far hne2 _ |>.far hne0 _).cell 0)) (fun hHeld => ?_)
        clear hK K
        try simp only [Act.put, List.getElem_toArray, List.getElem_cons_zero, List.getElem_cons_succ, List.setIfInBounds_toArray, List.set_cons_zero, List.set_cons_succ]
        refine wpAnyH_take (i := 15) (v := ?_) rfl (by kernel_rfl) (by kernel_rfl) (by kernel_rfl) (fun _ _ _ h => h) (Or.inl ⟨by rfl, ?_⟩) (by assumption) ?_
        rotate_left
        · intro w0 hSw; (try dsimp only at hSw); go_simp <;> with_reducible rfl
        try simp only [Act.put, List.getElem_toArray, List.getElem_cons_zero, List.getElem_cons_succ, List.setIfInBounds_toArray, List.set_cons_zero, List.set_cons_succ]
        refine wpAnyH_take (i := 16) (v := ?_) rfl (by kernel_rfl) (by kernel_rfl) (by kernel_rfl) (fun _ _ _ h => h) (Or.inl ⟨by rfl, ?_⟩) (by assumption) ?_
        rotate_left
        · intro w0 hSw; (try dsimp only at hSw); go_simp <;> with_reducible rfl
        try simp only [Act.put, List.getElem_toArray, List.getElem_cons_zero, List.getElem_cons_succ, List.setIfInBounds_toArray, List.set_cons_zero, List.set_cons_succ]
        refine wpAnyH_ready (rs := [17]) (by kernel_rfl) (by simp) ?_
        refine AllReadyH.cons rfl (fun K hK => ?_) AllReadyH.nil
        go_simp
        refine hK.out _ _ (by (first | assumption | exact (HS.out _ q1).1 | exact (HS.out _ q2).1 | exact (HS.out _ (q2.setCell (.inl rfl) 0 _)).1 | exact ((K01.out.only q2 hne2).far hne2 _ |>.far hne0 _).cell 0)) (fun hHeld => ?_)
        clear hK K
        try simp only [Act.put, List.getElem_toArray, List.getElem_cons_zero, List.getElem_cons_succ, List.setIfInBounds_toArray, List.set_cons_zero, List.set_cons_succ]
        refine wpAnyH_done (by kernel_rfl) ?_ _
        (go_end0; exact blob_end hne hB hlg hp2 hln hmc hcm HR.out H3.out H4.out HA2.out hown2 hb2 k22 kg2)
      -- END
end Go.Proofs.Ytnknefchpepegaa
