/-
  (*pack.Reader).count, and the closures of Int and Count.
-/
import Derived.Test.YtnknefchpepegaaPackRead
namespace Go.Proofs.Ytnknefchpepegaa
set_option linter.unusedVariables false
set_option linter.unusedSimpArgs false
open Go.RowKit
/-- A number from 0 to most. -/
def cnt (most : Int) (bs : List UInt8) : Nat ⊕ (Nat × List UInt8) :=
  match rd bs 0 0 with
  | .inl k => .inl k
  | .inr (u, l) => if zag u < 0 ∨ most < zag u then .inl 3 else .inr (u, l)
/-- What a reading that may panic leaves. -/
def StepPost (g B : Nat) (er : Int) (w : World) (r : Nat ⊕ (Nat × List UInt8)) (e : Ending) (w' : World) : Prop :=
  (∃ k : Nat, r = .inl k ∧ e = .panicked (stopP (k : Int)) ∧ Only (fun i => i = g) w w' ∧ ∃ A2 m2 c2, Blk w' g 43 #[.slice A2 m2 c2, .int .i64 er]) ∨
  ∃ u l A' c', r = .inr (u, l) ∧ u < 18446744073709551616 ∧ e = .returned (.int .i64 (zag u)) ∧ RdAt w' g B l er A' l.length c' ∧ Only (fun i => i = g) w w'
theorem number_step (g B : Nat) (bs : List UInt8) (er : Int) (A : Option Addr) (m c : Nat) (w : World) (h : RdAt w g B bs er A m c) :
    Calls Try.prog 19 #[.pointer (some ⟨g, 0, none⟩)] w (StepPost g B er w (rd bs 0 0)) := by
  refine (number_any g B bs er A m c w h).mono ?_
  rintro e w' (⟨k, h1, rfl, rfl⟩ | ⟨u, l, A', c', h1, h2, rfl, h3, rfl⟩)
  · exact .inl ⟨k, h1, rfl, Only.refl _ _, _, _, _, h.blk⟩
  · exact .inr ⟨u, l, A', c', h1, h2, rfl, h3, (Only.refl (fun i => i = g) w).setCell (.inl rfl) 0 _⟩
set_option maxRecDepth 100000 in
set_option maxHeartbeats 1000000 in
theorem count_any (g B : Nat) (bs : List UInt8) (er most : Int) (A : Option Addr) (m c : Nat) (w : World) (h : RdAt w g B bs er A m c) :
    Calls Try.prog 21 #[.pointer (some ⟨g, 0, none⟩), .int .i64 most] w (StepPost g B er w (cnt most bs)) := by
  have C1 := Lib.hid (number_step g B bs er A m c w h)
  have HC : Hid (cnt most bs = match rd bs 0 0 with | .inl k => .inl k | .inr (u, l) => if zag u < 0 ∨ most < zag u then .inl 3 else .inr (u, l)) := rfl
  clear h
  generalize rd bs 0 0 = r at *
  generalize cnt most bs = r' at *
  go_enter Try.func21, Try.ntmps21
  go_wp2_with fail
  go_must (refine C1.out.mono ?_)
  rintro e w' (⟨k, rfl, rfl, h2, A2, m2, c2, h3⟩ | ⟨u, l, A', c', rfl, h2, rfl, h3, h4⟩)
  · have H2 := Lib.hid h2
    have H3 := Lib.hid h3
    clear h2 h3 C1
    go_wp2_with fail
    exact ⟨rfl, .inl ⟨k, HC.out, rfl, H2.out, A2, m2, c2, H3.out⟩⟩
  · have H2 := Lib.hid h2
    have H3 := Lib.hid h3
    have H4 := Lib.hid h4
    have HC : Hid (r' = if zag u < 0 ∨ most < zag u then .inl 3 else .inr (u, l)) := HC.out
    clear h2 h3 h4 C1
    generalize hz : zag u = z at *
    have HZ := Lib.hid hz
    clear hz
    by_cases h1 : z < 0
    · have HB : Hid (r' = .inl 3) := by have := HC.out; rw [if_pos (.inl h1)] at this; exact this
      clear HC
      go_wp2_with fail
      exact ⟨rfl, .inl ⟨3, HB.out, rfl, H4.out, A', _, c', H3.out.blk⟩⟩
    · by_cases h5 : most < z
      · have HB : Hid (r' = .inl 3) := by have := HC.out; rw [if_pos (.inr h5)] at this; exact this
        clear HC
        go_wp2_with fail
        exact ⟨rfl, .inl ⟨3, HB.out, rfl, H4.out, A', _, c', H3.out.blk⟩⟩
      · have HB : Hid (r' = .inr (u, l)) := by have := HC.out; rw [if_neg (by omega)] at this; exact this
        clear HC
        go_wp2_with fail
        go_ret
        exact .inr ⟨u, l, A', c', HB.out, H2.out, by rw [HZ.out]; rfl, H3.out, H4.out⟩
/-- What a closure that reads a number leaves: the number in the cell p2. -/
def CloPost (g B p2 : Nat) (w : World) (r : Nat ⊕ (Nat × List UInt8)) (e : Ending) (w' : World) : Prop :=
      (∃ k : Nat, r = .inl k ∧ e = .panicked (stopP (k : Int)) ∧ Only (fun i => i = g) w w' ∧ ∃ A2 m2 c2, Blk w' g 43 #[.slice A2 m2 c2, .int .i64 0]) ∨
      ∃ u l A' c', r = .inr (u, l) ∧ e = .returned (.tuple #[]) ∧ RdAt w' g B l 0 A' l.length c' ∧ Blk w' p2 3 #[.int .i64 (zag u)] ∧ Only (fun i => i = g ∨ i = p2) w w'
set_option maxRecDepth 100000 in
set_option maxHeartbeats 1000000 in
/-- Int's closure: what it leaves beside the reader: the cell p2. -/
theorem intClo_any (g B p0 p2 : Nat) (bs : List UInt8) (x0 : Int) (A : Option Addr) (m c : Nat) (w : World) (h : RdAt w g B bs 0 A m c) (k0 : Blk w p0 27 #[.pointer (some ⟨g, 0, none⟩)]) (k2 : Blk w p2 3 #[.int .i64 x0]) (hB : B ≤ p2) :
    Calls Try.prog 18 #[.pointer (some ⟨p0, 0, none⟩), .pointer (some ⟨p2, 0, none⟩)] w (CloPost g B p2 w (rd bs 0 0)) := by
  have C1 := Lib.hid (number_step g B bs 0 A m c w h)
  have y0 : w.cell? ⟨p0, 0, none⟩ = some (.pointer (some ⟨g, 0, none⟩)) := k0.cell 0
  have hne : p2 ≠ g := Blk.ne_ k2 h.blk (by decide)
  have K2 := Lib.hid k2
  clear h k0 k2
  generalize hr : rd bs 0 0 = r at *
  clear hr
  go_enter Try.func18, Try.ntmps18
  go_wp2_with fail
  go_must (refine C1.out.mono ?_)
  rintro e w' (⟨k, rfl, rfl, h2, A2, m2, c2, h3⟩ | ⟨u, l, A', c', rfl, h2, rfl, h3, h4⟩)
  · have H2 := Lib.hid h2
    have H3 := Lib.hid h3
    clear h2 h3 C1
    go_wp2_with fail
    exact ⟨rfl, .inl ⟨k, rfl, rfl, H2.out, A2, m2, c2, H3.out⟩⟩
  · have K3 := Lib.hid (K2.out.only h4 hne)
    have x1 : w'.cell? ⟨p2, 0, none⟩ = some (.int .i64 x0) := K3.out.cell 0
    have z1 : w'.frozen? ⟨p2, 0, none⟩ = false := K3.out.frozen 0
    have H3 := Lib.hid h3
    have H4 := Lib.hid h4
    clear h2 h3 h4 C1
    generalize hz : zag u = z at *
    have HZ := Lib.hid hz
    clear hz
    go_wp2_with fail
    go_end0
    have h3 := H3.out
    exact .inr ⟨u, l, A', c', rfl, rfl, ⟨h3.blk.far (fun h => hne h.symm) _, h3.rd.setCell hB _, h3.mc, h3.cm, h3.bp⟩, by rw [HZ.out]; exact K3.out.set_ 0 _, (H4.out.mono (fun i hi => .inl hi)).setCell (.inl (.inr rfl)) 0 _⟩
set_option maxRecDepth 100000 in
set_option maxHeartbeats 1000000 in
/-- Count's closure: what it leaves beside the reader: the cell p2. -/
theorem countClo_any (g B p0 p1 p2 : Nat) (bs : List UInt8) (most : Int) (x0 : Int) (A : Option Addr) (m c : Nat) (w : World) (h : RdAt w g B bs 0 A m c) (k0 : Blk w p0 27 #[.pointer (some ⟨g, 0, none⟩)]) (k1 : Blk w p1 3 #[.int .i64 most]) (k2 : Blk w p2 3 #[.int .i64 x0]) (hB : B ≤ p2) :
    Calls Try.prog 22 #[.pointer (some ⟨p0, 0, none⟩), .pointer (some ⟨p1, 0, none⟩), .pointer (some ⟨p2, 0, none⟩)] w (CloPost g B p2 w (cnt most bs)) := by
  have C1 := Lib.hid (count_any g B bs 0 most A m c w h)
  have y0 : w.cell? ⟨p0, 0, none⟩ = some (.pointer (some ⟨g, 0, none⟩)) := k0.cell 0
  have y1 : w.cell? ⟨p1, 0, none⟩ = some (.int .i64 most) := k1.cell 0
  have hne : p2 ≠ g := Blk.ne_ k2 h.blk (by decide)
  have K2 := Lib.hid k2
  clear h k0 k1 k2
  generalize hr : cnt most bs = r at *
  clear hr
  go_enter Try.func22, Try.ntmps22
  go_wp2_with fail
  go_must (refine C1.out.mono ?_)
  rintro e w' (⟨k, rfl, rfl, h2, A2, m2, c2, h3⟩ | ⟨u, l, A', c', rfl, h2, rfl, h3, h4⟩)
  · have H2 := Lib.hid h2
    have H3 := Lib.hid h3
    clear h2 h3 C1
    go_wp2_with fail
    exact ⟨rfl, .inl ⟨k, rfl, rfl, H2.out, A2, m2, c2, H3.out⟩⟩
  · have K3 := Lib.hid (K2.out.only h4 hne)
    have x1 : w'.cell? ⟨p2, 0, none⟩ = some (.int .i64 x0) := K3.out.cell 0
    have z1 : w'.frozen? ⟨p2, 0, none⟩ = false := K3.out.frozen 0
    have H3 := Lib.hid h3
    have H4 := Lib.hid h4
    clear h2 h3 h4 C1
    generalize hz : zag u = z at *
    have HZ := Lib.hid hz
    clear hz
    go_wp2_with fail
    go_end0
    have h3 := H3.out
    exact .inr ⟨u, l, A', c', rfl, rfl, ⟨h3.blk.far (fun h => hne h.symm) _, h3.rd.setCell hB _, h3.mc, h3.cm, h3.bp⟩, by rw [HZ.out]; exact K3.out.set_ 0 _, (H4.out.mono (fun i hi => .inl hi)).setCell (.inl (.inr rfl)) 0 _⟩
end Go.Proofs.Ytnknefchpepegaa
