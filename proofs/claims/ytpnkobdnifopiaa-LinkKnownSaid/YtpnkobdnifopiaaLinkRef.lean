/-
  The document's link: a row of messages.
-/
import Derived.Test.YtpnkobdnifopiaaLinkNew
namespace Go.Proofs.Ytpnkobdnifopiaa
set_option linter.unusedVariables false
set_option linter.unusedSimpArgs false
open Go.RowKit
def msgC (m : Msg) : List Value := [ival m.k, ival m.n, ival m.key, ival m.v]
def cellsL (L : List Msg) : List Value := L.flatMap msgC
theorem cellsL_len (L : List Msg) : (cellsL L).length = L.length * 4 := by
  induction L with
  | nil => rfl
  | cons m L ih =>
    show (msgC m ++ cellsL L).length = _
    rw [List.length_append, ih, List.length_cons]
    simp [msgC]
    omega
theorem cellsL_push (L : List Msg) (m : Msg) : cellsL (L ++ [m]) = cellsL L ++ msgC m := by simp [cellsL]
theorem cellsL_at (L : List Msg) (k j : Nat) (hj : j < 4) (m : Msg) (h : L[k]? = some m) : (cellsL L)[k * 4 + j]? = (msgC m)[j]? := by
  induction L generalizing k with
  | nil => cases h
  | cons x L ih =>
    show (msgC x ++ cellsL L)[k * 4 + j]? = _
    have hx : (msgC x).length = 4 := rfl
    cases k with
    | zero =>
      simp only [List.getElem?_cons_zero, Option.some.injEq] at h
      subst h
      rw [List.getElem?_append_left (by omega)]
      simp
    | succ k =>
      rw [List.getElem?_append_right (by omega), hx, show (k + 1) * 4 + j - 4 = k * 4 + j by omega]
      exact ih k (by simpa using h)
structure RAt (w : World) (base g most : Nat) (v : Value) (L : List Msg) : Prop where
  blk : Blk w g 50 #[v, ival most]
  own : w.ownsRow base 31 4 v L.length (cellsL L)
  bg : base ≤ g
theorem elMsg : ElemInfo Try.prog 42 31 4 32 := ElemInfo.mk' (z := msgV Msg.zero) Try.underlying42 (by kernel_rfl) rfl (by decide) (by decide)
set_option maxRecDepth 100000 in
set_option maxHeartbeats 1000000 in
theorem rlen_any (base g most : Nat) (v : Value) (L : List Msg) (w : World) (h : RAt w base g most v L) :
    Calls Try.prog 18 #[.pointer (some ⟨g, 0, none⟩)] w fun e w' => e = .returned (.int .i64 (L.length : Int)) ∧ w = w' := by
  obtain ⟨A, c, hv, hc, hm, hb⟩ := own_slice h.own
  have c0 : w.cell? ⟨g, 0, none⟩ = some (.slice A L.length c) := by rw [← hv]; exact h.blk.cell 0
  clear h hv
  go_enter Try.func18, Try.ntmps18
  go_wp2_with fail
  go_ret
  exact ⟨rfl, rfl⟩
set_option maxRecDepth 100000 in
set_option maxHeartbeats 1000000 in
theorem rroom_any (base g most : Nat) (v : Value) (L : List Msg) (w : World) (hm64 : most ≤ 64) (hL : L.length ≤ most) (h : RAt w base g most v L) :
    Calls Try.prog 20 #[.pointer (some ⟨g, 0, none⟩)] w fun e w' => e = .returned (.int .i64 ((most : Int) - (L.length : Int))) ∧ w' = w.drew := by
  obtain ⟨A, c, hv, hc, hm, hb⟩ := own_slice h.own
  have c0 : w.cell? ⟨g, 0, none⟩ = some (.slice A L.length c) := by rw [← hv]; exact h.blk.cell 0
  have c1 : w.cell? ⟨g, 1, none⟩ = some (ival most) := h.blk.cell 1
  have hq : IntKind.i64.wrap ((most : Int) - (L.length : Int)) = (most : Int) - (L.length : Int) := IntWalk.i64_in _ (by omega)
  clear h hv
  go_enter Try.func20, Try.ntmps20
  go_wp2_with fail
  go_region
  all_goals
    go_wp2_with fail
    go_ret
    exact ⟨rfl, rfl⟩
set_option maxRecDepth 100000 in
set_option maxHeartbeats 4000000 in
theorem rpeek_any (base g most : Nat) (v : Value) (L : List Msg) (w : World) (h : RAt w base g most v L) :
    Calls Try.prog 16 #[.pointer (some ⟨g, 0, none⟩)] w fun e w' => e = .returned (.tuple #[msgV (L.headD Msg.zero), .bool (!L.isEmpty)]) ∧ Below w.heap.size w w' := by
  obtain ⟨A, c, hv, hc, hm, hb⟩ := own_slice h.own
  have c0 : w.cell? ⟨g, 0, none⟩ = some (.slice A L.length c) := by rw [← hv]; exact h.blk.cell 0
  have hlt := h.blk.lt
  have hne : w.heap.size ≠ g := by omega
  rcases L with _ | ⟨m, L⟩
  · clear h hv
    go_enter Try.func16, Try.ntmps16
    go_wp2_with fail
    refine end_msg2 rfl rfl rfl (heap_alloc_new w _) rfl rfl ?_
    exact ⟨rfl, (Below.refl _ _).alloc (Nat.le_refl _) _⟩
  · obtain ⟨b, cap, hvb, _, hblt⟩ := h.own.form (by simp)
    have hA : A = some ⟨b, 0, none⟩ := by rw [hv] at hvb; injection hvb
    subst hA
    have hl := h.own
    rw [hv] at hl
    have e0 : w.cell? ⟨b, 0, none⟩ = some (ival m.k) := hl.cellAt 0 (by simp)
    have e1 : w.cell? ⟨b, 1, none⟩ = some (ival m.n) := hl.cellAt 1 (by simp; omega)
    have e2 : w.cell? ⟨b, 2, none⟩ = some (ival m.key) := hl.cellAt 2 (by simp; omega)
    have e3 : w.cell? ⟨b, 3, none⟩ = some (ival m.v) := hl.cellAt 3 (by simp; omega)
    have hnb : w.heap.size ≠ b := by omega
    clear h hv hvb hl
    have hd : decide (((L.length + 1 : Nat) : Int) = 0) = false := by simp; omega
    generalize hn : L.length = n at *
    simp only [List.length_cons, hn] at *
    go_enter Try.func16, Try.ntmps16
    go_wp2_with fail
    refine end_msg2 rfl rfl rfl (heap_alloc_new w _) rfl rfl ?_
    exact ⟨rfl, (Below.refl _ _).alloc (Nat.le_refl _) _⟩
end Go.Proofs.Ytpnkobdnifopiaa
