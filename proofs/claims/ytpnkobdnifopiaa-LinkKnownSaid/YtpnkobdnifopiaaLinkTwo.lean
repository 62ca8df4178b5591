/-
  A link beside the document's link: what each call leaves of both.
-/
import Derived.Test.YtpnkobdnifopiaaLinkWorks
namespace Go.Proofs.Ytpnkobdnifopiaa
set_option linter.unusedVariables false
set_option linter.unusedSimpArgs false
open Go.RowKit
structure LR (W w : World) (gl gc B g most : Nat) (La Lb : List Msg) : Prop where
  l : LAt w W.heap.size gl gc most La
  r : ∃ v, RAt w B g most v Lb
  lt1 : gl < B
  lt2 : gc < B
  hB : B ≤ w.heap.size
  hW : W.heap.size ≤ B
  rl : Lb.length ≤ most
  bel : Below W.heap.size W w
section
variable {W w w' : World} {gl gc B g most : Nat} {La Lb L' : List Msg}
theorem LR.below (h : LR W w gl gc B g most La Lb) (hb : Below w.heap.size w w') : LR W w' gl gc B g most La Lb := by
  obtain ⟨v, hr⟩ := h.r
  exact ⟨h.l.below hb, ⟨v, hr.below hb⟩, h.lt1, h.lt2, Nat.le_trans h.hB hb.size, h.hW, h.rl, h.bel.trans (hb.mono h.bel.size)⟩
theorem LR.left (h : LR W w gl gc B g most La Lb) (h' : LAt w' W.heap.size gl gc most L') (ho : Only (LinkS gl gc) w w') : LR W w' gl gc B g most L' Lb := by
  obtain ⟨v, hr⟩ := h.r
  exact ⟨h', ⟨v, hr.link ho h.lt1 h.lt2⟩, h.lt1, h.lt2, Nat.le_trans h.hB ho.size, h.hW, h.rl, h.bel.trans (ho.to (fun i hi => by rcases hi with rfl | rfl; exact h.l.bl; exact h.l.bc) h.bel.size)⟩
theorem LR.right (h : LR W w gl gc B g most La Lb) (h' : ∃ v, RAt w' B g most v L') (hl : L'.length ≤ most) (hb : Below B w w') : LR W w' gl gc B g most La L' :=
  ⟨h.l.ref hb h.lt1 h.lt2, h', h.lt1, h.lt2, Nat.le_trans h.hB hb.size, h.hW, hl, h.bel.trans (hb.mono h.hW)⟩
theorem lr_push (m : Msg) (h : LR W w gl gc B g most La Lb) : Calls Try.prog 11 #[.pointer (some ⟨gl, 0, none⟩), msgV m] w fun e w' => e = .returned (.bool (pushOk most La)) ∧ LR W w' gl gc B g most (pushL most La m) Lb ∧ Only (LinkS gl gc) w w' :=
  (push_any _ gl gc most La m w h.l).mono fun e w' ⟨he, h1, ho⟩ => ⟨he, h.left h1 ho, ho⟩
theorem lr_pop (h : LR W w gl gc B g most La Lb) : Calls Try.prog 13 #[.pointer (some ⟨gl, 0, none⟩)] w fun e w' => e = .returned (.tuple #[msgV (La.headD Msg.zero), .bool (!La.isEmpty)]) ∧ LR W w' gl gc B g most La.tail Lb ∧ Only (LinkS gl gc) w w' :=
  (pop_any _ gl gc most La w h.l).mono fun e w' ⟨he, h1, ho⟩ => ⟨he, h.left h1 ho, ho⟩
theorem lr_peek (h : LR W w gl gc B g most La Lb) : Calls Try.prog 15 #[.pointer (some ⟨gl, 0, none⟩)] w fun e w' => e = .returned (.tuple #[msgV (La.headD Msg.zero), .bool (!La.isEmpty)]) ∧ LR W w' gl gc B g most La Lb ∧ Below w.heap.size w w' :=
  (peek_any _ gl gc most La w h.l).mono fun e w' ⟨he, h1⟩ => ⟨he, h.below h1, h1⟩
theorem lr_len (h : LR W w gl gc B g most La Lb) : Calls Try.prog 17 #[.pointer (some ⟨gl, 0, none⟩)] w fun e w' => e = .returned (.int .i64 (La.length : Int)) ∧ w = w' :=
  len_any _ gl gc most La w h.l
theorem lr_room (h : LR W w gl gc B g most La Lb) : Calls Try.prog 19 #[.pointer (some ⟨gl, 0, none⟩)] w fun e w' => e = .returned (.int .i64 ((most : Int) - (La.length : Int))) ∧ ∃ q, w' = w.drewN q :=
  room_any _ gl gc most La w h.l
theorem pushL_len (most : Nat) (L : List Msg) (m : Msg) (h : L.length ≤ most) : (pushL most L m).length ≤ most := by
  unfold pushL
  split
  · rw [List.length_append, List.length_singleton]; omega
  · exact h
theorem lr_rpush (m : Msg) (h : LR W w gl gc B g most La Lb) : Calls Try.prog 12 #[.pointer (some ⟨g, 0, none⟩), msgV m] w fun e w' => e = .returned (.bool (pushOk most Lb)) ∧ LR W w' gl gc B g most La (pushL most Lb m) ∧ Below B w w' := by
  obtain ⟨v, hr⟩ := h.r
  exact (rpush_any B g most v Lb m w h.l.hi hr).mono fun e w' ⟨he, h1, hb⟩ => ⟨he, h.right h1 (pushL_len _ _ _ h.rl) hb, hb⟩
theorem lr_rpop (h : LR W w gl gc B g most La Lb) : Calls Try.prog 14 #[.pointer (some ⟨g, 0, none⟩)] w fun e w' => e = .returned (.tuple #[msgV (Lb.headD Msg.zero), .bool (!Lb.isEmpty)]) ∧ LR W w' gl gc B g most La Lb.tail ∧ Below B w w' ∧ Only (fun i => i = g) w w' := by
  obtain ⟨v, hr⟩ := h.r
  have h1 := h.rl
  have h2 := h.l.hi
  exact (rpop_any B g most v Lb w (by omega) hr).mono fun e w' ⟨he, h1, hb, ho⟩ => ⟨he, h.right h1 (by have := h.rl; simp; omega) hb, hb, ho⟩
theorem lr_rpeek (h : LR W w gl gc B g most La Lb) : Calls Try.prog 16 #[.pointer (some ⟨g, 0, none⟩)] w fun e w' => e = .returned (.tuple #[msgV (Lb.headD Msg.zero), .bool (!Lb.isEmpty)]) ∧ LR W w' gl gc B g most La Lb ∧ Below w.heap.size w w' := by
  obtain ⟨v, hr⟩ := h.r
  exact (rpeek_any B g most v Lb w hr).mono fun e w' ⟨he, h1⟩ => ⟨he, h.below h1, h1⟩
theorem lr_rlen (h : LR W w gl gc B g most La Lb) : Calls Try.prog 18 #[.pointer (some ⟨g, 0, none⟩)] w fun e w' => e = .returned (.int .i64 (Lb.length : Int)) ∧ w = w' := by
  obtain ⟨v, hr⟩ := h.r
  exact rlen_any B g most v Lb w hr
theorem lr_rroom (h : LR W w gl gc B g most La Lb) : Calls Try.prog 20 #[.pointer (some ⟨g, 0, none⟩)] w fun e w' => e = .returned (.int .i64 ((most : Int) - (Lb.length : Int))) ∧ ∃ q, w' = w.drewN q := by
  obtain ⟨v, hr⟩ := h.r
  exact (rroom_any B g most v Lb w h.l.hi h.rl hr).mono fun e w' ⟨he, h1⟩ => ⟨he, 1, h1⟩
end
end Go.Proofs.Ytpnkobdnifopiaa
