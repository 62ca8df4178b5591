/-
  LinkForgets: two links.
-/
import Derived.Test.YtpnkobdnifopiaaLinkPeeks
namespace Go.Proofs.Ytpnkobdnifopiaa
set_option linter.unusedVariables false
set_option linter.unusedSimpArgs false
open Go.RowKit
structure LL (W w : World) (gl gc hl hc most : Nat) (La Lb : List Msg) : Prop where
  a : LAt w W.heap.size gl gc most La
  b : LAt w W.heap.size hl hc most Lb
  n1 : gl ≠ hl
  n2 : gl ≠ hc
  n3 : gc ≠ hl
  n4 : gc ≠ hc
  bel : Below W.heap.size W w
section
variable {W w w' : World} {gl gc hl hc base most : Nat} {La Lb L' : List Msg}
theorem LAt.other2 (h : LAt w base hl hc most Lb) (ho : Only (LinkS gl gc) w w') (n1 : gl ≠ hl) (n2 : gl ≠ hc) (n3 : gc ≠ hl) (n4 : gc ≠ hc) : LAt w' base hl hc most Lb := by
  refine ⟨h.blk.only ho (by rintro (e | e); exact n1 e.symm; exact n3 e.symm), ?_, h.len, h.lo, h.hi, h.bl, h.bc⟩
  obtain ⟨s, r, hc'⟩ := h.chan
  refine ⟨s, r, (ho.block hc ?_ (by rintro (e | e); exact n2 e.symm; exact n4 e.symm)).trans hc'⟩
  rcases Nat.lt_or_ge hc w.heap.size with h1 | h1
  · exact h1
  · rw [Array.getElem?_eq_none h1] at hc'; cases hc'
theorem LAt.chan_lt (h : LAt w base gl gc most La) : gc < w.heap.size := by
  obtain ⟨s, r, hc⟩ := h.chan
  rcases Nat.lt_or_ge gc w.heap.size with h1 | h1
  · exact h1
  · rw [Array.getElem?_eq_none h1] at hc; cases hc
theorem LL.swap (h : LL W w gl gc hl hc most La Lb) : LL W w hl hc gl gc most Lb La := ⟨h.b, h.a, h.n1.symm, h.n3.symm, h.n2.symm, h.n4.symm, h.bel⟩
theorem LL.below (h : LL W w gl gc hl hc most La Lb) (hb : Below w.heap.size w w') : LL W w' gl gc hl hc most La Lb := ⟨h.a.below hb, h.b.below hb, h.n1, h.n2, h.n3, h.n4, h.bel.trans (hb.mono h.bel.size)⟩
theorem LL.step (h : LL W w gl gc hl hc most La Lb) (h' : LAt w' W.heap.size gl gc most L') (ho : Only (LinkS gl gc) w w') : LL W w' gl gc hl hc most L' Lb :=
  ⟨h', h.b.other2 ho h.n1 h.n2 h.n3 h.n4, h.n1, h.n2, h.n3, h.n4, h.bel.trans (ho.to (fun i hi => by rcases hi with rfl | rfl; exact h.a.bl; exact h.a.bc) h.bel.size)⟩
theorem ll_new {w1 w2 : World} (h1 : LAt w1 W.heap.size gl gc most []) (hb1 : Below W.heap.size W w1) (h2 : LAt w2 w1.heap.size hl hc most []) (hb2 : Below w1.heap.size w1 w2) : LL W w2 gl gc hl hc most [] [] := by
  have e1 := h1.blk.lt
  have e2 := h1.chan_lt
  have e3 := h2.bl
  have e4 := h2.bc
  have e5 := hb1.size
  exact ⟨h1.below hb2, ⟨h2.blk, h2.chan, h2.len, h2.lo, h2.hi, by omega, by omega⟩, by omega, by omega, by omega, by omega, hb1.trans (hb2.mono hb1.size)⟩
theorem ll_push {m : Msg} (h : LL W w gl gc hl hc most La Lb) {b : Bool} (hb : pushOk most La = b) (hl' : pushL most La m = L') :
    Calls Try.prog 11 #[.pointer (some ⟨gl, 0, none⟩), msgV m] w fun e w' => e = .returned (.bool b) ∧ LL W w' gl gc hl hc most L' Lb ∧ Only (LinkS gl gc) w w' :=
  (push_any _ gl gc most La m w h.a).mono fun e w' ⟨he, h1, ho⟩ => ⟨by rw [he, hb], h.step (hl' ▸ h1) ho, ho⟩
theorem ll_pushb {m : Msg} (h : LL W w gl gc hl hc most La Lb) {b : Bool} (hb : pushOk most Lb = b) (hl' : pushL most Lb m = L') :
    Calls Try.prog 11 #[.pointer (some ⟨hl, 0, none⟩), msgV m] w fun e w' => e = .returned (.bool b) ∧ LL W w' gl gc hl hc most La L' ∧ Only (LinkS hl hc) w w' :=
  (ll_push h.swap hb hl').mono fun e w' ⟨he, h1, ho⟩ => ⟨he, h1.swap, ho⟩
theorem ll_pop (h : LL W w gl gc hl hc most La Lb) {b : Bool} (hb : (!La.isEmpty) = b) {m : Msg} (hm : La.headD Msg.zero = m) (hl' : La.tail = L') :
    Calls Try.prog 13 #[.pointer (some ⟨gl, 0, none⟩)] w fun e w' => e = .returned (.tuple #[msgV m, .bool b]) ∧ LL W w' gl gc hl hc most L' Lb ∧ Only (LinkS gl gc) w w' :=
  (pop_any _ gl gc most La w h.a).mono fun e w' ⟨he, h1, ho⟩ => ⟨by rw [he, hb, hm], h.step (hl' ▸ h1) ho, ho⟩
theorem ll_popb (h : LL W w gl gc hl hc most La Lb) {b : Bool} (hb : (!Lb.isEmpty) = b) {m : Msg} (hm : Lb.headD Msg.zero = m) (hl' : Lb.tail = L') :
    Calls Try.prog 13 #[.pointer (some ⟨hl, 0, none⟩)] w fun e w' => e = .returned (.tuple #[msgV m, .bool b]) ∧ LL W w' gl gc hl hc most La L' ∧ Only (LinkS hl hc) w w' :=
  (ll_pop h.swap hb hm hl').mono fun e w' ⟨he, h1, ho⟩ => ⟨he, h1.swap, ho⟩
end
theorem drop_push {Z : Nat → Nat → Int} {N j most : Nat} (hN : N ≤ j) (h : j < most) : pushOk most ((msgs Z j).drop N) = true ∧ pushL most ((msgs Z j).drop N) (mZ Z j) = (msgs Z (j + 1)).drop N := by
  have hl : ((msgs Z j).drop N).length < most := by rw [List.length_drop, msgs_len]; omega
  refine ⟨by simp [pushOk]; rw [msgs_len]; omega, ?_⟩
  rw [pushL, if_pos hl, msgs_succ, List.drop_append_of_le_length (by rw [msgs_len]; omega)]
theorem row5 {w : World} {B n : Nat} {A : Option Addr} {Z : Nat → Nat → Int} (h : Tab w B 5 A n Z) {k : Nat} (hk : k < n) : ∃ ad, A = some ad ∧ w.cell? (ad.add (k * 5)) = some (ival (Z k 0)) ∧ w.cell? ⟨(ad.add (k * 5)).block, (ad.add (k * 5)).off + 1, none⟩ = some (ival (Z k 1)) ∧ w.cell? ⟨(ad.add (k * 5)).block, (ad.add (k * 5)).off + 1 + 1, none⟩ = some (ival (Z k 2)) ∧ w.cell? ⟨(ad.add (k * 5)).block, (ad.add (k * 5)).off + 1 + 2, none⟩ = some (ival (Z k 3)) ∧ w.cell? ⟨(ad.add (k * 5)).block, (ad.add (k * 5)).off + 1 + 3, none⟩ = some (ival (Z k 4)) := by
  obtain ⟨ad, hA, _, hc⟩ := h k hk
  exact ⟨ad, hA, (hc 0 (by omega)).1, (congrArg _ (add_flat ad (k * 5) 1 (by omega))).trans (hc 1 (by omega)).1, (congrArg _ (add_flat ad (k * 5) 2 (by omega))).trans (hc 2 (by omega)).1, (congrArg _ (add_flat ad (k * 5) 3 (by omega))).trans (hc 3 (by omega)).1, (congrArg _ (add_flat ad (k * 5) 4 (by omega))).trans (hc 4 (by omega)).1⟩
set_option maxRecDepth 100000 in
set_option maxHeartbeats 16000000 in
theorem linkForgets_any (most : Int) (A : Option Addr) (n c : Nat) (Z : Nat → Nat → Int) (nn : Int) (A2 : Option Addr) (n2 c2 : Nat) (Z2 : Nat → Nat → Int) (w : World) (hz : Tab w w.heap.size 4 A n Z) (hn : n ≤ c) (hc : c ≤ maxLen) (hz2 : Tab w w.heap.size 5 A2 n2 Z2) (hn2 : n2 ≤ c2) (hc2 : c2 ≤ maxLen) :
    Calls Try.prog 6 #[ival most, .slice A n c, ival nn, .slice A2 n2 c2] w fun e w' => e = .returned (.bool true) ∧ Below w.heap.size w w' := by
  have WK := Lib.hid (fun W : World => works_any W)
  have HZ := Lib.hid hz
  have HZ2 := Lib.hid hz2
  clear hz hc hz2 hc2
  by_cases hbig : 64 < n ∨ 200 < n2
  · rcases (by omega : 64 < n ∨ (¬ 64 < n ∧ 200 < n2)) with h1 | ⟨h1, h2⟩
    all_goals
      clear hbig
      go_enter Try.func6, Try.ntmps6
      go_wp2_with fail
      go_must (refine (WK.out _).mono ?_)
      rintro e w3 ⟨rfl, hb3⟩
      go_wp2_with fail
      go_ret
      exact ⟨rfl, hb3⟩
  · have h1 : ¬ 64 < n := by omega
    have h2 : ¬ 200 < n2 := by omega
    clear hbig
    have C1 := Lib.hid (fun W => new_any most W)
    have MH : Hid (mostOf most ≤ 64) := by show _ ≤ _; have := mostI_lo most; have := mostOf_cast most; omega
    go_enter Try.func6, Try.ntmps6
    go_wp2_with fail
    go_must (refine (C1.out _).mono ?_)
    rintro e w1 ⟨gl, gc, rfl, hl1, hb1⟩
    go_wp2_with fail
    go_must (refine (C1.out _).mono ?_)
    rintro e w2 ⟨hl, hc, rfl, hl2, hb2⟩
    have H1 : Hid (LL w w2 gl gc hl hc (mostOf most) (msgs Z 0) []) := ll_new hl1 hb1 hl2 hb2
    clear hl1 hb1 hl2 hb2 C1
    generalize mostOf most = m at *
    go_wp2_with fail
    go_loopw [11] (fun i wr => ∃ k : Nat, k ≤ n ∧ k ≤ m ∧ i = .int .i64 k ∧ LL w wr gl gc hl hc m (msgs Z k) []) (fun i _ => n - (intOf i).toNat)
    case atStart => exact ⟨0, Nat.zero_le _, Nat.zero_le _, rfl, H1.out⟩
    case round =>
      obtain ⟨k, hk, hkm, rfl, hws⟩ := hrel
      have H3 := Lib.hid hws
      clear H1 hws
      by_cases hgo : k < n ∧ k < m
      · obtain ⟨hlt, hltm⟩ := hgo
        obtain ⟨ad, rfl, y0, y1, y2, y3⟩ := tab_row4 (HZ.out.below H3.out.bel) hlt
        have P1 : Hid (Calls Try.prog 11 #[.pointer (some ⟨gl, 0, none⟩), msgV (mZ Z k)] wr fun e w' => e = .returned (.bool true) ∧ LL w w' gl gc hl hc m (msgs Z (k + 1)) [] ∧ Only (LinkS gl gc) wr w') :=
          ll_push H3.out (by simp [pushOk, msgs_len]; omega) (by rw [pushL, if_pos (by rw [msgs_len]; omega), msgs_succ])
        clear H3
        generalize mZ Z k = mk at *
        go_wp2_with fail
        go_must (refine P1.out.mono ?_)
        rintro e w4 ⟨rfl, h4, _⟩
        have H4 := Lib.hid h4
        clear h4 P1
        go_wp2_with fail
        go_roundw
        case rel => exact ⟨k + 1, by omega, by omega, by go_num, H4.out⟩
        case measure => simp [intOf]; omega
      · obtain ⟨N, hNk, M1, e1, e2⟩ : ∃ N : Nat, N ≤ k ∧ ∃ M1, (if nn < 0 then 0 else nn) = M1 ∧ (if (k : Int) < M1 then (k : Int) else M1) = (N : Int) := by
          refine ⟨(if (k : Int) < (if nn < 0 then 0 else nn) then (k : Int) else (if nn < 0 then 0 else nn)).toNat, ?_, _, rfl, ?_⟩ <;> split <;> split <;> omega
        rcases (by omega : k = n ∨ (k < n ∧ k = m)) with hkn | ⟨hlt, hkm2⟩
        rotate_left
        focus
          obtain ⟨ad, rfl, y0, y1, y2, y3⟩ := tab_row4 (HZ.out.below H3.out.bel) hlt
          have P1 : Hid (Calls Try.prog 11 #[.pointer (some ⟨gl, 0, none⟩), msgV (mZ Z k)] wr fun e w' => e = .returned (.bool false) ∧ LL w w' gl gc hl hc m (msgs Z k) [] ∧ Only (LinkS gl gc) wr w') :=
            ll_push H3.out (by simp [pushOk, msgs_len]; omega) (by rw [pushL, if_neg (by rw [msgs_len]; omega)])
          clear H3 hkm2
          generalize mZ Z k = mk at *
          go_wp2_with fail
          go_must (refine P1.out.mono ?_)
          rintro e w4 ⟨rfl, h4, _⟩
          have H3 := Lib.hid h4
          clear h4 P1 y0 y1 y2 y3
          generalize hA : some ad = A at *
          go_wp2_with fail
        rotate_left
        focus
          have hlt : ¬ k < n := by omega
          clear hkn
          go_wp2_with fail
        all_goals
          clear hgo
          go_loopw [12] (fun i wr => ∃ j : Nat, j ≤ N ∧ i = .int .i64 j ∧ LL w wr gl gc hl hc m ((msgs Z k).drop j) []) (fun i _ => N - (intOf i).toNat)
          case atStart => exact ⟨0, Nat.zero_le _, rfl, H3.out⟩
          case round =>
            obtain ⟨j, hj, rfl, hws⟩ := hrel
            have H4 := Lib.hid hws
            clear H3 hws
            by_cases hlj : j < N
            · obtain ⟨hd, hne, htl⟩ := headD_drop (msgs_at Z k j (by omega))
              have P1 := Lib.hid (ll_pop H4.out hne hd htl)
              clear hd hne htl H4
              generalize mZ Z j = mj at *
              go_wp2_with fail
              go_must (refine P1.out.mono ?_)
              rintro e w4 ⟨rfl, h4, _⟩
              have H5 := Lib.hid h4
              clear h4 P1
              go_wp2_with fail
              go_roundw
              case rel => exact ⟨j + 1, by omega, by go_num, H5.out⟩
              case measure => simp [intOf]; omega
            · obtain rfl : j = N := by omega
              clear hlj e1 e2
              go_wp2_with fail
              go_loopw [13] (fun i wr => ∃ q : Nat, j ≤ q ∧ q ≤ k ∧ i = .int .i64 q ∧ LL w wr gl gc hl hc m ((msgs Z k).drop j) ((msgs Z q).drop j)) (fun i _ => k - (intOf i).toNat)
              case atStart => exact ⟨j, Nat.le_refl _, hNk, rfl, by rw [List.drop_of_length_le (l := msgs Z j) (by rw [msgs_len]; omega)]; exact H4.out⟩
              case round =>
                obtain ⟨q, hjq, hqk, rfl, hws⟩ := hrel
                have H5 := Lib.hid hws
                clear H4 hws
                by_cases hlq : q < k
                · obtain ⟨ad, hAd, y0, y1, y2, y3⟩ := tab_row4 (HZ.out.below H5.out.bel) (k := q) (by omega)
                  subst hAd
                  obtain ⟨p1, p2⟩ := drop_push (Z := Z) hjq (by omega : q < m)
                  have P1 := Lib.hid (ll_pushb H5.out p1 p2)
                  have hqn : q < n := by omega
                  clear p1 p2 H5
                  generalize mZ Z q = mk at *
                  go_wp2_with fail
                  go_must (refine P1.out.mono ?_)
                  rintro e w4 ⟨rfl, h4, _⟩
                  have H6 := Lib.hid h4
                  clear h4 P1
                  go_wp2_with fail
                  go_roundw
                  case rel => exact ⟨q + 1, by omega, by omega, by go_num, H6.out⟩
                  case measure => simp [intOf]; omega
                · obtain rfl : q = k := by omega
                  have H6 : Hid (∃ L, LL w wr gl gc hl hc m L L) := ⟨_, H5.out⟩
                  clear H5 hlq
                  go_wp2_with fail
                  go_loopw [14] (fun i wr => ∃ t : Nat, t ≤ n2 ∧ i = .int .i64 t ∧ ∃ L, LL w wr gl gc hl hc m L L) (fun i _ => n2 - (intOf i).toNat)
                  case atStart => exact ⟨0, Nat.zero_le _, rfl, H6.out⟩
                  case round =>
                    obtain ⟨t, ht, rfl, L, hws⟩ := hrel
                    have H7 := Lib.hid hws
                    clear H6 hws
                    by_cases hlt2 : t < n2
                    · have RD : Hid (∀ w', Below w.heap.size w w' → ∃ ad, A2 = some ad ∧ w'.cell? (ad.add (t * 5)) = some (ival (Z2 t 0)) ∧ w'.cell? ⟨(ad.add (t * 5)).block, (ad.add (t * 5)).off + 1, none⟩ = some (ival (Z2 t 1)) ∧ w'.cell? ⟨(ad.add (t * 5)).block, (ad.add (t * 5)).off + 1 + 1, none⟩ = some (ival (Z2 t 2)) ∧ w'.cell? ⟨(ad.add (t * 5)).block, (ad.add (t * 5)).off + 1 + 2, none⟩ = some (ival (Z2 t 3)) ∧ w'.cell? ⟨(ad.add (t * 5)).block, (ad.add (t * 5)).off + 1 + 3, none⟩ = some (ival (Z2 t 4))) := fun w' hb => row5 (HZ2.out.below hb) hlt2
                      obtain ⟨ad2, hA2, x0, x1, x2, x3, x4⟩ := RD.out _ H7.out.bel
                      subst hA2
                      replace RD : Hid (∀ w', Below w.heap.size w w' → w'.cell? (ad2.add (t * 5)) = some (ival (Z2 t 0)) ∧ w'.cell? ⟨(ad2.add (t * 5)).block, (ad2.add (t * 5)).off + 1, none⟩ = some (ival (Z2 t 1)) ∧ w'.cell? ⟨(ad2.add (t * 5)).block, (ad2.add (t * 5)).off + 1 + 1, none⟩ = some (ival (Z2 t 2)) ∧ w'.cell? ⟨(ad2.add (t * 5)).block, (ad2.add (t * 5)).off + 1 + 2, none⟩ = some (ival (Z2 t 3)) ∧ w'.cell? ⟨(ad2.add (t * 5)).block, (ad2.add (t * 5)).off + 1 + 3, none⟩ = some (ival (Z2 t 4))) := fun w' hb => by
                        obtain ⟨ad', e, h⟩ := RD.out w' hb
                        cases e
                        exact h
                      generalize Z2 t 0 = z0 at *
                      generalize Z2 t 1 = z1 at *
                      generalize Z2 t 2 = z2 at *
                      generalize Z2 t 3 = z3 at *
                      generalize Z2 t 4 = z4 at *
                      by_cases k0 : z0 = 0
                      · subst k0
                        obtain ⟨V, hV⟩ : ∃ V, pushOk m L = V := ⟨_, rfl⟩
                        have hVV : (V == V) = true := by simp
                        have H8 := Lib.hid (H7.out.below (Below.refl wr.heap.size wr).drew)
                        obtain ⟨L6, hL6⟩ : ∃ L6, pushL m L ⟨z1, z2, z3, z4⟩ = L6 := ⟨_, rfl⟩
                        have B1 := Lib.hid (ll_push H8.out hV hL6)
                        have B2 : Hid (∀ w5, LL w w5 gl gc hl hc m L6 L → Calls Try.prog 11 #[.pointer (some ⟨hl, 0, none⟩), msgV ⟨z1, z2, z3, z4⟩] w5 fun e w' => e = .returned (.bool V) ∧ LL w w' gl gc hl hc m L6 L6 ∧ Only (LinkS hl hc) w5 w') := fun w5 h5 => ll_pushb h5 hV hL6
                        clear hV hL6
                        go_wp2_with fail
                        go_region_held3 (fun w' => w'.cell? (ad2.add (t * 5)) = some (ival 0) ∧ w'.cell? ⟨(ad2.add (t * 5)).block, (ad2.add (t * 5)).off + 1, none⟩ = some (ival z1) ∧ w'.cell? ⟨(ad2.add (t * 5)).block, (ad2.add (t * 5)).off + 1 + 1, none⟩ = some (ival z2) ∧ w'.cell? ⟨(ad2.add (t * 5)).block, (ad2.add (t * 5)).off + 1 + 2, none⟩ = some (ival z3) ∧ w'.cell? ⟨(ad2.add (t * 5)).block, (ad2.add (t * 5)).off + 1 + 3, none⟩ = some (ival z4)) (first | exact RD.out _ H8.out.bel | exact RD.out _ h5.bel | exact RD.out _ h6.bel) ((first | (go_at_call 11; with_reducible refine B1.out.mono ?_; rintro e w5 ⟨rfl, h5, ho5⟩) | (go_at_call 11; with_reducible refine (B2.out w5 h5).mono ?_; rintro e w6 ⟨rfl, h6, hb6⟩)))
                        have H9 := Lib.hid h6
                        obtain ⟨u0, u1, u2, u3, u4⟩ := RD.out _ H9.out.bel
                        clear h5 h6 ho5 hb6 B1 B2 H7 H8 x0 x1 x2 x3 x4 RD
                        go_wp2_with fail
                        go_must (refine (len_any _ gl gc m _ _ H9.out.a).mono ?_)
                        rintro e _ ⟨rfl, rfl⟩
                        go_wp2_with fail
                        go_must (refine (len_any _ hl hc m _ _ H9.out.b).mono ?_)
                        rintro e _ ⟨rfl, rfl⟩
                        go_wp2_with fail
                        go_must (refine (room_any _ gl gc m _ _ H9.out.a).mono ?_)
                        rintro e _ ⟨rfl, q1, rfl⟩
                        go_wp2_with fail
                        go_must (refine (room_any _ hl hc m _ _ (H9.out.b.drewN q1)).mono ?_)
                        rintro e _ ⟨rfl, q2, rfl⟩
                        go_wp2_with fail
                        go_roundw
                        case rel => exact ⟨t + 1, by omega, by go_num, L6, H9.out.below (below_drewN (Below.refl _ _) _)⟩
                        case measure => simp [intOf]; omega
                      · by_cases k1 : z0 = 1
                        · subst k1
                          go_wp2_with fail
                          go_quiet (fail)
                          have H8 := Lib.hid (H7.out.below (below_drewN (Below.refl _ _) nq))
                          obtain ⟨u0, u1, u2, u3, u4⟩ := RD.out _ H8.out.bel
                          clear H7 x0 x1 x2 x3 x4 RD
                          generalize wr.drewN nq = w4 at *
                          have B1 := Lib.hid (ll_pop H8.out rfl rfl rfl)
                          have B2 : Hid (∀ w5, LL w w5 gl gc hl hc m L.tail L → Calls Try.prog 13 #[.pointer (some ⟨hl, 0, none⟩)] w5 fun e w' => e = .returned (.tuple #[msgV (L.headD Msg.zero), .bool (!L.isEmpty)]) ∧ LL w w' gl gc hl hc m L.tail L.tail ∧ Only (LinkS hl hc) w5 w') := fun w5 h5 => ll_popb h5 rfl rfl rfl
                          clear H8
                          generalize L.headD Msg.zero = mp at *
                          generalize (!L.isEmpty) = bp at *
                          generalize L.tail = L6 at *
                          go_wp2_with fail
                          go_must (refine B1.out.mono ?_)
                          rintro e w5 ⟨rfl, h5, _⟩
                          have H5 := Lib.hid h5
                          clear h5 B1 u0 u1 u2 u3 u4
                          go_wp2_with fail
                          have hb6 : Below w5.heap.size w5 (w5.alloc (.cells #[ival mp.k, ival mp.n, ival mp.key, ival mp.v] 31)) := (Below.refl _ _).alloc (Nat.le_refl _) _
                          have H6 := Lib.hid (H5.out.below hb6)
                          have K6 : Hid (Blk (w5.alloc (.cells #[ival mp.k, ival mp.n, ival mp.key, ival mp.v] 31)) w5.heap.size 31 #[ival mp.k, ival mp.n, ival mp.key, ival mp.v]) := Blk.new _ _ _
                          clear hb6 H5
                          generalize w5.alloc (.cells #[ival mp.k, ival mp.n, ival mp.key, ival mp.v] 31) = w6 at *
                          generalize w5.heap.size = g5 at *
                          go_must (refine (B2.out _ H6.out).mono ?_)
                          rintro e w7 ⟨rfl, h7, ho7⟩
                          have H7 := Lib.hid h7
                          replace K6 := Lib.hid (H6.out.b.keeps K6.out ho7)
                          clear h7 ho7 B2 H6
                          have x0 : ∀ O, (w7.alloc O).cell? ⟨g5, 0, none⟩ = some (ival mp.k) := fun O => (K6.out.alloc O).cell 0
                          have x1 : ∀ O, (w7.alloc O).cell? ⟨g5, 1, none⟩ = some (ival mp.n) := fun O => (K6.out.alloc O).cell 1
                          have x2 : ∀ O, (w7.alloc O).cell? ⟨g5, 2, none⟩ = some (ival mp.key) := fun O => (K6.out.alloc O).cell 2
                          have x3 : ∀ O, (w7.alloc O).cell? ⟨g5, 3, none⟩ = some (ival mp.v) := fun O => (K6.out.alloc O).cell 3
                          have H9 := Lib.hid (H7.out.below ((Below.refl _ _).alloc (Nat.le_refl _) (.cells #[ival mp.k, ival mp.n, ival mp.key, ival mp.v] 31)))
                          clear K6 H7
                          go_wp2_with fail
                          go_must (refine (len_any _ gl gc m _ _ H9.out.a).mono ?_)
                          rintro e _ ⟨rfl, rfl⟩
                          go_wp2_with fail
                          go_must (refine (len_any _ hl hc m _ _ H9.out.b).mono ?_)
                          rintro e _ ⟨rfl, rfl⟩
                          go_wp2_with fail
                          go_must (refine (room_any _ gl gc m _ _ H9.out.a).mono ?_)
                          rintro e _ ⟨rfl, q1, rfl⟩
                          go_wp2_with fail
                          go_must (refine (room_any _ hl hc m _ _ (H9.out.b.drewN q1)).mono ?_)
                          rintro e _ ⟨rfl, q2, rfl⟩
                          go_wp2_with fail
                          go_roundw
                          case rel => exact ⟨t + 1, by omega, by go_num, L6, H9.out.below (below_drewN (Below.refl _ _) _)⟩
                          case measure => simp [intOf]; omega
                        · have t0 : (z0 == 0) = false := by simpa using k0
                          have t1 : (z0 == 1) = false := by simpa using k1
                          go_wp2_with fail
                          go_quiet (fail)
                          have H9 := Lib.hid (H7.out.below (below_drewN (Below.refl _ _) nq))
                          obtain ⟨u0, u1, u2, u3, u4⟩ := RD.out _ H9.out.bel
                          clear H7 x0 x1 x2 x3 x4 RD
                          generalize wr.drewN nq = w4 at *
                          go_wp2_with fail
                          go_must (refine (len_any _ gl gc m _ _ H9.out.a).mono ?_)
                          rintro e _ ⟨rfl, rfl⟩
                          go_wp2_with fail
                          go_must (refine (len_any _ hl hc m _ _ H9.out.b).mono ?_)
                          rintro e _ ⟨rfl, rfl⟩
                          go_wp2_with fail
                          go_must (refine (room_any _ gl gc m _ _ H9.out.a).mono ?_)
                          rintro e _ ⟨rfl, q1, rfl⟩
                          go_wp2_with fail
                          go_must (refine (room_any _ hl hc m _ _ (H9.out.b.drewN q1)).mono ?_)
                          rintro e _ ⟨rfl, q2, rfl⟩
                          go_wp2_with fail
                          go_roundw
                          case rel => exact ⟨t + 1, by omega, by go_num, L, H9.out.below (below_drewN (Below.refl _ _) _)⟩
                          case measure => simp [intOf]; omega
                    · go_wp2_with fail
                      go_must (refine (WK.out _).mono ?_)
                      rintro e w3 ⟨rfl, hb3⟩
                      go_wp2_with fail
                      go_ret
                      exact ⟨rfl, H7.out.bel.trans (hb3.mono H7.out.bel.size)⟩
end Go.Proofs.Ytpnkobdnifopiaa
