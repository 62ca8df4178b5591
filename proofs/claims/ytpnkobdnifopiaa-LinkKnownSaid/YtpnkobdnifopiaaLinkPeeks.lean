/-
  LinkPeeks.
-/
import Derived.Test.YtpnkobdnifopiaaLinkRuns
namespace Go.Proofs.Ytpnkobdnifopiaa
set_option linter.unusedVariables false
set_option linter.unusedSimpArgs false
open Go.RowKit
def mZ (Z : Nat → Nat → Int) (k : Nat) : Msg := ⟨Z k 0, Z k 1, Z k 2, Z k 3⟩
def msgs (Z : Nat → Nat → Int) (k : Nat) : List Msg := (List.range k).map (mZ Z)
theorem msgs_len (Z : Nat → Nat → Int) (k : Nat) : (msgs Z k).length = k := by simp [msgs]
theorem msgs_succ (Z : Nat → Nat → Int) (k : Nat) : msgs Z (k + 1) = msgs Z k ++ [mZ Z k] := by simp [msgs, List.range_succ]
theorem msgs_at (Z : Nat → Nat → Int) (n k : Nat) (h : k < n) : (msgs Z n)[k]? = some (mZ Z k) := by simp [msgs, h]
theorem headD_drop {L : List Msg} {k : Nat} {m : Msg} (h : L[k]? = some m) : (L.drop k).headD Msg.zero = m ∧ (!(L.drop k).isEmpty) = true ∧ (L.drop k).tail = L.drop (k + 1) := by
  obtain ⟨hk, rfl⟩ := List.getElem?_eq_some_iff.1 h
  rw [List.drop_eq_getElem_cons hk]
  exact ⟨rfl, rfl, rfl⟩
/-- A message's four cells, as the walk reads them at an element's address. -/
def Row4 (w : World) (a : Addr) (m : Msg) : Prop :=
  w.cell? a = some (ival m.k) ∧ w.cell? ⟨a.block, a.off + 1, none⟩ = some (ival m.n) ∧ w.cell? ⟨a.block, a.off + 2, none⟩ = some (ival m.key) ∧ w.cell? ⟨a.block, a.off + 3, none⟩ = some (ival m.v)
theorem tab_row4 {w : World} {B n : Nat} {A : Option Addr} {Z : Nat → Nat → Int} (h : Tab w B 4 A n Z) {k : Nat} (hk : k < n) : ∃ ad, A = some ad ∧ Row4 w (ad.add (k * 4)) (mZ Z k) := by
  obtain ⟨ad, hA, _, hc⟩ := h k hk
  exact ⟨ad, hA, (hc 0 (by omega)).1, (congrArg _ (add_flat ad (k * 4) 1 (by omega))).trans (hc 1 (by omega)).1, (congrArg _ (add_flat ad (k * 4) 2 (by omega))).trans (hc 2 (by omega)).1, (congrArg _ (add_flat ad (k * 4) 3 (by omega))).trans (hc 3 (by omega)).1⟩
theorem len_ws {W w : World} {gl gc most : Nat} {L : List Msg} (h : WS W w gl gc most L) {z : Int} (hz : (L.length : Int) = z) (q : Nat) :
    Calls Try.prog 17 #[.pointer (some ⟨gl, 0, none⟩)] (w.drewN q) fun e w' => e = .returned (.int .i64 z) ∧ w.drewN q = w' :=
  (len_any _ gl gc most L _ (h.lat.drewN q)).mono fun e w' ⟨he, h1⟩ => ⟨by rw [he, hz], h1⟩
set_option maxRecDepth 100000 in
set_option maxHeartbeats 8000000 in
theorem linkPeeks_any (A : Option Addr) (n c : Nat) (Z : Nat → Nat → Int) (w : World) (hz : Tab w w.heap.size 4 A n Z) (hn : n ≤ c) (hc : c ≤ maxLen) :
    Calls Try.prog 5 #[.slice A n c] w fun e w' => e = .returned (.bool true) ∧ Below w.heap.size w w' := by
  have WK := Lib.hid (fun W : World => works_any W)
  have HZ := Lib.hid hz
  clear hz hc
  by_cases hbig : 64 < n
  · go_enter Try.func5, Try.ntmps5
    go_wp2_with fail
    go_must (refine (WK.out _).mono ?_)
    rintro e w3 ⟨rfl, hb3⟩
    go_wp2_with fail
    go_ret
    exact ⟨rfl, hb3⟩
  · have C1 := Lib.hid (new_any 64 w)
    go_enter Try.func5, Try.ntmps5
    go_wp2_with fail
    go_must (refine C1.out.mono ?_)
    rintro e w1 ⟨gl, gc, rfl, hl, hb1⟩
    have H1 : Hid (WS w w1 gl gc 64 (msgs Z 0)) := ⟨hl, hb1⟩
    clear hl hb1 C1
    go_wp2_with fail
    go_loopw [4] (fun i wr => ∃ k : Nat, k ≤ n ∧ i = .int .i64 k ∧ WS w wr gl gc 64 (msgs Z k)) (fun i _ => n - (intOf i).toNat)
    case atStart => exact ⟨0, Nat.zero_le _, rfl, H1.out⟩
    case round =>
      obtain ⟨k, hk, rfl, hws⟩ := hrel
      have H3 := Lib.hid hws
      clear H1 hws
      by_cases hlt : k < n
      · obtain ⟨ad, rfl, y0, y1, y2, y3⟩ := tab_row4 (HZ.out.below H3.out.bel) hlt
        have RD : Hid (∀ w', Below w.heap.size w w' → Row4 w' ad (mZ Z 0)) := fun w' hw => by
          obtain ⟨ad', hA, hr⟩ := tab_row4 (HZ.out.below hw) (k := 0) (by omega)
          cases hA
          exact hr
        have P1 : Hid (Calls Try.prog 11 #[.pointer (some ⟨gl, 0, none⟩), msgV (mZ Z k)] wr fun e w' => e = .returned (.bool true) ∧ WS w w' gl gc 64 (msgs Z (k + 1)) ∧ Only (LinkS gl gc) wr w') :=
          push_ws H3.out (by simp [pushOk, msgs_len]; omega) (by rw [pushL, if_pos (by rw [msgs_len]; omega), msgs_succ])
        clear H3
        generalize mZ Z k = mk at *
        go_wp2_with fail
        go_must (refine P1.out.mono ?_)
        rintro e w4 ⟨rfl, h4, _⟩
        have H4 := Lib.hid h4
        have P2 : Hid (Calls Try.prog 15 #[.pointer (some ⟨gl, 0, none⟩)] w4 fun e w' => e = .returned (.tuple #[msgV (mZ Z 0), .bool true]) ∧ WS w w' gl gc 64 (msgs Z (k + 1)) ∧ Below w4.heap.size w4 w') :=
          peek_ws H4.out (by simp [msgs]) (by simp [msgs, List.range_succ_eq_map])
        clear h4 H4 P1 y0 y1 y2 y3
        generalize mZ Z 0 = m0 at *
        go_wp2_with fail
        go_must (refine P2.out.mono ?_)
        rintro e w5 ⟨rfl, h5, _⟩
        have H5 := Lib.hid h5
        clear h5 P2
        go_wp2_with fail
        have hb6 : Below w5.heap.size w5 (w5.alloc (.cells #[ival m0.k, ival m0.n, ival m0.key, ival m0.v] 31)) := (Below.refl _ _).alloc (Nat.le_refl _) _
        have H6 := Lib.hid (H5.out.below hb6)
        have K6 : Hid (Blk (w5.alloc (.cells #[ival m0.k, ival m0.n, ival m0.key, ival m0.v] 31)) w5.heap.size 31 #[ival m0.k, ival m0.n, ival m0.key, ival m0.v]) := Blk.new _ _ _
        clear hb6 H5
        generalize w5.alloc (.cells #[ival m0.k, ival m0.n, ival m0.key, ival m0.v] 31) = w6 at *
        generalize w5.heap.size = g5 at *
        have C6 : Hid (∀ q, Calls Try.prog 17 #[.pointer (some ⟨gl, 0, none⟩)] (w6.drewN q) fun e w' => e = .returned (.int .i64 ((k : Int) + 1)) ∧ w6.drewN q = w') := fun q => len_ws H6.out (by rw [msgs_len]; omega) q
        have x0 : w6.cell? ⟨g5, 0, none⟩ = some (ival m0.k) := K6.out.cell 0
        have x1 : w6.cell? ⟨g5, 1, none⟩ = some (ival m0.n) := K6.out.cell 1
        have x2 : w6.cell? ⟨g5, 2, none⟩ = some (ival m0.key) := K6.out.cell 2
        have x3 : w6.cell? ⟨g5, 3, none⟩ = some (ival m0.v) := K6.out.cell 3
        obtain ⟨y0, y1, y2, y3⟩ := RD.out w6 H6.out.bel
        have h0n : 0 < n := by omega
        clear K6 RD
        go_quiet ((go_at_call 17; exact quiet_same (C6.out _)))
        have H7 := Lib.hid (H6.out.below (below_drewN (Below.refl _ _) nq))
        clear H6 C6 x0 x1 x2 x3 y0 y1 y2 y3
        generalize w6.drewN nq = w7 at *
        go_wp2_with fail
        go_roundw
        case rel => exact ⟨k + 1, by omega, by go_num, H7.out⟩
        case measure => simp [intOf]; omega
      · obtain rfl : k = n := by omega
        go_wp2_with fail
        go_loopw [7] (fun i wr => ∃ k' : Nat, k' ≤ k ∧ i = .int .i64 k' ∧ WS w wr gl gc 64 ((msgs Z k).drop k')) (fun i _ => k - (intOf i).toNat)
        case atStart => exact ⟨0, Nat.zero_le _, rfl, H3.out⟩
        case round =>
          obtain ⟨j, hj, rfl, hws⟩ := hrel
          have H4 := Lib.hid hws
          clear H3 hws
          by_cases hlj : j < k
          · obtain ⟨hd, hne, htl⟩ := headD_drop (msgs_at Z k j hlj)
            have RD : Hid (∀ w', Below w.heap.size w w' → ∃ ad', A = some ad' ∧ Row4 w' (ad'.add (j * 4)) (mZ Z j)) := fun w' hw => tab_row4 (HZ.out.below hw) hlj
            have P1 : Hid (Calls Try.prog 15 #[.pointer (some ⟨gl, 0, none⟩)] wr fun e w' => e = .returned (.tuple #[msgV (mZ Z j), .bool true]) ∧ WS w w' gl gc 64 ((msgs Z k).drop j) ∧ Below wr.heap.size wr w') := peek_ws H4.out hne hd
            have P2 : Hid (∀ W, WS w W gl gc 64 ((msgs Z k).drop j) → Calls Try.prog 13 #[.pointer (some ⟨gl, 0, none⟩)] W fun e w' => e = .returned (.tuple #[msgV (mZ Z j), .bool true]) ∧ WS w w' gl gc 64 ((msgs Z k).drop (j + 1)) ∧ Only (LinkS gl gc) W w') := fun W hW => pop_ws hW hne hd htl
            clear hd hne htl H4
            generalize mZ Z j = mj at *
            go_wp2_with fail
            go_must (refine P1.out.mono ?_)
            rintro e w5 ⟨rfl, h5, _⟩
            have H5 := Lib.hid h5
            clear h5 P1
            go_wp2_with fail
            have hb6 : Below w5.heap.size w5 (w5.alloc (.cells #[ival mj.k, ival mj.n, ival mj.key, ival mj.v] 31)) := (Below.refl _ _).alloc (Nat.le_refl _) _
            have H6 := Lib.hid (H5.out.below hb6)
            have K6 : Hid (Blk (w5.alloc (.cells #[ival mj.k, ival mj.n, ival mj.key, ival mj.v] 31)) w5.heap.size 31 #[ival mj.k, ival mj.n, ival mj.key, ival mj.v]) := Blk.new _ _ _
            clear hb6 H5
            generalize w5.alloc (.cells #[ival mj.k, ival mj.n, ival mj.key, ival mj.v] 31) = w6 at *
            generalize w5.heap.size = g5 at *
            go_must (refine (P2.out _ H6.out).mono ?_)
            rintro e w7 ⟨rfl, h7, ho7⟩
            have H7 := Lib.hid h7
            replace K6 := Lib.hid (H6.out.lat.keeps K6.out ho7)
            clear h7 ho7 P2 H6
            go_wp2_with fail
            have hb8 : Below w7.heap.size w7 (w7.alloc (.cells #[ival mj.k, ival mj.n, ival mj.key, ival mj.v] 31)) := (Below.refl _ _).alloc (Nat.le_refl _) _
            have H8 := Lib.hid (H7.out.below hb8)
            have K8 : Hid (Blk (w7.alloc (.cells #[ival mj.k, ival mj.n, ival mj.key, ival mj.v] 31)) w7.heap.size 31 #[ival mj.k, ival mj.n, ival mj.key, ival mj.v]) := Blk.new _ _ _
            replace K6 := Lib.hid (K6.out.below hb8 K6.out.lt)
            clear hb8 H7
            generalize w7.alloc (.cells #[ival mj.k, ival mj.n, ival mj.key, ival mj.v] 31) = w8 at *
            generalize w7.heap.size = g7 at *
            have x0 : w8.cell? ⟨g5, 0, none⟩ = some (ival mj.k) := K6.out.cell 0
            have x1 : w8.cell? ⟨g5, 1, none⟩ = some (ival mj.n) := K6.out.cell 1
            have x2 : w8.cell? ⟨g5, 2, none⟩ = some (ival mj.key) := K6.out.cell 2
            have x3 : w8.cell? ⟨g5, 3, none⟩ = some (ival mj.v) := K6.out.cell 3
            have z0 : w8.cell? ⟨g7, 0, none⟩ = some (ival mj.k) := K8.out.cell 0
            have z1 : w8.cell? ⟨g7, 1, none⟩ = some (ival mj.n) := K8.out.cell 1
            have z2 : w8.cell? ⟨g7, 2, none⟩ = some (ival mj.key) := K8.out.cell 2
            have z3 : w8.cell? ⟨g7, 3, none⟩ = some (ival mj.v) := K8.out.cell 3
            obtain ⟨ad, rfl, y0, y1, y2, y3⟩ := RD.out w8 H8.out.bel
            clear K6 K8 RD
            go_quiet (fail)
            have H9 := Lib.hid (H8.out.below (below_drewN (Below.refl _ _) nq))
            clear H8 x0 x1 x2 x3 y0 y1 y2 y3 z0 z1 z2 z3
            generalize w8.drewN nq = w9 at *
            go_wp2_with fail
            go_roundw
            case rel => exact ⟨j + 1, by omega, by go_num, H9.out⟩
            case measure => simp [intOf]; omega
          · obtain rfl : j = k := by omega
            have P1 : Hid (Calls Try.prog 15 #[.pointer (some ⟨gl, 0, none⟩)] wr fun e w' => e = .returned (.tuple #[msgV Msg.zero, .bool false]) ∧ WS w w' gl gc 64 ((msgs Z j).drop j) ∧ Below wr.heap.size wr w') :=
              peek_ws H4.out (by rw [List.drop_of_length_le (by rw [msgs_len]; omega)]; rfl) (by rw [List.drop_of_length_le (by rw [msgs_len]; omega)]; rfl)
            clear H4
            generalize Msg.zero = mj at *
            go_wp2_with fail
            go_must (refine P1.out.mono ?_)
            rintro e w5 ⟨rfl, h5, _⟩
            have H5 := Lib.hid h5
            clear h5 P1
            go_wp2_with fail
            have hb6 : Below w5.heap.size w5 (w5.alloc (.cells #[ival mj.k, ival mj.n, ival mj.key, ival mj.v] 31)) := (Below.refl _ _).alloc (Nat.le_refl _) _
            have H6 := Lib.hid (H5.out.below hb6)
            clear hb6 H5
            generalize w5.alloc (.cells #[ival mj.k, ival mj.n, ival mj.key, ival mj.v] 31) = w6 at *
            go_must (refine (WK.out _).mono ?_)
            rintro e w3 ⟨rfl, hb3⟩
            go_wp2_with fail
            go_ret
            exact ⟨rfl, H6.out.bel.trans (hb3.mono H6.out.bel.size)⟩
end Go.Proofs.Ytpnkobdnifopiaa
