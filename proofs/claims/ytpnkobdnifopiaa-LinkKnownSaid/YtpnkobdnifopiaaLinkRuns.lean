/-
  LinkRuns.
-/
import Derived.Test.YtpnkobdnifopiaaLinkTwo
import Derived.Test.YtpnkobdnifopiaaStructs
import Derived.Deep.RegionHeld3
namespace Go.Proofs.Ytpnkobdnifopiaa
set_option linter.unusedVariables false
set_option linter.unusedSimpArgs false
open Go.RowKit
theorem two_new {W w1 w2 : World} {gl gc g most : Nat} {v : Value} (h1 : LAt w1 W.heap.size gl gc most []) (hb1 : Below W.heap.size W w1) (h2 : RAt w2 w1.heap.size g most v []) (hb2 : Below w1.heap.size w1 w2) : LR W w2 gl gc w1.heap.size g most [] [] := by
  have hgc : gc < w1.heap.size := by
    obtain ⟨s, r, hc⟩ := h1.chan
    rcases Nat.lt_or_ge gc w1.heap.size with h | h
    · exact h
    · rw [Array.getElem?_eq_none h] at hc; cases hc
  exact ⟨h1.below hb2, ⟨v, h2⟩, h1.blk.lt, hgc, hb2.size, hb1.size, Nat.zero_le _, hb1.trans (hb2.mono hb1.size)⟩
theorem add_flat (a : Addr) (i j : Nat) (hj : 0 < j) : (⟨(a.add i).block, (a.add i).off + j, none⟩ : Addr) = a.add (i + j) := by
  unfold Addr.add
  by_cases hi : i = 0
  · subst hi; simp; omega
  · simp [hi]; omega
set_option maxRecDepth 100000 in
set_option maxHeartbeats 8000000 in
theorem linkRuns_any (most : Int) (A : Option Addr) (n c : Nat) (Z : Nat → Nat → Int) (w : World) (hz : Tab w w.heap.size 5 A n Z) (hn : n ≤ c) (hc : c ≤ maxLen) :
    Calls Try.prog 3 #[ival most, .slice A n c] w fun e w' => e = .returned (.bool true) ∧ Below w.heap.size w w' := by
  have WK := Lib.hid (fun W : World => works_any W)
  have HZ := Lib.hid hz
  have HN : Hid (n ≤ maxLen) := Nat.le_trans hn hc
  clear hz hc
  by_cases hbig : 300 < n
  · go_enter Try.func3, Try.ntmps3
    go_wp2_with fail
    go_must (refine (WK.out _).mono ?_)
    rintro e w1 ⟨rfl, hb1⟩
    go_wp2_with fail
    go_ret
    exact ⟨rfl, hb1⟩
  · have hbig' : ¬ (300 : Int) < (n : Int) := by omega
    have C1 := Lib.hid (new_any most w)
    go_enter Try.func3, Try.ntmps3
    go_wp2_with fail
    go_must (refine C1.out.mono ?_)
    rintro e w1 ⟨gl, gc, rfl, hl, hb1⟩
    go_wp2_with fail
    go_must (refine (rnew_any most w1).mono ?_)
    rintro e w2 ⟨g, v, rfl, hr, hb2⟩
    have H2 := Lib.hid (two_new hl hb1 hr hb2)
    generalize w1.heap.size = B at *
    generalize mostOf most = mo at *
    clear C1 hl hb1 hr hb2
    go_wp2_with fail
    go_loopw [7] (fun i wr => ∃ k : Nat, k ≤ n ∧ i = .int .i64 k ∧ ∃ L, LR w wr gl gc B g mo L L) (fun i _ => n - (intOf i).toNat)
    case atStart => exact ⟨0, Nat.zero_le _, rfl, _, H2.out⟩
    case round =>
      obtain ⟨k, hk, rfl, L, hlr⟩ := hrel
      have H3 := Lib.hid hlr
      clear H2 hlr
      by_cases hlt : k < n
      · obtain ⟨ad, rfl, hab, hcell⟩ := HZ.out.below H3.out.bel k hlt
        have y0 := (hcell 0 (by omega)).1
        simp only [Nat.add_zero] at y0
        have RD : Hid (∀ w', Below w.heap.size w w' → w'.cell? ⟨(ad.add (k * 5)).block, (ad.add (k * 5)).off + 1, none⟩ = some (ival (Z k 1)) ∧ w'.cell? ⟨(ad.add (k * 5)).block, (ad.add (k * 5)).off + 1 + 1, none⟩ = some (ival (Z k 2)) ∧ w'.cell? ⟨(ad.add (k * 5)).block, (ad.add (k * 5)).off + 1 + 2, none⟩ = some (ival (Z k 3)) ∧ w'.cell? ⟨(ad.add (k * 5)).block, (ad.add (k * 5)).off + 1 + 3, none⟩ = some (ival (Z k 4))) := fun w' hw => by
          obtain ⟨ad', hA, _, hc⟩ := HZ.out.below hw k hlt
          cases hA
          exact ⟨(congrArg _ (add_flat ad (k * 5) 1 (by omega))).trans (hc 1 (by omega)).1, (congrArg _ (add_flat ad (k * 5) 2 (by omega))).trans (hc 2 (by omega)).1, (congrArg _ (add_flat ad (k * 5) 3 (by omega))).trans (hc 3 (by omega)).1, (congrArg _ (add_flat ad (k * 5) 4 (by omega))).trans (hc 4 (by omega)).1⟩
        clear hcell hab
        by_cases k0 : Z k 0 = 0
        · rw [k0] at y0
          obtain ⟨V, hV⟩ : ∃ V, pushOk mo L = V := ⟨_, rfl⟩
          have hVV : (V == V) = true := by simp
          have H4 := Lib.hid (H3.out.below (Below.refl wr.heap.size wr).drew)
          have A1 : Hid (Calls Try.prog 11 #[.pointer (some ⟨gl, 0, none⟩), msgV ⟨Z k 1, Z k 2, Z k 3, Z k 4⟩] wr.drew fun e w' => e = .returned (.bool V) ∧ LR w w' gl gc B g mo (pushL mo L ⟨Z k 1, Z k 2, Z k 3, Z k 4⟩) L ∧ Only (LinkS gl gc) wr.drew w') := by
            rw [← hV]; exact lr_push _ H4.out
          have A2 : Hid (∀ w5, LR w w5 gl gc B g mo (pushL mo L ⟨Z k 1, Z k 2, Z k 3, Z k 4⟩) L → Calls Try.prog 12 #[.pointer (some ⟨g, 0, none⟩), msgV ⟨Z k 1, Z k 2, Z k 3, Z k 4⟩] w5 fun e w' => e = .returned (.bool V) ∧ LR w w' gl gc B g mo (pushL mo L ⟨Z k 1, Z k 2, Z k 3, Z k 4⟩) (pushL mo L ⟨Z k 1, Z k 2, Z k 3, Z k 4⟩) ∧ Below B w5 w') := fun w5 h5 => by
            rw [← hV]; exact lr_rpush _ h5
          clear hV
          obtain ⟨y1, y2, y3, y4⟩ := RD.out wr H3.out.bel
          go_wp2_with fail
          go_region_held3 (fun w' => w'.cell? ⟨(ad.add (k * 5)).block, (ad.add (k * 5)).off + 1, none⟩ = some (ival (Z k 1)) ∧ w'.cell? ⟨(ad.add (k * 5)).block, (ad.add (k * 5)).off + 1 + 1, none⟩ = some (ival (Z k 2)) ∧ w'.cell? ⟨(ad.add (k * 5)).block, (ad.add (k * 5)).off + 1 + 2, none⟩ = some (ival (Z k 3)) ∧ w'.cell? ⟨(ad.add (k * 5)).block, (ad.add (k * 5)).off + 1 + 3, none⟩ = some (ival (Z k 4))) (first | exact RD.out _ H4.out.bel | exact RD.out _ h5.bel | exact RD.out _ h6.bel) ((first | (go_at_call 11; refine A1.out.mono ?_; rintro e w5 ⟨rfl, h5, ho5⟩) | (go_at_call 12; refine (A2.out w5 h5).mono ?_; rintro e w6 ⟨rfl, h6, hb6⟩)))
          generalize pushL mo L ⟨Z k 1, Z k 2, Z k 3, Z k 4⟩ = L6 at *
          have H6 := Lib.hid h6
          clear h5 h6 ho5 hb6 A1 A2 H3 H4 y0 y1 y2 y3 y4 RD
          --TAIL L6
          go_wp2_with fail
          go_must (refine (lr_peek H6.out).mono ?_)
          rintro e w7 ⟨rfl, h7, hb7⟩
          clear hb7
          have H7 := Lib.hid h7
          have HQ : Hid (∀ W, LR w W gl gc B g mo L6 L6 → Calls Try.prog 16 #[.pointer (some ⟨g, 0, none⟩)] W fun e w' => e = .returned (.tuple #[msgV (L6.headD Msg.zero), .bool (!L6.isEmpty)]) ∧ LR w w' gl gc B g mo L6 L6 ∧ Below W.heap.size W w') := fun W h => lr_rpeek h
          clear h7 H6
          generalize L6.headD Msg.zero = mm at *
          generalize (!L6.isEmpty) = bb at *
          go_wp2_with fail
          have hb8 : Below w7.heap.size w7 (w7.alloc (.cells #[ival mm.k, ival mm.n, ival mm.key, ival mm.v] 31)) := (Below.refl _ _).alloc (Nat.le_refl _) _
          have H8 := Lib.hid (H7.out.below hb8)
          have K8 : Hid (Blk (w7.alloc (.cells #[ival mm.k, ival mm.n, ival mm.key, ival mm.v] 31)) w7.heap.size 31 #[ival mm.k, ival mm.n, ival mm.key, ival mm.v]) := Blk.new _ _ _
          clear hb8 H7
          generalize w7.alloc (.cells #[ival mm.k, ival mm.n, ival mm.key, ival mm.v] 31) = w8 at *
          generalize w7.heap.size = g7 at *
          go_must (refine (HQ.out _ H8.out).mono ?_)
          rintro e w9 ⟨rfl, h9, hb9⟩
          have H9 := Lib.hid h9
          have K9 := Lib.hid (K8.out.below hb9 K8.out.lt)
          clear h9 hb9 H8 K8
          have x0 : ∀ O, (w9.alloc O).cell? ⟨g7, 0, none⟩ = some (ival mm.k) := fun O => (K9.out.alloc O).cell 0
          have x1 : ∀ O, (w9.alloc O).cell? ⟨g7, 1, none⟩ = some (ival mm.n) := fun O => (K9.out.alloc O).cell 1
          have x2 : ∀ O, (w9.alloc O).cell? ⟨g7, 2, none⟩ = some (ival mm.key) := fun O => (K9.out.alloc O).cell 2
          have x3 : ∀ O, (w9.alloc O).cell? ⟨g7, 3, none⟩ = some (ival mm.v) := fun O => (K9.out.alloc O).cell 3
          have HA : Hid (∀ O, LR w (w9.alloc O) gl gc B g mo L6 L6) := fun O => H9.out.below ((Below.refl _ _).alloc (Nat.le_refl _) O)
          clear H9 K9
          go_wp2_with fail
          go_must (refine (lr_len (HA.out _)).mono ?_)
          rintro e _ ⟨rfl, rfl⟩
          go_wp2_with fail
          go_must (refine (lr_rlen (HA.out _)).mono ?_)
          rintro e _ ⟨rfl, rfl⟩
          go_wp2_with fail
          go_must (refine (lr_room (HA.out _)).mono ?_)
          rintro e _ ⟨rfl, q, rfl⟩
          go_wp2_with fail
          go_must (refine (lr_rroom ((HA.out _).below (below_drewN (Below.refl _ _) q))).mono ?_)
          rintro e _ ⟨rfl, q', rfl⟩
          go_wp2_with fail
          go_roundw
          case rel => exact ⟨k + 1, by omega, by go_num, L6, (HA.out _).below (below_drewN (Below.refl _ _) _)⟩
          case measure => simp [intOf]; omega
          --ENDTAIL
        by_cases k1 : Z k 0 = 1
        · rw [k1] at y0
          have P1 := Lib.hid (lr_pop H3.out)
          have HP : Hid (∀ W, LR w W gl gc B g mo L.tail L → Calls Try.prog 14 #[.pointer (some ⟨g, 0, none⟩)] W fun e w' => e = .returned (.tuple #[msgV (L.headD Msg.zero), .bool (!L.isEmpty)]) ∧ LR w w' gl gc B g mo L.tail L.tail ∧ Below B W w' ∧ Only (fun i => i = g) W w') := fun W h => lr_rpop h
          have HG : Hid (g < wr.heap.size) := by obtain ⟨v, hr⟩ := H3.out.r; exact hr.blk.lt
          clear RD H3
          generalize L.headD Msg.zero = mp at *
          generalize (!L.isEmpty) = bp at *
          generalize L.tail = L6 at *
          go_wp2_with fail
          go_must (refine P1.out.mono ?_)
          rintro e w3 ⟨rfl, h3, ho3⟩
          have H3 := Lib.hid h3
          have hg3 : g < w3.heap.size := Nat.lt_of_lt_of_le HG.out ho3.size
          have HNE : Hid (w3.heap.size ≠ g) := by show _ ≠ _; omega
          clear h3 ho3 hg3 P1 HG
          go_wp2_with fail
          have hb4 : Below w3.heap.size w3 (w3.alloc (.cells #[ival mp.k, ival mp.n, ival mp.key, ival mp.v] 31)) := (Below.refl _ _).alloc (Nat.le_refl _) _
          have H4 := Lib.hid (H3.out.below hb4)
          have K4 : Hid (Blk (w3.alloc (.cells #[ival mp.k, ival mp.n, ival mp.key, ival mp.v] 31)) w3.heap.size 31 #[ival mp.k, ival mp.n, ival mp.key, ival mp.v]) := Blk.new _ _ _
          clear hb4 H3
          generalize w3.alloc (.cells #[ival mp.k, ival mp.n, ival mp.key, ival mp.v] 31) = w4 at *
          generalize w3.heap.size = g3 at *
          go_must (refine (HP.out _ H4.out).mono ?_)
          rintro e w5 ⟨rfl, h5, hb5, ho5⟩
          have H5 := Lib.hid h5
          have K5 := Lib.hid (K4.out.only ho5 HNE.out)
          clear h5 hb5 ho5 H4 K4 HP
          have x0 : ∀ O, (w5.alloc O).cell? ⟨g3, 0, none⟩ = some (ival mp.k) := fun O => (K5.out.alloc O).cell 0
          have x1 : ∀ O, (w5.alloc O).cell? ⟨g3, 1, none⟩ = some (ival mp.n) := fun O => (K5.out.alloc O).cell 1
          have x2 : ∀ O, (w5.alloc O).cell? ⟨g3, 2, none⟩ = some (ival mp.key) := fun O => (K5.out.alloc O).cell 2
          have x3 : ∀ O, (w5.alloc O).cell? ⟨g3, 3, none⟩ = some (ival mp.v) := fun O => (K5.out.alloc O).cell 3
          have H6 := Lib.hid (H5.out.below ((Below.refl _ _).alloc (Nat.le_refl _) (.cells #[ival mp.k, ival mp.n, ival mp.key, ival mp.v] 31)))
          clear H5 K5
          --TAIL L6
          go_wp2_with fail
          go_must (refine (lr_peek H6.out).mono ?_)
          rintro e w7 ⟨rfl, h7, hb7⟩
          clear hb7
          have H7 := Lib.hid h7
          have HQ : Hid (∀ W, LR w W gl gc B g mo L6 L6 → Calls Try.prog 16 #[.pointer (some ⟨g, 0, none⟩)] W fun e w' => e = .returned (.tuple #[msgV (L6.headD Msg.zero), .bool (!L6.isEmpty)]) ∧ LR w w' gl gc B g mo L6 L6 ∧ Below W.heap.size W w') := fun W h => lr_rpeek h
          clear h7 H6
          generalize L6.headD Msg.zero = mm at *
          generalize (!L6.isEmpty) = bb at *
          go_wp2_with fail
          have hb8 : Below w7.heap.size w7 (w7.alloc (.cells #[ival mm.k, ival mm.n, ival mm.key, ival mm.v] 31)) := (Below.refl _ _).alloc (Nat.le_refl _) _
          have H8 := Lib.hid (H7.out.below hb8)
          have K8 : Hid (Blk (w7.alloc (.cells #[ival mm.k, ival mm.n, ival mm.key, ival mm.v] 31)) w7.heap.size 31 #[ival mm.k, ival mm.n, ival mm.key, ival mm.v]) := Blk.new _ _ _
          clear hb8 H7
          generalize w7.alloc (.cells #[ival mm.k, ival mm.n, ival mm.key, ival mm.v] 31) = w8 at *
          generalize w7.heap.size = g7 at *
          go_must (refine (HQ.out _ H8.out).mono ?_)
          rintro e w9 ⟨rfl, h9, hb9⟩
          have H9 := Lib.hid h9
          have K9 := Lib.hid (K8.out.below hb9 K8.out.lt)
          clear h9 hb9 H8 K8
          have x0 : ∀ O, (w9.alloc O).cell? ⟨g7, 0, none⟩ = some (ival mm.k) := fun O => (K9.out.alloc O).cell 0
          have x1 : ∀ O, (w9.alloc O).cell? ⟨g7, 1, none⟩ = some (ival mm.n) := fun O => (K9.out.alloc O).cell 1
          have x2 : ∀ O, (w9.alloc O).cell? ⟨g7, 2, none⟩ = some (ival mm.key) := fun O => (K9.out.alloc O).cell 2
          have x3 : ∀ O, (w9.alloc O).cell? ⟨g7, 3, none⟩ = some (ival mm.v) := fun O => (K9.out.alloc O).cell 3
          have HA : Hid (∀ O, LR w (w9.alloc O) gl gc B g mo L6 L6) := fun O => H9.out.below ((Below.refl _ _).alloc (Nat.le_refl _) O)
          clear H9 K9
          go_wp2_with fail
          go_must (refine (lr_len (HA.out _)).mono ?_)
          rintro e _ ⟨rfl, rfl⟩
          go_wp2_with fail
          go_must (refine (lr_rlen (HA.out _)).mono ?_)
          rintro e _ ⟨rfl, rfl⟩
          go_wp2_with fail
          go_must (refine (lr_room (HA.out _)).mono ?_)
          rintro e _ ⟨rfl, q, rfl⟩
          go_wp2_with fail
          go_must (refine (lr_rroom ((HA.out _).below (below_drewN (Below.refl _ _) q))).mono ?_)
          rintro e _ ⟨rfl, q', rfl⟩
          go_wp2_with fail
          go_roundw
          case rel => exact ⟨k + 1, by omega, by go_num, L6, (HA.out _).below (below_drewN (Below.refl _ _) _)⟩
          case measure => simp [intOf]; omega
          --ENDTAIL
        have t0 : (Z k 0 == 0) = false := by simpa using k0
        have t1 : (Z k 0 == 1) = false := by simpa using k1
        have H6 := Lib.hid H3.out
        clear RD H3
        generalize Z k 0 = kd at *
        --TAIL L
        go_wp2_with fail
        go_must (refine (lr_peek H6.out).mono ?_)
        rintro e w7 ⟨rfl, h7, hb7⟩
        clear hb7
        have H7 := Lib.hid h7
        have HQ : Hid (∀ W, LR w W gl gc B g mo L L → Calls Try.prog 16 #[.pointer (some ⟨g, 0, none⟩)] W fun e w' => e = .returned (.tuple #[msgV (L.headD Msg.zero), .bool (!L.isEmpty)]) ∧ LR w w' gl gc B g mo L L ∧ Below W.heap.size W w') := fun W h => lr_rpeek h
        clear h7 H6
        generalize L.headD Msg.zero = mm at *
        generalize (!L.isEmpty) = bb at *
        go_wp2_with fail
        have hb8 : Below w7.heap.size w7 (w7.alloc (.cells #[ival mm.k, ival mm.n, ival mm.key, ival mm.v] 31)) := (Below.refl _ _).alloc (Nat.le_refl _) _
        have H8 := Lib.hid (H7.out.below hb8)
        have K8 : Hid (Blk (w7.alloc (.cells #[ival mm.k, ival mm.n, ival mm.key, ival mm.v] 31)) w7.heap.size 31 #[ival mm.k, ival mm.n, ival mm.key, ival mm.v]) := Blk.new _ _ _
        clear hb8 H7
        generalize w7.alloc (.cells #[ival mm.k, ival mm.n, ival mm.key, ival mm.v] 31) = w8 at *
        generalize w7.heap.size = g7 at *
        go_must (refine (HQ.out _ H8.out).mono ?_)
        rintro e w9 ⟨rfl, h9, hb9⟩
        have H9 := Lib.hid h9
        have K9 := Lib.hid (K8.out.below hb9 K8.out.lt)
        clear h9 hb9 H8 K8
        have x0 : ∀ O, (w9.alloc O).cell? ⟨g7, 0, none⟩ = some (ival mm.k) := fun O => (K9.out.alloc O).cell 0
        have x1 : ∀ O, (w9.alloc O).cell? ⟨g7, 1, none⟩ = some (ival mm.n) := fun O => (K9.out.alloc O).cell 1
        have x2 : ∀ O, (w9.alloc O).cell? ⟨g7, 2, none⟩ = some (ival mm.key) := fun O => (K9.out.alloc O).cell 2
        have x3 : ∀ O, (w9.alloc O).cell? ⟨g7, 3, none⟩ = some (ival mm.v) := fun O => (K9.out.alloc O).cell 3
        have HA : Hid (∀ O, LR w (w9.alloc O) gl gc B g mo L L) := fun O => H9.out.below ((Below.refl _ _).alloc (Nat.le_refl _) O)
        clear H9 K9
        go_wp2_with fail
        go_must (refine (lr_len (HA.out _)).mono ?_)
        rintro e _ ⟨rfl, rfl⟩
        go_wp2_with fail
        go_must (refine (lr_rlen (HA.out _)).mono ?_)
        rintro e _ ⟨rfl, rfl⟩
        go_wp2_with fail
        go_must (refine (lr_room (HA.out _)).mono ?_)
        rintro e _ ⟨rfl, q, rfl⟩
        go_wp2_with fail
        go_must (refine (lr_rroom ((HA.out _).below (below_drewN (Below.refl _ _) q))).mono ?_)
        rintro e _ ⟨rfl, q', rfl⟩
        go_wp2_with fail
        go_roundw
        case rel => exact ⟨k + 1, by omega, by go_num, L, (HA.out _).below (below_drewN (Below.refl _ _) _)⟩
        case measure => simp [intOf]; omega
        --ENDTAIL
      · go_wp2_with fail
        go_must (refine (WK.out _).mono ?_)
        rintro e w3 ⟨rfl, hb3⟩
        go_wp2_with fail
        go_ret
        exact ⟨rfl, H3.out.bel.trans (hb3.mono H3.out.bel.size)⟩
end Go.Proofs.Ytpnkobdnifopiaa
