/-
  The walk of AlignPlays.
-/
import Derived.Test.YtcikjghinjdmmaaAlignRef
import Derived.Deep.RegionHeld3
namespace Go.Proofs.Ytcikjghinjdmmaa
set_option linter.unusedVariables false
set_option linter.unusedSimpArgs false
open Go.RowKit

/-- Both objects, apart. -/
def Both (w : World) (g r n : Nat) (s : AlSt) (m : RefSt) (ap lp : Option Addr) (v : Value) : Prop :=
  AlRep w g n s ap lp ∧ RefRep w r n m v ∧ g ≠ r ∧ (∀ a, ap = some a → a.block ≠ r ∧ v.ownBlock ≠ some a.block) ∧ (∀ a, lp = some a → a.block ≠ r ∧ v.ownBlock ≠ some a.block)
theorem PtrTo.lt {w : World} {g : Nat} {p : Option Addr} {x : Option Int} (h : PtrTo w g p x) {a : Addr} (ha : p = some a) : a.block < w.heap.size := by
  cases x with
  | none => have h' : p = none := h; rw [h'] at ha; cases ha
  | some z =>
    obtain ⟨b, hp, _, hc⟩ := h
    rw [ha] at hp
    injection hp with hp
    subst hp
    exact World.block_lt_of_cell? w _ hc
theorem PtrTo.two {w w' : World} {g r : Nat} {ob : Option Nat} {p : Option Addr} {x : Option Int} (h : PtrTo w g p x) (ht : Two w w' r ob) (hp : ∀ a, p = some a → a.block ≠ r ∧ ob ≠ some a.block) : PtrTo w' g p x := by
  have hlt := fun a ha => h.lt (a := a) ha
  cases x with
  | none => exact h
  | some z =>
    obtain ⟨b, rfl, hne, hc⟩ := h
    obtain ⟨h1, h2⟩ := hp _ rfl
    exact ⟨b, rfl, hne, (World.cell?_of_block (ht.2.2.2.2 b (hlt _ rfl) h1 (fun e => h2 e.symm))).trans hc⟩
theorem Both.drewN {w : World} {g r n : Nat} {s : AlSt} {m : RefSt} {ap lp : Option Addr} {v : Value} (h : Both w g r n s m ap lp v) (k : Nat) : Both (w.drewN k) g r n s m ap lp v :=
  ⟨h.1.drewN k, ⟨h.2.1.1.drewN k, h.2.1.2.1, h.2.1.2.2⟩, h.2.2⟩
theorem both_bar {w w' : World} {g r n : Nat} {s s' : AlSt} {m : RefSt} {ap lp ap' lp' : Option Addr} {v : Value} (h : Both w g r n s m ap lp v) (hr : AlRep w' g n s' ap' lp') (hg : w.grownBy w' (some g))
    (ha : ap' = none ∨ ap' = ap ∨ ap' = some ⟨w.heap.size, 0, none⟩) (hl : lp' = lp ∨ lp' = ap ∨ lp' = some ⟨w.heap.size, 0, none⟩) : Both w' g r n s' m ap' lp' v := by
  obtain ⟨hA, ⟨hb, hown, hlen⟩, hgr, h1, h2⟩ := h
  have hvg := own_blk_ne hown hA.2.1 (by decide)
  have hnew : ∀ a : Addr, a = ⟨w.heap.size, 0, none⟩ → a.block ≠ r ∧ v.ownBlock ≠ some a.block := by
    rintro a rfl
    exact ⟨fun e => by have := hb.lt; simp at e; omega, fun e => by have := (hown.lt _ e).2; simp at this⟩
  refine ⟨hr, ⟨hb.grown hg (fun e => by injection e with e; exact hgr e.symm), hown.kept hg (.inr hvg), hlen⟩, hgr, fun a e => ?_, fun a e => ?_⟩
  · rcases ha with rfl | rfl | rfl
    · cases e
    · exact h1 a e
    · injection e with e; exact hnew a e.symm
  · rcases hl with rfl | rfl | rfl
    · exact h2 a e
    · exact h1 a e
    · injection e with e; exact hnew a e.symm
theorem both_rbar {w w' : World} {g r n : Nat} {s : AlSt} {m m' : RefSt} {ap lp : Option Addr} {v v' : Value} (h : Both w g r n s m ap lp v) (hr : RefRep w' r n m' v') (ht : Two w w' r v.ownBlock)
    (hv : ∀ b, v'.ownBlock = some b → v.ownBlock = some b ∨ w.heap.size ≤ b) : Both w' g r n s m' ap lp v' := by
  obtain ⟨hA, ⟨hb, hown, hlen⟩, hgr, h1, h2⟩ := h
  have hvg := own_blk_ne hown hA.2.1 (by decide)
  obtain ⟨hl, hB, hp1, hp2⟩ := hA
  have hsep : ∀ a : Addr, a.block < w.heap.size → v.ownBlock ≠ some a.block → v'.ownBlock ≠ some a.block := by
    intro a hlt hne e
    rcases hv _ e with h | h
    · exact hne h
    · omega
  refine ⟨⟨hl, ?_, hp1.two ht h1, hp2.two ht h2⟩, hr, hgr, fun a e => ⟨(h1 a e).1, hsep a (hp1.lt e) (h1 a e).2⟩, fun a e => ⟨(h2 a e).1, hsep a (hp2.lt e) (h2 a e).2⟩⟩
  exact (ht.2.2.2.2 g hB.lt hgr (fun e => hvg e.symm)).trans hB
theorem two_below {w w' : World} {r B : Nat} {ob : Option Nat} (h : Two w w' r ob) (hr : B ≤ r) (ho : ∀ b, ob = some b → B ≤ b) (hB : B ≤ w.heap.size) : Below B w w' :=
  ⟨h.1, h.2.1, h.2.2.1, h.2.2.2.1, fun k hk => h.2.2.2.2 k (by omega) (by omega) (fun e => by have := ho k e.symm; omega)⟩
theorem plays_bar (B0 g r n : Nat) (s : AlSt) (m : RefSt) (ap lp : Option Addr) (v : Value) (i no : Int) (w : World) (hn96 : n ≤ 96) (hB : B0 ≤ g) (hs : B0 ≤ w.heap.size) (h : Both w g r n s m ap lp v) :
    Calls Try.prog 13 #[.pointer (some ⟨g, 0, none⟩), .int .i64 i, .int .i64 no] w fun e w' => ∃ ap' lp', e = .returned (.bool (alBar n s i no).2) ∧ Both w' g r n (alBar n s i no).1 m ap' lp' v ∧ Below B0 w w' :=
  (bar_any g n s ap lp i no w hn96 h.1).mono fun _ _ ⟨ap', lp', he, hr, hg, ha, hl⟩ => ⟨ap', lp', he, both_bar h hr hg ha hl, only_below_of hg hB hs⟩
theorem plays_rbar (B0 g r n : Nat) (s : AlSt) (m : RefSt) (ap lp : Option Addr) (v : Value) (i no : Int) (w : World) (hn96 : n ≤ 96) (hB : B0 ≤ r) (hv : ∀ b, v.ownBlock = some b → B0 ≤ b) (hs : B0 ≤ w.heap.size) (h : Both w g r n s m ap lp v) :
    Calls Try.prog 14 #[.pointer (some ⟨r, 0, none⟩), .int .i64 i, .int .i64 no] w fun e w' => ∃ v', e = .returned (.bool (refBar n m i no).2) ∧ Both w' g r n s (refBar n m i no).1 ap lp v' ∧ Below B0 w w' ∧ ∀ b, v'.ownBlock = some b → B0 ≤ b :=
  (rbar_any r n m v i no w hn96 h.2.1).mono fun _ _ ⟨v', he, hr, ht, ho⟩ => ⟨v', he, both_rbar h hr ht ho, two_below ht hB hv hs, fun b hb => by
    rcases ho b hb with h1 | h1
    · exact hv b h1
    · omega⟩
theorem plays_rblocked (g r n : Nat) (s : AlSt) (m : RefSt) (ap lp : Option Addr) (v : Value) (i : Int) (w : World) (h : Both w g r n s m ap lp v) :
    Calls Try.prog 16 #[.pointer (some ⟨r, 0, none⟩), .int .i64 i] w fun e w' => e = .returned (.bool (decide (i ∈ m.L))) ∧ w = w' := by
  obtain ⟨hb, hown, _⟩ := h.2.1
  obtain ⟨A, c, rfl, hc, hcm, _⟩ := own_slice hown
  exact rblocked_any r w.heap.size A c m.L i w (hb.cell 1) (Reads.of_own hown) (Nat.le_trans hc hcm)
theorem plays_blocked (g r n : Nat) (s : AlSt) (m : RefSt) (ap lp : Option Addr) (v : Value) (i : Int) (w : World) (hsim : Sim n s m) (h : Both w g r n s m ap lp v) :
    Calls Try.prog 15 #[.pointer (some ⟨g, 0, none⟩), .int .i64 i] w fun e w' => e = .returned (.bool (decide (i ∈ m.L))) ∧ w = w' := by
  have := blocked_any g n s ap lp i w h.1
  rwa [sim_blocked hsim] at this
theorem both_new (w w1 w2 : World) (n : Nat) (h : AlRep w1 w.heap.size n alNew none none) (hs : w.heap.size < w1.heap.size) (hw : w2 = w1.alloc (.cells (refCells n (.slice none 0 0) false false 0 0) 44)) :
    Both w2 w.heap.size w1.heap.size n alNew ⟨[], false, false, 0, 0⟩ none none (.slice none 0 0) := by
  subst hw
  exact ⟨h.below ((Below.refl _ _).alloc (Nat.le_refl _) _), ⟨Blk.new w1 _ _, ⟨by simp, .inl ⟨rfl, rfl⟩⟩, Nat.zero_le _⟩, by omega, fun a e => (by cases e), fun a e => (by cases e)⟩

set_option maxRecDepth 100000 in
set_option maxHeartbeats 4000000 in
theorem alignPlays_any (n0 : Int) (A : Option Addr) (N c : Nat) (Z : Nat → Nat → Int) (w : World) (l0 : -9223372036854775808 ≤ n0) (h0 : n0 ≤ 9223372036854775807)
    (ht : Tab w w.heap.size 2 A N Z) (hm : N ≤ maxLen) :
    Calls Try.prog 3 #[.int .i64 n0, .slice A N c] w fun e w' => e = .returned (.bool true) ∧ Below w.heap.size w w' := by
  have P1 := pick_any n0 64 w (by omega) (by omega) l0 h0
  unfold maxLen at hm
  obtain ⟨n1, hn1⟩ := Int.eq_ofNat_of_zero_le (show 0 ≤ n0 % 64 by omega)
  have hn2 : n1 < 64 := by omega
  rw [hn1] at P1
  obtain ⟨n, hn⟩ : ∃ n, n = n1 + 1 := ⟨_, rfl⟩
  have hni : (1 : Int) + (n1 : Int) = (n : Int) := by omega
  have hnn : 1 ≤ n := by omega
  have hn96 : n ≤ 96 := by omega
  clear hn1 hn hn2
  have C0 := Lib.hid (new_al n w)
  have C1 := Lib.hid (fun W => rnew_any n W)
  have HP1 := Lib.hid P1
  have HT := Lib.hid ht
  clear P1 l0 h0 ht
  go_enter Try.func3, Try.ntmps3
  go_wp2_with fail
  go_must (refine HP1.out.mono ?_)
  rintro e w1 ⟨rfl, rfl⟩
  go_wp2_with fail
  go_must (refine C0.out.mono ?_)
  rintro e w1 ⟨rfl, hr1, hb1⟩
  have hlt1 := hr1.2.1.lt
  have HR1 := Lib.hid hr1
  clear hr1
  go_wp2_with fail
  go_must (refine (C1.out w1).mono ?_)
  rintro e w2 ⟨rfl, hw2⟩
  have hb2 : Below w.heap.size w w2 := by rw [hw2]; exact hb1.alloc (Nat.le_of_lt hlt1) _
  have HBo := Lib.hid (both_new w w1 w2 n HR1.out hlt1 hw2)
  have hr0 : w.heap.size ≤ w1.heap.size := Nat.le_of_lt hlt1
  generalize w1.heap.size = r at *
  clear hw2 hb1 HR1 hlt1
  go_wp2_with fail
  go_loopw [7, 8] (fun i x8 wr => ∃ (k : Nat) (s : AlSt) (m : RefSt) (ap lp : Option Addr) (v : Value), k ≤ N ∧ k ≤ 300 ∧ i = .int .i64 k ∧ Both wr w.heap.size r n s m ap lp v ∧ Sim n s m ∧ (∀ b, v.ownBlock = some b → w.heap.size ≤ b) ∧ Below w.heap.size w wr) (fun i _ _ => 300 - (intOf i).toNat)
  case atStart => exact ⟨0, alNew, ⟨[], false, false, 0, 0⟩, none, none, .slice none 0 0, by omega, by omega, rfl, HBo.out, sim_new n, fun b h => (by cases h), hb2⟩
  case round =>
    obtain ⟨k, s, m, ap, lp, v, hk, hk3, rfl, hbo, hsim, hvb, hbel⟩ := hrel
    clear HBo hb2
    by_cases hgo : k < N ∧ k < 300
    · obtain ⟨hlt, hlt3⟩ := hgo
      obtain ⟨ad, rfl, hadb, hc0, hc1⟩ := (HT.out.below hbel).two hlt
      have hk3' : (k : Int) < 300 := by omega
      generalize Z k 0 = z0 at *
      generalize Z k 1 = z1 at *
      have hst := sim_bar hsim hn96 z0 z1
      have D1 := plays_bar w.heap.size w.heap.size r n s m ap lp v z0 z1 wr.drew hn96 (Nat.le_refl _) hbel.size (hbo.drewN 1)
      have D2 := fun W ap lp hs hB => plays_rbar w.heap.size w.heap.size r n (alBar n s z0 z1).1 m ap lp v z0 z1 W hn96 hr0 hvb hs hB
      obtain ⟨hres, hsim2⟩ := hst
      rw [hres] at D1
      generalize (alBar n s z0 z1).1 = s2 at *
      generalize (refBar n m z0 z1).2 = b2 at *
      generalize (refBar n m z0 z1).1 = m2 at *
      have D3 := fun ap lp v W hB => plays_blocked w.heap.size r n s2 m2 ap lp v z0 W hsim2 hB
      have D4 := fun ap lp v W hB => plays_rblocked w.heap.size r n s2 m2 ap lp v z0 W hB
      have H1 := Lib.hid D1
      have H2 := Lib.hid D2
      have H3 := Lib.hid D3
      have H4 := Lib.hid D4
      have HSim2 := Lib.hid hsim2
      have hp0 : (ad.add (k * 2)).block < w.heap.size := by rw [block_of_add]; exact hadb
      have HBel := Lib.hid hbel
      generalize decide (z0 ∈ m2.L) = bl at *
      clear D1 D2 D3 D4 hres hsim hsim2 hbo hvb hbel
      go_wp2_with fail
      go_region_held3 (fun w' => w'.cell? (ad.add (k * 2)) = some (.int .i64 z0) ∧ w'.cell? { block := (ad.add (k * 2)).block, off := (ad.add (k * 2)).off + 1 } = some (.int .i64 z1)) (first | go_keep | exact ⟨(hbl2.cell hp0).trans ((hbl1.cell hp0).trans hc0), (hbl2.cell (p := ⟨(ad.add (k * 2)).block, (ad.add (k * 2)).off + 1, none⟩) hp0).trans ((hbl1.cell (p := ⟨(ad.add (k * 2)).block, (ad.add (k * 2)).off + 1, none⟩) hp0).trans hc1)⟩ | exact ⟨(hbl1.cell hp0).trans hc0, (hbl1.cell (p := ⟨(ad.add (k * 2)).block, (ad.add (k * 2)).off + 1, none⟩) hp0).trans hc1⟩) ((first | (go_at_call 13; refine H1.out.mono ?_; rintro e w1 ⟨ap1, lp1, rfl, hB1, hbl1⟩) | (go_at_call 14; refine (H2.out _ _ _ (Nat.le_trans HBel.out.size hbl1.size) hB1).mono ?_; rintro e w2 ⟨v2, rfl, hB2, hbl2, hv2⟩) | (go_at_call 15; refine (H3.out _ _ _ _ hB2).mono ?_; rintro e w3 ⟨rfl, rfl⟩) | (go_at_call 16; refine (H4.out _ _ _ _ hB2).mono ?_; rintro e w4 ⟨rfl, rfl⟩)))
      go_wp2_with fail
      go_loopw [8] (fun i wr => ∃ q : Nat, q ≤ n + 2 ∧ i = .int .i64 ((q : Int) - 1) ∧ wr = w2) (fun i _ => n + 2 - ((intOf i) + 1).toNat)
      case atStart => exact ⟨0, by omega, rfl, rfl⟩
      case round =>
        obtain ⟨q, hq, rfl, rfl⟩ := hrel
        by_cases hqn : q < n + 2
        · have hle : decide ((q : Int) - 1 ≤ (n : Int)) = true := by simp; omega
          have E1 := plays_blocked w.heap.size r n s2 m2 ap1 lp1 v2 ((q : Int) - 1) wr HSim2.out hB2
          have E2 := plays_rblocked w.heap.size r n s2 m2 ap1 lp1 v2 ((q : Int) - 1) wr hB2
          generalize decide ((q : Int) - 1 ∈ m2.L) = bq at *
          have F1 := Lib.hid E1
          have F2 := Lib.hid E2
          clear E1 E2
          go_wp2_with fail
          go_must (refine F1.out.mono ?_)
          rintro e w3 ⟨rfl, rfl⟩
          go_wp2_with fail
          go_must (refine F2.out.mono ?_)
          rintro e w4 ⟨rfl, rfl⟩
          go_wp2_with fail
          go_roundw
          case rel => exact ⟨q + 1, by omega, by go_num, trivial⟩
          case measure => simp [intOf]; omega
        · have hle : decide ((q : Int) - 1 ≤ (n : Int)) = false := by simp; omega
          go_wp2_with fail
          go_roundw
          case rel => exact ⟨k + 1, s2, m2, ap1, lp1, v2, by omega, by omega, by go_num, hB2, HSim2.out, hv2, (below_drewN HBel.out 1).trans (hbl1.trans (hbl2.mono (Nat.le_refl _)))⟩
          case measure => simp [intOf]; omega
    · have hd : N ≤ k ∨ (k < N ∧ decide ((k : Int) < 300) = false) := by
        by_cases h : k < N
        · exact .inr ⟨h, by simp; omega⟩
        · exact .inl (by omega)
      have DK := Lib.hid (known_any wr)
      clear hgo HT hm hbo hsim hvb
      rcases hd with hd | ⟨hd, hd3⟩ <;>
      ( go_wp2_with fail
        go_must (refine DK.out.mono ?_)
        rintro e w2 ⟨rfl, hb2⟩
        go_wp2_with fail
        go_ret
        exact ⟨rfl, hbel.trans (hb2.mono hbel.size)⟩)
end Go.Proofs.Ytcikjghinjdmmaa
