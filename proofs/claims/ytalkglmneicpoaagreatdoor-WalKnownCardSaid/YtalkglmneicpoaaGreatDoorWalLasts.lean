/-
  WalLasts: the walk.
-/
import Derived.Test.YtalkglmneicpoaaGreatDoorWalPlain
namespace Go.Proofs.YtalkglmneicpoaaGreatDoor
set_option linter.unusedVariables false
set_option linter.unusedSimpArgs false
open Go.RowKit
theorem cellsG_take (G : List FrV) : ∀ k, (cellsG G).take (k * 2) = cellsG (G.take k) := by
  induction G with
  | nil => intro k; simp [cellsG]
  | cons x G ih =>
    intro k
    rcases k with _ | k
    · simp [cellsG]
    · have e : cellsG (x :: G) = frC x ++ cellsG G := rfl
      have e2 : cellsG ((x :: G).take (k + 1)) = frC x ++ cellsG (G.take k) := rfl
      have hl : (frC x).length = 2 := rfl
      rw [e, e2, show (k + 1) * 2 = (frC x).length + k * 2 by rw [hl]; omega, List.take_length_add_append, ih]
theorem FrsR.take {w : World} {B : Nat} {A : Option Addr} {G : List FrV} (h : FrsR w B A G) {k : Nat} (hk : k ≤ G.length) : FrsR w B A (G.take k) :=
  ⟨by have := h.rd.take hk; rw [cellsG_take] at this; rw [List.length_take, Nat.min_eq_left hk]; exact this, fun x hx => h.body x (List.mem_of_mem_take hx)⟩
/-- A list of the call's own whose bodies are others'. -/
structure WantAt (w : World) (base B : Nat) (v : Value) (G : List FrV) : Prop where
  own : w.ownsRow base 25 2 v G.length (cellsG G)
  body : ∀ x ∈ G, ∃ s : Sl, x.2 = s.val ∧ s.m ≤ s.c ∧ s.c ≤ maxLen ∧ Reads w B 1 s.A s.m (x.1.b.map bval)
theorem WantAt.rd {w : World} {base B : Nat} {A : Option Addr} {c : Nat} {G : List FrV} (h : WantAt w base B (.slice A G.length c) G) (hB : B ≤ w.heap.size) : FrsRd w w.heap.size A (G.map (·.1)) :=
  FrsR.frd ⟨Reads.of_own h.own, fun x hx => by obtain ⟨s, h1, h2, h3, h4⟩ := h.body x hx; exact ⟨s, h1, h2, h3, h4.more hB⟩⟩
theorem WantAt.off {S : Nat → Prop} {w w' : World} {base B : Nat} {v : Value} {G : List FrV} (h : WantAt w base B v G) (ho : Only S w w') (hb : Below B w w') (hv : ∀ g, v.ownBlock = some g → ¬ S g) : WantAt w' base B v G :=
  ⟨own_only h.own ho hv, fun x hx => by obtain ⟨s, h1, h2, h3, h4⟩ := h.body x hx; exact ⟨s, h1, h2, h3, h4.below hb⟩⟩
theorem WantAt.below {w w' : World} {base B : Nat} {v : Value} {G : List FrV} (h : WantAt w base B v G) (hb : Below w.heap.size w w') (hB : B ≤ w.heap.size) : WantAt w' base B v G :=
  ⟨own_below h.own hb, fun x hx => by obtain ⟨s, h1, h2, h3, h4⟩ := h.body x hx; exact ⟨s, h1, h2, h3, h4.below (hb.mono hB)⟩⟩
theorem frC_one {x : FrV} (h : ∃ s : Sl, x.2 = s.val) : (frC x).all Value.oneCell' = true := by
  obtain ⟨s, hs⟩ := h
  simp only [frC, hs]
  rfl
theorem FrsR.at_ {w : World} {B : Nat} {A : Option Addr} {G : List FrV} (h : FrsR w B A G) {i : Nat} (hi : i < G.length) :
    ∃ ad, A = some ad ∧ w.cell? (ad.add (i * 2)) = some (ival (G[i]).1.k) ∧ ∃ x : Sl, (G[i]).2 = x.val ∧ w.cell? ⟨(ad.add (i * 2)).block, (ad.add (i * 2)).off + 1, none⟩ = some x.val ∧ x.m ≤ x.c ∧ x.c ≤ maxLen ∧ Reads w B 1 x.A x.m ((G[i]).1.b.map bval) := by
  obtain ⟨ad, hA, _, hc⟩ := h.rd.2 (by omega)
  obtain ⟨s, hv, h1, h2, h3⟩ := h.body G[i] (List.getElem_mem hi)
  refine ⟨ad, hA, hc _ _ (by have := cellsG_at G i 0 (by omega) G[i] (List.getElem?_eq_getElem hi); simpa [frC] using this), s, hv, ?_, h1, h2, h3⟩
  rw [← hv]
  exact (congrArg _ (add_flat ad (i * 2) 1 (by omega))).trans (hc _ _ (by have := cellsG_at G i 1 (by omega) G[i] (List.getElem?_eq_getElem hi); simpa [frC] using this))
theorem WantAt.push {w w' : World} {base B : Nat} {v v' : Value} {G : List FrV} {x : FrV} (h : WantAt w base B v G) (hb : Below base w w') (hB : B ≤ base)
    (hx : ∃ s : Sl, x.2 = s.val ∧ s.m ≤ s.c ∧ s.c ≤ maxLen ∧ Reads w B 1 s.A s.m (x.1.b.map bval)) (hown : w'.ownsRow base 25 2 v' (G.length + 1) (cellsG G ++ frC x)) : WantAt w' base B v' (G ++ [x]) := by
  refine ⟨by rw [cellsG_push, List.length_append]; exact hown, fun y hy => ?_⟩
  rcases List.mem_append.1 hy with hy | hy
  · obtain ⟨s, h1, h2, h3, h4⟩ := h.body y hy
    exact ⟨s, h1, h2, h3, h4.below (hb.mono hB)⟩
  · obtain rfl := List.mem_singleton.1 hy
    obtain ⟨s, h1, h2, h3, h4⟩ := hx
    exact ⟨s, h1, h2, h3, h4.below (hb.mono hB)⟩
theorem One.grown {r : Bool} {X X' : Nat → Prop} {w w' : World} {base g N : Nat} {st : DSt} (h : One r X w base g N st) {row : Option Nat} (hg : w.grownBy w' row) (hr : ∀ i, row = some i → X i) (hX : ∀ i, X' i → X i ∨ (w.heap.size ≤ i ∧ i < w'.heap.size)) : One r X' w' base g N st := by
  obtain ⟨S, hd, hx, hb⟩ := h
  have ho : Only (fun i => row = some i) w w' := (Only.refl _ _).grown hg (fun i hi => .inl hi)
  refine ⟨S, hd.keep ho (fun i hs hi => (hx i (hr i hi)).1 hs), fun i hi => ?_, Nat.le_trans hb ho.size⟩
  rcases hX i hi with h1 | ⟨h1, h2⟩
  · exact ⟨(hx i h1).1, Nat.lt_of_lt_of_le (hx i h1).2 ho.size⟩
  · exact ⟨fun hs => by have := (hd.all i hs).2; omega, h2⟩
theorem encs_take_succ {F : List Fr} {t : Nat} (h : t < F.length) : (encs (F.take (t + 1))).length = (encs (F.take t)).length + (9 + (F[t]).b.length) := by
  rw [List.take_succ_eq_append_getElem h, encs_app, encs_one, List.length_append, enc_len]
theorem right_one (f : Fr) : rightB [f] = okF f := by simp [rightB]
set_option maxRecDepth 100000 in
set_option maxHeartbeats 32000000 in
theorem walLasts_any (n : Int) (A1 : Option Addr) (n1 c1 : Nat) (G1 : List FrV) (F1 : List Fr) (hFG1 : G1.map (·.1) = F1) (A2 : Option Addr) (n2 c2 : Nat) (G2 : List FrV) (F2 : List Fr) (hFG2 : G2.map (·.1) = F2) (keep : Int) (k5 : Int) (bs5 : List UInt8) (A5 : Option Addr) (m5 c5 : Nat) (pg : Addr) (w : World)
    (hG : Glob pg w) (hn1 : -9223372036854775808 ≤ n) (hn2 : n ≤ 9223372036854775807) (hk1 : -9223372036854775808 ≤ keep) (hk2 : keep ≤ 9223372036854775807)
    (hx1 : FrsR w w.heap.size A1 G1) (hl1 : G1.length = n1) (hc1 : n1 ≤ c1) (hm1 : c1 ≤ maxLen) (hx2 : FrsR w w.heap.size A2 G2) (hl2 : G2.length = n2) (hm2 : n2 ≤ maxLen) (hr5 : Reads w w.heap.size 1 A5 m5 (bs5.map bval)) (hmc5 : m5 ≤ c5) (hm5 : c5 ≤ maxLen) :
    Calls Tryz.prog 5 #[.int .i64 n, .slice A1 n1 c1, .slice A2 n2 c2, .int .i64 keep, .agg #[ival k5, .slice A5 m5 c5]] w fun e w' => e = .returned (.bool true) ∧ Below w.heap.size w w' := by
  have hlt := hG.lt
  have hb1 : Below w.heap.size w (w.alloc (.cells #[ival k5, .slice A5 m5 c5] 25)) := (Below.refl _ _).alloc (Nat.le_refl _) _
  obtain ⟨w1, hw1⟩ : ∃ w1, w1 = w.alloc (.cells #[ival k5, .slice A5 m5 c5] 25) := ⟨_, rfl⟩
  rw [← hw1] at hb1
  have HK : Hid (Blk w1 w.heap.size 25 #[ival k5, .slice A5 m5 c5]) := by show Blk _ _ _ _; rw [hw1]; exact Blk.new _ _ _
  have HS1 : Hid (w1.heap.size = w.heap.size + 1) := by show _ = _; rw [hw1]; simp
  have hgb : 3 ≤ w1.heap.size := by have := HS1.out; omega
  have HD : Hid (∀ W, Below w1.heap.size w1 W → Glob pg W ∧ FrsR W w1.heap.size A1 G1 ∧ FrsR W w1.heap.size A2 G2 ∧ Reads W w1.heap.size 1 A5 m5 (bs5.map bval) ∧ W.cell? ⟨w.heap.size, 0, none⟩ = some (ival k5) ∧ W.cell? ⟨w.heap.size, 1, none⟩ = some (.slice A5 m5 c5) ∧ Below w.heap.size w W) := fun W hW => by
    have h := hb1.trans (hW.mono (by have := HS1.out; omega))
    have hs : w.heap.size ≤ w1.heap.size := by have := HS1.out; omega
    exact ⟨hG.below h hlt, (hx1.below h).more hs, (hx2.below h).more hs, (hr5.below h).more hs, (HK.out.below hW HK.out.lt).cell 0, (HK.out.below hW HK.out.lt).cell 1, h⟩
  have HD1 : Hid (∀ W, Below w1.heap.size w1 W → FrsRd W w1.heap.size A1 F1 ∧ FrsRd W w1.heap.size A2 F2) := fun W hW => by
    have h := HD.out W hW
    exact ⟨hFG1 ▸ h.2.1.frd, hFG2 ▸ h.2.2.1.frd⟩
  have WK : Hid (∀ W, Below w1.heap.size w1 W → Calls Tryz.prog 8 #[] W fun e w' => e = .returned (.bool true) ∧ Below W.heap.size W w') := fun W hW => wworks_any pg W (HD.out W hW).1
  have HL1 : Hid (F1.length = n1) := by show _ = _; rw [← hFG1, List.length_map, hl1]
  have HL2 : Hid (F2.length = n2) := by show _ = _; rw [← hFG2, List.length_map, hl2]
  have HLG1 := Lib.hid hl1
  have HLG2 := Lib.hid hl2
  have HFG1 := Lib.hid hFG1
  have HFG2 := Lib.hid hFG2
  have CR1 := Lib.hid (right_any A1 n1 c1 w1.heap.size F1 w1 (HD1.out w1 (Below.refl _ _)).1 HL1.out (Nat.le_trans hc1 hm1))
  have CR2 := Lib.hid (right_any A2 n2 c2 w1.heap.size F2 w1 (HD1.out w1 (Below.refl _ _)).2 HL2.out hm2)
  have y0 : w1.cell? ⟨w.heap.size, 0, none⟩ = some (ival k5) := HK.out.cell 0
  have y1 : w1.cell? ⟨w.heap.size, 1, none⟩ = some (.slice A5 m5 c5) := HK.out.cell 1
  have HB5 := Lib.hid hr5.bytes_len
  clear hr5 hG hb1 hx1 hx2 hl1 hl2 hFG1 hFG2
  cases hR1 : rightB F1
  · rw [hR1] at CR1
    clear hR1
    go_enter Tryz.func5, Tryz.ntmps5
    go_wp2_with fail
    have hw1' : w.alloc (.cells #[.int .i64 k5, .slice A5 m5 c5] 25) = w1 := hw1.symm
    rw [hw1']
    clear hw1 hw1'
    go_must (refine CR1.out.mono ?_)
    rintro e _ ⟨rfl, rfl⟩
    go_wp2_with fail
    go_must (refine (WK.out _ (Below.refl _ _)).mono ?_)
    rintro e w3 ⟨rfl, hb3⟩
    go_wp2_with fail
    go_ret
    exact ⟨rfl, (HD.out _ hb3).2.2.2.2.2.2⟩
  rw [hR1] at CR1
  cases hR2 : rightB F2
  · rw [hR2] at CR2
    clear hR1 hR2
    go_enter Tryz.func5, Tryz.ntmps5
    go_wp2_with fail
    have hw1' : w.alloc (.cells #[.int .i64 k5, .slice A5 m5 c5] 25) = w1 := hw1.symm
    rw [hw1']
    clear hw1 hw1'
    go_must (refine CR1.out.mono ?_)
    rintro e _ ⟨rfl, rfl⟩
    go_wp2_with fail
    go_must (refine CR2.out.mono ?_)
    rintro e _ ⟨rfl, rfl⟩
    go_wp2_with fail
    go_must (refine (WK.out _ (Below.refl _ _)).mono ?_)
    rintro e w3 ⟨rfl, hb3⟩
    go_wp2_with fail
    go_ret
    exact ⟨rfl, (HD.out _ hb3).2.2.2.2.2.2⟩
  rw [hR2] at CR2
  have HK1 : Hid (∀ f ∈ F1, Okk f) := fun f hf => (right_facts hR1).2 f hf
  have HK2 : Hid (∀ f ∈ F2, Okk f) := fun f hf => (right_facts hR2).2 f hf
  have hn60 : n1 ≤ 60 ∧ n2 ≤ 60 := ⟨by have := (right_facts hR1).1; have := HL1.out; omega, by have := (right_facts hR2).1; have := HL2.out; omega⟩
  clear hR1 hR2
  obtain ⟨w2, hw2⟩ : ∃ w2, w2 = w1.alloc (.cells #[.int .i64 k5, .slice A5 m5 c5] 25) := ⟨_, rfl⟩
  have hb2 : Below w1.heap.size w1 w2 := by rw [hw2]; exact (Below.refl _ _).alloc (Nat.le_refl _) _
  have hr2 : FrsRd w2 w2.heap.size (some ⟨w1.heap.size, 0, none⟩) [⟨k5, bs5⟩] := by
    have h : FrsR w2 w2.heap.size (some ⟨w1.heap.size, 0, none⟩) [(⟨k5, bs5⟩, .slice A5 m5 c5)] := by
      refine ⟨?_, fun x hx => ?_⟩
      · rw [hw2]
        refine ⟨rfl, fun _ => ⟨_, rfl, by simp, fun j u hu => ?_⟩⟩
        rw [add_zero_block, cell_new]
        simpa [cellsG, frC] using hu
      · rw [List.mem_singleton.1 hx]
        exact ⟨⟨A5, m5, c5⟩, rfl, hmc5, hm5, ((HD.out w2 hb2).2.2.2.1).more hb2.size⟩
    exact h.frd
  have CR5 := Lib.hid (right_any (some ⟨w1.heap.size, 0, none⟩) 1 1 w2.heap.size [⟨k5, bs5⟩] w2 hr2 rfl (by decide))
  rw [right_one] at CR5
  have HB2 := Lib.hid hb2
  clear hb2 hr2
  cases hR5 : okF ⟨k5, bs5⟩
  · rw [hR5] at CR5
    clear hR5
    go_enter Tryz.func5, Tryz.ntmps5
    go_wp2_with fail
    have hw1' : w.alloc (.cells #[.int .i64 k5, .slice A5 m5 c5] 25) = w1 := hw1.symm
    rw [hw1']
    clear hw1 hw1'
    go_must (refine CR1.out.mono ?_)
    rintro e _ ⟨rfl, rfl⟩
    go_wp2_with fail
    go_must (refine CR2.out.mono ?_)
    rintro e _ ⟨rfl, rfl⟩
    go_wp2_with fail
    rw [← hw2]
    clear hw2
    go_must (refine CR5.out.mono ?_)
    rintro e _ ⟨rfl, rfl⟩
    go_wp2_with fail
    go_must (refine (WK.out _ HB2.out).mono ?_)
    rintro e w3 ⟨rfl, hb3⟩
    go_wp2_with fail
    go_ret
    exact ⟨rfl, (HD.out _ (HB2.out.trans (hb3.mono HB2.out.size))).2.2.2.2.2.2⟩
  rw [hR5] at CR5
  have HK5 : Hid (Okk ⟨k5, bs5⟩) := by
    simp only [okF, Bool.and_eq_true, decide_eq_true_eq] at hR5
    exact ⟨hR5.1.1, hR5.1.2, hR5.2⟩
  clear hR5
  have C2 := Lib.hid (fun W => size_any n W hn1 hn2)
  have hNr : 64 ≤ 64 + (n % 16384).toNat ∧ 64 + (n % 16384).toNat ≤ 16447 := by omega
  generalize 64 + (n % 16384).toNat = N at *
  have C3 := Lib.hid (new_any N hNr.1 (by omega) w2)
  go_enter Tryz.func5, Tryz.ntmps5
  go_wp2_with fail
  have hw1' : w.alloc (.cells #[.int .i64 k5, .slice A5 m5 c5] 25) = w1 := hw1.symm
  rw [hw1']
  clear hw1 hw1'
  go_must (refine CR1.out.mono ?_)
  rintro e _ ⟨rfl, rfl⟩
  go_wp2_with fail
  go_must (refine CR2.out.mono ?_)
  rintro e _ ⟨rfl, rfl⟩
  go_wp2_with fail
  rw [← hw2]
  clear hw2
  go_must (refine CR5.out.mono ?_)
  rintro e _ ⟨rfl, rfl⟩
  go_wp2_with fail
  go_must (refine (C2.out _).mono ?_)
  rintro e _ ⟨rfl, rfl⟩
  go_wp2_with fail
  go_must (refine C3.out.mono ?_)
  rintro e w3 ⟨gd, rfl, hgd, hb3, hs3, hd3⟩
  have H3 := Lib.hid (One.fresh (hd3 w1.heap.size HB2.out.size) (Nat.le_trans HB2.out.size hb3.size))
  have HB3 := Lib.hid (HB2.out.trans (hb3.mono HB2.out.size))
  have C4 := Lib.hid (H3.out.open_ (fun S hd hb => wopen_any false w1.heap.size gd N S DSt.new w3 pg (HD.out _ HB3.out).1 hd hb))
  have hs0 : (openSt DSt.new false) false = ([], 0) := (open_encs (st := DSt.new) (a := false) (F := []) (by simp) rfl).2
  clear hgd hb3 hs3 hd3 CR1 CR2 CR5 C2 C3 y0 y1 HB2
  go_wp2_with fail
  go_must (refine C4.out.mono ?_)
  rintro e w4 ⟨v4, G4, gl, rfl, hk4, _, hf4, hm4, ho4, hon4, _⟩
  have H4 := Lib.hid (ho4.less (X' := fun i => i = gl) (fun i hi => .inr (.inr hi)))
  have HB4 := Lib.hid (HB3.out.trans (hon4.rest H3.out.base_le))
  have HKL4 := Lib.hid hk4
  obtain ⟨A4, c4, rfl, _, _, _⟩ := own_slice hf4.own
  clear C4 hk4 hf4 hm4 ho4 hon4 H3 HB3
  generalize openSt DSt.new false = s0 at *
  have C5 : Hid (Calls Tryz.prog 13 #[.pointer (some ⟨gl, 0, none⟩), .slice A1 n1 c1] w4 fun e w' => e = .returned (.int .i64 ((laidF N false F1 s0).1 : Nat)) ∧ One false (fun i => i = gl) w' w1.heap.size gd N (laidF N false F1 s0).2 ∧ Only (Rest w1.heap.size (fun i => i = gl)) w4 w') :=
    H4.out.actX (fun S hd hb hX => laid_any false gl w1.heap.size gd N S s0 A1 n1 c1 F1 pg w4 (HD.out _ HB4.out).1 hgb hd hb HKL4.out (hX gl rfl) (HD1.out _ HB4.out).1 HL1.out (by omega))
  have hat := laidF_at N false F1 s0 HK1.out
  have hle := laidF_le N false F1 s0
  rw [hs0] at hat
  simp only [List.nil_append] at hat
  generalize laidF N false F1 s0 = L1 at *
  obtain ⟨k, s1⟩ := L1
  simp only at hat hle C5
  have HAT := Lib.hid hat
  have hkn : k ≤ n1 := by have := HL1.out; omega
  clear hat hle hs0
  go_wp2_with fail
  go_must (refine C5.out.mono ?_)
  rintro e w5 ⟨rfl, h5, ho5⟩
  have H5 := Lib.hid h5
  have HB5w := Lib.hid (HB4.out.trans (ho5.rest H4.out.base_le))
  have HKL5 := Lib.hid (HKL4.out.only ho5 (fun h => h.2 rfl))
  have D5 : Hid (Calls Tryz.prog 14 #[.pointer (some ⟨gl, 0, none⟩)] w5 fun e w' => e = .returned (.tuple #[]) ∧ One false (fun i => i = gl) w' w1.heap.size gd N (s1.sync false) ∧ Only (Rest w1.heap.size (fun i => i = gl)) w5 w') :=
    H5.out.act (fun S hd hb => wsync_any false gl w1.heap.size gd N S s1 w5 hd hb HKL5.out)
  have HS2 : Hid ((s1.sync false) false = (encs (F1.take k), (encs (F1.take k)).length)) := by show _ = _; rw [sync_at, HAT.out]
  clear h5 ho5 H4 HB4 HKL4 C5 HAT
  generalize s1.sync false = s2 at *
  go_wp2_with fail
  go_must (refine D5.out.mono ?_)
  rintro e w6 ⟨rfl, h6, ho6⟩
  have H6 := Lib.hid h6
  have HB6 := Lib.hid (HB5w.out.trans (ho6.rest H5.out.base_le))
  have HKL6 := Lib.hid (HKL5.out.only ho6 (fun h => h.2 rfl))
  clear h6 ho6 H5 HB5w HKL5 D5
  have C6 : Hid (Calls Tryz.prog 13 #[.pointer (some ⟨gl, 0, none⟩), .slice A2 n2 c2] w6 fun e w' => e = .returned (.int .i64 ((laidF N false F2 s2).1 : Nat)) ∧ One false (fun i => i = gl) w' w1.heap.size gd N (laidF N false F2 s2).2 ∧ Only (Rest w1.heap.size (fun i => i = gl)) w6 w') :=
    H6.out.actX (fun S hd hb hX => laid_any false gl w1.heap.size gd N S s2 A2 n2 c2 F2 pg w6 (HD.out _ HB6.out).1 hgb hd hb HKL6.out (hX gl rfl) (HD1.out _ HB6.out).2 HL2.out (by omega))
  have hat := laidF_at N false F2 s2 HK2.out
  have hle := laidF_le N false F2 s2
  rw [HS2.out] at hat
  simp only at hat
  generalize laidF N false F2 s2 = L2 at *
  obtain ⟨j2, s3⟩ := L2
  simp only at hat hle C6
  have HAT := Lib.hid hat
  have hjn2 : j2 ≤ n2 := by have := HL2.out; omega
  clear hat hle
  have hkc : k ≤ c1 := by omega
  have hkcI : (k : Int) ≤ (c1 : Int) := by omega
  by_cases hkk : k = n1
  case pos =>
    subst hkk
    have hkkI : ((k : Int) == (k : Int)) = true := by simp
    go_wp2_with fail
    go_must (refine C6.out.mono ?_)
    rintro e wp ⟨rfl, h7, ho7⟩
    have HP := Lib.hid h7
    have HBP := Lib.hid (HB6.out.trans (ho7.rest H6.out.base_le))
    clear h7 ho7 H6 HB6 HKL6 C6 HS2
    obtain ⟨j, rfl⟩ : ∃ j, j = j2 := ⟨_, rfl⟩
    have ho0 : Hid ((wp.alloc (.cells #[] 25)).ownsRow wp.heap.size 25 2 (.slice (some ⟨wp.heap.size, 0, none⟩) 0 0) 0 []) := own_made wp [] 0 (Nat.le_refl _) (by simp [maxLen]) #[] rfl rfl
    have hb9 : Below wp.heap.size wp (wp.alloc (.cells #[] 25)) := (Below.refl _ _).alloc (Nat.le_refl _) _
    have HB9 := Lib.hid hb9
    have HX9 : Hid (FrsR (wp.alloc (.cells #[] 25)) w1.heap.size A1 (G1.take k)) := (HD.out _ (HBP.out.trans (hb9.mono HBP.out.size))).2.1.take (by have := HLG1.out; omega)
    have HLK : Hid ((G1.take k).length = k) := by show _ = _; rw [List.length_take]; have := HLG1.out; omega
    have HXR : Hid (Reads (wp.alloc (.cells #[] 25)) w1.heap.size 2 A1 k (cellsG (G1.take k))) := by
      have := HX9.out.rd
      rwa [HLK.out] at this
    have hq9 : (0 + k) * 32 ≤ 140737488355328 := by omega
    have hszP : w1.heap.size ≤ wp.heap.size := HBP.out.size
    clear hb9
    go_wp2_with
      (at_builtin
       go_must (refine wpList_app elFrame (.tmp 68) (.tmp 71) rfl rfl ho0.out rfl rfl HXR.out HX9.out.one hq9 HB9.out.size ?_)
       intro v10 w10 hown10' _ _ hb10
       have hown10 : w10.ownsRow wp.heap.size 25 2 v10 (G1.take k).length (cellsG (G1.take k)) := (by rw [HLK.out]; simpa using hown10')
       clear hown10')
    have HBQ := Lib.hid (HB9.out.trans hb10)
    have HW10 : Hid (WantAt w10 wp.heap.size w1.heap.size v10 (G1.take k ++ G2.take 0)) := by
      rw [List.take_zero, List.append_nil]
      exact ⟨hown10, fun x hx => by obtain ⟨s, h1, h2, h3, h4⟩ := HX9.out.body x hx; exact ⟨s, h1, h2, h3, h4.below (hb10.mono hszP)⟩⟩
    clear hown10 hb10 ho0 HB9 HX9 HXR HLK
    go_loopw [17, 18, 19] (fun vv vl vi wr => ∃ t : Nat, vi = .int .i64 t ∧ vl = .int .i64 (keep - ((encs (F2.take t)).length : Int)) ∧ t ≤ j ∧ (0 < t → ((encs (F2.take t)).length : Int) ≤ keep) ∧ WantAt wr wp.heap.size w1.heap.size vv (G1.take k ++ G2.take t) ∧ Below wp.heap.size wp wr) (fun _ _ vi _ => j - (intOf vi).toNat)
    case atStart => exact ⟨0, rfl, by simp [encs], by omega, by omega, HW10.out, HBQ.out⟩
    case round =>
      obtain ⟨t, rfl, rfl, htj, htk, hwant, hbel⟩ := hrel
      have HW := Lib.hid hwant
      have HBE := Lib.hid hbel
      have HTK := Lib.hid htk
      obtain ⟨_, _, hx2, _, z0, z1, _⟩ := HD.out _ (HBP.out.trans (hbel.mono hszP))
      have HX2 := Lib.hid hx2
      clear hwant hbel htk hx2 HW10 HBQ z0 z1
      by_cases hgo : t < j ∧ (9 + ((F2.getD t ⟨0, []⟩).b.length : Int)) ≤ keep - ((encs (F2.take t)).length : Int)
      · obtain ⟨htlt, hleft⟩ := hgo
        have htF : t < F2.length := by have := HL2.out; omega
        have htG : t < G2.length := by have := HLG2.out; omega
        obtain ⟨ad, rfl, y0, x, hxv, y1, hxm, hxc, hxr⟩ := HX2.out.at_ htG
        have hGF : (G2[t]).1 = F2[t] := by have := HFG2.out; subst this; simp
        have hbl := hxr.bytes_len
        have HSU := Lib.hid (encs_take_succ htF)
        rw [hGF] at hbl y0
        have hgd : F2.getD t ⟨0, []⟩ = F2[t] := by rw [List.getD_eq_getElem?_getD, List.getElem?_eq_getElem htF]; rfl
        rw [hgd, hbl] at hleft
        have HTK1 : Hid (((encs (F2.take (t + 1))).length : Int) ≤ keep) := by show _ ≤ _; rw [HSU.out, hbl]; omega
        have HSU2 : Hid (keep - ((encs (F2.take t)).length : Int) - 9 - (x.m : Int) = keep - ((encs (F2.take (t + 1))).length : Int)) := by show _ = _; rw [HSU.out, hbl]; omega
        have HGT : Hid (G2.take (t + 1) = G2.take t ++ [G2[t]]) := List.take_succ_eq_append_getElem htG
        have HXB : Hid (∃ s : Sl, (G2[t]).2 = s.val ∧ s.m ≤ s.c ∧ s.c ≤ maxLen ∧ Reads wr w1.heap.size 1 s.A s.m ((G2[t]).1.b.map bval)) := ⟨x, hxv, hxm, hxc, hxr⟩
        have hfrC : frC G2[t] = [ival F2[t].k, x.val] := by simp only [frC, hGF, hxv]
        have HFC := Lib.hid hfrC
        have HLW : Hid ((G1.take k ++ G2.take t).length = k + t) := by show _ = _; rw [List.length_append, List.length_take, List.length_take]; have := HLG1.out; have := HLG2.out; omega
        have hq : ((G1.take k ++ G2.take t).length + 1) * 32 ≤ 140737488355328 := by rw [HLW.out]; omega
        have HQ := Lib.hid hq
        have HY : Hid (∀ W, Below wp.heap.size wp W → W.cell? ⟨(ad.add (t * 2)).block, (ad.add (t * 2)).off + 1, none⟩ = some x.val) := fun W hW => by
          obtain ⟨ad', e', _, x', hv', y', _⟩ := (HD.out W (HBP.out.trans (hW.mono hszP))).2.2.1.at_ htG
          cases e'
          rw [y', ← hv', hxv]
        obtain ⟨lf, hlf⟩ : ∃ lf : Int, keep - ((encs (F2.take t)).length : Int) = lf := ⟨_, rfl⟩
        rw [hlf] at HSU2 hleft
        rw [hlf]
        have hlf1 : 9 + (x.m : Int) ≤ lf := hleft
        have hlf2 : lf ≤ 9223372036854775807 := by omega
        have hltI : (t : Int) < (j : Int) := by omega
        have htnI : (t : Int) < (n2 : Int) := by omega
        have hw1 : IntKind.i64.wrap (9 + (x.m : Int)) = 9 + (x.m : Int) := IntWalk.i64_in _ (by omega)
        have hw2 : IntKind.i64.wrap (lf - 9) = lf - 9 := IntWalk.i64_in _ (by omega)
        have hw3 : IntKind.i64.wrap (lf - 9 - (x.m : Int)) = lf - 9 - (x.m : Int) := IntWalk.i64_in _ (by omega)
        have hge : decide (lf ≥ 9 + (x.m : Int)) = true := by simp; omega
        generalize F2[t].k = fk at *
        clear hGF hbl hgd hleft hfrC hxr hxv hq hlf HSU
        rcases x with ⟨xA, xm, xc⟩
        simp only [Sl.val] at y1 HFC HY hw1 hw2 hw3 hge hlf1 HSU2 hxm hxc
        go_wp2_with
          (at_builtin
           go_must (refine wpList_push wr elFrame (.tmp 90) (.tmp 95) rfl rfl HW.out.own rfl [ival fk, .slice xA xm xc] rfl rfl rfl rfl HQ.out HBE.out.size ?_)
           intro v11 w11 hown11 _ _ hb11 _
           have y3 := HY.out w11 (HBE.out.trans hb11))
        rw [← HFC.out] at hown11
        have HW11 := Lib.hid (HW.out.push hb11 hszP HXB.out hown11)
        have HBE11 := Lib.hid (HBE.out.trans hb11)
        clear hown11 hb11 HW HBE HX2 y0 y1
        go_wp2_with fail
        go_roundw
        case rel => exact ⟨t + 1, by go_num, by rw [HSU2.out], by omega, fun _ => HTK1.out, by rw [HGT.out, ← List.append_assoc]; exact HW11.out, HBE11.out⟩
        case measure => simp [intOf]; omega
      · have HEX : Hid (t < j → keep < ((encs (F2.take (t + 1))).length : Int)) := fun h => by
          have htF : t < F2.length := by have := HL2.out; omega
          have hgd : F2.getD t ⟨0, []⟩ = F2[t] := by rw [List.getD_eq_getElem?_getD, List.getElem?_eq_getElem htF]; rfl
          rw [hgd] at hgo
          rw [encs_take_succ htF]
          omega
        obtain ⟨A17, c17, hv17, hc171, hc172, _⟩ := own_slice HW.out.own
        subst hv17
        have HLW : Hid ((G1.take k ++ G2.take t).length = k + t) := by show _ = _; rw [List.length_append, List.length_take, List.length_take]; have := HLG1.out; have := HLG2.out; omega
        have HMW : Hid ((G1.take k ++ G2.take t).map (·.1) = F1.take k ++ F2.take t) := by show _ = _; rw [List.map_append, List.map_take, List.map_take, HFG1.out, HFG2.out]
        have H17 := Lib.hid (HP.out.more (X' := fun i => (Value.slice A17 (G1.take k ++ G2.take t).length c17).ownBlock = some i) HBE.out (fun i hi => .inr (HW.out.own.lt i hi)))
        have HB17 := Lib.hid (HBP.out.trans (HBE.out.mono hszP))
        have hokP : ∀ f ∈ F1.take k, Ok f := fun f hf => (HK1.out f (List.mem_of_mem_take hf)).ok
        have hokB : ∀ f ∈ F2.take j, Ok f := fun f hf => (HK2.out f (List.mem_of_mem_take hf)).ok
        have hlB : (F2.take j).length = j := by rw [List.length_take]; have := HL2.out; omega
        have htt : (F2.take j).take t = F2.take t := by rw [List.take_take, Nat.min_eq_left htj]
        have hcf := crash_found (st := s3) (a := false) (P := F1.take k) (B := F2.take j) (keep := keep) (t := t) hokP hokB HAT.out (by omega) (fun h => by rw [htt]; exact HTK.out h) (fun h => by
          have h2 := HEX.out (by omega)
          rw [List.take_take, Nat.min_eq_left (by omega)]
          exact h2)
        rw [htt] at hcf
        have HCF1 := Lib.hid hcf.1
        have HCF2 := Lib.hid hcf.2
        have HOW : Hid (∀ f ∈ F1.take k ++ F2.take t, Ok f) := fun f hf => by
          rcases List.mem_append.1 hf with h | h
          · exact hokP f h
          · exact (HK2.out f (List.mem_of_mem_take h)).ok
        have D17 : Hid (Calls Tryz.prog 15 #[.pointer (some ⟨gd, 0, none⟩), .int .i64 keep] wr fun e w' => e = .returned (.tuple #[]) ∧ One false (fun i => (Value.slice A17 (G1.take k ++ G2.take t).length c17).ownBlock = some i) w' w1.heap.size gd N (s3.crash keep) ∧ Only (Rest w1.heap.size (fun i => (Value.slice A17 (G1.take k ++ G2.take t).length c17).ownBlock = some i)) wr w') :=
          H17.out.act (fun S hd hb => crash_any w1.heap.size gd N S s3 keep wr hd hb)
        have hmxl : k + t ≤ maxLen := by unfold maxLen; omega
        have hgo2 : Hid (t < j → ∀ (h : t < F2.length), keep - ((encs (F2.take t)).length : Int) < 9 + (F2[t].b.length : Int)) := fun h h2 => by
          have hgd : F2.getD t ⟨0, []⟩ = F2[t] := by rw [List.getD_eq_getElem?_getD, List.getElem?_eq_getElem h2]; rfl
          rw [hgd] at hgo
          omega
        have hszc : wp.heap.size ≤ wr.heap.size := HBE.out.size
        clear hokP hokB hlB htt hcf HEX HTK HAT HX2 HBE hgo
        generalize s3.crash keep = s4 at *
        generalize G1.take k ++ G2.take t = GW at *
        generalize F1.take k ++ F2.take t = FW at *
        rcases Decidable.em (t < j) with htlt | htlt
        case inl =>
          have htG : t < G2.length := by have := HLG2.out; omega
          obtain ⟨ad, rfl, y0, x, hxv, y1, hxm, hxc, hxr⟩ := (HD.out wr HB17.out).2.2.1.at_ htG
          have hbl := hxr.bytes_len
          have hGF : (G2[t]).1.b.length = x.m := hbl
          have hno : keep - ((encs (F2.take t)).length : Int) < 9 + (x.m : Int) := by
            have htF : t < F2.length := by have := HL2.out; omega
            have h1 := hgo2.out htlt htF
            have h2 : (G2[t]).1 = F2[t] := by have := HFG2.out; subst this; simp
            rw [h2] at hGF
            rw [← hGF]
            exact h1
          have hx1024 : x.m ≤ 1024 := by
            have htF : t < F2.length := by have := HL2.out; omega
            have h2 : (G2[t]).1 = F2[t] := by have := HFG2.out; subst this; simp
            rw [h2] at hGF
            rw [← hGF]
            exact (HK2.out _ (List.getElem_mem htF)).2.2
          generalize keep - ((encs (F2.take t)).length : Int) = lf at *
          have hltI : (t : Int) < (j : Int) := by omega
          have htnI : (t : Int) < (n2 : Int) := by omega
          have hw1 : IntKind.i64.wrap (9 + (x.m : Int)) = 9 + (x.m : Int) := IntWalk.i64_in _ (by omega)
          have hge : decide (lf ≥ 9 + (x.m : Int)) = false := by simp; omega
          have hge2 : ¬ (9 + (x.m : Int) ≤ lf) := by omega
          clear hxr hxv hbl hGF
          go_wp2_with fail
          go_must (refine D17.out.mono ?_)
          rintro e w18 ⟨rfl, h18, ho18⟩
          have H18 := Lib.hid h18
          have hszc := Nat.le_trans hszc ho18.size
          have HB18 := Lib.hid (HB17.out.trans (ho18.rest H17.out.base_le))
          have HW18 := Lib.hid (HW.out.off ho18 (ho18.rest H17.out.base_le) (fun g hg h => h.2 hg))
          have C18 := Lib.hid (H18.out.open_ (fun S hd hb => wopen_any false w1.heap.size gd N S s4 w18 pg (HD.out _ HB18.out).1 hd hb))
          clear h18 ho18 H17 HB17 HW D17
          go_wp2_with fail
          go_must (refine C18.out.mono ?_)
          rintro e w19 ⟨v19, G19, gm, rfl, hk19, _, hf19, hm19, ho19, hon19, _⟩
          rw [HCF1.out] at hm19
          obtain ⟨A19, c19, rfl, hc191, hc192, _⟩ := own_slice hf19.own
          have H19 := Lib.hid (ho19.less (X' := fun i => (Value.slice A17 GW.length c17).ownBlock = some i ∨ i = gm) (fun i hi => by
            rcases hi with h | h
            · exact .inl h
            · exact .inr (.inr h)))
          have hszc := Nat.le_trans hszc hon19.size
          have HB19 := Lib.hid (HB18.out.trans (hon19.rest H18.out.base_le))
          have HW19 := Lib.hid (HW18.out.off hon19 (hon19.rest H18.out.base_le) (fun g hg h => h.2 hg))
          have HKM19 := Lib.hid hk19
          have hrdW := HW19.out.rd HB19.out.size
          rw [HMW.out] at hrdW
          have hl19 : FW.length = G19.length := by rw [← hm19, List.length_map]
          have hlW : FW.length = GW.length := by rw [← HMW.out, List.length_map]
          have S19 := sameFrames_any A19 A17 G19.length c19 GW.length c17 w19.heap.size w19.heap.size FW FW w19 (by have := hf19.rd; rwa [hm19] at this) hrdW hl19 hlW (by omega) (by omega)
          rw [decide_eq_true rfl] at S19
          have D19 := Lib.hid S19
          clear C18 hk19 hf19 hm19 ho19 hon19 H18 HB18 HW18 S19 hl19 hlW hrdW
          go_wp2_with fail
          go_must (refine D19.out.mono ?_)
          rintro e w20 ⟨rfl, q20, hw20⟩
          have H20 : Hid (One false (fun i => (Value.slice A17 GW.length c17).ownBlock = some i ∨ i = gm) w20 w1.heap.size gd N (openSt s4 false)) := by show One _ _ _ _ _ _ _; rw [hw20]; exact H19.out.below (below_drewN (Below.refl _ _) q20)
          have HB20 : Hid (Below w1.heap.size w1 w20) := by show Below _ _ _; rw [hw20]; exact below_drewN HB19.out q20
          have HW20 : Hid (WantAt w20 wp.heap.size w1.heap.size (.slice A17 GW.length c17) GW) := by rw [hw20]; exact HW19.out.below (below_drewN (Below.refl _ _) q20) HB19.out.size
          have hszc : wp.heap.size ≤ w20.heap.size := by rw [hw20]; exact hszc
          have HKM20 : Hid (Blk w20 gm (lType false) (lCells gd false)) := by show Blk _ _ _ _; rw [hw20]; exact HKM19.out.drewN q20
          clear hw20 D19 H19 HB19 HW19 HKM19
          obtain ⟨_, _, _, r20, z0, z1, _⟩ := HD.out _ HB20.out
          obtain ⟨s5, hs5⟩ : ∃ s, openSt s4 false = s := ⟨_, rfl⟩
          rw [hs5] at HCF2 H20
          clear hs5
          have C20 := H20.out.act (fun S hd hb => wappend_any false gm w1.heap.size gd N S s5 k5 bs5 A5 m5 c5 w1.heap.size pg w20 (HD.out _ HB20.out).1 hgb hd hb HKM20.out r20 HB20.out.size (by omega))
          have HNO : Hid (appN N s5 false ⟨k5, bs5⟩ ≠ 0 → appSt N s5 false ⟨k5, bs5⟩ = s5) := appSt_no
          have HYES : Hid (appN N s5 false ⟨k5, bs5⟩ = 0 → ((appSt N s5 false ⟨k5, bs5⟩) false).1 = encs (FW ++ [⟨k5, bs5⟩])) := fun h => by
            rw [appSt_at HK5.out.putE h, HCF2.out, encs_app, encs_one]
          generalize appN N s5 false ⟨k5, bs5⟩ = E at *
          generalize appSt N s5 false ⟨k5, bs5⟩ = s6 at *
          have D20 := Lib.hid C20
          clear C20 r20 HKM20
          go_wp2_with fail
          go_must (refine D20.out.mono ?_)
          rintro e w21 ⟨rfl, h21, ho21⟩
          have H21 := Lib.hid (h21.less (X' := fun i => (Value.slice A17 GW.length c17).ownBlock = some i) (fun i hi => .inl hi))
          have hszc := Nat.le_trans hszc ho21.size
          have HB21 := Lib.hid (HB20.out.trans (ho21.rest H20.out.base_le))
          have HW21 := Lib.hid (HW20.out.off ho21 (ho21.rest H20.out.base_le) (fun g hg h => h.2 (.inl hg)))
          clear D20 h21 ho21 H20 HB20 HW20 z0 z1
          by_cases hE : E = 0
          · have HOZ0 := Lib.hid (open_encs (st := s6) (a := false) (F := FW ++ [⟨k5, bs5⟩]) (fun f hf => by
              rcases List.mem_append.1 hf with h | h
              · exact HOW.out f h
              · rw [List.mem_singleton.1 h]; exact HK5.out.ok) (HYES.out hE)).1
            subst hE
            obtain ⟨_, _, _, r21, z0, z1, _⟩ := HD.out _ HB21.out
            have hq : (GW.length + 1) * 32 ≤ 140737488355328 := by rw [HLW.out]; omega
            have HQ := Lib.hid hq
            have hszW : wp.heap.size ≤ w21.heap.size := hszc
            clear hq
            go_wp2_with
              (at_builtin
               go_must (refine wpList_push w21 elFrame (.tmp 126) (.tmp 128) rfl rfl HW21.out.own rfl [ival k5, .slice A5 m5 c5] rfl rfl rfl rfl HQ.out hszW ?_)
               intro v22 w22 hown22 hg22 hv22 hb22 hs22)
            have HW22 := HW21.out.push (x := (⟨k5, bs5⟩, .slice A5 m5 c5)) hb22 hszP ⟨⟨A5, m5, c5⟩, rfl, hmc5, hm5, r21⟩ hown22
            obtain ⟨AZ, cZ, hvZ, hcZ1, hcZ2, _⟩ := own_slice HW22.own
            subst hvZ
            have HZ := Lib.hid (H21.out.grown (X' := fun i => (Value.slice AZ (GW ++ [((⟨k5, bs5⟩ : Fr), Value.slice A5 m5 c5)]).length cZ).ownBlock = some i) hg22 (fun i hi => hi) (fun i hi => by
              have hlt2 := (HW22.own.lt i hi).2
              rcases hv22 with h | h
              · exact .inl (h ▸ hi)
              · have : w21.heap.size + 1 = i := Option.some.inj (h.symm.trans hi)
                exact .inr ⟨by omega, hlt2⟩))
            have HBZ := Lib.hid (HB21.out.trans (hb22.mono hszP))
            have HWZ := Lib.hid HW22
            have HGZ : Hid ((GW ++ [((⟨k5, bs5⟩ : Fr), Value.slice A5 m5 c5)]).map (·.1) = FW ++ [⟨k5, bs5⟩]) := by show _ = _; rw [List.map_append, HMW.out]; rfl
            have HOZ := HOZ0
            have hlg : (GW ++ [((⟨k5, bs5⟩ : Fr), Value.slice A5 m5 c5)]).length = GW.length + 1 := by simp
            clear hown22 hg22 hv22 hb22 hs22 HW22 H21 HB21 HW21 r21 z0 z1 HYES HNO hlg
            generalize GW ++ [((⟨k5, bs5⟩ : Fr), Value.slice A5 m5 c5)] = GZ at *
            generalize FW ++ [(⟨k5, bs5⟩ : Fr)] = FZ at *
            obtain ⟨wz, rfl⟩ : ∃ wz : World, wz = w22 := ⟨_, rfl⟩
            obtain ⟨sZ, rfl⟩ : ∃ sZ : DSt, sZ = s6 := ⟨_, rfl⟩
            have CZ := Lib.hid (HZ.out.open_ (fun S hd hb => wopen_any false w1.heap.size gd N S sZ wz pg (HD.out _ HBZ.out).1 hd hb))
            go_wp2_with fail
            go_must (refine CZ.out.mono ?_)
            rintro e w30 ⟨v30, G30, gl30, rfl, hk30, _, hf30, hm30, ho30, hon30, _⟩
            rw [HOZ.out] at hm30
            have hlz30 : GZ.length ≤ cZ ∧ cZ ≤ maxLen := (by obtain ⟨Aq, cq, hq1, hq2, hq3, _⟩ := own_slice HWZ.out.own; injection hq1 with _ _ h3; subst h3; exact ⟨hq2, hq3⟩)
            obtain ⟨A30, c30, rfl, hc301, hc302, _⟩ := own_slice hf30.own
            have HB30 := Lib.hid (HBZ.out.trans (hon30.rest HZ.out.base_le))
            have HW30 := HWZ.out.off hon30 (hon30.rest HZ.out.base_le) (fun g hg h => h.2 hg)
            have hrdW := HW30.rd (Nat.le_trans HB30.out.size (Nat.le_refl _))
            rw [HGZ.out] at hrdW
            have hl30 : FZ.length = G30.length := by rw [← hm30, List.length_map]
            have hlW : FZ.length = GZ.length := by rw [← HGZ.out, List.length_map]
            have S30 := sameFrames_any A30 AZ G30.length c30 GZ.length cZ w30.heap.size w30.heap.size FZ FZ w30 (by have := hf30.rd; rwa [hm30] at this) hrdW hl30 hlW (by omega) (by omega)
            rw [decide_eq_true rfl] at S30
            have D30 := Lib.hid S30
            clear CZ hk30 hf30 hm30 ho30 hon30 HZ HBZ S30 hl30 hlW hrdW HW30 HWZ
            go_wp2_with fail
            go_must (refine D30.out.mono ?_)
            rintro e w31 ⟨rfl, q31, hw31⟩
            have HB31 : Hid (Below w1.heap.size w1 w31) := by show Below _ _ _; rw [hw31]; exact below_drewN HB30.out q31
            clear hw31 D30
            go_wp2_with fail
            go_must (refine (WK.out _ HB31.out).mono ?_)
            rintro e w32 ⟨rfl, hb32⟩
            go_wp2_with fail
            go_ret
            exact ⟨rfl, (HD.out _ (HB31.out.trans (hb32.mono HB31.out.size))).2.2.2.2.2.2⟩
          · have hne : ((E : Int) == 0) = false := by simp; omega
            have hs65 : s6 = s5 := HNO.out hE
            have HOZ : Hid (openFr s6 false = FW) := by show _ = _; rw [hs65]; exact (open_encs (st := s5) (a := false) (F := FW) HOW.out (by rw [HCF2.out])).1
            have HZ := H21
            have HBZ := HB21
            have HWZ := HW21
            have HGZ := HMW
            clear H21 HB21 HW21 HYES HNO hs65 HMW
            obtain ⟨AZ, rfl⟩ : ∃ AZ : Option Addr, AZ = A17 := ⟨_, rfl⟩
            obtain ⟨cZ, rfl⟩ : ∃ cZ : Nat, cZ = c17 := ⟨_, rfl⟩
            obtain ⟨GZ, rfl⟩ : ∃ GZ : List FrV, GZ = GW := ⟨_, rfl⟩
            obtain ⟨FZ, rfl⟩ : ∃ FZ : List Fr, FZ = FW := ⟨_, rfl⟩
            obtain ⟨wz, rfl⟩ : ∃ wz : World, wz = w21 := ⟨_, rfl⟩
            obtain ⟨sZ, rfl⟩ : ∃ sZ : DSt, sZ = s6 := ⟨_, rfl⟩
            have CZ := Lib.hid (HZ.out.open_ (fun S hd hb => wopen_any false w1.heap.size gd N S sZ wz pg (HD.out _ HBZ.out).1 hd hb))
            go_wp2_with fail
            go_must (refine CZ.out.mono ?_)
            rintro e w30 ⟨v30, G30, gl30, rfl, hk30, _, hf30, hm30, ho30, hon30, _⟩
            rw [HOZ.out] at hm30
            have hlz30 : GZ.length ≤ cZ ∧ cZ ≤ maxLen := (by obtain ⟨Aq, cq, hq1, hq2, hq3, _⟩ := own_slice HWZ.out.own; injection hq1 with _ _ h3; subst h3; exact ⟨hq2, hq3⟩)
            obtain ⟨A30, c30, rfl, hc301, hc302, _⟩ := own_slice hf30.own
            have HB30 := Lib.hid (HBZ.out.trans (hon30.rest HZ.out.base_le))
            have HW30 := HWZ.out.off hon30 (hon30.rest HZ.out.base_le) (fun g hg h => h.2 hg)
            have hrdW := HW30.rd (Nat.le_trans HB30.out.size (Nat.le_refl _))
            rw [HGZ.out] at hrdW
            have hl30 : FZ.length = G30.length := by rw [← hm30, List.length_map]
            have hlW : FZ.length = GZ.length := by rw [← HGZ.out, List.length_map]
            have S30 := sameFrames_any A30 AZ G30.length c30 GZ.length cZ w30.heap.size w30.heap.size FZ FZ w30 (by have := hf30.rd; rwa [hm30] at this) hrdW hl30 hlW (by omega) (by omega)
            rw [decide_eq_true rfl] at S30
            have D30 := Lib.hid S30
            clear CZ hk30 hf30 hm30 ho30 hon30 HZ HBZ S30 hl30 hlW hrdW HW30 HWZ
            go_wp2_with fail
            go_must (refine D30.out.mono ?_)
            rintro e w31 ⟨rfl, q31, hw31⟩
            have HB31 : Hid (Below w1.heap.size w1 w31) := by show Below _ _ _; rw [hw31]; exact below_drewN HB30.out q31
            clear hw31 D30
            go_wp2_with fail
            go_must (refine (WK.out _ HB31.out).mono ?_)
            rintro e w32 ⟨rfl, hb32⟩
            go_wp2_with fail
            go_ret
            exact ⟨rfl, (HD.out _ (HB31.out.trans (hb32.mono HB31.out.size))).2.2.2.2.2.2⟩
        case inr =>
          have hltI : ¬ ((t : Int) < (j : Int)) := by omega
          have hltd : decide ((t : Int) < (j : Int)) = false := by simp; omega
          go_wp2_with fail
          go_must (refine D17.out.mono ?_)
          rintro e w18 ⟨rfl, h18, ho18⟩
          have H18 := Lib.hid h18
          have hszc := Nat.le_trans hszc ho18.size
          have HB18 := Lib.hid (HB17.out.trans (ho18.rest H17.out.base_le))
          have HW18 := Lib.hid (HW.out.off ho18 (ho18.rest H17.out.base_le) (fun g hg h => h.2 hg))
          have C18 := Lib.hid (H18.out.open_ (fun S hd hb => wopen_any false w1.heap.size gd N S s4 w18 pg (HD.out _ HB18.out).1 hd hb))
          clear h18 ho18 H17 HB17 HW D17
          go_wp2_with fail
          go_must (refine C18.out.mono ?_)
          rintro e w19 ⟨v19, G19, gm, rfl, hk19, _, hf19, hm19, ho19, hon19, _⟩
          rw [HCF1.out] at hm19
          obtain ⟨A19, c19, rfl, hc191, hc192, _⟩ := own_slice hf19.own
          have H19 := Lib.hid (ho19.less (X' := fun i => (Value.slice A17 GW.length c17).ownBlock = some i ∨ i = gm) (fun i hi => by
            rcases hi with h | h
            · exact .inl h
            · exact .inr (.inr h)))
          have hszc := Nat.le_trans hszc hon19.size
          have HB19 := Lib.hid (HB18.out.trans (hon19.rest H18.out.base_le))
          have HW19 := Lib.hid (HW18.out.off hon19 (hon19.rest H18.out.base_le) (fun g hg h => h.2 hg))
          have HKM19 := Lib.hid hk19
          have hrdW := HW19.out.rd HB19.out.size
          rw [HMW.out] at hrdW
          have hl19 : FW.length = G19.length := by rw [← hm19, List.length_map]
          have hlW : FW.length = GW.length := by rw [← HMW.out, List.length_map]
          have S19 := sameFrames_any A19 A17 G19.length c19 GW.length c17 w19.heap.size w19.heap.size FW FW w19 (by have := hf19.rd; rwa [hm19] at this) hrdW hl19 hlW (by omega) (by omega)
          rw [decide_eq_true rfl] at S19
          have D19 := Lib.hid S19
          clear C18 hk19 hf19 hm19 ho19 hon19 H18 HB18 HW18 S19 hl19 hlW hrdW
          go_wp2_with fail
          go_must (refine D19.out.mono ?_)
          rintro e w20 ⟨rfl, q20, hw20⟩
          have H20 : Hid (One false (fun i => (Value.slice A17 GW.length c17).ownBlock = some i ∨ i = gm) w20 w1.heap.size gd N (openSt s4 false)) := by show One _ _ _ _ _ _ _; rw [hw20]; exact H19.out.below (below_drewN (Below.refl _ _) q20)
          have HB20 : Hid (Below w1.heap.size w1 w20) := by show Below _ _ _; rw [hw20]; exact below_drewN HB19.out q20
          have HW20 : Hid (WantAt w20 wp.heap.size w1.heap.size (.slice A17 GW.length c17) GW) := by rw [hw20]; exact HW19.out.below (below_drewN (Below.refl _ _) q20) HB19.out.size
          have hszc : wp.heap.size ≤ w20.heap.size := by rw [hw20]; exact hszc
          have HKM20 : Hid (Blk w20 gm (lType false) (lCells gd false)) := by show Blk _ _ _ _; rw [hw20]; exact HKM19.out.drewN q20
          clear hw20 D19 H19 HB19 HW19 HKM19
          obtain ⟨_, _, _, r20, z0, z1, _⟩ := HD.out _ HB20.out
          obtain ⟨s5, hs5⟩ : ∃ s, openSt s4 false = s := ⟨_, rfl⟩
          rw [hs5] at HCF2 H20
          clear hs5
          have C20 := H20.out.act (fun S hd hb => wappend_any false gm w1.heap.size gd N S s5 k5 bs5 A5 m5 c5 w1.heap.size pg w20 (HD.out _ HB20.out).1 hgb hd hb HKM20.out r20 HB20.out.size (by omega))
          have HNO : Hid (appN N s5 false ⟨k5, bs5⟩ ≠ 0 → appSt N s5 false ⟨k5, bs5⟩ = s5) := appSt_no
          have HYES : Hid (appN N s5 false ⟨k5, bs5⟩ = 0 → ((appSt N s5 false ⟨k5, bs5⟩) false).1 = encs (FW ++ [⟨k5, bs5⟩])) := fun h => by
            rw [appSt_at HK5.out.putE h, HCF2.out, encs_app, encs_one]
          generalize appN N s5 false ⟨k5, bs5⟩ = E at *
          generalize appSt N s5 false ⟨k5, bs5⟩ = s6 at *
          have D20 := Lib.hid C20
          clear C20 r20 HKM20
          go_wp2_with fail
          go_must (refine D20.out.mono ?_)
          rintro e w21 ⟨rfl, h21, ho21⟩
          have H21 := Lib.hid (h21.less (X' := fun i => (Value.slice A17 GW.length c17).ownBlock = some i) (fun i hi => .inl hi))
          have hszc := Nat.le_trans hszc ho21.size
          have HB21 := Lib.hid (HB20.out.trans (ho21.rest H20.out.base_le))
          have HW21 := Lib.hid (HW20.out.off ho21 (ho21.rest H20.out.base_le) (fun g hg h => h.2 (.inl hg)))
          clear D20 h21 ho21 H20 HB20 HW20 z0 z1
          by_cases hE : E = 0
          · have HOZ0 := Lib.hid (open_encs (st := s6) (a := false) (F := FW ++ [⟨k5, bs5⟩]) (fun f hf => by
              rcases List.mem_append.1 hf with h | h
              · exact HOW.out f h
              · rw [List.mem_singleton.1 h]; exact HK5.out.ok) (HYES.out hE)).1
            subst hE
            obtain ⟨_, _, _, r21, z0, z1, _⟩ := HD.out _ HB21.out
            have hq : (GW.length + 1) * 32 ≤ 140737488355328 := by rw [HLW.out]; omega
            have HQ := Lib.hid hq
            have hszW : wp.heap.size ≤ w21.heap.size := hszc
            clear hq
            go_wp2_with
              (at_builtin
               go_must (refine wpList_push w21 elFrame (.tmp 126) (.tmp 128) rfl rfl HW21.out.own rfl [ival k5, .slice A5 m5 c5] rfl rfl rfl rfl HQ.out hszW ?_)
               intro v22 w22 hown22 hg22 hv22 hb22 hs22)
            have HW22 := HW21.out.push (x := (⟨k5, bs5⟩, .slice A5 m5 c5)) hb22 hszP ⟨⟨A5, m5, c5⟩, rfl, hmc5, hm5, r21⟩ hown22
            obtain ⟨AZ, cZ, hvZ, hcZ1, hcZ2, _⟩ := own_slice HW22.own
            subst hvZ
            have HZ := Lib.hid (H21.out.grown (X' := fun i => (Value.slice AZ (GW ++ [((⟨k5, bs5⟩ : Fr), Value.slice A5 m5 c5)]).length cZ).ownBlock = some i) hg22 (fun i hi => hi) (fun i hi => by
              have hlt2 := (HW22.own.lt i hi).2
              rcases hv22 with h | h
              · exact .inl (h ▸ hi)
              · have : w21.heap.size + 1 = i := Option.some.inj (h.symm.trans hi)
                exact .inr ⟨by omega, hlt2⟩))
            have HBZ := Lib.hid (HB21.out.trans (hb22.mono hszP))
            have HWZ := Lib.hid HW22
            have HGZ : Hid ((GW ++ [((⟨k5, bs5⟩ : Fr), Value.slice A5 m5 c5)]).map (·.1) = FW ++ [⟨k5, bs5⟩]) := by show _ = _; rw [List.map_append, HMW.out]; rfl
            have HOZ := HOZ0
            have hlg : (GW ++ [((⟨k5, bs5⟩ : Fr), Value.slice A5 m5 c5)]).length = GW.length + 1 := by simp
            clear hown22 hg22 hv22 hb22 hs22 HW22 H21 HB21 HW21 r21 z0 z1 HYES HNO hlg
            generalize GW ++ [((⟨k5, bs5⟩ : Fr), Value.slice A5 m5 c5)] = GZ at *
            generalize FW ++ [(⟨k5, bs5⟩ : Fr)] = FZ at *
            obtain ⟨wz, rfl⟩ : ∃ wz : World, wz = w22 := ⟨_, rfl⟩
            obtain ⟨sZ, rfl⟩ : ∃ sZ : DSt, sZ = s6 := ⟨_, rfl⟩
            have CZ := Lib.hid (HZ.out.open_ (fun S hd hb => wopen_any false w1.heap.size gd N S sZ wz pg (HD.out _ HBZ.out).1 hd hb))
            go_wp2_with fail
            go_must (refine CZ.out.mono ?_)
            rintro e w30 ⟨v30, G30, gl30, rfl, hk30, _, hf30, hm30, ho30, hon30, _⟩
            rw [HOZ.out] at hm30
            have hlz30 : GZ.length ≤ cZ ∧ cZ ≤ maxLen := (by obtain ⟨Aq, cq, hq1, hq2, hq3, _⟩ := own_slice HWZ.out.own; injection hq1 with _ _ h3; subst h3; exact ⟨hq2, hq3⟩)
            obtain ⟨A30, c30, rfl, hc301, hc302, _⟩ := own_slice hf30.own
            have HB30 := Lib.hid (HBZ.out.trans (hon30.rest HZ.out.base_le))
            have HW30 := HWZ.out.off hon30 (hon30.rest HZ.out.base_le) (fun g hg h => h.2 hg)
            have hrdW := HW30.rd (Nat.le_trans HB30.out.size (Nat.le_refl _))
            rw [HGZ.out] at hrdW
            have hl30 : FZ.length = G30.length := by rw [← hm30, List.length_map]
            have hlW : FZ.length = GZ.length := by rw [← HGZ.out, List.length_map]
            have S30 := sameFrames_any A30 AZ G30.length c30 GZ.length cZ w30.heap.size w30.heap.size FZ FZ w30 (by have := hf30.rd; rwa [hm30] at this) hrdW hl30 hlW (by omega) (by omega)
            rw [decide_eq_true rfl] at S30
            have D30 := Lib.hid S30
            clear CZ hk30 hf30 hm30 ho30 hon30 HZ HBZ S30 hl30 hlW hrdW HW30 HWZ
            go_wp2_with fail
            go_must (refine D30.out.mono ?_)
            rintro e w31 ⟨rfl, q31, hw31⟩
            have HB31 : Hid (Below w1.heap.size w1 w31) := by show Below _ _ _; rw [hw31]; exact below_drewN HB30.out q31
            clear hw31 D30
            go_wp2_with fail
            go_must (refine (WK.out _ HB31.out).mono ?_)
            rintro e w32 ⟨rfl, hb32⟩
            go_wp2_with fail
            go_ret
            exact ⟨rfl, (HD.out _ (HB31.out.trans (hb32.mono HB31.out.size))).2.2.2.2.2.2⟩
          · have hne : ((E : Int) == 0) = false := by simp; omega
            have hs65 : s6 = s5 := HNO.out hE
            have HOZ : Hid (openFr s6 false = FW) := by show _ = _; rw [hs65]; exact (open_encs (st := s5) (a := false) (F := FW) HOW.out (by rw [HCF2.out])).1
            have HZ := H21
            have HBZ := HB21
            have HWZ := HW21
            have HGZ := HMW
            clear H21 HB21 HW21 HYES HNO hs65 HMW
            obtain ⟨AZ, rfl⟩ : ∃ AZ : Option Addr, AZ = A17 := ⟨_, rfl⟩
            obtain ⟨cZ, rfl⟩ : ∃ cZ : Nat, cZ = c17 := ⟨_, rfl⟩
            obtain ⟨GZ, rfl⟩ : ∃ GZ : List FrV, GZ = GW := ⟨_, rfl⟩
            obtain ⟨FZ, rfl⟩ : ∃ FZ : List Fr, FZ = FW := ⟨_, rfl⟩
            obtain ⟨wz, rfl⟩ : ∃ wz : World, wz = w21 := ⟨_, rfl⟩
            obtain ⟨sZ, rfl⟩ : ∃ sZ : DSt, sZ = s6 := ⟨_, rfl⟩
            have CZ := Lib.hid (HZ.out.open_ (fun S hd hb => wopen_any false w1.heap.size gd N S sZ wz pg (HD.out _ HBZ.out).1 hd hb))
            go_wp2_with fail
            go_must (refine CZ.out.mono ?_)
            rintro e w30 ⟨v30, G30, gl30, rfl, hk30, _, hf30, hm30, ho30, hon30, _⟩
            rw [HOZ.out] at hm30
            have hlz30 : GZ.length ≤ cZ ∧ cZ ≤ maxLen := (by obtain ⟨Aq, cq, hq1, hq2, hq3, _⟩ := own_slice HWZ.out.own; injection hq1 with _ _ h3; subst h3; exact ⟨hq2, hq3⟩)
            obtain ⟨A30, c30, rfl, hc301, hc302, _⟩ := own_slice hf30.own
            have HB30 := Lib.hid (HBZ.out.trans (hon30.rest HZ.out.base_le))
            have HW30 := HWZ.out.off hon30 (hon30.rest HZ.out.base_le) (fun g hg h => h.2 hg)
            have hrdW := HW30.rd (Nat.le_trans HB30.out.size (Nat.le_refl _))
            rw [HGZ.out] at hrdW
            have hl30 : FZ.length = G30.length := by rw [← hm30, List.length_map]
            have hlW : FZ.length = GZ.length := by rw [← HGZ.out, List.length_map]
            have S30 := sameFrames_any A30 AZ G30.length c30 GZ.length cZ w30.heap.size w30.heap.size FZ FZ w30 (by have := hf30.rd; rwa [hm30] at this) hrdW hl30 hlW (by omega) (by omega)
            rw [decide_eq_true rfl] at S30
            have D30 := Lib.hid S30
            clear CZ hk30 hf30 hm30 ho30 hon30 HZ HBZ S30 hl30 hlW hrdW HW30 HWZ
            go_wp2_with fail
            go_must (refine D30.out.mono ?_)
            rintro e w31 ⟨rfl, q31, hw31⟩
            have HB31 : Hid (Below w1.heap.size w1 w31) := by show Below _ _ _; rw [hw31]; exact below_drewN HB30.out q31
            clear hw31 D30
            go_wp2_with fail
            go_must (refine (WK.out _ HB31.out).mono ?_)
            rintro e w32 ⟨rfl, hb32⟩
            go_wp2_with fail
            go_ret
            exact ⟨rfl, (HD.out _ (HB31.out.trans (hb32.mono HB31.out.size))).2.2.2.2.2.2⟩
  case neg =>
    have hkkI : ((k : Int) == (n1 : Int)) = false := by simp; omega
    have HAT2 : Hid (s2 false = (encs (F1.take k) ++ encs (F2.take 0), (encs (F1.take k)).length)) := by show _ = _; rw [HS2.out]; simp [encs]
    have HP := H6
    have HBP := HB6
    clear HAT C6 HKL6 HS2 hkk hjn2 H6 HB6 s3 j2
    have HAT := HAT2
    clear HAT2
    have hjn2 : 0 ≤ n2 := by omega
    generalize s2 = s3 at *
    generalize w6 = wp at *
    have ho0 : Hid ((wp.alloc (.cells #[] 25)).ownsRow wp.heap.size 25 2 (.slice (some ⟨wp.heap.size, 0, none⟩) 0 0) 0 []) := own_made wp [] 0 (Nat.le_refl _) (by simp [maxLen]) #[] rfl rfl
    have hb9 : Below wp.heap.size wp (wp.alloc (.cells #[] 25)) := (Below.refl _ _).alloc (Nat.le_refl _) _
    have HB9 := Lib.hid hb9
    have HX9 : Hid (FrsR (wp.alloc (.cells #[] 25)) w1.heap.size A1 (G1.take k)) := (HD.out _ (HBP.out.trans (hb9.mono HBP.out.size))).2.1.take (by have := HLG1.out; omega)
    have HLK : Hid ((G1.take k).length = k) := by show _ = _; rw [List.length_take]; have := HLG1.out; omega
    have HXR : Hid (Reads (wp.alloc (.cells #[] 25)) w1.heap.size 2 A1 k (cellsG (G1.take k))) := by
      have := HX9.out.rd
      rwa [HLK.out] at this
    have hq9 : (0 + k) * 32 ≤ 140737488355328 := by omega
    have hszP : w1.heap.size ≤ wp.heap.size := HBP.out.size
    clear hb9
    go_wp2_with
      (at_builtin
       go_must (refine wpList_app elFrame (.tmp 68) (.tmp 71) rfl rfl ho0.out rfl rfl HXR.out HX9.out.one hq9 HB9.out.size ?_)
       intro v10 w10 hown10' _ _ hb10
       have hown10 : w10.ownsRow wp.heap.size 25 2 v10 (G1.take k).length (cellsG (G1.take k)) := (by rw [HLK.out]; simpa using hown10')
       clear hown10')
    have HBQ := Lib.hid (HB9.out.trans hb10)
    have HW10 : Hid (WantAt w10 wp.heap.size w1.heap.size v10 (G1.take k ++ G2.take 0)) := by
      rw [List.take_zero, List.append_nil]
      exact ⟨hown10, fun x hx => by obtain ⟨s, h1, h2, h3, h4⟩ := HX9.out.body x hx; exact ⟨s, h1, h2, h3, h4.below (hb10.mono hszP)⟩⟩
    clear hown10 hb10 ho0 HB9 HX9 HXR HLK
    go_loopw [17, 18, 19] (fun vv vl vi wr => vi = .int .i64 0 ∧ vl = .int .i64 keep ∧ WantAt wr wp.heap.size w1.heap.size vv (G1.take k ++ G2.take 0) ∧ Below wp.heap.size wp wr) (fun _ _ _ _ => 0)
    case atStart => exact ⟨rfl, rfl, HW10.out, HBQ.out⟩
    case round =>
      obtain ⟨rfl, rfl, hwant, hbel⟩ := hrel
      have HW := Lib.hid hwant
      have HBE := Lib.hid hbel
      have htj : 0 ≤ 0 := Nat.le_refl _
      have HTK : Hid (0 < 0 → ((encs (F2.take 0)).length : Int) ≤ keep) := fun h => absurd h (by omega)
      have HX2 : True := trivial
      clear hwant hbel HW10 HBQ
      have HEX : Hid (0 < 0 → keep < ((encs (F2.take (0 + 1))).length : Int)) := fun h => absurd h (by omega)
      obtain ⟨A17, c17, hv17, hc171, hc172, _⟩ := own_slice HW.out.own
      subst hv17
      have HLW : Hid ((G1.take k ++ G2.take 0).length = k + 0) := by show _ = _; rw [List.length_append, List.length_take, List.length_take]; have := HLG1.out; have := HLG2.out; omega
      have HMW : Hid ((G1.take k ++ G2.take 0).map (·.1) = F1.take k ++ F2.take 0) := by show _ = _; rw [List.map_append, List.map_take, List.map_take, HFG1.out, HFG2.out]
      have H17 := Lib.hid (HP.out.more (X' := fun i => (Value.slice A17 (G1.take k ++ G2.take 0).length c17).ownBlock = some i) HBE.out (fun i hi => .inr (HW.out.own.lt i hi)))
      have HB17 := Lib.hid (HBP.out.trans (HBE.out.mono hszP))
      have hokP : ∀ f ∈ F1.take k, Ok f := fun f hf => (HK1.out f (List.mem_of_mem_take hf)).ok
      have hokB : ∀ f ∈ F2.take 0, Ok f := fun f hf => (HK2.out f (List.mem_of_mem_take hf)).ok
      have hlB : (F2.take 0).length = 0 := by rw [List.length_take]; have := HL2.out; omega
      have htt : (F2.take 0).take 0 = F2.take 0 := by rw [List.take_take, Nat.min_eq_left htj]
      have hcf := crash_found (st := s3) (a := false) (P := F1.take k) (B := F2.take 0) (keep := keep) (t := 0) hokP hokB HAT.out (by omega) (fun h => by rw [htt]; exact HTK.out h) (fun h => by
        have h2 := HEX.out (by omega)
        rw [List.take_take, Nat.min_eq_left (by omega)]
        exact h2)
      rw [htt] at hcf
      have HCF1 := Lib.hid hcf.1
      have HCF2 := Lib.hid hcf.2
      have HOW : Hid (∀ f ∈ F1.take k ++ F2.take 0, Ok f) := fun f hf => by
        rcases List.mem_append.1 hf with h | h
        · exact hokP f h
        · exact (HK2.out f (List.mem_of_mem_take h)).ok
      have D17 : Hid (Calls Tryz.prog 15 #[.pointer (some ⟨gd, 0, none⟩), .int .i64 keep] wr fun e w' => e = .returned (.tuple #[]) ∧ One false (fun i => (Value.slice A17 (G1.take k ++ G2.take 0).length c17).ownBlock = some i) w' w1.heap.size gd N (s3.crash keep) ∧ Only (Rest w1.heap.size (fun i => (Value.slice A17 (G1.take k ++ G2.take 0).length c17).ownBlock = some i)) wr w') :=
        H17.out.act (fun S hd hb => crash_any w1.heap.size gd N S s3 keep wr hd hb)
      have hmxl : k + 0 ≤ maxLen := by unfold maxLen; omega
      have hszc : wp.heap.size ≤ wr.heap.size := HBE.out.size
      clear hokP hokB hlB htt hcf HEX HTK HAT HX2 HBE
      generalize s3.crash keep = s4 at *
      generalize G1.take k ++ G2.take 0 = GW at *
      generalize F1.take k ++ F2.take 0 = FW at *
      go_wp2_with fail
      go_must (refine D17.out.mono ?_)
      rintro e w18 ⟨rfl, h18, ho18⟩
      have H18 := Lib.hid h18
      have hszc := Nat.le_trans hszc ho18.size
      have HB18 := Lib.hid (HB17.out.trans (ho18.rest H17.out.base_le))
      have HW18 := Lib.hid (HW.out.off ho18 (ho18.rest H17.out.base_le) (fun g hg h => h.2 hg))
      have C18 := Lib.hid (H18.out.open_ (fun S hd hb => wopen_any false w1.heap.size gd N S s4 w18 pg (HD.out _ HB18.out).1 hd hb))
      clear h18 ho18 H17 HB17 HW D17
      go_wp2_with fail
      go_must (refine C18.out.mono ?_)
      rintro e w19 ⟨v19, G19, gm, rfl, hk19, _, hf19, hm19, ho19, hon19, _⟩
      rw [HCF1.out] at hm19
      obtain ⟨A19, c19, rfl, hc191, hc192, _⟩ := own_slice hf19.own
      have H19 := Lib.hid (ho19.less (X' := fun i => (Value.slice A17 GW.length c17).ownBlock = some i ∨ i = gm) (fun i hi => by
        rcases hi with h | h
        · exact .inl h
        · exact .inr (.inr h)))
      have hszc := Nat.le_trans hszc hon19.size
      have HB19 := Lib.hid (HB18.out.trans (hon19.rest H18.out.base_le))
      have HW19 := Lib.hid (HW18.out.off hon19 (hon19.rest H18.out.base_le) (fun g hg h => h.2 hg))
      have HKM19 := Lib.hid hk19
      have hrdW := HW19.out.rd HB19.out.size
      rw [HMW.out] at hrdW
      have hl19 : FW.length = G19.length := by rw [← hm19, List.length_map]
      have hlW : FW.length = GW.length := by rw [← HMW.out, List.length_map]
      have S19 := sameFrames_any A19 A17 G19.length c19 GW.length c17 w19.heap.size w19.heap.size FW FW w19 (by have := hf19.rd; rwa [hm19] at this) hrdW hl19 hlW (by omega) (by omega)
      rw [decide_eq_true rfl] at S19
      have D19 := Lib.hid S19
      clear C18 hk19 hf19 hm19 ho19 hon19 H18 HB18 HW18 S19 hl19 hlW hrdW
      go_wp2_with fail
      go_must (refine D19.out.mono ?_)
      rintro e w20 ⟨rfl, q20, hw20⟩
      have H20 : Hid (One false (fun i => (Value.slice A17 GW.length c17).ownBlock = some i ∨ i = gm) w20 w1.heap.size gd N (openSt s4 false)) := by show One _ _ _ _ _ _ _; rw [hw20]; exact H19.out.below (below_drewN (Below.refl _ _) q20)
      have HB20 : Hid (Below w1.heap.size w1 w20) := by show Below _ _ _; rw [hw20]; exact below_drewN HB19.out q20
      have HW20 : Hid (WantAt w20 wp.heap.size w1.heap.size (.slice A17 GW.length c17) GW) := by rw [hw20]; exact HW19.out.below (below_drewN (Below.refl _ _) q20) HB19.out.size
      have hszc : wp.heap.size ≤ w20.heap.size := by rw [hw20]; exact hszc
      have HKM20 : Hid (Blk w20 gm (lType false) (lCells gd false)) := by show Blk _ _ _ _; rw [hw20]; exact HKM19.out.drewN q20
      clear hw20 D19 H19 HB19 HW19 HKM19
      obtain ⟨_, _, _, r20, z0, z1, _⟩ := HD.out _ HB20.out
      obtain ⟨s5, hs5⟩ : ∃ s, openSt s4 false = s := ⟨_, rfl⟩
      rw [hs5] at HCF2 H20
      clear hs5
      have C20 := H20.out.act (fun S hd hb => wappend_any false gm w1.heap.size gd N S s5 k5 bs5 A5 m5 c5 w1.heap.size pg w20 (HD.out _ HB20.out).1 hgb hd hb HKM20.out r20 HB20.out.size (by omega))
      have HNO : Hid (appN N s5 false ⟨k5, bs5⟩ ≠ 0 → appSt N s5 false ⟨k5, bs5⟩ = s5) := appSt_no
      have HYES : Hid (appN N s5 false ⟨k5, bs5⟩ = 0 → ((appSt N s5 false ⟨k5, bs5⟩) false).1 = encs (FW ++ [⟨k5, bs5⟩])) := fun h => by
        rw [appSt_at HK5.out.putE h, HCF2.out, encs_app, encs_one]
      generalize appN N s5 false ⟨k5, bs5⟩ = E at *
      generalize appSt N s5 false ⟨k5, bs5⟩ = s6 at *
      have D20 := Lib.hid C20
      clear C20 r20 HKM20
      go_wp2_with fail
      go_must (refine D20.out.mono ?_)
      rintro e w21 ⟨rfl, h21, ho21⟩
      have H21 := Lib.hid (h21.less (X' := fun i => (Value.slice A17 GW.length c17).ownBlock = some i) (fun i hi => .inl hi))
      have hszc := Nat.le_trans hszc ho21.size
      have HB21 := Lib.hid (HB20.out.trans (ho21.rest H20.out.base_le))
      have HW21 := Lib.hid (HW20.out.off ho21 (ho21.rest H20.out.base_le) (fun g hg h => h.2 (.inl hg)))
      clear D20 h21 ho21 H20 HB20 HW20 z0 z1
      by_cases hE : E = 0
      · have HOZ0 := Lib.hid (open_encs (st := s6) (a := false) (F := FW ++ [⟨k5, bs5⟩]) (fun f hf => by
          rcases List.mem_append.1 hf with h | h
          · exact HOW.out f h
          · rw [List.mem_singleton.1 h]; exact HK5.out.ok) (HYES.out hE)).1
        subst hE
        obtain ⟨_, _, _, r21, z0, z1, _⟩ := HD.out _ HB21.out
        have hq : (GW.length + 1) * 32 ≤ 140737488355328 := by rw [HLW.out]; omega
        have HQ := Lib.hid hq
        have hszW : wp.heap.size ≤ w21.heap.size := hszc
        clear hq
        go_wp2_with
          (at_builtin
           go_must (refine wpList_push w21 elFrame (.tmp 126) (.tmp 128) rfl rfl HW21.out.own rfl [ival k5, .slice A5 m5 c5] rfl rfl rfl rfl HQ.out hszW ?_)
           intro v22 w22 hown22 hg22 hv22 hb22 hs22)
        have HW22 := HW21.out.push (x := (⟨k5, bs5⟩, .slice A5 m5 c5)) hb22 hszP ⟨⟨A5, m5, c5⟩, rfl, hmc5, hm5, r21⟩ hown22
        obtain ⟨AZ, cZ, hvZ, hcZ1, hcZ2, _⟩ := own_slice HW22.own
        subst hvZ
        have HZ := Lib.hid (H21.out.grown (X' := fun i => (Value.slice AZ (GW ++ [((⟨k5, bs5⟩ : Fr), Value.slice A5 m5 c5)]).length cZ).ownBlock = some i) hg22 (fun i hi => hi) (fun i hi => by
          have hlt2 := (HW22.own.lt i hi).2
          rcases hv22 with h | h
          · exact .inl (h ▸ hi)
          · have : w21.heap.size + 1 = i := Option.some.inj (h.symm.trans hi)
            exact .inr ⟨by omega, hlt2⟩))
        have HBZ := Lib.hid (HB21.out.trans (hb22.mono hszP))
        have HWZ := Lib.hid HW22
        have HGZ : Hid ((GW ++ [((⟨k5, bs5⟩ : Fr), Value.slice A5 m5 c5)]).map (·.1) = FW ++ [⟨k5, bs5⟩]) := by show _ = _; rw [List.map_append, HMW.out]; rfl
        have HOZ := HOZ0
        have hlg : (GW ++ [((⟨k5, bs5⟩ : Fr), Value.slice A5 m5 c5)]).length = GW.length + 1 := by simp
        clear hown22 hg22 hv22 hb22 hs22 HW22 H21 HB21 HW21 r21 z0 z1 HYES HNO hlg
        generalize GW ++ [((⟨k5, bs5⟩ : Fr), Value.slice A5 m5 c5)] = GZ at *
        generalize FW ++ [(⟨k5, bs5⟩ : Fr)] = FZ at *
        obtain ⟨wz, rfl⟩ : ∃ wz : World, wz = w22 := ⟨_, rfl⟩
        obtain ⟨sZ, rfl⟩ : ∃ sZ : DSt, sZ = s6 := ⟨_, rfl⟩
        have CZ := Lib.hid (HZ.out.open_ (fun S hd hb => wopen_any false w1.heap.size gd N S sZ wz pg (HD.out _ HBZ.out).1 hd hb))
        go_wp2_with fail
        go_must (refine CZ.out.mono ?_)
        rintro e w30 ⟨v30, G30, gl30, rfl, hk30, _, hf30, hm30, ho30, hon30, _⟩
        rw [HOZ.out] at hm30
        have hlz30 : GZ.length ≤ cZ ∧ cZ ≤ maxLen := (by obtain ⟨Aq, cq, hq1, hq2, hq3, _⟩ := own_slice HWZ.out.own; injection hq1 with _ _ h3; subst h3; exact ⟨hq2, hq3⟩)
        obtain ⟨A30, c30, rfl, hc301, hc302, _⟩ := own_slice hf30.own
        have HB30 := Lib.hid (HBZ.out.trans (hon30.rest HZ.out.base_le))
        have HW30 := HWZ.out.off hon30 (hon30.rest HZ.out.base_le) (fun g hg h => h.2 hg)
        have hrdW := HW30.rd (Nat.le_trans HB30.out.size (Nat.le_refl _))
        rw [HGZ.out] at hrdW
        have hl30 : FZ.length = G30.length := by rw [← hm30, List.length_map]
        have hlW : FZ.length = GZ.length := by rw [← HGZ.out, List.length_map]
        have S30 := sameFrames_any A30 AZ G30.length c30 GZ.length cZ w30.heap.size w30.heap.size FZ FZ w30 (by have := hf30.rd; rwa [hm30] at this) hrdW hl30 hlW (by omega) (by omega)
        rw [decide_eq_true rfl] at S30
        have D30 := Lib.hid S30
        clear CZ hk30 hf30 hm30 ho30 hon30 HZ HBZ S30 hl30 hlW hrdW HW30 HWZ
        go_wp2_with fail
        go_must (refine D30.out.mono ?_)
        rintro e w31 ⟨rfl, q31, hw31⟩
        have HB31 : Hid (Below w1.heap.size w1 w31) := by show Below _ _ _; rw [hw31]; exact below_drewN HB30.out q31
        clear hw31 D30
        go_wp2_with fail
        go_must (refine (WK.out _ HB31.out).mono ?_)
        rintro e w32 ⟨rfl, hb32⟩
        go_wp2_with fail
        go_ret
        exact ⟨rfl, (HD.out _ (HB31.out.trans (hb32.mono HB31.out.size))).2.2.2.2.2.2⟩
      · have hne : ((E : Int) == 0) = false := by simp; omega
        have hs65 : s6 = s5 := HNO.out hE
        have HOZ : Hid (openFr s6 false = FW) := by show _ = _; rw [hs65]; exact (open_encs (st := s5) (a := false) (F := FW) HOW.out (by rw [HCF2.out])).1
        have HZ := H21
        have HBZ := HB21
        have HWZ := HW21
        have HGZ := HMW
        clear H21 HB21 HW21 HYES HNO hs65 HMW
        obtain ⟨AZ, rfl⟩ : ∃ AZ : Option Addr, AZ = A17 := ⟨_, rfl⟩
        obtain ⟨cZ, rfl⟩ : ∃ cZ : Nat, cZ = c17 := ⟨_, rfl⟩
        obtain ⟨GZ, rfl⟩ : ∃ GZ : List FrV, GZ = GW := ⟨_, rfl⟩
        obtain ⟨FZ, rfl⟩ : ∃ FZ : List Fr, FZ = FW := ⟨_, rfl⟩
        obtain ⟨wz, rfl⟩ : ∃ wz : World, wz = w21 := ⟨_, rfl⟩
        obtain ⟨sZ, rfl⟩ : ∃ sZ : DSt, sZ = s6 := ⟨_, rfl⟩
        have CZ := Lib.hid (HZ.out.open_ (fun S hd hb => wopen_any false w1.heap.size gd N S sZ wz pg (HD.out _ HBZ.out).1 hd hb))
        go_wp2_with fail
        go_must (refine CZ.out.mono ?_)
        rintro e w30 ⟨v30, G30, gl30, rfl, hk30, _, hf30, hm30, ho30, hon30, _⟩
        rw [HOZ.out] at hm30
        have hlz30 : GZ.length ≤ cZ ∧ cZ ≤ maxLen := (by obtain ⟨Aq, cq, hq1, hq2, hq3, _⟩ := own_slice HWZ.out.own; injection hq1 with _ _ h3; subst h3; exact ⟨hq2, hq3⟩)
        obtain ⟨A30, c30, rfl, hc301, hc302, _⟩ := own_slice hf30.own
        have HB30 := Lib.hid (HBZ.out.trans (hon30.rest HZ.out.base_le))
        have HW30 := HWZ.out.off hon30 (hon30.rest HZ.out.base_le) (fun g hg h => h.2 hg)
        have hrdW := HW30.rd (Nat.le_trans HB30.out.size (Nat.le_refl _))
        rw [HGZ.out] at hrdW
        have hl30 : FZ.length = G30.length := by rw [← hm30, List.length_map]
        have hlW : FZ.length = GZ.length := by rw [← HGZ.out, List.length_map]
        have S30 := sameFrames_any A30 AZ G30.length c30 GZ.length cZ w30.heap.size w30.heap.size FZ FZ w30 (by have := hf30.rd; rwa [hm30] at this) hrdW hl30 hlW (by omega) (by omega)
        rw [decide_eq_true rfl] at S30
        have D30 := Lib.hid S30
        clear CZ hk30 hf30 hm30 ho30 hon30 HZ HBZ S30 hl30 hlW hrdW HW30 HWZ
        go_wp2_with fail
        go_must (refine D30.out.mono ?_)
        rintro e w31 ⟨rfl, q31, hw31⟩
        have HB31 : Hid (Below w1.heap.size w1 w31) := by show Below _ _ _; rw [hw31]; exact below_drewN HB30.out q31
        clear hw31 D30
        go_wp2_with fail
        go_must (refine (WK.out _ HB31.out).mono ?_)
        rintro e w32 ⟨rfl, hb32⟩
        go_wp2_with fail
        go_ret
        exact ⟨rfl, (HD.out _ (HB31.out.trans (hb32.mono HB31.out.size))).2.2.2.2.2.2⟩
end Go.Proofs.YtalkglmneicpoaaGreatDoor
