/-
  FrameGets: of any bytes it is told which frame they begin with, or what is wrong, and which frames they begin with, one behind the other.
-/
import Derived.Test.YtiococglmjjagaaDoorFrmRefScan
import Derived.Test.YtiococglmjjagaaDoorFrmWorks
namespace Go.Proofs.YtiococglmjjagaaDoor
set_option linter.unusedVariables false
set_option linter.unusedSimpArgs false
open Go.RowKit
/-- A list of frames of a call's own, the bodies' bytes whatever they are. -/
structure FrsSp (w : World) (base : Nat) (v : Value) (G : List FrV) : Prop where
  own : w.ownsRow base 24 2 v G.length (cellsG G)
  body : ∀ i (h : i < G.length), ∃ ys, w.ownsRow base 5 1 (G[i]).2 (G[i]).1.b.length ys
  apart : G.Pairwise apartV
theorem FrsAt.sp {w : World} {base : Nat} {v : Value} {G : List FrV} (h : FrsAt w base v G) : FrsSp w base v G :=
  ⟨h.own, fun i hi => ⟨_, h.body _ (List.getElem_mem hi)⟩, h.apart⟩
theorem apartV_symm {x y : FrV} (h : apartV x y) : apartV y x := by
  unfold apartV at *
  cases hy : y.2.ownBlock with
  | none => exact .inl rfl
  | some g =>
    refine .inr fun e => ?_
    rcases h with h | h
    · rw [h] at e; cases e
    · exact h (by rw [hy, ← e])
theorem FrsSp.spoil {w w' : World} {base : Nat} {v : Value} {G : List FrV} (h : FrsSp w base v G) {k : Nat} (hk : k < G.length) (ho : Only (fun i => (G[k]).2.ownBlock = some i) w w') (hs : ∃ ys, w'.ownsRow base 5 1 (G[k]).2 (G[k]).1.b.length ys) : FrsSp w' base v G := by
  obtain ⟨ys, hy⟩ := h.body k hk
  refine ⟨own_only h.own ho (fun g hg e => ?_), fun i hi => ?_, h.apart⟩
  · rcases own_types_ne hy h.own (by decide) with h1 | h1
    · rw [h1] at e; cases e
    · exact h1 (by rw [e, hg])
  · by_cases hik : i = k
    · subst hik; exact hs
    · obtain ⟨zs, hz⟩ := h.body i hi
      refine ⟨zs, own_only hz ho (fun g hg e => ?_)⟩
      have hap : apartV G[i] G[k] := by
        rcases Nat.lt_or_gt_of_ne hik with hlt | hlt
        · exact List.pairwise_iff_getElem.1 h.apart i k hi hk hlt
        · exact apartV_symm (List.pairwise_iff_getElem.1 h.apart k i hk hi hlt)
      rcases hap with h1 | h1
      · rw [h1] at hg; cases hg
      · exact h1 (by rw [hg, e])
theorem getF_len (L : List UInt8) : (getF L).b.length ≤ 262144 := by
  by_cases h : getE L = 0
  · exact (get_forms L h).1.2.2
  · unfold getF; rw [if_neg h]; simp
theorem scanF_len : ∀ (n : Nat) (L : List UInt8), ∀ f ∈ (scanF n L).1, f.b.length ≤ 262144 := by
  intro n
  induction n with
  | zero => intro L f hf; simp [scanF] at hf
  | succ n ih =>
    intro L f hf
    simp only [scanF] at hf
    split at hf
    · rcases List.mem_cons.1 hf with h | h
      · rw [h]; exact getF_len L
      · exact ih _ f h
    · simp at hf
set_option maxRecDepth 100000 in
set_option maxHeartbeats 8000000 in
theorem frameGets_any (A : Option Addr) (n c B : Nat) (L : List UInt8) (p : Addr) (w : World) (hG : Glob p w) (hr : Reads w B 1 A n (L.map bval)) (hB : B ≤ w.heap.size) (hn : n ≤ c) (hc : c ≤ maxLen) :
    Calls Tryd.prog 4 #[.slice A n c] w fun e w' => e = .returned (.bool true) ∧ Below w.heap.size w w' := by
  have hlt := hG.lt
  have HD : Hid (∀ W, Below w.heap.size w W → Glob p W ∧ Reads W B 1 A n (L.map bval)) := fun W hW => ⟨hG.below hW hlt, hr.below (hW.mono hB)⟩
  have WK : Hid (∀ W, Below w.heap.size w W → Calls Tryd.prog 10 #[] W fun e w' => e = .returned (.bool true) ∧ Below W.heap.size W w') := fun W hW => works_any p W (hG.below hW hlt)
  have HLn := Lib.hid hr.bytes_len
  clear hr hG
  by_cases hbig : 4096 < n
  · go_enter Tryd.func4, Tryd.ntmps4
    go_wp2_with fail
    go_must (refine (WK.out _ (Below.refl _ _)).mono ?_)
    rintro e w3 ⟨rfl, hb3⟩
    go_wp2_with fail
    go_ret
    exact ⟨rfl, hb3⟩
  have C1 := Lib.hid (lentBytes_any A n c B L w (HD.out _ (Below.refl _ _)).2 hB (by omega))
  go_enter Tryd.func4, Tryd.ntmps4
  go_wp2_with fail
  go_must (refine C1.out.mono ?_)
  rintro e w1 ⟨v1, rfl, hown1, hb1⟩
  obtain ⟨A1, c1, rfl, hc11, hc12, _⟩ := own_slice hown1
  have HX : Hid (∀ W, Below w1.heap.size w1 W → Reads W w1.heap.size 1 A1 (n + 5) ((L ++ marks).map bval) ∧ Reads W w1.heap.size 1 A1 n (L.map bval)) := fun W hW => by
    have h := (Reads.of_own hown1).below hW
    refine ⟨h, ?_⟩
    have h3 := h.take (k := n) (by omega)
    rw [Nat.mul_one, ← List.map_take] at h3
    have hl := HLn.out
    rwa [List.take_append_of_le_length (by omega), List.take_of_length_le (by omega)] at h3
  have HB1 := Lib.hid hb1
  have hnc : n ≤ c1 := by omega
  have hncI : (n : Int) ≤ (c1 : Int) := by omega
  have HQ : Hid (∀ W, Below w1.heap.size w1 W → Below w.heap.size w W) := fun W hW => HB1.out.trans (hW.mono HB1.out.size)
  have C2 := Lib.hid (get_any A1 n c1 w1.heap.size L p w1 (HD.out _ hb1).1 (HX.out _ (Below.refl _ _)).2 (Nat.le_refl _) hnc hc12)
  clear C1 hown1 hb1
  go_wp2_with fail
  go_must (refine C2.out.mono ?_)
  rintro e w2 ⟨v2, rfl, hown2, hb2⟩
  obtain ⟨A2, c2, rfl, hc21, hc22, _⟩ := own_slice hown2
  have HFL : Hid ((getF L).b.length ≤ 262144) := getF_len L
  have HSL : Hid (∀ f ∈ (scan L).1, f.b.length ≤ 262144) := scanF_len _ L
  generalize hF : getF L = F at *
  generalize hN : getN L = N at *
  generalize hE : getE L = E at *
  rcases F with ⟨fk, fb⟩
  obtain ⟨w3, hw3⟩ : ∃ w3, w3 = w2.alloc (.cells #[ival fk, .slice A2 fb.length c2] 24) := ⟨_, rfl⟩
  have hb3 : Below w2.heap.size w2 w3 := by rw [hw3]; exact (Below.refl _ _).alloc (Nat.le_refl _) _
  have HK3 : Hid (Blk w3 w2.heap.size 24 #[ival fk, .slice A2 fb.length c2]) := by show Blk _ _ _ _; rw [hw3]; exact Blk.new _ _ _
  have HO3 := Lib.hid (own_below hown2 hb3)
  have HB3 : Hid (Below w1.heap.size w1 w3) := hb2.trans (hb3.mono hb2.size)
  clear hown2 hb2 hb3 C2
  go_wp2_with fail
  have hw3' : w2.alloc (.cells #[.int .i64 fk, .slice A2 fb.length c2] 24) = w3 := hw3.symm
  rw [hw3']
  clear hw3 hw3'
  generalize w2.heap.size = g2 at *
  have C3 := refGet_any A n c B L w3 (HD.out _ (HQ.out _ HB3.out)).2 (Nat.le_trans hB (HQ.out _ HB3.out).size) hn hc
  unfold GetPost at C3
  rw [hF, hN, hE] at C3
  replace C3 := Lib.hid C3
  go_must (refine C3.out.mono ?_)
  rintro e w4 ⟨v4, rfl, hown4, hb4⟩
  obtain ⟨A4, c4, rfl, hc41, hc42, _⟩ := own_slice hown4
  obtain ⟨w5, hw5⟩ : ∃ w5, w5 = w4.alloc (.cells #[ival fk, .slice A4 fb.length c4] 24) := ⟨_, rfl⟩
  have hb5 : Below w4.heap.size w4 w5 := by rw [hw5]; exact (Below.refl _ _).alloc (Nat.le_refl _) _
  have hb35 : Below w3.heap.size w3 w5 := hb4.trans (hb5.mono hb4.size)
  have HK5 : Hid (Blk w5 w4.heap.size 24 #[ival fk, .slice A4 fb.length c4]) := by show Blk _ _ _ _; rw [hw5]; exact Blk.new _ _ _
  have HO5 := Lib.hid (own_below hown4 hb5)
  have HO35 := Lib.hid (own_below HO3.out hb35)
  have HK35 := Lib.hid (HK3.out.below hb35 HK3.out.lt)
  have HB5 : Hid (Below w1.heap.size w1 w5) := HB3.out.trans (hb35.mono HB3.out.size)
  clear hown4 hb4 hb5 hb35 C3 HO3 HK3 HB3
  go_wp2_with fail
  have hw5' : w4.alloc (.cells #[.int .i64 fk, .slice A4 fb.length c4] 24) = w5 := hw5.symm
  rw [hw5']
  clear hw5 hw5'
  generalize w4.heap.size = g4 at *
  have C6 := Lib.hid (scan_any A1 n c1 w1.heap.size L p w5 (HD.out _ (HQ.out _ HB5.out)).1 (HX.out _ HB5.out).2 HB5.out.size hnc hc12 (by omega))
  go_must (refine C6.out.mono ?_)
  rintro e w6 ⟨v6, G6, rfl, hf6, hm6, hb6⟩
  obtain ⟨A6, c6, rfl, hc61, hc62, _⟩ := own_slice hf6.own
  have HF6 := Lib.hid hf6
  have HGL : Hid (∀ i (h : i < G6.length), (G6[i]).1.b.length ≤ 262144) := fun i h => HSL.out _ (by rw [← hm6]; exact List.mem_map.2 ⟨_, List.getElem_mem h, rfl⟩)
  have HM6 := Lib.hid hm6
  have HS5 := Lib.hid HB5.out.size
  have HLT2 : Hid (∀ i, (Value.slice A2 fb.length c2).ownBlock = some i → i < w5.heap.size) := fun i hi => (HO35.out.lt i hi).2
  have HO6 := Lib.hid (own_below HO35.out hb6)
  have HO46 := Lib.hid (own_below HO5.out hb6)
  have HK6 := Lib.hid (HK35.out.below hb6 HK35.out.lt)
  have HK46 := Lib.hid (HK5.out.below hb6 HK5.out.lt)
  have HB6 : Hid (Below w1.heap.size w1 w6) := HB5.out.trans (hb6.mono HB5.out.size)
  clear hf6 hm6 hb6 C6 HO35 HO5 HK35 HK5 HB5
  have C7 := Lib.hid (refScan_any A n c B L w6 (HD.out _ (HQ.out _ HB6.out)).2 (Nat.le_trans hB (HQ.out _ HB6.out).size) hn hc (by omega))
  go_wp2_with fail
  go_must (refine C7.out.mono ?_)
  rintro e w7 ⟨v7, G7, rfl, hf7, hm7, hb7⟩
  obtain ⟨A7, c7, rfl, hc71, hc72, _⟩ := own_slice hf7.own
  have HF67 := Lib.hid (HF6.out.below hb7)
  have HO7 := Lib.hid (own_below HO6.out hb7)
  have HR47 : Hid (Reads w7 w7.heap.size 1 A4 fb.length (fb.map bval)) := Reads.of_own (own_below HO46.out hb7)
  have HK7 := Lib.hid (HK6.out.below hb7 HK6.out.lt)
  have HK47 := Lib.hid (HK46.out.below hb7 HK46.out.lt)
  have HB7 : Hid (Below w1.heap.size w1 w7) := HB6.out.trans (hb7.mono HB6.out.size)
  have S1 := sameBytes_any A2 A4 fb.length c2 fb.length c4 w7.heap.size w7.heap.size fb fb w7 (Reads.of_own HO7.out) HR47.out (by omega) (by omega)
  rw [decide_eq_true rfl] at S1
  replace S1 := Lib.hid S1
  have S2 : Hid (∀ q, Calls Tryd.prog 21 #[.slice A6 G6.length c6, .slice A7 G7.length c7] (w7.drewN q) fun e w' => e = .returned (.bool true) ∧ ∃ m, w' = (w7.drewN q).drewN m) := fun q => by
    have hr6 := (HF67.out.rd).below (below_drewN (Below.refl _ _) q)
    have hr7 := (hf7.rd).below (below_drewN (Below.refl _ _) q)
    rw [HM6.out] at hr6
    rw [hm7] at hr7
    have l6 := congrArg List.length HM6.out
    have l7 := congrArg List.length hm7
    rw [List.length_map] at l6 l7
    have := sameFrames_any A6 A7 G6.length c6 G7.length c7 w7.heap.size w7.heap.size _ _ (w7.drewN q) hr6 hr7 l6.symm l7.symm (by omega) (by omega)
    rwa [decide_eq_true rfl] at this
  have x0 : w7.cell? ⟨g2, 0, none⟩ = some (ival fk) := HK7.out.cell 0
  have x1 : w7.cell? ⟨g2, 1, none⟩ = some (.slice A2 fb.length c2) := HK7.out.cell 1
  have y0 : w7.cell? ⟨g4, 0, none⟩ = some (ival fk) := HK47.out.cell 0
  have y1 : w7.cell? ⟨g4, 1, none⟩ = some (.slice A4 fb.length c4) := HK47.out.cell 1
  have hk0 : (fk != fk) = false := by simp
  have hn0 : ((N : Int) != (N : Int)) = false := by simp
  have he0 : ((E : Int) != (E : Int)) = false := by simp
  have hs0 : (((scan L).2 : Int) != ((scan L).2 : Int)) = false := by simp
  clear hf7 hm7 hb7 C7 HF6 HO6 HK6 HK46 HB6 HO46 HM6 HR47 HK47
  generalize (scan L).2 = M at *
  go_wp2_with fail
  go_must (refine S1.out.mono ?_)
  rintro e w8 ⟨rfl, q8, rfl⟩
  go_wp2_with fail
  go_must (refine (S2.out q8).mono ?_)
  rintro e w9 ⟨rfl, q9, rfl⟩
  have HK9 := Lib.hid ((HK7.out.drewN q8).drewN q9)
  have HO9 := Lib.hid (own_only HO7.out (((Only.refl (fun _ => False) w7).drewN q8).drewN q9) (fun _ _ h => h))
  have HF9 := Lib.hid (HF67.out.only (((Only.refl (fun _ => False) w7).drewN q8).drewN q9) (fun _ _ _ h => h))
  have HB9 := Lib.hid (below_drewN (below_drewN HB7.out q8) q9)
  clear HK7 HO7 HF67 HB7 S1 S2 x0 x1 y0 y1 hk0 hn0 he0 hs0
  generalize (w7.drewN q8).drewN q9 = w9 at *
  have x1 : w9.cell? ⟨g2, 1, none⟩ = some (.slice A2 fb.length c2) := HK9.out.cell 1
  go_wp2_with fail
  have C10 := Lib.hid (spoil_any A2 fb.length c2 _ _ w9 HO9.out (by have := HFL.out; omega))
  go_must (refine C10.out.mono ?_)
  rintro e w10 ⟨rfl, hon, _⟩
  have hb10 : Below w1.heap.size w9 w10 := hon.to (fun i hi => (HO9.out.lt i hi).1) HB9.out.size
  have HB10 := Lib.hid (HB9.out.trans hb10)
  have HF10 := Lib.hid (HF9.out.only hon (fun i hi _ h => by have := HLT2.out i h; omega))
  have hc61' : G6.length ≤ 9223372036854775807 := by unfold maxLen at hc62; omega
  clear hon hb10 HO9 HK9 HF9 HB9 C10 x1
  go_wp2_with fail
  go_loopw [14] (fun i wr => ∃ k : Nat, k ≤ G6.length ∧ i = .int .i64 k ∧ FrsSp wr w5.heap.size (.slice A6 G6.length c6) G6 ∧ Below w1.heap.size w1 wr) (fun i _ => G6.length - (intOf i).toNat)
  case atStart => exact ⟨0, by omega, rfl, HF10.out.sp, HB10.out⟩
  case round =>
    obtain ⟨k, hk, rfl, hsp, hbel⟩ := hrel
    have HSP := Lib.hid hsp
    have HBE := Lib.hid hbel
    clear hsp hbel HF10 HB10
    by_cases hlt : k < G6.length
    · obtain ⟨ys, hy⟩ := HSP.out.body k hlt
      obtain ⟨A8, c8, hv8, hc81, hc82, _⟩ := own_slice hy
      obtain ⟨ad, hA, hadB, hcell⟩ := (Reads.of_own HSP.out.own).2 (by omega)
      subst hA
      have hx1 : wr.cell? (ad.add (k * 2 + 1)) = some (G6[k]).2 := hcell _ _ (by have := cellsG_at G6 k 1 (by omega) G6[k] (List.getElem?_eq_getElem hlt); simpa [frC] using this)
      rw [hv8] at hx1 hy
      have x1 : wr.cell? ⟨(ad.add (k * 2)).block, (ad.add (k * 2)).off + 1, none⟩ = some (.slice A8 (G6[k]).1.b.length c8) := (congrArg _ (add_flat ad (k * 2) 1 (by omega))).trans hx1
      have C11 := Lib.hid (spoil_any A8 (G6[k]).1.b.length c8 _ _ wr hy (by have := HGL.out k hlt; omega))
      have HV8 := Lib.hid hv8
      have hltI : (k : Int) < (G6.length : Int) := by omega
      clear hy hcell hx1 hv8 hc61
      go_wp2_with fail
      go_must (refine C11.out.mono ?_)
      rintro e w12 ⟨rfl, hon, hys⟩
      have HSP2 : Hid (FrsSp w12 w5.heap.size (.slice (some ad) G6.length c6) G6) := HSP.out.spoil hlt (by rw [HV8.out]; exact hon) (by rw [HV8.out]; exact hys)
      have HB12 : Hid (Below w1.heap.size w1 w12) := by
        obtain ⟨zs, hz⟩ := HSP.out.body k hlt
        rw [HV8.out] at hz
        exact HBE.out.trans (hon.to (fun i hi => Nat.le_trans HS5.out (hz.lt i hi).1) HBE.out.size)
      clear hon hys C11 x1 HSP HBE
      go_wp2_with fail
      go_roundw
      case rel => exact ⟨k + 1, by omega, by go_num, HSP2.out, HB12.out⟩
      case measure => simp [intOf]; omega
    · obtain rfl : k = G6.length := by omega
      have S13 := Lib.hid (keptBytes_any A1 A (n + 5) c1 n c w1.heap.size B L wr (HX.out _ HBE.out).1 (HD.out _ (HQ.out _ HBE.out)).2 (by omega) hc11)
      go_wp2_with fail
      go_must (refine S13.out.mono ?_)
      rintro e w14 ⟨rfl, q14, rfl⟩
      have HQ14 := Lib.hid (HQ.out _ (below_drewN HBE.out q14))
      clear S13 HBE HSP
      generalize wr.drewN q14 = w14 at *
      go_wp2_with fail
      go_must (refine (WK.out _ HQ14.out).mono ?_)
      rintro e w15 ⟨rfl, hb15⟩
      go_wp2_with fail
      go_ret
      exact ⟨rfl, HQ14.out.trans (hb15.mono HQ14.out.size)⟩
end Go.Proofs.YtiococglmjjagaaDoor
