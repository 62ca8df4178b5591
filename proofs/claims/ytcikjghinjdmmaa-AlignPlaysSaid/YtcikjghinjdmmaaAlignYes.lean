/-
  The ways on which Barrier takes a barrier: six, by what is awaited and what was complete last.
-/
import Derived.Test.YtcikjghinjdmmaaAlign
import Derived.Deep.DeepCutAuto
namespace Go.Proofs.Ytcikjghinjdmmaa
set_option linter.unusedVariables false
set_option linter.unusedSimpArgs false
open Go.RowKit
/-- What stands behind the barrier's taking: all inputs of a lesser number let go. -/
def AlCut (w : World) (g n : Nat) (bl1 : List Bool) (no : Int) (la : Option Int) (ap lp : Option Addr) (wx : World) : Prop :=
  ∃ ap1, Blk wx g 42 (alCells n (bl1.count true : Nat) bl1 ap1 lp) ∧ PtrTo wx g ap1 (some no) ∧ PtrTo wx g lp la ∧ w.grownBy wx (some g) ∧ (ap1 = ap ∨ ap1 = some ⟨w.heap.size, 0, none⟩)
theorem count_set (bl : List Bool) (I : Nat) (h : I < bl.length) (hf : bl[I] = false) : (bl.set I true).count true = bl.count true + 1 := by
  rw [List.count_set h]; simp [hf]
theorem set_same (bl : List Bool) (I : Nat) (h : I < bl.length) (hf : bl[I] = true) : bl.set I true = bl := by
  rw [← hf, List.set_getElem_self]
/-- The end of an accepted barrier that is not complete. -/
theorem al_end_no {w wx w' : World} {g n : Nat} {bl1 : List Bool} {no : Int} {la : Option Int} {ap ap1 lp : Option Addr} {s : AlSt} {i : Int} (hl : bl1.length = 96)
    (hb : Blk w' g 42 (alCells n (bl1.count true : Nat) bl1 ap1 lp)) (ha : PtrTo wx g ap1 (some no)) (hp : PtrTo wx g lp la) (hg1 : w.grownBy wx (some g)) (hg2 : wx.grownBy w' (some g))
    (hap : ap1 = ap ∨ ap1 = some ⟨w.heap.size, 0, none⟩) (hr : alBar n s i no = ((bl1, some no, la), false)) : AlPost w g n (alBar n s i no) ap lp (.returned (.bool false)) w' := by
  rw [hr]
  exact ⟨ap1, lp, rfl, ⟨hl, hb, ha.only hg2, hp.only hg2⟩, hg1.trans hg2, .inr hap, .inl rfl⟩
theorem al_end_yes {w wx w' : World} {g n : Nat} {no : Int} {ap ap1 lp : Option Addr} {s : AlSt} {i : Int}
    (hb : Blk w' g 42 (alCells n 0 (List.replicate 96 false) none ap1)) (ha : PtrTo wx g ap1 (some no)) (hg1 : w.grownBy wx (some g)) (hg2 : wx.grownBy w' (some g))
    (hap : ap1 = ap ∨ ap1 = some ⟨w.heap.size, 0, none⟩) (hr : alBar n s i no = ((noneL, none, some no), true)) : AlPost w g n (alBar n s i no) ap lp (.returned (.bool true)) w' := by
  rw [hr]
  refine ⟨none, ap1, rfl, ⟨by simp [noneL], ?_, rfl, ha.only hg2⟩, hg1.trans hg2, .inl rfl, .inr hap⟩
  simpa [noneL] using hb

theorem al_cut_fresh {w w2 : World} {g n k : Nat} {no : Int} {la : Option Int} {ap apo lp : Option Addr} (hg : g < w.heap.size) (hp : PtrTo w g lp la)
    (HB2 : Blk w2 g 42 (alCells n 0 (List.replicate 96 false) apo lp)) (HG2 : ((w.alloc (.cells #[.int .i64 no] 3)).drewN k).grownBy w2 (some g)) :
    AlCut w g n (List.replicate 96 false) no la ap lp (w2.setCell ⟨g, 98, none⟩ (.pointer (some ⟨w.heap.size, 0, none⟩))) := by
  have h0 : w.grownBy ((w.alloc (.cells #[.int .i64 no] 3)).drewN k) (some g) := only_drewN (World.grownBy_alloc w _ _) k
  have hc : ((w.alloc (.cells #[.int .i64 no] 3)).drewN k).cell? ⟨w.heap.size, 0, none⟩ = some (ival no) := cell_new w #[.int .i64 no] 3 (0, 0) 0
  have h2 : w2.grownBy (w2.setCell ⟨g, 98, none⟩ (.pointer (some ⟨w.heap.size, 0, none⟩))) (some g) := only_setCell (World.grownBy.refl _ _) (.inl rfl) _
  have h3 := HB2.set_ 98 (.pointer (some ⟨w.heap.size, 0, none⟩))
  rw [alCells_set98 _ _ _ _ _ _ (by simp)] at h3
  have hne : some w.heap.size ≠ some g := by intro h; injection h with h; omega
  exact ⟨some ⟨w.heap.size, 0, none⟩, by simpa using h3, ⟨w.heap.size, rfl, by omega, h2.cell (HG2.cell hc hne) hne⟩, hp.only ((h0.trans HG2).trans h2), (h0.trans HG2).trans h2, .inr rfl⟩
theorem al_cut_same {w : World} {g n k : Nat} {no no' : Int} {la : Option Int} {bl : List Bool} {ap lp : Option Addr} (h : AlRep w g n (bl, some no, la) ap lp) :
    AlCut w g n bl no la ap lp ((w.alloc (.cells #[.int .i64 no'] 3)).drewN k) := by
  have hb : Below w.heap.size w ((w.alloc (.cells #[.int .i64 no'] 3)).drewN k) := below_drewN ((Below.refl _ _).alloc (Nat.le_refl _) _) _
  obtain ⟨_, h1, h2, h3⟩ := h.below hb
  exact ⟨ap, h1, h2, h3, ⟨hb.os, hb.tape, hb.output, hb.size, fun k hk _ => hb.block k hk⟩, .inl rfl⟩

set_option maxRecDepth 100000 in
set_option maxHeartbeats 2000000 in
theorem bar_yes_nn (g n : Nat) (bl : List Bool) (ap lp : Option Addr) (I : Nat) (no : Int) (w : World) (hn : I < n) (hn96 : n ≤ 96) (h : AlRep w g n (bl, none, none) ap lp) :
    Calls Try.prog 13 #[.pointer (some ⟨g, 0, none⟩), .int .i64 (I : Int), .int .i64 no] w (AlPost w g n (alBar n (bl, none, none) (I : Int) no) ap lp) := by
  have H := Lib.hid h
  obtain ⟨hl, hb, rfl, rfl⟩ := h
  have hc0 := (hb.cell 0).trans (alCells_get n _ bl _ _ hl).1
  have hc98 := (hb.cell 98).trans (alCells_get n _ bl _ _ hl).2.2.1
  have hc99 := (hb.cell 99).trans (alCells_get n _ bl _ _ hl).2.2.2
  have hg := hb.lt
  have hd : decide ((I : Int) < 0) = false := by simp
  have hd1 : decide (n ≤ I) = false := by simp; omega
  have hd2 : decide ((96 : Int) ≤ (I : Int)) = false := by simp; omega

  have HB := Lib.hid hb
  have HR : Hid (∀ bl1, bl1 = List.replicate 96 false → alBar n (bl, none, none) (I : Int) no = if (bl1.set I true).count true < n then ((bl1.set I true, some no, none), false) else ((noneL, none, some no), true)) := by
    rintro bl1 rfl
    unfold alBar
    rw [if_neg (by simp [alRefuses]; omega)]
    simp [alBl, alFresh]
  clear hb 
  go_enter Try.func13, Try.ntmps13
  go_wp2_with fail
  go_quiet (fail)
  go_wp2_with fail
  go_quiet (fail)
  go_upto_if 69 with (fail)
  clear hc0 hc98 hc99
  go_cut [] (fun wx => AlCut w g n (List.replicate 96 false) no (none) none none wx)
  case first =>
    go_wp2_with fail
    go_must (refine (open_any g n _ bl _ _ _ hl ((HB.out.alloc _).drewN _)).mono ?_)
    rintro e w2 ⟨rfl, hb2, hg2⟩
    have hc98 := (hb2.cell 98).trans (alCells_get n _ _ _ _ (by simp)).2.2.1
    have hf98 := hb2.frozen 98
    have HB2 := Lib.hid hb2
    have HG2 := Lib.hid hg2
    clear hb2 hg2
    go_wp2_with fail
    go_meet
    exact al_cut_fresh hg H.out.2.2.2 HB2.out HG2.out
  case rest =>
    obtain ⟨ap1, hb1, ha1, hp1, hg1, hap⟩ := hcut
    have HR1 := Lib.hid (HR.out _ rfl)
    have hl1 : (List.replicate 96 false).length = 96 := by first | exact hl | simp
    clear HB HR H
    generalize List.replicate 96 false = bl1 at *
    rename World => wx
    have hI : I < bl1.length := by omega
    have k0 := (hb1.cell 0).trans (alCells_get n _ bl1 ap1 _ hl1).1
    have k1 := (hb1.cell 1).trans (alCells_get n _ bl1 ap1 _ hl1).2.1
    have kb := (hb1.cell (2 + I)).trans (alCells_bl n _ bl1 ap1 _ I hI)
    have f1 := hb1.frozen 1
    have fb := hb1.frozen (2 + I)
    have hcle : bl1.count true ≤ 96 := by rw [← hl1]; exact List.count_le_length
    have hI96 : (I : Int) < 96 := by omega
    have HB1 := Lib.hid hb1
    have HA1 := Lib.hid ha1
    have HP1 := Lib.hid hp1
    have HG1 := Lib.hid hg1
    have HAP := Lib.hid hap
    clear hb1 ha1 hp1 hg1 hap
    cases hbI : bl1[I] with
    | true =>
      rw [hbI] at kb
      have hs := set_same bl1 I hI hbI
      have HS := Lib.hid hs
      clear hs
      by_cases hcn : bl1.count true < n
      · have HR2 := HR1.out
        rw [HS.out, if_pos hcn] at HR2
        have HR3 := Lib.hid HR2
        clear HR2 hbI
        generalize hcc : bl1.count true = cc at *
        have hcd : decide (cc < n) = true := by simpa using hcn
        have HCC := Lib.hid hcc
        clear hcc
        go_wp2_with fail
        go_quiet (fail)
        go_wp2_with fail
        go_ret
        refine al_end_no hl1 ?_ HA1.out HP1.out HG1.out (only_drewN (World.grownBy.refl _ _) _) HAP.out HR3.out
        rw [HCC.out]
        exact HB1.out.drewN _
      · have HR2 := HR1.out
        rw [HS.out, if_neg hcn] at HR2
        have HR3 := Lib.hid HR2
        clear HR2 hbI
        generalize hcc : bl1.count true = cc at *
        have hcd : decide (cc < n) = false := by simpa using hcn
        have HCC := Lib.hid hcc
        clear hcc
        go_wp2_with fail
        go_quiet (fail)
        go_wp2_with fail
        go_must (refine (open_any g n _ bl1 ap1 _ _ hl1 (HB1.out.drewN _)).mono ?_)
        rintro e w3 ⟨rfl, hb3, hg3⟩
        have e98 := (hb3.cell 98).trans (alCells_get n _ _ _ _ (by simp)).2.2.1
        have e99 := (hb3.cell 99).trans (alCells_get n _ _ _ _ (by simp)).2.2.2
        have g98 := hb3.frozen 98
        have g99 := hb3.frozen 99
        have HB3 := Lib.hid hb3
        have HG3 := Lib.hid hg3
        clear hb3 hg3
        go_wp2_with fail
        go_ret
        refine al_end_yes ?_ HA1.out HG1.out ((only_drewN (World.grownBy.refl _ _) _).trans (HG3.out.trans (only_set2 g _ _ _ _ _))) HAP.out HR3.out
        have q := (HB3.out.set_ 99 (.pointer ap1)).set_ 98 (.pointer none)
        rw [alCells_set99 _ _ _ _ _ _ (by simp), alCells_set98 _ _ _ _ _ _ (by simp)] at q
        exact q
    | false =>
      rw [hbI] at kb
      have hcs := count_set bl1 I hI hbI
      have hls : (bl1.set I true).length = 96 := by rw [List.length_set]; exact hl1
      have HI := Lib.hid hI
      by_cases hcn : bl1.count true + 1 < n
      · have HR2 := HR1.out
        rw [hcs, if_pos hcn] at HR2
        have HR3 := Lib.hid HR2
        have HCS := Lib.hid hcs
        clear HR2 hbI hcs
        generalize hcc : bl1.count true = cc at *
        have hcd : decide ((cc : Int) + 1 < (n : Int)) = true := by simp; omega
        have HCC := Lib.hid hcc
        clear hcc
        go_wp2_with fail
        go_quiet (fail)
        go_wp2_with fail
        go_ret
        refine al_end_no hls ?_ HA1.out HP1.out HG1.out (only_drewN (only_set2 g _ _ _ _ _) _) HAP.out HR3.out
        rw [HCS.out]
        have q := ((HB1.out.set_ (2 + I) (.bool true)).set_ 1 (ival ((cc : Int) + 1)))
        rw [alCells_setb _ _ _ _ _ _ _ HI.out, alCells_set1] at q
        refine Blk.drewN ?_ _
        simpa using q
      · have HR2 := HR1.out
        rw [hcs, if_neg hcn] at HR2
        have HR3 := Lib.hid HR2
        clear HR2 hbI hcs
        generalize hcc : bl1.count true = cc at *
        have hcd : decide ((cc : Int) + 1 < (n : Int)) = false := by simp; omega
        have HCC := Lib.hid hcc
        clear hcc
        have q := ((HB1.out.set_ (2 + I) (.bool true)).set_ 1 (ival ((cc : Int) + 1)))
        rw [alCells_setb _ _ _ _ _ _ _ HI.out, alCells_set1] at q
        have HQ := Lib.hid q
        clear q
        go_wp2_with fail
        go_quiet (fail)
        go_wp2_with fail
        go_must (refine (open_any g n _ (bl1.set I true) ap1 _ _ hls (HQ.out.drewN _)).mono ?_)
        rintro e w3 ⟨rfl, hb3, hg3⟩
        have e98 := (hb3.cell 98).trans (alCells_get n _ _ _ _ (by simp)).2.2.1
        have e99 := (hb3.cell 99).trans (alCells_get n _ _ _ _ (by simp)).2.2.2
        have g98 := hb3.frozen 98
        have g99 := hb3.frozen 99
        have HB3 := Lib.hid hb3
        have HG3 := Lib.hid hg3
        clear hb3 hg3
        go_wp2_with fail
        go_ret
        refine al_end_yes ?_ HA1.out HG1.out ((only_drewN (only_set2 g _ _ _ _ _) _).trans (HG3.out.trans (only_set2 g _ _ _ _ _))) HAP.out HR3.out
        have q := (HB3.out.set_ 99 (.pointer ap1)).set_ 98 (.pointer none)
        rw [alCells_set99 _ _ _ _ _ _ (by simp), alCells_set98 _ _ _ _ _ _ (by simp)] at q
        exact q
set_option maxRecDepth 100000 in
set_option maxHeartbeats 2000000 in
theorem bar_yes_nl (g n : Nat) (bl : List Bool) (l : Int) (ap lp : Option Addr) (I : Nat) (no : Int) (w : World) (hn : I < n) (hn96 : n ≤ 96) (hnl : l < no) (h : AlRep w g n (bl, none, some l) ap lp) :
    Calls Try.prog 13 #[.pointer (some ⟨g, 0, none⟩), .int .i64 (I : Int), .int .i64 no] w (AlPost w g n (alBar n (bl, none, some l) (I : Int) no) ap lp) := by
  have H := Lib.hid h
  obtain ⟨hl, hb, rfl, ⟨b2, rfl, hbg2, hcb2⟩⟩ := h
  have hc0 := (hb.cell 0).trans (alCells_get n _ bl _ _ hl).1
  have hc98 := (hb.cell 98).trans (alCells_get n _ bl _ _ hl).2.2.1
  have hc99 := (hb.cell 99).trans (alCells_get n _ bl _ _ hl).2.2.2
  have hg := hb.lt
  have hd : decide ((I : Int) < 0) = false := by simp
  have hd1 : decide (n ≤ I) = false := by simp; omega
  have hd2 : decide ((96 : Int) ≤ (I : Int)) = false := by simp; omega
  have hbl2 := World.block_lt_of_cell? w _ hcb2
  have hd4 : decide (no ≤ l) = false := by simpa using hnl
  have HB := Lib.hid hb
  have HR : Hid (∀ bl1, bl1 = List.replicate 96 false → alBar n (bl, none, some l) (I : Int) no = if (bl1.set I true).count true < n then ((bl1.set I true, some no, some l), false) else ((noneL, none, some no), true)) := by
    rintro bl1 rfl
    unfold alBar
    rw [if_neg (by simp [alRefuses]; omega)]
    simp [alBl, alFresh]
  clear hb  hbg2
  go_enter Try.func13, Try.ntmps13
  go_wp2_with fail
  go_quiet (fail)
  go_wp2_with fail
  go_quiet (fail)
  go_upto_if 69 with (fail)
  clear hc0 hc98 hc99
  go_cut [] (fun wx => AlCut w g n (List.replicate 96 false) no (some l) none (some ⟨b2, 0, none⟩) wx)
  case first =>
    go_wp2_with fail
    go_must (refine (open_any g n _ bl _ _ _ hl ((HB.out.alloc _).drewN _)).mono ?_)
    rintro e w2 ⟨rfl, hb2, hg2⟩
    have hc98 := (hb2.cell 98).trans (alCells_get n _ _ _ _ (by simp)).2.2.1
    have hf98 := hb2.frozen 98
    have HB2 := Lib.hid hb2
    have HG2 := Lib.hid hg2
    clear hb2 hg2
    go_wp2_with fail
    go_meet
    exact al_cut_fresh hg H.out.2.2.2 HB2.out HG2.out
  case rest =>
    obtain ⟨ap1, hb1, ha1, hp1, hg1, hap⟩ := hcut
    have HR1 := Lib.hid (HR.out _ rfl)
    have hl1 : (List.replicate 96 false).length = 96 := by first | exact hl | simp
    clear HB HR H
    generalize List.replicate 96 false = bl1 at *
    rename World => wx
    have hI : I < bl1.length := by omega
    have k0 := (hb1.cell 0).trans (alCells_get n _ bl1 ap1 _ hl1).1
    have k1 := (hb1.cell 1).trans (alCells_get n _ bl1 ap1 _ hl1).2.1
    have kb := (hb1.cell (2 + I)).trans (alCells_bl n _ bl1 ap1 _ I hI)
    have f1 := hb1.frozen 1
    have fb := hb1.frozen (2 + I)
    have hcle : bl1.count true ≤ 96 := by rw [← hl1]; exact List.count_le_length
    have hI96 : (I : Int) < 96 := by omega
    have HB1 := Lib.hid hb1
    have HA1 := Lib.hid ha1
    have HP1 := Lib.hid hp1
    have HG1 := Lib.hid hg1
    have HAP := Lib.hid hap
    clear hb1 ha1 hp1 hg1 hap
    cases hbI : bl1[I] with
    | true =>
      rw [hbI] at kb
      have hs := set_same bl1 I hI hbI
      have HS := Lib.hid hs
      clear hs
      by_cases hcn : bl1.count true < n
      · have HR2 := HR1.out
        rw [HS.out, if_pos hcn] at HR2
        have HR3 := Lib.hid HR2
        clear HR2 hbI
        generalize hcc : bl1.count true = cc at *
        have hcd : decide (cc < n) = true := by simpa using hcn
        have HCC := Lib.hid hcc
        clear hcc
        go_wp2_with fail
        go_quiet (fail)
        go_wp2_with fail
        go_ret
        refine al_end_no hl1 ?_ HA1.out HP1.out HG1.out (only_drewN (World.grownBy.refl _ _) _) HAP.out HR3.out
        rw [HCC.out]
        exact HB1.out.drewN _
      · have HR2 := HR1.out
        rw [HS.out, if_neg hcn] at HR2
        have HR3 := Lib.hid HR2
        clear HR2 hbI
        generalize hcc : bl1.count true = cc at *
        have hcd : decide (cc < n) = false := by simpa using hcn
        have HCC := Lib.hid hcc
        clear hcc
        go_wp2_with fail
        go_quiet (fail)
        go_wp2_with fail
        go_must (refine (open_any g n _ bl1 ap1 _ _ hl1 (HB1.out.drewN _)).mono ?_)
        rintro e w3 ⟨rfl, hb3, hg3⟩
        have e98 := (hb3.cell 98).trans (alCells_get n _ _ _ _ (by simp)).2.2.1
        have e99 := (hb3.cell 99).trans (alCells_get n _ _ _ _ (by simp)).2.2.2
        have g98 := hb3.frozen 98
        have g99 := hb3.frozen 99
        have HB3 := Lib.hid hb3
        have HG3 := Lib.hid hg3
        clear hb3 hg3
        go_wp2_with fail
        go_ret
        refine al_end_yes ?_ HA1.out HG1.out ((only_drewN (World.grownBy.refl _ _) _).trans (HG3.out.trans (only_set2 g _ _ _ _ _))) HAP.out HR3.out
        have q := (HB3.out.set_ 99 (.pointer ap1)).set_ 98 (.pointer none)
        rw [alCells_set99 _ _ _ _ _ _ (by simp), alCells_set98 _ _ _ _ _ _ (by simp)] at q
        exact q
    | false =>
      rw [hbI] at kb
      have hcs := count_set bl1 I hI hbI
      have hls : (bl1.set I true).length = 96 := by rw [List.length_set]; exact hl1
      have HI := Lib.hid hI
      by_cases hcn : bl1.count true + 1 < n
      · have HR2 := HR1.out
        rw [hcs, if_pos hcn] at HR2
        have HR3 := Lib.hid HR2
        have HCS := Lib.hid hcs
        clear HR2 hbI hcs
        generalize hcc : bl1.count true = cc at *
        have hcd : decide ((cc : Int) + 1 < (n : Int)) = true := by simp; omega
        have HCC := Lib.hid hcc
        clear hcc
        go_wp2_with fail
        go_quiet (fail)
        go_wp2_with fail
        go_ret
        refine al_end_no hls ?_ HA1.out HP1.out HG1.out (only_drewN (only_set2 g _ _ _ _ _) _) HAP.out HR3.out
        rw [HCS.out]
        have q := ((HB1.out.set_ (2 + I) (.bool true)).set_ 1 (ival ((cc : Int) + 1)))
        rw [alCells_setb _ _ _ _ _ _ _ HI.out, alCells_set1] at q
        refine Blk.drewN ?_ _
        simpa using q
      · have HR2 := HR1.out
        rw [hcs, if_neg hcn] at HR2
        have HR3 := Lib.hid HR2
        clear HR2 hbI hcs
        generalize hcc : bl1.count true = cc at *
        have hcd : decide ((cc : Int) + 1 < (n : Int)) = false := by simp; omega
        have HCC := Lib.hid hcc
        clear hcc
        have q := ((HB1.out.set_ (2 + I) (.bool true)).set_ 1 (ival ((cc : Int) + 1)))
        rw [alCells_setb _ _ _ _ _ _ _ HI.out, alCells_set1] at q
        have HQ := Lib.hid q
        clear q
        go_wp2_with fail
        go_quiet (fail)
        go_wp2_with fail
        go_must (refine (open_any g n _ (bl1.set I true) ap1 _ _ hls (HQ.out.drewN _)).mono ?_)
        rintro e w3 ⟨rfl, hb3, hg3⟩
        have e98 := (hb3.cell 98).trans (alCells_get n _ _ _ _ (by simp)).2.2.1
        have e99 := (hb3.cell 99).trans (alCells_get n _ _ _ _ (by simp)).2.2.2
        have g98 := hb3.frozen 98
        have g99 := hb3.frozen 99
        have HB3 := Lib.hid hb3
        have HG3 := Lib.hid hg3
        clear hb3 hg3
        go_wp2_with fail
        go_ret
        refine al_end_yes ?_ HA1.out HG1.out ((only_drewN (only_set2 g _ _ _ _ _) _).trans (HG3.out.trans (only_set2 g _ _ _ _ _))) HAP.out HR3.out
        have q := (HB3.out.set_ 99 (.pointer ap1)).set_ 98 (.pointer none)
        rw [alCells_set99 _ _ _ _ _ _ (by simp), alCells_set98 _ _ _ _ _ _ (by simp)] at q
        exact q
set_option maxRecDepth 100000 in
set_option maxHeartbeats 2000000 in
theorem bar_yes_fn (g n : Nat) (bl : List Bool) (a : Int) (ap lp : Option Addr) (I : Nat) (no : Int) (w : World) (hn : I < n) (hn96 : n ≤ 96) (hna : a < no) (h : AlRep w g n (bl, some a, none) ap lp) :
    Calls Try.prog 13 #[.pointer (some ⟨g, 0, none⟩), .int .i64 (I : Int), .int .i64 no] w (AlPost w g n (alBar n (bl, some a, none) (I : Int) no) ap lp) := by
  have H := Lib.hid h
  obtain ⟨hl, hb, ⟨b, rfl, hbg, hcb⟩, rfl⟩ := h
  have hc0 := (hb.cell 0).trans (alCells_get n _ bl _ _ hl).1
  have hc98 := (hb.cell 98).trans (alCells_get n _ bl _ _ hl).2.2.1
  have hc99 := (hb.cell 99).trans (alCells_get n _ bl _ _ hl).2.2.2
  have hg := hb.lt
  have hd : decide ((I : Int) < 0) = false := by simp
  have hd1 : decide (n ≤ I) = false := by simp; omega
  have hd2 : decide ((96 : Int) ≤ (I : Int)) = false := by simp; omega
  have hbl := World.block_lt_of_cell? w _ hcb
  have hd3 : decide (no < a) = false := by simp; omega
  have hd5 : decide (a < no) = true := by simpa using hna
  have HB := Lib.hid hb
  have HR : Hid (∀ bl1, bl1 = List.replicate 96 false → alBar n (bl, some a, none) (I : Int) no = if (bl1.set I true).count true < n then ((bl1.set I true, some no, none), false) else ((noneL, none, some no), true)) := by
    rintro bl1 rfl
    unfold alBar
    rw [if_neg (by simp [alRefuses]; omega)]
    simp [alBl, alFresh, hna]
  clear hb  hbg
  go_enter Try.func13, Try.ntmps13
  go_wp2_with fail
  go_quiet (fail)
  go_wp2_with fail
  go_quiet (fail)
  go_upto_if 69 with (fail)
  clear hc0 hc98 hc99
  go_cut [] (fun wx => AlCut w g n (List.replicate 96 false) no (none) (some ⟨b, 0, none⟩) none wx)
  case first =>
    go_wp2_with fail
    go_must (refine (open_any g n _ bl _ _ _ hl ((HB.out.alloc _).drewN _)).mono ?_)
    rintro e w2 ⟨rfl, hb2, hg2⟩
    have hc98 := (hb2.cell 98).trans (alCells_get n _ _ _ _ (by simp)).2.2.1
    have hf98 := hb2.frozen 98
    have HB2 := Lib.hid hb2
    have HG2 := Lib.hid hg2
    clear hb2 hg2
    go_wp2_with fail
    go_meet
    exact al_cut_fresh hg H.out.2.2.2 HB2.out HG2.out
  case rest =>
    obtain ⟨ap1, hb1, ha1, hp1, hg1, hap⟩ := hcut
    have HR1 := Lib.hid (HR.out _ rfl)
    have hl1 : (List.replicate 96 false).length = 96 := by first | exact hl | simp
    clear HB HR H
    generalize List.replicate 96 false = bl1 at *
    rename World => wx
    have hI : I < bl1.length := by omega
    have k0 := (hb1.cell 0).trans (alCells_get n _ bl1 ap1 _ hl1).1
    have k1 := (hb1.cell 1).trans (alCells_get n _ bl1 ap1 _ hl1).2.1
    have kb := (hb1.cell (2 + I)).trans (alCells_bl n _ bl1 ap1 _ I hI)
    have f1 := hb1.frozen 1
    have fb := hb1.frozen (2 + I)
    have hcle : bl1.count true ≤ 96 := by rw [← hl1]; exact List.count_le_length
    have hI96 : (I : Int) < 96 := by omega
    have HB1 := Lib.hid hb1
    have HA1 := Lib.hid ha1
    have HP1 := Lib.hid hp1
    have HG1 := Lib.hid hg1
    have HAP := Lib.hid hap
    clear hb1 ha1 hp1 hg1 hap
    cases hbI : bl1[I] with
    | true =>
      rw [hbI] at kb
      have hs := set_same bl1 I hI hbI
      have HS := Lib.hid hs
      clear hs
      by_cases hcn : bl1.count true < n
      · have HR2 := HR1.out
        rw [HS.out, if_pos hcn] at HR2
        have HR3 := Lib.hid HR2
        clear HR2 hbI
        generalize hcc : bl1.count true = cc at *
        have hcd : decide (cc < n) = true := by simpa using hcn
        have HCC := Lib.hid hcc
        clear hcc
        go_wp2_with fail
        go_quiet (fail)
        go_wp2_with fail
        go_ret
        refine al_end_no hl1 ?_ HA1.out HP1.out HG1.out (only_drewN (World.grownBy.refl _ _) _) HAP.out HR3.out
        rw [HCC.out]
        exact HB1.out.drewN _
      · have HR2 := HR1.out
        rw [HS.out, if_neg hcn] at HR2
        have HR3 := Lib.hid HR2
        clear HR2 hbI
        generalize hcc : bl1.count true = cc at *
        have hcd : decide (cc < n) = false := by simpa using hcn
        have HCC := Lib.hid hcc
        clear hcc
        go_wp2_with fail
        go_quiet (fail)
        go_wp2_with fail
        go_must (refine (open_any g n _ bl1 ap1 _ _ hl1 (HB1.out.drewN _)).mono ?_)
        rintro e w3 ⟨rfl, hb3, hg3⟩
        have e98 := (hb3.cell 98).trans (alCells_get n _ _ _ _ (by simp)).2.2.1
        have e99 := (hb3.cell 99).trans (alCells_get n _ _ _ _ (by simp)).2.2.2
        have g98 := hb3.frozen 98
        have g99 := hb3.frozen 99
        have HB3 := Lib.hid hb3
        have HG3 := Lib.hid hg3
        clear hb3 hg3
        go_wp2_with fail
        go_ret
        refine al_end_yes ?_ HA1.out HG1.out ((only_drewN (World.grownBy.refl _ _) _).trans (HG3.out.trans (only_set2 g _ _ _ _ _))) HAP.out HR3.out
        have q := (HB3.out.set_ 99 (.pointer ap1)).set_ 98 (.pointer none)
        rw [alCells_set99 _ _ _ _ _ _ (by simp), alCells_set98 _ _ _ _ _ _ (by simp)] at q
        exact q
    | false =>
      rw [hbI] at kb
      have hcs := count_set bl1 I hI hbI
      have hls : (bl1.set I true).length = 96 := by rw [List.length_set]; exact hl1
      have HI := Lib.hid hI
      by_cases hcn : bl1.count true + 1 < n
      · have HR2 := HR1.out
        rw [hcs, if_pos hcn] at HR2
        have HR3 := Lib.hid HR2
        have HCS := Lib.hid hcs
        clear HR2 hbI hcs
        generalize hcc : bl1.count true = cc at *
        have hcd : decide ((cc : Int) + 1 < (n : Int)) = true := by simp; omega
        have HCC := Lib.hid hcc
        clear hcc
        go_wp2_with fail
        go_quiet (fail)
        go_wp2_with fail
        go_ret
        refine al_end_no hls ?_ HA1.out HP1.out HG1.out (only_drewN (only_set2 g _ _ _ _ _) _) HAP.out HR3.out
        rw [HCS.out]
        have q := ((HB1.out.set_ (2 + I) (.bool true)).set_ 1 (ival ((cc : Int) + 1)))
        rw [alCells_setb _ _ _ _ _ _ _ HI.out, alCells_set1] at q
        refine Blk.drewN ?_ _
        simpa using q
      · have HR2 := HR1.out
        rw [hcs, if_neg hcn] at HR2
        have HR3 := Lib.hid HR2
        clear HR2 hbI hcs
        generalize hcc : bl1.count true = cc at *
        have hcd : decide ((cc : Int) + 1 < (n : Int)) = false := by simp; omega
        have HCC := Lib.hid hcc
        clear hcc
        have q := ((HB1.out.set_ (2 + I) (.bool true)).set_ 1 (ival ((cc : Int) + 1)))
        rw [alCells_setb _ _ _ _ _ _ _ HI.out, alCells_set1] at q
        have HQ := Lib.hid q
        clear q
        go_wp2_with fail
        go_quiet (fail)
        go_wp2_with fail
        go_must (refine (open_any g n _ (bl1.set I true) ap1 _ _ hls (HQ.out.drewN _)).mono ?_)
        rintro e w3 ⟨rfl, hb3, hg3⟩
        have e98 := (hb3.cell 98).trans (alCells_get n _ _ _ _ (by simp)).2.2.1
        have e99 := (hb3.cell 99).trans (alCells_get n _ _ _ _ (by simp)).2.2.2
        have g98 := hb3.frozen 98
        have g99 := hb3.frozen 99
        have HB3 := Lib.hid hb3
        have HG3 := Lib.hid hg3
        clear hb3 hg3
        go_wp2_with fail
        go_ret
        refine al_end_yes ?_ HA1.out HG1.out ((only_drewN (only_set2 g _ _ _ _ _) _).trans (HG3.out.trans (only_set2 g _ _ _ _ _))) HAP.out HR3.out
        have q := (HB3.out.set_ 99 (.pointer ap1)).set_ 98 (.pointer none)
        rw [alCells_set99 _ _ _ _ _ _ (by simp), alCells_set98 _ _ _ _ _ _ (by simp)] at q
        exact q
set_option maxRecDepth 100000 in
set_option maxHeartbeats 2000000 in
theorem bar_yes_fl (g n : Nat) (bl : List Bool) (a l : Int) (ap lp : Option Addr) (I : Nat) (no : Int) (w : World) (hn : I < n) (hn96 : n ≤ 96) (hna : a < no) (hnl : l < no) (h : AlRep w g n (bl, some a, some l) ap lp) :
    Calls Try.prog 13 #[.pointer (some ⟨g, 0, none⟩), .int .i64 (I : Int), .int .i64 no] w (AlPost w g n (alBar n (bl, some a, some l) (I : Int) no) ap lp) := by
  have H := Lib.hid h
  obtain ⟨hl, hb, ⟨b, rfl, hbg, hcb⟩, ⟨b2, rfl, hbg2, hcb2⟩⟩ := h
  have hc0 := (hb.cell 0).trans (alCells_get n _ bl _ _ hl).1
  have hc98 := (hb.cell 98).trans (alCells_get n _ bl _ _ hl).2.2.1
  have hc99 := (hb.cell 99).trans (alCells_get n _ bl _ _ hl).2.2.2
  have hg := hb.lt
  have hd : decide ((I : Int) < 0) = false := by simp
  have hd1 : decide (n ≤ I) = false := by simp; omega
  have hd2 : decide ((96 : Int) ≤ (I : Int)) = false := by simp; omega
  have hbl := World.block_lt_of_cell? w _ hcb
  have hbl2 := World.block_lt_of_cell? w _ hcb2
  have hd3 : decide (no < a) = false := by simp; omega
  have hd5 : decide (a < no) = true := by simpa using hna
  have hd4 : decide (no ≤ l) = false := by simpa using hnl
  have HB := Lib.hid hb
  have HR : Hid (∀ bl1, bl1 = List.replicate 96 false → alBar n (bl, some a, some l) (I : Int) no = if (bl1.set I true).count true < n then ((bl1.set I true, some no, some l), false) else ((noneL, none, some no), true)) := by
    rintro bl1 rfl
    unfold alBar
    rw [if_neg (by simp [alRefuses]; omega)]
    simp [alBl, alFresh, hna]
  clear hb  hbg hbg2
  go_enter Try.func13, Try.ntmps13
  go_wp2_with fail
  go_quiet (fail)
  go_wp2_with fail
  go_quiet (fail)
  go_upto_if 69 with (fail)
  clear hc0 hc98 hc99
  go_cut [] (fun wx => AlCut w g n (List.replicate 96 false) no (some l) (some ⟨b, 0, none⟩) (some ⟨b2, 0, none⟩) wx)
  case first =>
    go_wp2_with fail
    go_must (refine (open_any g n _ bl _ _ _ hl ((HB.out.alloc _).drewN _)).mono ?_)
    rintro e w2 ⟨rfl, hb2, hg2⟩
    have hc98 := (hb2.cell 98).trans (alCells_get n _ _ _ _ (by simp)).2.2.1
    have hf98 := hb2.frozen 98
    have HB2 := Lib.hid hb2
    have HG2 := Lib.hid hg2
    clear hb2 hg2
    go_wp2_with fail
    go_meet
    exact al_cut_fresh hg H.out.2.2.2 HB2.out HG2.out
  case rest =>
    obtain ⟨ap1, hb1, ha1, hp1, hg1, hap⟩ := hcut
    have HR1 := Lib.hid (HR.out _ rfl)
    have hl1 : (List.replicate 96 false).length = 96 := by first | exact hl | simp
    clear HB HR H
    generalize List.replicate 96 false = bl1 at *
    rename World => wx
    have hI : I < bl1.length := by omega
    have k0 := (hb1.cell 0).trans (alCells_get n _ bl1 ap1 _ hl1).1
    have k1 := (hb1.cell 1).trans (alCells_get n _ bl1 ap1 _ hl1).2.1
    have kb := (hb1.cell (2 + I)).trans (alCells_bl n _ bl1 ap1 _ I hI)
    have f1 := hb1.frozen 1
    have fb := hb1.frozen (2 + I)
    have hcle : bl1.count true ≤ 96 := by rw [← hl1]; exact List.count_le_length
    have hI96 : (I : Int) < 96 := by omega
    have HB1 := Lib.hid hb1
    have HA1 := Lib.hid ha1
    have HP1 := Lib.hid hp1
    have HG1 := Lib.hid hg1
    have HAP := Lib.hid hap
    clear hb1 ha1 hp1 hg1 hap
    cases hbI : bl1[I] with
    | true =>
      rw [hbI] at kb
      have hs := set_same bl1 I hI hbI
      have HS := Lib.hid hs
      clear hs
      by_cases hcn : bl1.count true < n
      · have HR2 := HR1.out
        rw [HS.out, if_pos hcn] at HR2
        have HR3 := Lib.hid HR2
        clear HR2 hbI
        generalize hcc : bl1.count true = cc at *
        have hcd : decide (cc < n) = true := by simpa using hcn
        have HCC := Lib.hid hcc
        clear hcc
        go_wp2_with fail
        go_quiet (fail)
        go_wp2_with fail
        go_ret
        refine al_end_no hl1 ?_ HA1.out HP1.out HG1.out (only_drewN (World.grownBy.refl _ _) _) HAP.out HR3.out
        rw [HCC.out]
        exact HB1.out.drewN _
      · have HR2 := HR1.out
        rw [HS.out, if_neg hcn] at HR2
        have HR3 := Lib.hid HR2
        clear HR2 hbI
        generalize hcc : bl1.count true = cc at *
        have hcd : decide (cc < n) = false := by simpa using hcn
        have HCC := Lib.hid hcc
        clear hcc
        go_wp2_with fail
        go_quiet (fail)
        go_wp2_with fail
        go_must (refine (open_any g n _ bl1 ap1 _ _ hl1 (HB1.out.drewN _)).mono ?_)
        rintro e w3 ⟨rfl, hb3, hg3⟩
        have e98 := (hb3.cell 98).trans (alCells_get n _ _ _ _ (by simp)).2.2.1
        have e99 := (hb3.cell 99).trans (alCells_get n _ _ _ _ (by simp)).2.2.2
        have g98 := hb3.frozen 98
        have g99 := hb3.frozen 99
        have HB3 := Lib.hid hb3
        have HG3 := Lib.hid hg3
        clear hb3 hg3
        go_wp2_with fail
        go_ret
        refine al_end_yes ?_ HA1.out HG1.out ((only_drewN (World.grownBy.refl _ _) _).trans (HG3.out.trans (only_set2 g _ _ _ _ _))) HAP.out HR3.out
        have q := (HB3.out.set_ 99 (.pointer ap1)).set_ 98 (.pointer none)
        rw [alCells_set99 _ _ _ _ _ _ (by simp), alCells_set98 _ _ _ _ _ _ (by simp)] at q
        exact q
    | false =>
      rw [hbI] at kb
      have hcs := count_set bl1 I hI hbI
      have hls : (bl1.set I true).length = 96 := by rw [List.length_set]; exact hl1
      have HI := Lib.hid hI
      by_cases hcn : bl1.count true + 1 < n
      · have HR2 := HR1.out
        rw [hcs, if_pos hcn] at HR2
        have HR3 := Lib.hid HR2
        have HCS := Lib.hid hcs
        clear HR2 hbI hcs
        generalize hcc : bl1.count true = cc at *
        have hcd : decide ((cc : Int) + 1 < (n : Int)) = true := by simp; omega
        have HCC := Lib.hid hcc
        clear hcc
        go_wp2_with fail
        go_quiet (fail)
        go_wp2_with fail
        go_ret
        refine al_end_no hls ?_ HA1.out HP1.out HG1.out (only_drewN (only_set2 g _ _ _ _ _) _) HAP.out HR3.out
        rw [HCS.out]
        have q := ((HB1.out.set_ (2 + I) (.bool true)).set_ 1 (ival ((cc : Int) + 1)))
        rw [alCells_setb _ _ _ _ _ _ _ HI.out, alCells_set1] at q
        refine Blk.drewN ?_ _
        simpa using q
      · have HR2 := HR1.out
        rw [hcs, if_neg hcn] at HR2
        have HR3 := Lib.hid HR2
        clear HR2 hbI hcs
        generalize hcc : bl1.count true = cc at *
        have hcd : decide ((cc : Int) + 1 < (n : Int)) = false := by simp; omega
        have HCC := Lib.hid hcc
        clear hcc
        have q := ((HB1.out.set_ (2 + I) (.bool true)).set_ 1 (ival ((cc : Int) + 1)))
        rw [alCells_setb _ _ _ _ _ _ _ HI.out, alCells_set1] at q
        have HQ := Lib.hid q
        clear q
        go_wp2_with fail
        go_quiet (fail)
        go_wp2_with fail
        go_must (refine (open_any g n _ (bl1.set I true) ap1 _ _ hls (HQ.out.drewN _)).mono ?_)
        rintro e w3 ⟨rfl, hb3, hg3⟩
        have e98 := (hb3.cell 98).trans (alCells_get n _ _ _ _ (by simp)).2.2.1
        have e99 := (hb3.cell 99).trans (alCells_get n _ _ _ _ (by simp)).2.2.2
        have g98 := hb3.frozen 98
        have g99 := hb3.frozen 99
        have HB3 := Lib.hid hb3
        have HG3 := Lib.hid hg3
        clear hb3 hg3
        go_wp2_with fail
        go_ret
        refine al_end_yes ?_ HA1.out HG1.out ((only_drewN (only_set2 g _ _ _ _ _) _).trans (HG3.out.trans (only_set2 g _ _ _ _ _))) HAP.out HR3.out
        have q := (HB3.out.set_ 99 (.pointer ap1)).set_ 98 (.pointer none)
        rw [alCells_set99 _ _ _ _ _ _ (by simp), alCells_set98 _ _ _ _ _ _ (by simp)] at q
        exact q
set_option maxRecDepth 100000 in
set_option maxHeartbeats 2000000 in
theorem bar_yes_en (g n : Nat) (bl : List Bool) (ap lp : Option Addr) (I : Nat) (no : Int) (w : World) (hn : I < n) (hn96 : n ≤ 96) (h : AlRep w g n (bl, some no, none) ap lp) :
    Calls Try.prog 13 #[.pointer (some ⟨g, 0, none⟩), .int .i64 (I : Int), .int .i64 no] w (AlPost w g n (alBar n (bl, some no, none) (I : Int) no) ap lp) := by
  have H := Lib.hid h
  obtain ⟨hl, hb, ⟨b, rfl, hbg, hcb⟩, rfl⟩ := h
  have hc0 := (hb.cell 0).trans (alCells_get n _ bl _ _ hl).1
  have hc98 := (hb.cell 98).trans (alCells_get n _ bl _ _ hl).2.2.1
  have hc99 := (hb.cell 99).trans (alCells_get n _ bl _ _ hl).2.2.2
  have hg := hb.lt
  have hd : decide ((I : Int) < 0) = false := by simp
  have hd1 : decide (n ≤ I) = false := by simp; omega
  have hd2 : decide ((96 : Int) ≤ (I : Int)) = false := by simp; omega
  have hbl := World.block_lt_of_cell? w _ hcb
  have HB := Lib.hid hb
  have HR : Hid (∀ bl1, bl1 = bl → alBar n (bl, some no, none) (I : Int) no = if (bl1.set I true).count true < n then ((bl1.set I true, some no, none), false) else ((noneL, none, some no), true)) := by
    rintro bl1 rfl
    unfold alBar
    rw [if_neg (by simp [alRefuses]; omega)]
    simp [alBl, alFresh]
  clear hb  hbg
  go_enter Try.func13, Try.ntmps13
  go_wp2_with fail
  go_quiet (fail)
  go_wp2_with fail
  go_quiet (fail)
  go_upto_if 69 with (fail)
  clear hc0 hc98 hc99
  go_cut [] (fun wx => AlCut w g n (bl) no (none) (some ⟨b, 0, none⟩) none wx)
  case first =>
    go_wp2_with fail
    go_meet
    rw [World.drewN_drewN]
    exact al_cut_same H.out
  case rest =>
    obtain ⟨ap1, hb1, ha1, hp1, hg1, hap⟩ := hcut
    have HR1 := Lib.hid (HR.out _ rfl)
    have hl1 : (bl).length = 96 := by first | exact hl | simp
    clear HB HR H
    generalize bl = bl1 at *
    rename World => wx
    have hI : I < bl1.length := by omega
    have k0 := (hb1.cell 0).trans (alCells_get n _ bl1 ap1 _ hl1).1
    have k1 := (hb1.cell 1).trans (alCells_get n _ bl1 ap1 _ hl1).2.1
    have kb := (hb1.cell (2 + I)).trans (alCells_bl n _ bl1 ap1 _ I hI)
    have f1 := hb1.frozen 1
    have fb := hb1.frozen (2 + I)
    have hcle : bl1.count true ≤ 96 := by rw [← hl1]; exact List.count_le_length
    have hI96 : (I : Int) < 96 := by omega
    have HB1 := Lib.hid hb1
    have HA1 := Lib.hid ha1
    have HP1 := Lib.hid hp1
    have HG1 := Lib.hid hg1
    have HAP := Lib.hid hap
    clear hb1 ha1 hp1 hg1 hap
    cases hbI : bl1[I] with
    | true =>
      rw [hbI] at kb
      have hs := set_same bl1 I hI hbI
      have HS := Lib.hid hs
      clear hs
      by_cases hcn : bl1.count true < n
      · have HR2 := HR1.out
        rw [HS.out, if_pos hcn] at HR2
        have HR3 := Lib.hid HR2
        clear HR2 hbI
        generalize hcc : bl1.count true = cc at *
        have hcd : decide (cc < n) = true := by simpa using hcn
        have HCC := Lib.hid hcc
        clear hcc
        go_wp2_with fail
        go_quiet (fail)
        go_wp2_with fail
        go_ret
        refine al_end_no hl1 ?_ HA1.out HP1.out HG1.out (only_drewN (World.grownBy.refl _ _) _) HAP.out HR3.out
        rw [HCC.out]
        exact HB1.out.drewN _
      · have HR2 := HR1.out
        rw [HS.out, if_neg hcn] at HR2
        have HR3 := Lib.hid HR2
        clear HR2 hbI
        generalize hcc : bl1.count true = cc at *
        have hcd : decide (cc < n) = false := by simpa using hcn
        have HCC := Lib.hid hcc
        clear hcc
        go_wp2_with fail
        go_quiet (fail)
        go_wp2_with fail
        go_must (refine (open_any g n _ bl1 ap1 _ _ hl1 (HB1.out.drewN _)).mono ?_)
        rintro e w3 ⟨rfl, hb3, hg3⟩
        have e98 := (hb3.cell 98).trans (alCells_get n _ _ _ _ (by simp)).2.2.1
        have e99 := (hb3.cell 99).trans (alCells_get n _ _ _ _ (by simp)).2.2.2
        have g98 := hb3.frozen 98
        have g99 := hb3.frozen 99
        have HB3 := Lib.hid hb3
        have HG3 := Lib.hid hg3
        clear hb3 hg3
        go_wp2_with fail
        go_ret
        refine al_end_yes ?_ HA1.out HG1.out ((only_drewN (World.grownBy.refl _ _) _).trans (HG3.out.trans (only_set2 g _ _ _ _ _))) HAP.out HR3.out
        have q := (HB3.out.set_ 99 (.pointer ap1)).set_ 98 (.pointer none)
        rw [alCells_set99 _ _ _ _ _ _ (by simp), alCells_set98 _ _ _ _ _ _ (by simp)] at q
        exact q
    | false =>
      rw [hbI] at kb
      have hcs := count_set bl1 I hI hbI
      have hls : (bl1.set I true).length = 96 := by rw [List.length_set]; exact hl1
      have HI := Lib.hid hI
      by_cases hcn : bl1.count true + 1 < n
      · have HR2 := HR1.out
        rw [hcs, if_pos hcn] at HR2
        have HR3 := Lib.hid HR2
        have HCS := Lib.hid hcs
        clear HR2 hbI hcs
        generalize hcc : bl1.count true = cc at *
        have hcd : decide ((cc : Int) + 1 < (n : Int)) = true := by simp; omega
        have HCC := Lib.hid hcc
        clear hcc
        go_wp2_with fail
        go_quiet (fail)
        go_wp2_with fail
        go_ret
        refine al_end_no hls ?_ HA1.out HP1.out HG1.out (only_drewN (only_set2 g _ _ _ _ _) _) HAP.out HR3.out
        rw [HCS.out]
        have q := ((HB1.out.set_ (2 + I) (.bool true)).set_ 1 (ival ((cc : Int) + 1)))
        rw [alCells_setb _ _ _ _ _ _ _ HI.out, alCells_set1] at q
        refine Blk.drewN ?_ _
        simpa using q
      · have HR2 := HR1.out
        rw [hcs, if_neg hcn] at HR2
        have HR3 := Lib.hid HR2
        clear HR2 hbI hcs
        generalize hcc : bl1.count true = cc at *
        have hcd : decide ((cc : Int) + 1 < (n : Int)) = false := by simp; omega
        have HCC := Lib.hid hcc
        clear hcc
        have q := ((HB1.out.set_ (2 + I) (.bool true)).set_ 1 (ival ((cc : Int) + 1)))
        rw [alCells_setb _ _ _ _ _ _ _ HI.out, alCells_set1] at q
        have HQ := Lib.hid q
        clear q
        go_wp2_with fail
        go_quiet (fail)
        go_wp2_with fail
        go_must (refine (open_any g n _ (bl1.set I true) ap1 _ _ hls (HQ.out.drewN _)).mono ?_)
        rintro e w3 ⟨rfl, hb3, hg3⟩
        have e98 := (hb3.cell 98).trans (alCells_get n _ _ _ _ (by simp)).2.2.1
        have e99 := (hb3.cell 99).trans (alCells_get n _ _ _ _ (by simp)).2.2.2
        have g98 := hb3.frozen 98
        have g99 := hb3.frozen 99
        have HB3 := Lib.hid hb3
        have HG3 := Lib.hid hg3
        clear hb3 hg3
        go_wp2_with fail
        go_ret
        refine al_end_yes ?_ HA1.out HG1.out ((only_drewN (only_set2 g _ _ _ _ _) _).trans (HG3.out.trans (only_set2 g _ _ _ _ _))) HAP.out HR3.out
        have q := (HB3.out.set_ 99 (.pointer ap1)).set_ 98 (.pointer none)
        rw [alCells_set99 _ _ _ _ _ _ (by simp), alCells_set98 _ _ _ _ _ _ (by simp)] at q
        exact q
set_option maxRecDepth 100000 in
set_option maxHeartbeats 2000000 in
theorem bar_yes_el (g n : Nat) (bl : List Bool) (l : Int) (ap lp : Option Addr) (I : Nat) (no : Int) (w : World) (hn : I < n) (hn96 : n ≤ 96) (hnl : l < no) (h : AlRep w g n (bl, some no, some l) ap lp) :
    Calls Try.prog 13 #[.pointer (some ⟨g, 0, none⟩), .int .i64 (I : Int), .int .i64 no] w (AlPost w g n (alBar n (bl, some no, some l) (I : Int) no) ap lp) := by
  have H := Lib.hid h
  obtain ⟨hl, hb, ⟨b, rfl, hbg, hcb⟩, ⟨b2, rfl, hbg2, hcb2⟩⟩ := h
  have hc0 := (hb.cell 0).trans (alCells_get n _ bl _ _ hl).1
  have hc98 := (hb.cell 98).trans (alCells_get n _ bl _ _ hl).2.2.1
  have hc99 := (hb.cell 99).trans (alCells_get n _ bl _ _ hl).2.2.2
  have hg := hb.lt
  have hd : decide ((I : Int) < 0) = false := by simp
  have hd1 : decide (n ≤ I) = false := by simp; omega
  have hd2 : decide ((96 : Int) ≤ (I : Int)) = false := by simp; omega
  have hbl := World.block_lt_of_cell? w _ hcb
  have hbl2 := World.block_lt_of_cell? w _ hcb2
  have hd4 : decide (no ≤ l) = false := by simpa using hnl
  have HB := Lib.hid hb
  have HR : Hid (∀ bl1, bl1 = bl → alBar n (bl, some no, some l) (I : Int) no = if (bl1.set I true).count true < n then ((bl1.set I true, some no, some l), false) else ((noneL, none, some no), true)) := by
    rintro bl1 rfl
    unfold alBar
    rw [if_neg (by simp [alRefuses]; omega)]
    simp [alBl, alFresh]
  clear hb  hbg hbg2
  go_enter Try.func13, Try.ntmps13
  go_wp2_with fail
  go_quiet (fail)
  go_wp2_with fail
  go_quiet (fail)
  go_upto_if 69 with (fail)
  clear hc0 hc98 hc99
  go_cut [] (fun wx => AlCut w g n (bl) no (some l) (some ⟨b, 0, none⟩) (some ⟨b2, 0, none⟩) wx)
  case first =>
    go_wp2_with fail
    go_meet
    rw [World.drewN_drewN]
    exact al_cut_same H.out
  case rest =>
    obtain ⟨ap1, hb1, ha1, hp1, hg1, hap⟩ := hcut
    have HR1 := Lib.hid (HR.out _ rfl)
    have hl1 : (bl).length = 96 := by first | exact hl | simp
    clear HB HR H
    generalize bl = bl1 at *
    rename World => wx
    have hI : I < bl1.length := by omega
    have k0 := (hb1.cell 0).trans (alCells_get n _ bl1 ap1 _ hl1).1
    have k1 := (hb1.cell 1).trans (alCells_get n _ bl1 ap1 _ hl1).2.1
    have kb := (hb1.cell (2 + I)).trans (alCells_bl n _ bl1 ap1 _ I hI)
    have f1 := hb1.frozen 1
    have fb := hb1.frozen (2 + I)
    have hcle : bl1.count true ≤ 96 := by rw [← hl1]; exact List.count_le_length
    have hI96 : (I : Int) < 96 := by omega
    have HB1 := Lib.hid hb1
    have HA1 := Lib.hid ha1
    have HP1 := Lib.hid hp1
    have HG1 := Lib.hid hg1
    have HAP := Lib.hid hap
    clear hb1 ha1 hp1 hg1 hap
    cases hbI : bl1[I] with
    | true =>
      rw [hbI] at kb
      have hs := set_same bl1 I hI hbI
      have HS := Lib.hid hs
      clear hs
      by_cases hcn : bl1.count true < n
      · have HR2 := HR1.out
        rw [HS.out, if_pos hcn] at HR2
        have HR3 := Lib.hid HR2
        clear HR2 hbI
        generalize hcc : bl1.count true = cc at *
        have hcd : decide (cc < n) = true := by simpa using hcn
        have HCC := Lib.hid hcc
        clear hcc
        go_wp2_with fail
        go_quiet (fail)
        go_wp2_with fail
        go_ret
        refine al_end_no hl1 ?_ HA1.out HP1.out HG1.out (only_drewN (World.grownBy.refl _ _) _) HAP.out HR3.out
        rw [HCC.out]
        exact HB1.out.drewN _
      · have HR2 := HR1.out
        rw [HS.out, if_neg hcn] at HR2
        have HR3 := Lib.hid HR2
        clear HR2 hbI
        generalize hcc : bl1.count true = cc at *
        have hcd : decide (cc < n) = false := by simpa using hcn
        have HCC := Lib.hid hcc
        clear hcc
        go_wp2_with fail
        go_quiet (fail)
        go_wp2_with fail
        go_must (refine (open_any g n _ bl1 ap1 _ _ hl1 (HB1.out.drewN _)).mono ?_)
        rintro e w3 ⟨rfl, hb3, hg3⟩
        have e98 := (hb3.cell 98).trans (alCells_get n _ _ _ _ (by simp)).2.2.1
        have e99 := (hb3.cell 99).trans (alCells_get n _ _ _ _ (by simp)).2.2.2
        have g98 := hb3.frozen 98
        have g99 := hb3.frozen 99
        have HB3 := Lib.hid hb3
        have HG3 := Lib.hid hg3
        clear hb3 hg3
        go_wp2_with fail
        go_ret
        refine al_end_yes ?_ HA1.out HG1.out ((only_drewN (World.grownBy.refl _ _) _).trans (HG3.out.trans (only_set2 g _ _ _ _ _))) HAP.out HR3.out
        have q := (HB3.out.set_ 99 (.pointer ap1)).set_ 98 (.pointer none)
        rw [alCells_set99 _ _ _ _ _ _ (by simp), alCells_set98 _ _ _ _ _ _ (by simp)] at q
        exact q
    | false =>
      rw [hbI] at kb
      have hcs := count_set bl1 I hI hbI
      have hls : (bl1.set I true).length = 96 := by rw [List.length_set]; exact hl1
      have HI := Lib.hid hI
      by_cases hcn : bl1.count true + 1 < n
      · have HR2 := HR1.out
        rw [hcs, if_pos hcn] at HR2
        have HR3 := Lib.hid HR2
        have HCS := Lib.hid hcs
        clear HR2 hbI hcs
        generalize hcc : bl1.count true = cc at *
        have hcd : decide ((cc : Int) + 1 < (n : Int)) = true := by simp; omega
        have HCC := Lib.hid hcc
        clear hcc
        go_wp2_with fail
        go_quiet (fail)
        go_wp2_with fail
        go_ret
        refine al_end_no hls ?_ HA1.out HP1.out HG1.out (only_drewN (only_set2 g _ _ _ _ _) _) HAP.out HR3.out
        rw [HCS.out]
        have q := ((HB1.out.set_ (2 + I) (.bool true)).set_ 1 (ival ((cc : Int) + 1)))
        rw [alCells_setb _ _ _ _ _ _ _ HI.out, alCells_set1] at q
        refine Blk.drewN ?_ _
        simpa using q
      · have HR2 := HR1.out
        rw [hcs, if_neg hcn] at HR2
        have HR3 := Lib.hid HR2
        clear HR2 hbI hcs
        generalize hcc : bl1.count true = cc at *
        have hcd : decide ((cc : Int) + 1 < (n : Int)) = false := by simp; omega
        have HCC := Lib.hid hcc
        clear hcc
        have q := ((HB1.out.set_ (2 + I) (.bool true)).set_ 1 (ival ((cc : Int) + 1)))
        rw [alCells_setb _ _ _ _ _ _ _ HI.out, alCells_set1] at q
        have HQ := Lib.hid q
        clear q
        go_wp2_with fail
        go_quiet (fail)
        go_wp2_with fail
        go_must (refine (open_any g n _ (bl1.set I true) ap1 _ _ hls (HQ.out.drewN _)).mono ?_)
        rintro e w3 ⟨rfl, hb3, hg3⟩
        have e98 := (hb3.cell 98).trans (alCells_get n _ _ _ _ (by simp)).2.2.1
        have e99 := (hb3.cell 99).trans (alCells_get n _ _ _ _ (by simp)).2.2.2
        have g98 := hb3.frozen 98
        have g99 := hb3.frozen 99
        have HB3 := Lib.hid hb3
        have HG3 := Lib.hid hg3
        clear hb3 hg3
        go_wp2_with fail
        go_ret
        refine al_end_yes ?_ HA1.out HG1.out ((only_drewN (only_set2 g _ _ _ _ _) _).trans (HG3.out.trans (only_set2 g _ _ _ _ _))) HAP.out HR3.out
        have q := (HB3.out.set_ 99 (.pointer ap1)).set_ 98 (.pointer none)
        rw [alCells_set99 _ _ _ _ _ _ (by simp), alCells_set98 _ _ _ _ _ _ (by simp)] at q
        exact q
end Go.Proofs.Ytcikjghinjdmmaa
