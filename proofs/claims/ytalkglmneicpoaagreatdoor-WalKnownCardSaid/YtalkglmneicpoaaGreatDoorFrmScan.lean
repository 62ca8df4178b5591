/-
  Scan: the frames with which bytes begin.
-/
import Derived.Test.YtalkglmneicpoaaGreatDoorFrmList
namespace Go.Proofs.YtalkglmneicpoaaGreatDoor
set_option linter.unusedVariables false
set_option linter.unusedSimpArgs false
open Go.RowKit
/-- What of the scan is done at a place. -/
structure ScanAt (L : List UInt8) (at_ : Nat) (F : List Fr) : Prop where
  le : at_ ≤ L.length
  eq : scan L = (F ++ (scan (L.drop at_)).1, at_ + (scan (L.drop at_)).2)
  cnt : F.length ≤ at_
theorem ScanAt.zero (L : List UInt8) : ScanAt L 0 [] := ⟨Nat.zero_le _, by simp, Nat.le_refl _⟩
theorem ScanAt.more {L : List UInt8} {at_ : Nat} {F : List Fr} (h : ScanAt L at_ F) (hE : getE (L.drop at_) = 0) : ScanAt L (at_ + getN (L.drop at_)) (F ++ [getF (L.drop at_)]) := by
  obtain ⟨h1, h2⟩ := getN_pos _ hE
  rw [List.length_drop] at h2
  have h3 := h.le
  have h4 := h.cnt
  refine ⟨by omega, ?_, by simp; omega⟩
  rw [h.eq, scan_ok _ hE, List.drop_drop]
  simp
  omega
theorem ScanAt.last {L : List UInt8} {at_ : Nat} {F : List Fr} (h : ScanAt L at_ F) (hE : getE (L.drop at_) ≠ 0) : scan L = (F, at_) := by
  rw [h.eq, scan_no _ hE]; simp
theorem is_rep (p : Addr) (E : Nat) (v : Value) (hv : ErrRep p E v) (hE : E ≠ 0) (w : World) : Calls Tryz.prog 51 #[v, sentV p] w fun e w' => (∃ b, e = .returned (.bool b)) ∧ Below w.heap.size w w' := by
  rcases hv with ⟨h, _⟩ | ⟨_, at_, why, rfl, rfl | rfl⟩
  · exact absurd h hE
  · exact (is_other E at_ p w).mono fun e w' ⟨h1, h2⟩ => ⟨⟨_, h1⟩, h2⟩
  · exact (is_short E at_ p w).mono fun e w' ⟨h1, h2⟩ => ⟨⟨_, h1⟩, h2⟩
def ScanPost (L : List UInt8) (w : World) (e : Ending) (w' : World) : Prop :=
  ∃ v G, e = .returned (.tuple #[v, ival ((scan L).2 : Nat)]) ∧ FrsAt w' w.heap.size v G ∧ G.map (·.1) = (scan L).1 ∧ Below w.heap.size w w'
set_option maxRecDepth 100000 in
set_option maxHeartbeats 8000000 in
theorem scan_any (A : Option Addr) (n c B : Nat) (L : List UInt8) (p : Addr) (w : World) (hG : Glob p w) (hr : Reads w B 1 A n (L.map bval)) (hB : B ≤ w.heap.size) (hn : n ≤ c) (hc : c ≤ maxLen) (hm : n ≤ 1099511627776) :
    Calls Tryz.prog 29 #[.slice A n c] w (ScanPost L w) := by
  have hlt := hG.lt
  have HLn := Lib.hid hr.bytes_len
  have RD : Hid (∀ W, Below w.heap.size w W → Glob p W ∧ Reads W B 1 A n (L.map bval)) := fun W hW => ⟨hG.below hW hlt, hr.below (hW.mono hB)⟩
  clear hr hG
  go_enter Tryz.func29, Tryz.ntmps29
  go_wp2_with fail
  go_loopw [4, 5] (fun v i wr => ∃ (k : Nat) (G : List FrV), i = .int .i64 k ∧ ScanAt L k (G.map (·.1)) ∧ FrsAt wr w.heap.size v G ∧ Below w.heap.size w wr) (fun _ i _ => n - (intOf i).toNat)
  case atStart => exact ⟨0, [], rfl, ScanAt.zero L, FrsAt.nil _ _, Below.refl _ _⟩
  case round =>
    obtain ⟨k, G, rfl, hsc, hfr, hbel⟩ := hrel
    have hkn : k ≤ n := by have := hsc.le; have := HLn.out; omega
    have HSC := Lib.hid hsc
    have HFR := Lib.hid hfr
    have HBE := Lib.hid hbel
    obtain ⟨g1, r1⟩ := RD.out _ hbel
    have HG1 := Lib.hid g1
    have hsl : ∀ W, (Instr.slice 22 (.slice A n c) (some (.int .i64 (k : Int))) none none).run Tryz.prog W = .ok (.slice (cutA A c k 1) (n - k) (c - k)) W := fun W => run_cut_l Tryz.el22 A n c hkn W
    have C1 := Lib.hid (read_any (cutA A c k 1) (n - k) (c - k) B (L.drop k) p wr g1 (by have h1 := r1.cutA (k := k) (cap := c) hkn hn; rw [Nat.mul_one, ← List.map_drop] at h1; exact h1) (Nat.le_trans hB hbel.size) (by omega) (by omega))
    clear hsc hfr hbel g1 r1
    generalize hLk : L.drop k = Lk at *
    have HLK := Lib.hid hLk
    clear hLk
    go_wp2_with fail
    go_must (refine C1.out.mono ?_)
    rintro e w2 ⟨v, errv, rfl, hown, hb2, hrep⟩
    obtain ⟨A4, c4, rfl, _, _, hv4⟩ := own_slice hown
    obtain ⟨w3, hw3⟩ : ∃ w3, w3 = w2.alloc (.cells #[ival (getF Lk).k, .slice A4 (getF Lk).b.length c4] 25) := ⟨_, rfl⟩
    have hb3 : Below w2.heap.size w2 w3 := by rw [hw3]; exact (Below.refl _ _).alloc (Nat.le_refl _) _
    have HK3 : Hid (Blk w3 w2.heap.size 25 #[ival (getF Lk).k, .slice A4 (getF Lk).b.length c4]) := by show Blk _ _ _ _; rw [hw3]; exact Blk.new _ _ _
    have hb03 := hb2.trans (hb3.mono hb2.size)
    have HB3 := Lib.hid (HBE.out.trans (hb03.mono HBE.out.size))
    have HFR3 := Lib.hid (HFR.out.below hb03)
    have HO3 := Lib.hid (own_below hown hb3)
    have HG3 := Lib.hid (HG1.out.below hb03 HG1.out.lt)
    have HG2 := HG1.out.below hb2 HG1.out.lt
    have k0 : ∀ O, (w2.alloc O).cell? ⟨0, 0, none⟩ = some (sentV p) := fun O => (HG2.below ((Below.refl w2.heap.size w2).alloc (Nat.le_refl _) O) HG2.lt).short
    clear HG2
    have HSZ : Hid (w.heap.size ≤ wr.heap.size ∧ wr.heap.size ≤ w2.heap.size) := ⟨HBE.out.size, hb2.size⟩
    have HNEW : Hid (∀ y ∈ G, apartV y ((⟨(getF Lk).k, (getF Lk).b⟩ : Fr), Value.slice A4 (getF Lk).b.length c4)) := fun y hy => by
      have h1 := HFR.out.body y hy
      show y.2.ownBlock = none ∨ y.2.ownBlock ≠ (Value.slice A4 (getF Lk).b.length c4).ownBlock
      cases hyb : y.2.ownBlock with
      | none => exact .inl rfl
      | some g =>
        refine .inr fun h => ?_
        have h2 := (h1.lt g hyb).2
        have h3 := (hown.lt g h.symm).1
        omega
    clear hown hb2 hb3 hb03 C1 HFR HBE HG1
    generalize hfe : getF Lk = fe at *
    have HFE := Lib.hid hfe
    clear hfe
    rcases fe with ⟨fk, fb⟩
    rcases hrep with ⟨hE, rfl⟩ | ⟨hE, at_, why, rfl, hwhy⟩
    · have HE := Lib.hid hE
      clear hE
      have hN1 := getN_pos Lk HE.out
      have hl2 : Lk.length = n - k := by rw [← HLK.out, List.length_drop, HLn.out]
      have hN9 := hN1.1
      have hN2 : getN Lk ≤ n - k := by omega
      clear hl2
      generalize hNk : getN Lk = Nk at *
      have HNK := Lib.hid hNk
      clear hNk hN1
      have hwrap : IntKind.i64.wrap ((k : Int) + (Nk : Int)) = (k : Int) + (Nk : Int) := IntWalk.i64_in _ (by omega)
      go_wp2_with fail
      rw [← hw3]
      clear hw3
      go_must (refine (is_nil p w3).mono ?_)
      rintro e w3' ⟨rfl, hw3'⟩
      have hw3s := hw3'.symm
      clear hw3'
      subst hw3s
      have HY : Hid (FrsAt w3 w.heap.size u4 G) := HFR3.out
      have hby : (G.length + 1) * 32 ≤ 140737488355328 := by have := HSC.out.cnt; rw [List.length_map] at this; omega
      have HBY := Lib.hid hby
      have x0 : w3.cell? ⟨w2.heap.size, 0, none⟩ = some (ival fk) := HK3.out.cell 0
      have x1 : w3.cell? ⟨w2.heap.size, 1, none⟩ = some (.slice A4 fb.length c4) := HK3.out.cell 1
      clear k0 hby
      go_wp2_with
        (at_builtin
         go_must (refine wpList_push w3 elFrame (.tmp 26) (.tmp 28) rfl rfl HFR3.out.own rfl [ival fk, .slice A4 fb.length c4] rfl rfl rfl rfl HBY.out HB3.out.size ?_)
         intro v5 w5 hown5 hg5 hv5 hb5 hs5)
      have hox := own_base HO3.out (base' := w.heap.size) (fun g hg => by have := (HO3.out.lt g hg).1; have := HSZ.out; omega)
      have HF5 := Lib.hid (HFR3.out.push (x := (⟨fk, fb⟩, .slice A4 fb.length c4)) hox HNEW.out hown5 hg5)
      have HB5 := Lib.hid (HB3.out.trans hb5)
      have HSC5 : Hid (ScanAt L (k + Nk) ((G ++ [((⟨fk, fb⟩ : Fr), Value.slice A4 fb.length c4)]).map (·.1))) := by
        have h1 := HSC.out.more (by rw [HLK.out]; exact HE.out)
        rw [HLK.out, HNK.out, HFE.out] at h1
        rw [List.map_append]
        exact h1
      clear hown5 hg5 hv5 hb5 hs5 hox x0 x1 HY HBY HFR3 HK3 HO3 HG3
      go_wp2_with fail
      go_roundw
      case rel => exact ⟨k + Nk, _, by go_num, HSC5.out, HF5.out, HB5.out⟩
      case measure => simp [intOf]; omega
    · have HSL : Hid (scan L = (G.map (·.1), k)) := HSC.out.last (by rw [HLK.out]; exact hE)
      have C2 := Lib.hid (is_rep p (getE Lk) (wrongV (getE Lk) at_ why) (.inr ⟨hE, at_, why, rfl, hwhy⟩) hE w3)
      generalize getE Lk = E at *
      go_wp2_with fail
      rw [← hw3]
      clear hw3
      go_must (refine C2.out.mono ?_)
      rintro e w4 ⟨⟨b, rfl⟩, hb4⟩
      have HF4 := Lib.hid (HFR3.out.below hb4)
      have HB4 := Lib.hid (HB3.out.trans (hb4.mono HB3.out.size))
      clear k0 C2 hb4 hE hwhy
      cases b
      all_goals
        go_wp2_with fail
        go_ret2
        exact ⟨_, G, by rw [HSL.out]; rfl, HF4.out, by rw [HSL.out], HB4.out⟩
end Go.Proofs.YtalkglmneicpoaaGreatDoor
