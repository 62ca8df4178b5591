/-
  right; a list of frames that reads, cell by cell.
-/
import Derived.Test.YtalkglmneicpoaaGreatDoorWalWorks
namespace Go.Proofs.YtalkglmneicpoaaGreatDoor
set_option linter.unusedVariables false
set_option linter.unusedSimpArgs false
open Go.RowKit
/-- A list of frames that reads, its cells under one name. -/
structure FrsR (w : World) (B : Nat) (A : Option Addr) (G : List FrV) : Prop where
  rd : Reads w B 2 A G.length (cellsG G)
  body : ∀ x ∈ G, ∃ s : Sl, x.2 = s.val ∧ s.m ≤ s.c ∧ s.c ≤ maxLen ∧ Reads w B 1 s.A s.m (x.1.b.map bval)
theorem FrsR.below {w w' : World} {B : Nat} {A : Option Addr} {G : List FrV} (h : FrsR w B A G) (hb : Below B w w') : FrsR w' B A G :=
  ⟨h.rd.below hb, fun x hx => by obtain ⟨s, h1, h2, h3, h4⟩ := h.body x hx; exact ⟨s, h1, h2, h3, h4.below hb⟩⟩
theorem FrsR.more {w : World} {B B' : Nat} {A : Option Addr} {G : List FrV} (h : FrsR w B A G) (hB : B ≤ B') : FrsR w B' A G :=
  ⟨h.rd.more hB, fun x hx => by obtain ⟨s, h1, h2, h3, h4⟩ := h.body x hx; exact ⟨s, h1, h2, h3, h4.more hB⟩⟩
theorem cellsG_one (G : List FrV) (h : ∀ x ∈ G, ∃ s : Sl, x.2 = s.val) : ∀ u ∈ cellsG G, u.oneCell' = true := fun u hu => by
  obtain ⟨x, hx, hux⟩ := List.mem_flatMap.1 hu
  obtain ⟨s, hs⟩ := h x hx
  simp only [frC, List.mem_cons, List.mem_nil_iff, or_false] at hux
  rcases hux with rfl | rfl
  · rfl
  · rw [hs]; rfl
theorem FrsR.one {w : World} {B : Nat} {A : Option Addr} {G : List FrV} (h : FrsR w B A G) : ∀ u ∈ cellsG G, u.oneCell' = true :=
  cellsG_one G fun x hx => by obtain ⟨s, hs, _⟩ := h.body x hx; exact ⟨s, hs⟩
theorem FrsAt.r {w : World} {base : Nat} {A : Option Addr} {c : Nat} {G : List FrV} (h : FrsAt w base (.slice A G.length c) G) : FrsR w w.heap.size A G :=
  ⟨Reads.of_own h.own, fun x hx => by
    have hb := h.body x hx
    obtain ⟨A1, c1, hv, h1, h2, _⟩ := own_slice hb
    rw [hv] at hb
    exact ⟨⟨A1, x.1.b.length, c1⟩, hv, h1, h2, Reads.of_own hb⟩⟩
theorem FrsR.frd {w : World} {B : Nat} {A : Option Addr} {G : List FrV} (h : FrsR w B A G) : FrsRd w B A (G.map (·.1)) := fun i f hi => by
  rw [List.getElem?_map] at hi
  obtain ⟨x, hx, rfl⟩ := Option.map_eq_some_iff.1 hi
  have hlt : i < G.length := (List.getElem?_eq_some_iff.1 hx).1
  have h0 : 0 < G.length := by omega
  obtain ⟨ad, hA, hB, hc⟩ := h.rd.2 h0
  obtain ⟨s, hv, h1, h2, h3⟩ := h.body x (List.mem_of_getElem? hx)
  refine ⟨ad, hA, hB, hc _ _ (by have := cellsG_at G i 0 (by omega) x hx; simpa [frC] using this), s, ?_, h1, h2, h3⟩
  rw [← hv]
  exact hc _ _ (by have := cellsG_at G i 1 (by omega) x hx; simpa [frC] using this)
def okF (f : Fr) : Bool := decide (1 ≤ f.k) && decide (f.k ≤ 255) && decide (f.b.length ≤ 1024)
def rightB (F : List Fr) : Bool := F.all okF && decide (F.length ≤ 60)
theorem right_facts {F : List Fr} (h : rightB F = true) : F.length ≤ 60 ∧ ∀ f ∈ F, 1 ≤ f.k ∧ f.k ≤ 255 ∧ f.b.length ≤ 1024 := by
  simp only [rightB, Bool.and_eq_true, decide_eq_true_eq, List.all_eq_true, okF] at h
  exact ⟨h.2, fun f hf => ⟨(h.1 f hf).1.1, (h.1 f hf).1.2, (h.1 f hf).2⟩⟩
set_option maxRecDepth 100000 in
set_option maxHeartbeats 2000000 in
theorem right_any (A : Option Addr) (n c B : Nat) (F : List Fr) (w : World) (hx : FrsRd w B A F) (hl : F.length = n) (hm : n ≤ maxLen) :
    Calls Tryz.prog 9 #[.slice A n c] w fun e w' => e = .returned (.bool (rightB F)) ∧ w = w' := by
  unfold maxLen at hm
  have HL := Lib.hid hl
  have HX := Lib.hid hx
  clear hl hx
  go_enter Tryz.func9, Tryz.ntmps9
  go_wp2
  go_loop [3] (fun i => ∃ k : Nat, k ≤ n ∧ i = .int .i64 k ∧ (F.take k).all okF = true) (fun i => n - (intOf i).toNat)
  case atStart => exact ⟨0, by omega, rfl, rfl⟩
  case round =>
    obtain ⟨k, hk, rfl, hall⟩ := hrel
    have HA := Lib.hid hall
    clear hall
    by_cases hlt : k < n
    · have hk1 : k < F.length := by have := HL.out; omega
      obtain ⟨ad, rfl, y0, x, y1, _, _, hxr⟩ := HX.out.at_ hk1
      have hbl := hxr.bytes_len
      have hltI : ((k : Int) < (n : Int)) := by omega
      have HE : Hid (okF F[k] = true → (F.take (k + 1)).all okF = true) := fun h => by rw [List.take_succ_eq_append_getElem hk1, List.all_append, HA.out]; simp [h]
      have HNE : Hid (okF F[k] = false → rightB F = false) := fun h => by
        have : F.all okF = false := by
          rw [Bool.eq_false_iff]
          intro h2
          rw [List.all_eq_true.1 h2 F[k] (List.getElem_mem hk1)] at h
          cases h
        simp [rightB, this]
      clear hxr
      generalize F[k] = f at *
      rcases f with ⟨fk, fb⟩
      rcases x with ⟨xA, xm, xc⟩
      simp only at hbl y0 y1
      subst hbl
      by_cases h1 : fk < 1
      · have HQ : Hid (rightB F = false) := HNE.out (by simp [okF]; omega)
        go_wp2
        go_ret
        exact ⟨ret_bool HQ.out.symm, rfl⟩
      by_cases h2 : 255 < fk
      · have HQ : Hid (rightB F = false) := HNE.out (by simp [okF]; omega)
        go_wp2
        go_ret
        exact ⟨ret_bool HQ.out.symm, rfl⟩
      by_cases h3 : 1024 < fb.length
      · have HQ : Hid (rightB F = false) := HNE.out (by simp [okF]; omega)
        go_wp2
        go_ret
        exact ⟨ret_bool HQ.out.symm, rfl⟩
      have HQ : Hid ((F.take (k + 1)).all okF = true) := HE.out (by simp [okF]; omega)
      go_wp2
      go_round
      case rel => exact ⟨k + 1, by omega, by go_num, HQ.out⟩
      case measure => simp [intOf]; omega
    · have HQ : Hid (rightB F = decide ((n : Int) ≤ 60)) := by
        show _ = _
        have := HL.out
        have h := HA.out
        rw [List.take_of_length_le (by omega)] at h
        unfold rightB
        rw [h, this, Bool.true_and]
        exact decide_eq_decide.2 (by omega)
      go_wp2
      go_ret
      exact ⟨ret_bool HQ.out.symm, rfl⟩
end Go.Proofs.YtalkglmneicpoaaGreatDoor
