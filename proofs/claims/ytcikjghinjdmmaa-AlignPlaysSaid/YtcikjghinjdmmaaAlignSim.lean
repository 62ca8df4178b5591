/-
  The document's answer for Align, in plain lists, and that both go alike.
-/
import Derived.Test.YtcikjghinjdmmaaAlignAll
namespace Go.Proofs.Ytcikjghinjdmmaa
set_option linter.unusedVariables false
set_option linter.unusedSimpArgs false
open Go.RowKit

structure RefSt where
  L : List Int
  wt : Bool
  dn : Bool
  no : Int
  cp : Int
def refRefuses (n : Nat) (m : RefSt) (i no : Int) : Bool := decide (i < 0) || decide ((n : Int) ≤ i) || (m.dn && decide (no ≤ m.cp)) || (m.wt && decide (no < m.no))
def refFresh (m : RefSt) (no : Int) : Bool := !m.wt || decide (m.no < no)
def refL1 (m : RefSt) (no : Int) : List Int := if refFresh m no = true then [] else m.L
def refL (m : RefSt) (i no : Int) : List Int := if i ∈ refL1 m no then refL1 m no else refL1 m no ++ [i]
def refBar (n : Nat) (m : RefSt) (i no : Int) : RefSt × Bool :=
  if refRefuses n m i no = true then (m, false)
  else if (refL m i no).length < n then (⟨refL m i no, true, m.dn, no, m.cp⟩, false)
  else (⟨[], false, true, no, no⟩, true)

/-- Both are alike. -/
def Sim (n : Nat) (s : AlSt) (m : RefSt) : Prop :=
  s.1.length = 96 ∧ (∀ k : Nat, s.1[k]? = some true ↔ k < n ∧ (k : Int) ∈ m.L) ∧ s.1.count true = m.L.length ∧ s.2.1 = (if m.wt = true then some m.no else none) ∧ s.2.2 = (if m.dn = true then some m.cp else none) ∧ ∀ z ∈ m.L, 0 ≤ z ∧ z < (n : Int)
theorem sim_new (n : Nat) : Sim n alNew ⟨[], false, false, 0, 0⟩ :=
  ⟨by simp [alNew, noneL], fun k => ⟨fun h => absurd h (none_true k), fun h => by simp at h⟩, noneL_count, rfl, rfl, fun z h => by simp at h⟩
theorem sim_refuses {n : Nat} {s : AlSt} {m : RefSt} (h : Sim n s m) (i no : Int) : alRefuses n s i no = refRefuses n m i no := by
  obtain ⟨bl, aw, la⟩ := s
  obtain ⟨L, wt, dn, mo, cp⟩ := m
  obtain ⟨_, _, _, h1, h2, _⟩ := h
  simp only at h1 h2
  subst h1 h2
  cases wt <;> cases dn <;> simp [alRefuses, refRefuses]
theorem sim_fresh {n : Nat} {s : AlSt} {m : RefSt} (h : Sim n s m) (no : Int) : alFresh s no = refFresh m no := by
  obtain ⟨bl, aw, la⟩ := s
  obtain ⟨L, wt, dn, mo, cp⟩ := m
  obtain ⟨_, _, _, h1, h2, _⟩ := h
  simp only at h1 h2
  subst h1 h2
  cases wt <;> simp [alFresh, refFresh]
theorem sim_blocked {n : Nat} {s : AlSt} {m : RefSt} (h : Sim n s m) (i : Int) : alBlocked s i = decide (i ∈ m.L) := by
  obtain ⟨_, h1, _, _, _, h2⟩ := h
  unfold alBlocked
  by_cases hi : i ∈ m.L
  · obtain ⟨h3, h4⟩ := h2 i hi
    have h5 := (h1 i.toNat).2 ⟨by omega, by rw [Int.toNat_of_nonneg h3]; exact hi⟩
    simp [h5, h3, hi]
  · rw [decide_eq_false hi]
    by_cases h3 : 0 ≤ i
    · have h4 : s.1[i.toNat]? ≠ some true := fun h => hi (by have := ((h1 _).1 h).2; rwa [Int.toNat_of_nonneg h3] at this)
      cases h5 : s.1[i.toNat]? with
      | none => simp
      | some b => cases b with
        | true => exact absurd h5 h4
        | false => simp
    · simp [h3]
theorem sim_bar {n : Nat} {s : AlSt} {m : RefSt} (h : Sim n s m) (hn : n ≤ 96) (i no : Int) : (alBar n s i no).2 = (refBar n m i no).2 ∧ Sim n (alBar n s i no).1 (refBar n m i no).1 := by
  unfold alBar refBar
  rw [sim_refuses h]
  by_cases hr : refRefuses n m i no = true
  · rw [if_pos hr, if_pos hr]
    exact ⟨rfl, h⟩
  rw [if_neg hr, if_neg hr]
  have hi : 0 ≤ i ∧ i < (n : Int) := by
    have hr' : refRefuses n m i no = false := by simpa using hr
    unfold refRefuses at hr'
    rw [Bool.or_eq_false_iff, Bool.or_eq_false_iff, Bool.or_eq_false_iff] at hr'
    obtain ⟨⟨⟨r1, r2⟩, _⟩, _⟩ := hr'
    have r1' : ¬ i < 0 := by simpa using r1
    have r2' : ¬ (n : Int) ≤ i := by simpa using r2
    omega
  obtain ⟨I, rfl⟩ := Int.eq_ofNat_of_zero_le hi.1
  have hI : I < n := by omega
  have key : (alBl s (I : Int) no).length = 96 ∧ (∀ k : Nat, (alBl s (I : Int) no)[k]? = some true ↔ k < n ∧ (k : Int) ∈ refL m (I : Int) no) ∧ (alBl s (I : Int) no).count true = (refL m (I : Int) no).length ∧ ∀ z ∈ refL m (I : Int) no, 0 ≤ z ∧ z < (n : Int) := by
    have h0 : ∃ bl0, bl0 = (if alFresh s no = true then List.replicate 96 false else s.1) ∧ bl0.length = 96 ∧ (∀ k : Nat, bl0[k]? = some true ↔ k < n ∧ (k : Int) ∈ refL1 m no) ∧ bl0.count true = (refL1 m no).length ∧ ∀ z ∈ refL1 m no, 0 ≤ z ∧ z < (n : Int) := by
      refine ⟨_, rfl, ?_⟩
      unfold refL1
      rw [sim_fresh h]
      by_cases hf : refFresh m no = true
      · rw [if_pos hf, if_pos hf]
        exact ⟨by simp, fun k => ⟨fun h => absurd h (none_true k), fun h => by simp at h⟩, noneL_count, fun z h => by simp at h⟩
      · rw [if_neg hf, if_neg hf]
        exact ⟨h.1, h.2.1, h.2.2.1, h.2.2.2.2.2⟩
    obtain ⟨bl0, hb0, hl, hk, hc, hz⟩ := h0
    have hbl : alBl s (I : Int) no = bl0.set I true := by unfold alBl; rw [← hb0]; rfl
    rw [hbl]
    unfold refL
    have hIl : I < bl0.length := by omega
    by_cases hm : (I : Int) ∈ refL1 m no
    · have h1 := (hk I).2 ⟨hI, hm⟩
      rw [List.getElem?_eq_getElem hIl] at h1
      injection h1 with h1
      rw [set_same bl0 I hIl h1, if_pos hm]
      exact ⟨hl, hk, hc, hz⟩
    · have h1 : bl0[I] = false := by
        cases h2 : bl0[I] with
        | false => rfl
        | true =>
          exact absurd ((hk I).1 (by rw [List.getElem?_eq_getElem hIl, h2])).2 hm
      rw [if_neg hm]
      refine ⟨by simp [hl], fun k => ?_, by rw [count_set bl0 I hIl h1, hc]; simp, fun z hz' => ?_⟩
      · rw [List.getElem?_set]
        by_cases hIk : I = k
        · subst hIk
          simp [hIl, hI]
        · rw [if_neg hIk, hk k]
          simp only [List.mem_append, List.mem_singleton]
          constructor
          · rintro ⟨a, b⟩; exact ⟨a, .inl b⟩
          · rintro ⟨a, b | b⟩
            · exact ⟨a, b⟩
            · omega
      · simp only [List.mem_append, List.mem_singleton] at hz'
        rcases hz' with h | h
        · exact hz z h
        · omega
  obtain ⟨k1, k2, k3, k4⟩ := key
  rw [k3]
  by_cases hc : (refL m (I : Int) no).length < n
  · rw [if_pos hc, if_pos hc]
    exact ⟨rfl, k1, k2, k3, rfl, h.2.2.2.2.1, k4⟩
  · rw [if_neg hc, if_neg hc]
    exact ⟨rfl, by simp [noneL], fun k => ⟨fun h => absurd h (none_true k), fun h => by simp at h⟩, noneL_count, rfl, rfl, fun z h => by simp at h⟩
end Go.Proofs.Ytcikjghinjdmmaa
