/-
  Logs, plainly: what is laid, what a crash leaves, what is found. No program in sight.
-/
import Derived.Test.YtalkglmneicpoaaGreatDoorWalLaid
namespace Go.Proofs.YtalkglmneicpoaaGreatDoor
set_option linter.unusedVariables false
set_option linter.unusedSimpArgs false
open Go.RowKit
/-- Frames that may be, of at most 2^10 bytes. -/
def Okk (f : Fr) : Prop := 1 ≤ f.k ∧ f.k ≤ 255 ∧ f.b.length ≤ 1024
theorem Okk.ok {f : Fr} (h : Okk f) : Ok f := ⟨h.1, h.2.1, by have := h.2.2; omega⟩
theorem Okk.putE {f : Fr} (h : Okk f) : putE f = 0 := by
  obtain ⟨h1, h2, h3⟩ := h
  unfold Go.Proofs.YtalkglmneicpoaaGreatDoor.putE
  rw [if_neg (by omega), if_neg (by omega)]
theorem upd_self {α : Type} (a : Bool) (v : α) (x : Bool → α) : updF a v x a = v := by simp [updF]
theorem encs_app (F G : List Fr) : encs (F ++ G) = encs F ++ encs G := by simp [encs]
theorem encs_one (f : Fr) : encs [f] = enc f := by simp [encs]
theorem appSt_at {N : Nat} {st : DSt} {a : Bool} {f : Fr} (h : putE f = 0) (h0 : appN N st a f = 0) : (appSt N st a f) a = ((st a).1 ++ enc f, (st a).2) := by
  unfold appN at h0
  rw [if_pos h] at h0
  have hf : fits N (st a).1 (enc f) = true := by
    by_cases hf : fits N (st a).1 (enc f) = true
    · exact hf
    · rw [if_neg hf] at h0; cases h0
  unfold appSt
  rw [if_pos h]
  unfold DSt.write
  rw [if_pos hf, upd_self]
theorem appSt_other (N : Nat) (st : DSt) (a : Bool) (f : Fr) : (appSt N st a f) (!a) = st (!a) := by
  unfold appSt
  split
  · unfold DSt.write
    split
    · cases a <;> simp [updF]
    · rfl
  · rfl
theorem laidF_at (N : Nat) (a : Bool) (F : List Fr) : ∀ st, (∀ f ∈ F, Okk f) → ((laidF N a F st).2) a = ((st a).1 ++ encs (F.take (laidF N a F st).1), (st a).2) := by
  induction F with
  | nil => intro st _; simp [laidF, encs]
  | cons f F ih =>
    intro st hF
    simp only [laidF]
    by_cases h0 : appN N st a f = 0
    · rw [if_pos h0]
      have h1 := ih (appSt N st a f) (fun g hg => hF g (List.mem_cons_of_mem _ hg))
      rw [appSt_at (hF f (List.mem_cons_self ..)).putE h0] at h1
      simp only [List.take_succ_cons]
      rw [h1]
      have : encs (f :: F.take (laidF N a F (appSt N st a f)).1) = enc f ++ encs (F.take (laidF N a F (appSt N st a f)).1) := by simp [encs]
      rw [this, List.append_assoc]
    · rw [if_neg h0]
      simp [encs]
theorem laidF_other (N : Nat) (a : Bool) (F : List Fr) : ∀ st, ((laidF N a F st).2) (!a) = st (!a) := by
  induction F with
  | nil => intro st; rfl
  | cons f F ih =>
    intro st
    simp only [laidF]
    split
    · show (laidF N a F (appSt N st a f)).2 (!a) = _
      rw [ih, appSt_other]
    · rfl
theorem sync_at (st : DSt) (a : Bool) : (st.sync a) a = ((st a).1, (st a).1.length) := by unfold DSt.sync; rw [upd_self]
theorem sync_other (st : DSt) (a : Bool) : (st.sync a) (!a) = st (!a) := by unfold DSt.sync; cases a <;> simp [updF]
theorem cut_at (st : DSt) (a : Bool) (n : Int) : (st.cut a n) a = (cutL n (st a).1, (cutL n (st a).1).length) := by unfold DSt.cut; rw [upd_self]
theorem cut_other (st : DSt) (a : Bool) (n : Int) : (st.cut a n) (!a) = st (!a) := by unfold DSt.cut; cases a <;> simp [updF]
theorem crash_at (st : DSt) (a : Bool) (keep : Int) : (st.crash keep) a = (cutL (keepN keep (st a)) (st a).1, (cutL (keepN keep (st a)) (st a).1).length) := by
  cases a <;> simp [DSt.crash, DSt.crash1, DSt.cut, updF]
theorem scan_nil : scan [] = ([], 0) := scan_no [] get_nil
theorem scan_encs (F : List Fr) (hF : ∀ f ∈ F, Ok f) : scan (encs F) = (F, (encs F).length) := by
  have := scan_join F hF []
  rw [List.append_nil, scan_nil] at this
  simpa using this
theorem openSt_at (st : DSt) (a : Bool) : (openSt st a) a = (cutL ((scan (st a).1).2 : Nat) (st a).1, (cutL ((scan (st a).1).2 : Nat) (st a).1).length) := by unfold openSt; rw [cut_at]
theorem openSt_other (st : DSt) (a : Bool) : (openSt st a) (!a) = st (!a) := by unfold openSt; rw [cut_other]
theorem cutL_nat (n : Nat) (L : List UInt8) : cutL (n : Int) L = L.take n := by
  unfold cutL cutK
  by_cases h : n ≤ L.length
  · congr 1; omega
  · rw [List.take_of_length_le (by omega), List.take_of_length_le (by omega)]
/-- A log whose bytes are frames: all are found, nothing is cut off. -/
theorem open_encs {st : DSt} {a : Bool} {F : List Fr} (hF : ∀ f ∈ F, Ok f) (h : (st a).1 = encs F) : openFr st a = F ∧ (openSt st a) a = (encs F, (encs F).length) := by
  have hs := scan_encs F hF
  refine ⟨by unfold openFr; rw [h, hs], ?_⟩
  rw [openSt_at, h, hs, cutL_nat, List.take_length]
/-- Behind a crash: the first frames, and those of the other ones that are whole. -/
theorem crash_found {st : DSt} {a : Bool} {P B : List Fr} {keep : Int} {t : Nat} (hP : ∀ f ∈ P, Ok f) (hB : ∀ f ∈ B, Ok f) (h : st a = (encs P ++ encs B, (encs P).length)) (ht : t ≤ B.length)
    (h1 : 0 < t → ((encs (B.take t)).length : Int) ≤ keep) (h2 : t < B.length → keep < ((encs (B.take (t + 1))).length : Int)) :
    openFr (st.crash keep) a = P ++ B.take t ∧ (openSt (st.crash keep) a) a = (encs (P ++ B.take t), (encs (P ++ B.take t)).length) := by
  obtain ⟨q, hq⟩ : ∃ q : Nat, (q : Int) = max 0 (min keep ((encs B).length : Int)) := ⟨(max 0 (min keep ((encs B).length : Int))).toNat, by omega⟩
  have hqB : q ≤ (encs B).length := by omega
  have hk : keepN keep (st a) = (((encs P).length + q : Nat) : Int) := by
    rw [h]
    unfold keepN
    simp only [List.length_append]
    omega
  have hc : ((st.crash keep) a).1 = encs P ++ (encs B).take q := by
    rw [crash_at, hk, h]
    simp only
    rw [cutL_nat, List.take_length_add_append]
  have hle : ∀ m, m ≤ B.length → (encs (B.take m)).length ≤ (encs B).length := fun m _ => by
    have : encs B = encs (B.take m) ++ encs (B.drop m) := by rw [← encs_app, List.take_append_drop]
    rw [this, List.length_append]; omega
  have h9 : t < B.length → 0 < (encs (B.take (t + 1))).length := fun hlt => by
    rw [List.take_succ_eq_append_getElem hlt, encs_app, encs_one, List.length_append, enc_len]; omega
  have hs : scan ((encs B).take q) = (B.take t, (encs (B.take t)).length) := scan_torn B hB t q ht (by
      by_cases h0 : 0 < t
      · have := h1 h0; have := hle t ht; omega
      · have : t = 0 := by omega
        subst this
        simp [encs]) (fun hlt => by have := h2 hlt; have := h9 hlt; omega) hqB
  have hj := scan_join P hP ((encs B).take q)
  rw [hs] at hj
  refine ⟨by unfold openFr; rw [hc, hj], ?_⟩
  rw [openSt_at, hc, hj]
  simp only
  rw [cutL_nat]
  have e : (encs P ++ (encs B).take q).take ((encs P).length + (encs (B.take t)).length) = encs (P ++ B.take t) := by
    rw [List.take_length_add_append, encs_app]
    congr 1
    have hB2 : encs B = encs (B.take t) ++ encs (B.drop t) := by rw [← encs_app, List.take_append_drop]
    have hqt : (encs (B.take t)).length ≤ q := by
      by_cases h0 : 0 < t
      · have := h1 h0; have := hle t ht; omega
      · have : t = 0 := by omega
        subst this
        simp [encs]
    rw [List.take_take, Nat.min_eq_left hqt, hB2, List.take_left]
  rw [e]
end Go.Proofs.YtalkglmneicpoaaGreatDoor
