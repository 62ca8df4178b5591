/-
  Frames as plain lists of bytes: laid, read, one behind the other. No program in sight.
-/
import Derived.Test.YtalkglmneicpoaaGreatDoorCrcPlain
namespace Go.Proofs.YtalkglmneicpoaaGreatDoor
set_option linter.unusedVariables false
set_option linter.unusedSimpArgs false
structure Fr where
  k : Int
  b : List UInt8
  deriving DecidableEq
def le4 (n : Nat) : List UInt8 := [UInt8.ofNat n, UInt8.ofNat (n / 256), UInt8.ofNat (n / 65536), UInt8.ofNat (n / 16777216)]
def be4 : List UInt8 → Nat
  | a :: b :: c :: d :: _ => a.toNat + 256 * b.toNat + 65536 * c.toNat + 16777216 * d.toNat
  | _ => 0
def frSum (k : UInt8) (b : List UInt8) : Nat := crcMore 0 (k :: b)
def kindB (k : Int) : UInt8 := UInt8.ofNat k.toNat
def enc (f : Fr) : List UInt8 := le4 f.b.length ++ kindB f.k :: (le4 (frSum (kindB f.k) f.b) ++ f.b)
/-- What Put answers: 2 no kind, 5 too long. -/
def putE (f : Fr) : Nat := if f.k < 1 ∨ 255 < f.k then 2 else if 262144 < f.b.length then 5 else 0
/-- What Get answers of bytes: the error (0 none). -/
def getE (L : List UInt8) : Nat :=
  if L.length < 9 then 4
  else if 262144 < be4 L then 5
  else if L.getD 4 0 = 0 then 2
  else if L.length < 9 + be4 L then 4
  else if frSum (L.getD 4 0) ((L.drop 9).take (be4 L)) ≠ be4 (L.drop 5) then 6
  else 0
def getF (L : List UInt8) : Fr := if getE L = 0 then ⟨(L.getD 4 0).toNat, (L.drop 9).take (be4 L)⟩ else ⟨0, []⟩
def getN (L : List UInt8) : Nat := if getE L = 0 then 9 + be4 L else 0
def scanF : Nat → List UInt8 → List Fr × Nat
  | 0, _ => ([], 0)
  | n + 1, L => if getE L = 0 then let r := scanF n (L.drop (getN L)); (getF L :: r.1, getN L + r.2) else ([], 0)
def scan (L : List UInt8) : List Fr × Nat := scanF (L.length + 1) L
def Ok (f : Fr) : Prop := 1 ≤ f.k ∧ f.k ≤ 255 ∧ f.b.length ≤ 262144
def encs (F : List Fr) : List UInt8 := F.flatMap enc

theorem frSum_lt (k : UInt8) (b : List UInt8) : frSum k b < 4294967296 := crcMore_lt _ _
theorem le4_len (n : Nat) : (le4 n).length = 4 := rfl
theorem be4_le4 (n : Nat) (h : n < 4294967296) (L : List UInt8) : be4 (le4 n ++ L) = n := by
  simp only [le4, be4, List.cons_append, UInt8.toNat_ofNat']
  omega
theorem le4_be4 (L : List UInt8) (h : 4 ≤ L.length) : le4 (be4 L) = L.take 4 := by
  rcases L with _ | ⟨a, _ | ⟨b, _ | ⟨c, _ | ⟨d, L⟩⟩⟩⟩ <;> simp at h
  have ha := a.toNat_lt; have hb := b.toNat_lt; have hc := c.toNat_lt; have hd := d.toNat_lt
  simp only [le4, be4, List.take_succ_cons, List.take_zero]
  refine congr (congrArg _ (UInt8.toNat_inj.1 ?_)) (congr (congrArg _ (UInt8.toNat_inj.1 ?_)) (congr (congrArg _ (UInt8.toNat_inj.1 ?_)) (congr (congrArg _ (UInt8.toNat_inj.1 ?_)) rfl))) <;> simp only [UInt8.toNat_ofNat'] <;> omega
theorem be4_lt (L : List UInt8) : be4 L < 4294967296 := by
  unfold be4
  split
  · next a b c d _ =>
    have ha := a.toNat_lt; have hb := b.toNat_lt; have hc := c.toNat_lt; have hd := d.toNat_lt
    omega
  · omega
theorem enc_len (f : Fr) : (enc f).length = 9 + f.b.length := by simp [enc, le4_len]; omega
theorem enc_parts (f : Fr) (x : List UInt8) : (enc f ++ x).take 4 = le4 f.b.length ∧ (enc f ++ x).getD 4 0 = kindB f.k ∧ (enc f ++ x).drop 5 = le4 (frSum (kindB f.k) f.b) ++ (f.b ++ x) ∧ (enc f ++ x).drop 9 = f.b ++ x := by
  simp [enc, le4]
theorem be4_enc (f : Fr) (x : List UInt8) (h : f.b.length < 4294967296) : be4 (enc f ++ x) = f.b.length := by
  unfold enc
  rw [List.append_assoc]
  exact be4_le4 _ h _
theorem be4_take (L : List UInt8) (n : Nat) (h : 4 ≤ n) : be4 (L.take n) = be4 L := by
  rcases L with _ | ⟨a, _ | ⟨b, _ | ⟨c, _ | ⟨d, L⟩⟩⟩⟩
  · simp
  · rw [List.take_of_length_le (by simp; omega)]
  · rw [List.take_of_length_le (by simp; omega)]
  · rw [List.take_of_length_le (by simp; omega)]
  · obtain ⟨m, rfl⟩ : ∃ m, n = m + 1 + 1 + 1 + 1 := ⟨n - 4, by omega⟩
    rfl
theorem kindB_ne (k : Int) (h0 : 1 ≤ k) (h1 : k ≤ 255) : kindB k ≠ 0 ∧ ((kindB k).toNat : Int) = k := by
  have : (kindB k).toNat = k.toNat := by unfold kindB; rw [UInt8.toNat_ofNat']; omega
  refine ⟨fun h => ?_, by rw [this]; omega⟩
  rw [h] at this
  have h2 : (0 : UInt8).toNat = 0 := rfl
  omega
theorem get_enc (f : Fr) (hf : Ok f) (x : List UInt8) : getE (enc f ++ x) = 0 ∧ getF (enc f ++ x) = f ∧ getN (enc f ++ x) = (enc f).length := by
  obtain ⟨h1, h2, h3⟩ := hf
  obtain ⟨_, p2, p3, p4⟩ := enc_parts f x
  have hb := be4_enc f x (by omega)
  obtain ⟨hk, hkk⟩ := kindB_ne f.k h1 h2
  have he : getE (enc f ++ x) = 0 := by
    unfold getE
    rw [hb, p2, p3, p4, be4_le4 _ (frSum_lt _ _), List.take_append_of_le_length (Nat.le_refl _), List.take_length, if_neg (by rw [List.length_append, enc_len]; omega), if_neg (by omega), if_neg hk, if_neg (by rw [List.length_append, enc_len]; omega), if_neg (by simp)]
  refine ⟨he, ?_, ?_⟩
  · unfold getF
    rw [if_pos he, p2, p4, hb, List.take_append_of_le_length (Nat.le_refl _), List.take_length, hkk]
  · unfold getN
    rw [if_pos he, hb, enc_len]
theorem get_cut (f : Fr) (hf : Ok f) (c : Nat) (hc : c < (enc f).length) : getE ((enc f).take c) = 4 := by
  obtain ⟨h1, h2, h3⟩ := hf
  obtain ⟨hk, _⟩ := kindB_ne f.k h1 h2
  have hl : ((enc f).take c).length = c := by rw [List.length_take]; omega
  rw [enc_len] at hc
  unfold getE
  rw [hl]
  by_cases h9 : c < 9
  · rw [if_pos h9]
  · have hb : be4 ((enc f).take c) = f.b.length := by
      rw [be4_take _ _ (by omega)]
      have := be4_enc f [] (by omega)
      rwa [List.append_nil] at this
    have h4 : ((enc f).take c).getD 4 0 = kindB f.k := by
      have := (enc_parts f []).2.1
      rw [List.append_nil] at this
      rw [← this, List.getD_eq_getElem?_getD, List.getD_eq_getElem?_getD, List.getElem?_take, if_pos (by omega)]
    rw [if_neg h9, hb, h4, if_neg (by omega), if_neg hk, if_pos (by omega)]
theorem get_forms (L : List UInt8) (h : getE L = 0) : Ok (getF L) ∧ enc (getF L) = L.take (getN L) ∧ 9 ≤ getN L ∧ getN L ≤ L.length ∧ (getF L).k = (L.getD 4 0).toNat ∧ (getF L).b = (L.drop 9).take (be4 L) ∧ (getF L).b.length = be4 L ∧ frSum (L.getD 4 0) (getF L).b = be4 (L.drop 5) := by
  have hf : getF L = ⟨(L.getD 4 0).toNat, (L.drop 9).take (be4 L)⟩ := by unfold getF; rw [if_pos h]
  have hn : getN L = 9 + be4 L := by unfold getN; rw [if_pos h]
  unfold getE at h
  split at h
  · cases h
  · next h1 =>
    split at h
    · cases h
    · next h2 =>
      split at h
      · cases h
      · next h3 =>
        split at h
        · cases h
        · next h4 =>
          split at h
          · cases h
          · next h5 =>
            have h5' := Decidable.not_not.1 h5
            have hk := (L.getD 4 0).toNat_lt
            have hk0 : (L.getD 4 0).toNat ≠ 0 := fun e => h3 (UInt8.toNat_inj.1 e)
            have hbl : ((L.drop 9).take (be4 L)).length = be4 L := by rw [List.length_take, List.length_drop]; omega
            have hkb : kindB ((L.getD 4 0).toNat : Int) = L.getD 4 0 := by unfold kindB; rw [Int.toNat_natCast]; exact UInt8.toNat_inj.1 (by rw [UInt8.toNat_ofNat']; omega)
            rw [hf, hn]
            refine ⟨⟨by show (1 : Int) ≤ ((L.getD 4 0).toNat : Int); omega, by show ((L.getD 4 0).toNat : Int) ≤ 255; omega, by show _ ≤ _; rw [hbl]; omega⟩, ?_, by omega, by omega, rfl, rfl, hbl, h5'⟩
            simp only [enc]
            rw [hbl, hkb, h5', le4_be4 _ (by omega), le4_be4 _ (by rw [List.length_drop]; omega)]
            have e4 : L.getD 4 0 = L[4]'(by omega) := by rw [List.getD_eq_getElem?_getD, List.getElem?_eq_getElem (by omega)]; rfl
            rw [e4, show 9 + be4 L = 4 + (1 + (4 + be4 L)) by omega, List.take_add, List.take_add (l := L.drop 4), List.take_add (l := (L.drop 4).drop 1), List.drop_drop, List.drop_drop, List.drop_eq_getElem_cons (i := 4) (by omega)]
            rfl
theorem getN_pos (L : List UInt8) (h : getE L = 0) : 9 ≤ getN L ∧ getN L ≤ L.length := ⟨(get_forms L h).2.2.1, (get_forms L h).2.2.2.1⟩
/-- The fuel does not matter. -/
theorem scanF_eq (n : Nat) : ∀ (m : Nat) (L : List UInt8), L.length < n → L.length < m → scanF n L = scanF m L := by
  induction n with
  | zero => intro m L h; omega
  | succ n ih =>
    intro m L h1 h2
    obtain ⟨m, rfl⟩ : ∃ k, m = k + 1 := ⟨m - 1, by omega⟩
    simp only [scanF]
    by_cases he : getE L = 0
    · have := getN_pos L he
      rw [if_pos he, if_pos he, ih m (L.drop (getN L)) (by rw [List.length_drop]; omega) (by rw [List.length_drop]; omega)]
    · rw [if_neg he, if_neg he]
theorem scan_ok (L : List UInt8) (h : getE L = 0) : scan L = (getF L :: (scan (L.drop (getN L))).1, getN L + (scan (L.drop (getN L))).2) := by
  have := getN_pos L h
  have e : scanF L.length (L.drop (getN L)) = scan (L.drop (getN L)) := scanF_eq _ _ _ (by rw [List.length_drop]; omega) (by omega)
  show scanF (L.length + 1) L = _
  simp only [scanF]
  rw [if_pos h, e]
theorem scan_no (L : List UInt8) (h : getE L ≠ 0) : scan L = ([], 0) := by
  show scanF (L.length + 1) L = _
  simp only [scanF]
  rw [if_neg h]
theorem scan_join (F : List Fr) (hF : ∀ f ∈ F, Ok f) (x : List UInt8) : scan (encs F ++ x) = (F ++ (scan x).1, (encs F).length + (scan x).2) := by
  induction F with
  | nil => simp [encs]
  | cons f F ih =>
    have e : encs (f :: F) ++ x = enc f ++ (encs F ++ x) := by simp [encs]
    obtain ⟨g1, g2, g3⟩ := get_enc f (hF f (List.mem_cons_self ..)) (encs F ++ x)
    rw [e, scan_ok _ g1, g2, g3, List.drop_left, ih (fun g hg => hF g (List.mem_cons_of_mem _ hg))]
    simp [encs]
    omega
theorem get_nil : getE [] ≠ 0 := by decide
theorem encs_len (F : List Fr) : (encs F).length = (F.map fun f => 9 + f.b.length).sum := by
  induction F with
  | nil => rfl
  | cons f F ih =>
    show (enc f ++ encs F).length = _
    rw [List.length_append, enc_len, ih]; rfl
/-- Cut off anywhere: those that are whole. -/
theorem scan_torn (F : List Fr) (hF : ∀ f ∈ F, Ok f) (n c : Nat) (hn : n ≤ F.length) (h1 : (encs (F.take n)).length ≤ c) (h2 : n < F.length → c < (encs (F.take (n + 1))).length) (hc : c ≤ (encs F).length) :
    scan ((encs F).take c) = (F.take n, (encs (F.take n)).length) := by
  have hs : encs F = encs (F.take n) ++ encs (F.drop n) := by
    rw [encs, encs, encs, ← List.flatMap_append, List.take_append_drop]
  obtain ⟨d, rfl⟩ : ∃ d, c = (encs (F.take n)).length + d := ⟨c - (encs (F.take n)).length, by omega⟩
  rw [hs, List.take_length_add_append, scan_join _ (fun f hf => hF f (List.mem_of_mem_take hf))]
  have hz : scan ((encs (F.drop n)).take d) = ([], 0) := by
    apply scan_no
    by_cases hlt : n < F.length
    · have h3 := h2 hlt
      rw [List.take_succ_eq_append_getElem hlt] at h3
      have e1 : encs (F.take n ++ [F[n]]) = encs (F.take n) ++ enc F[n] := by rw [encs, List.flatMap_append]; simp only [encs, List.flatMap_cons, List.flatMap_nil, List.append_nil]
      rw [e1, List.length_append] at h3
      have e2 : encs (F.drop n) = enc F[n] ++ encs (F.drop (n + 1)) := by
        rw [List.drop_eq_getElem_cons hlt]; rfl
      rw [e2, List.take_append_of_le_length (by omega), get_cut _ (hF _ (List.getElem_mem hlt)) _ (by omega)]
      decide
    · rw [List.drop_of_length_le (by omega)]
      simp [encs, get_nil]
  rw [hz]
  simp
/-- The sum's first byte turned. -/
theorem get_turn (f : Fr) (hf : Ok f) (t : UInt8) : getE ((enc f).set 5 ((enc f).getD 5 0 ^^^ t)) = if t = 0 then 0 else 6 := by
  obtain ⟨h1, h2, h3⟩ := hf
  obtain ⟨hk, hkk⟩ := kindB_ne f.k h1 h2
  have hs := frSum_lt (kindB f.k) f.b
  generalize hS : frSum (kindB f.k) f.b = S at *
  have he : enc f = UInt8.ofNat f.b.length :: UInt8.ofNat (f.b.length / 256) :: UInt8.ofNat (f.b.length / 65536) :: UInt8.ofNat (f.b.length / 16777216) :: kindB f.k :: UInt8.ofNat S :: UInt8.ofNat (S / 256) :: UInt8.ofNat (S / 65536) :: UInt8.ofNat (S / 16777216) :: f.b := by
    simp only [enc, le4, hS]; rfl
  rw [he]
  simp only [List.set_cons_succ, List.set_cons_zero, List.getD_cons_succ, List.getD_cons_zero]
  unfold getE
  have hb : ∀ x y, be4 (UInt8.ofNat f.b.length :: UInt8.ofNat (f.b.length / 256) :: UInt8.ofNat (f.b.length / 65536) :: UInt8.ofNat (f.b.length / 16777216) :: kindB f.k :: x :: y) = f.b.length := fun x y => be4_le4 _ (by omega) _
  rw [hb]
  simp only [List.length_cons, List.getD_cons_succ, List.getD_cons_zero, List.drop_succ_cons, List.drop_zero, List.take_length]
  rw [if_neg (by omega), if_neg (by omega), if_neg hk, if_neg (by omega), hS]
  by_cases ht : t = 0
  · subst ht
    rw [UInt8.xor_zero, if_pos rfl, if_neg]
    rw [show (UInt8.ofNat S :: UInt8.ofNat (S / 256) :: UInt8.ofNat (S / 65536) :: UInt8.ofNat (S / 16777216) :: f.b) = le4 S ++ f.b from rfl, be4_le4 _ hs]
    simp
  · rw [if_neg ht, if_pos]
    intro e
    simp only [be4, UInt8.toNat_ofNat', UInt8.toNat_xor] at e
    have hx : S % 2 ^ 8 ^^^ t.toNat = S % 2 ^ 8 := by
      have : (S % 2 ^ 8 ^^^ t.toNat) < 256 := Nat.xor_lt_two_pow (n := 8) (by omega) t.toNat_lt
      have e2 : S = (S % 2 ^ 8 ^^^ t.toNat) + 256 * (S / 256 % 2 ^ 8) + 65536 * (S / 65536 % 2 ^ 8) + 16777216 * (S / 16777216 % 2 ^ 8) := e
      omega
    have h0 : t.toNat = 0 := by
      have := congrArg (fun z => (S % 2 ^ 8) ^^^ z) hx
      simpa [← Nat.xor_assoc] using this
    exact ht (UInt8.toNat_inj.1 h0)
end Go.Proofs.YtalkglmneicpoaaGreatDoor
