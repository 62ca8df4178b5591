/-
  WalRoom: the walk.
-/
import Derived.Test.YtalkglmneicpoaaGreatDoorWalPlain
namespace Go.Proofs.YtalkglmneicpoaaGreatDoor
set_option linter.unusedVariables false
set_option linter.unusedSimpArgs false
open Go.RowKit
theorem new_open (a : Bool) : openFr DSt.new a = [] ∧ (openSt DSt.new a) a = ([], 0) := by
  have h := open_encs (st := DSt.new) (a := a) (F := []) (by simp) rfl
  exact ⟨h.1, h.2⟩
theorem room_of {k : Int} {bs : List UInt8} {N : Nat} {st : DSt} {a : Bool} (hb : bs.length ≤ 4096) (hN : (st a).1.length ≤ N) :
    (appN N st a ⟨k, bs⟩ : Int) = (if k < 1 ∨ 255 < k then 2 else if (N : Int) - ((st a).1.length : Int) < 9 + (bs.length : Int) then 12 else 0) ∧
      ((appSt N st a ⟨k, bs⟩) a).1.length = (if appN N st a ⟨k, bs⟩ = 0 then (st a).1.length + (9 + bs.length) else (st a).1.length) ∧ (appN N st a ⟨k, bs⟩ ≠ 0 → ((appSt N st a ⟨k, bs⟩) a).1 = (st a).1) := by
  by_cases hk : k < 1 ∨ 255 < k
  · have hE : putE ⟨k, bs⟩ = 2 := by unfold putE; rw [if_pos hk]
    have hA : appN N st a ⟨k, bs⟩ = 2 := by unfold appN; rw [hE, if_neg (by decide)]
    rw [hA, if_pos hk, if_neg (by decide), appSt_no (by rw [hA]; decide)]
    exact ⟨rfl, rfl, fun _ => rfl⟩
  · have hE : putE ⟨k, bs⟩ = 0 := by unfold putE; rw [if_neg hk, if_neg (by simp only; omega)]
    have hel : (enc ⟨k, bs⟩).length = 9 + bs.length := enc_len _
    by_cases hf : fits N (st a).1 (enc ⟨k, bs⟩) = true
    · have hA : appN N st a ⟨k, bs⟩ = 0 := by unfold appN; rw [if_pos hE, if_pos hf]
      have hle : (enc ⟨k, bs⟩).length + (st a).1.length ≤ N := by simpa [fits] using hf
      rw [hA, if_neg hk, if_neg (by omega), if_pos rfl, appSt_at hE hA]
      simp only [List.length_append]
      exact ⟨rfl, by omega, fun h => absurd rfl h⟩
    · have hA : appN N st a ⟨k, bs⟩ = 12 := by unfold appN; rw [if_pos hE, if_neg hf]
      have hle : ¬ (enc ⟨k, bs⟩).length + (st a).1.length ≤ N := by simpa [fits] using hf
      rw [hA, if_neg hk, if_pos (by omega), if_neg (by decide), appSt_no (by rw [hA]; decide)]
      exact ⟨rfl, rfl, fun _ => rfl⟩
set_option maxRecDepth 100000 in
set_option maxHeartbeats 16000000 in
theorem walRoom_any (n : Int) (A1 : Option Addr) (n1 c1 : Nat) (F1 : List Fr) (k : Int) (bs : List UInt8) (A : Option Addr) (m c : Nat) (pg : Addr) (w : World) (hG : Glob pg w) (hn1 : -9223372036854775808 ≤ n) (hn2 : n ≤ 9223372036854775807)
    (hx : FrsRd w w.heap.size A1 F1) (hl : F1.length = n1) (hm1 : n1 ≤ maxLen) (hr : Reads w w.heap.size 1 A m (bs.map bval)) (hm : m ≤ maxLen) :
    Calls Tryz.prog 6 #[.int .i64 n, .slice A1 n1 c1, .agg #[ival k, .slice A m c]] w fun e w' => e = .returned (.bool true) ∧ Below w.heap.size w w' := by
  have hlt := hG.lt
  have hb1 : Below w.heap.size w (w.alloc (.cells #[ival k, .slice A m c] 25)) := (Below.refl _ _).alloc (Nat.le_refl _) _
  obtain ⟨w1, hw1⟩ : ∃ w1, w1 = w.alloc (.cells #[ival k, .slice A m c] 25) := ⟨_, rfl⟩
  rw [← hw1] at hb1
  have HK : Hid (Blk w1 w.heap.size 25 #[ival k, .slice A m c]) := by show Blk _ _ _ _; rw [hw1]; exact Blk.new _ _ _
  have HS1 : Hid (w1.heap.size = w.heap.size + 1) := by show _ = _; rw [hw1]; simp
  have HB1 := Lib.hid hb1
  have hgb : 3 ≤ w1.heap.size := by have := HS1.out; omega
  have HD : Hid (∀ W, Below w1.heap.size w1 W → Glob pg W ∧ Reads W w1.heap.size 1 A m (bs.map bval) ∧ W.cell? ⟨w.heap.size, 0, none⟩ = some (ival k) ∧ W.cell? ⟨w.heap.size, 1, none⟩ = some (.slice A m c) ∧ Below w.heap.size w W ∧ FrsRd W w1.heap.size A1 F1) := fun W hW => by
    have h := hb1.trans (hW.mono (by have := HS1.out; omega))
    exact ⟨hG.below h hlt, (hr.below h).more (by have := HS1.out; omega), (HK.out.below hW HK.out.lt).cell 0, (HK.out.below hW HK.out.lt).cell 1, h, (hx.below h).more (by have := HS1.out; omega)⟩
  have WK : Hid (∀ W, Below w1.heap.size w1 W → Calls Tryz.prog 8 #[] W fun e w' => e = .returned (.bool true) ∧ Below W.heap.size W w') := fun W hW => wworks_any pg W (HD.out W hW).1
  have HBL := Lib.hid hr.bytes_len
  have HLF := Lib.hid hl
  have CR := Lib.hid (right_any A1 n1 c1 w1.heap.size F1 w1 (HD.out w1 (Below.refl _ _)).2.2.2.2.2 hl hm1)
  have y1 : w1.cell? ⟨w.heap.size, 1, none⟩ = some (.slice A m c) := (HD.out w1 (Below.refl _ _)).2.2.2.1
  clear hr hG hb1 hx hl
  cases hR : rightB F1
  · rw [hR] at CR
    clear hR
    go_enter Tryz.func6, Tryz.ntmps6
    go_wp2_with fail
    have hw1' : w.alloc (.cells #[.int .i64 k, .slice A m c] 25) = w1 := hw1.symm
    rw [hw1']
    clear hw1 hw1'
    go_must (refine CR.out.mono ?_)
    rintro e _ ⟨rfl, rfl⟩
    go_wp2_with fail
    go_must (refine (WK.out _ (Below.refl _ _)).mono ?_)
    rintro e w3 ⟨rfl, hb3⟩
    go_wp2_with fail
    go_ret
    exact ⟨rfl, (HD.out _ hb3).2.2.2.2.1⟩
  rw [hR] at CR
  have HR := Lib.hid (right_facts hR)
  clear hR
  by_cases hbig : 4096 < m
  · go_enter Tryz.func6, Tryz.ntmps6
    go_wp2_with fail
    have hw1' : w.alloc (.cells #[.int .i64 k, .slice A m c] 25) = w1 := hw1.symm
    rw [hw1']
    clear hw1 hw1'
    go_must (refine CR.out.mono ?_)
    rintro e _ ⟨rfl, rfl⟩
    go_wp2_with fail
    go_must (refine (WK.out _ (Below.refl _ _)).mono ?_)
    rintro e w3 ⟨rfl, hb3⟩
    go_wp2_with fail
    go_ret
    exact ⟨rfl, (HD.out _ hb3).2.2.2.2.1⟩
  have C2 := Lib.hid (fun W => size_any n W hn1 hn2)
  have hNr : 64 ≤ 64 + (n % 16384).toNat ∧ 64 + (n % 16384).toNat ≤ 16447 := by omega
  generalize 64 + (n % 16384).toNat = N at *
  have C3 := Lib.hid (new_any N hNr.1 (by omega) w1)
  go_enter Tryz.func6, Tryz.ntmps6
  go_wp2_with fail
  have hw1' : w.alloc (.cells #[.int .i64 k, .slice A m c] 25) = w1 := hw1.symm
  rw [hw1']
  clear hw1 hw1'
  go_must (refine CR.out.mono ?_)
  rintro e _ ⟨rfl, rfl⟩
  go_wp2_with fail
  go_must (refine (C2.out _).mono ?_)
  rintro e _ ⟨rfl, rfl⟩
  go_wp2_with fail
  go_must (refine C3.out.mono ?_)
  rintro e w2 ⟨gd, rfl, hgd, hb2, hs2, hd2⟩
  have H2 := Lib.hid (One.fresh (hd2 w1.heap.size (Nat.le_refl _)) hb2.size)
  have HB2 := Lib.hid hb2
  have C4 := Lib.hid (H2.out.open_ (fun S hd hb => wopen_any true w1.heap.size gd N S DSt.new w2 pg (HD.out _ HB2.out).1 hd hb))
  obtain ⟨no1, no2⟩ := new_open true
  have HNO := Lib.hid no2
  clear hgd hb2 hs2 hd2 CR C3 y1 no2
  go_wp2_with fail
  go_must (refine C4.out.mono ?_)
  rintro e w3 ⟨v3, G3, gl, rfl, hk3, _, hf3, hm3, ho3, hon3, _⟩
  have H3 := Lib.hid (ho3.less (X' := fun i => i = gl) (fun i hi => .inr (.inr hi)))
  have HB3 := Lib.hid (HB2.out.trans (hon3.rest H2.out.base_le))
  have HK3 := Lib.hid hk3
  have hG3 : G3 = [] := by rw [no1] at hm3; simpa using hm3
  subst hG3
  obtain ⟨A3, c3, rfl, _, _, _⟩ := own_slice hf3.own
  clear C4 hk3 hf3 hm3 ho3 hon3 H2 HB2 no1
  obtain ⟨s0, hs0⟩ : ∃ s, openSt DSt.new true = s := ⟨_, rfl⟩
  have HF0 : Hid ((s0 false).1 = []) := by show _ = _; rw [← hs0]; have := openSt_other DSt.new true; rw [show (!true) = false from rfl] at this; rw [this]; rfl
  rw [hs0] at H3 HNO
  clear hs0
  have R3 : Hid (Calls Tryz.prog 18 #[.pointer (some ⟨gl, 0, none⟩)] w3 fun e w' => e = .returned (.int .i64 (N : Int)) ∧ ∃ q, w' = w3.drewN q) := by
    obtain ⟨S, hd⟩ := H3.out.bytes
    have := wroom_any true gl w1.heap.size gd N S s0 w3 hd HK3.out
    rw [HNO.out] at this
    show Calls _ _ _ _ _
    simpa using this
  have hNN : ((N : Int) != (N : Int)) = false := by simp
  go_wp2_with fail
  go_must (refine R3.out.mono ?_)
  rintro e w4 ⟨rfl, q4, hw4⟩
  have H4 : Hid (One false (fun i => i = gl) w4 w1.heap.size gd N s0) := by show One _ _ _ _ _ _ _; rw [hw4]; exact H3.out.below (below_drewN (Below.refl _ _) q4)
  have HB4 : Hid (Below w1.heap.size w1 w4) := by show Below _ _ _; rw [hw4]; exact below_drewN HB3.out q4
  have HK4 : Hid (Blk w4 gl (lType false) (lCells gd true)) := by show Blk _ _ _ _; rw [hw4]; exact HK3.out.drewN q4
  clear hw4 R3 H3 HB3 HK3
  go_wp2_with fail
  go_must (refine (C2.out _).mono ?_)
  rintro e _ ⟨rfl, rfl⟩
  have C5 : Hid (Calls Tryz.prog 13 #[.pointer (some ⟨gl, 0, none⟩), .slice A1 n1 c1] w4 fun e w' => e = .returned (.int .i64 ((laidF N true F1 s0).1 : Nat)) ∧ One false (fun i => i = gl) w' w1.heap.size gd N (laidF N true F1 s0).2 ∧ Only (Rest w1.heap.size (fun i => i = gl)) w4 w') :=
    H4.out.actX (fun S hd hb hX => laid_any true gl w1.heap.size gd N S s0 A1 n1 c1 F1 pg w4 (HD.out _ HB4.out).1 hgb hd hb HK4.out (hX gl rfl) (HD.out _ HB4.out).2.2.2.2.2 HLF.out hm1)
  obtain ⟨s1, hs1⟩ : ∃ s, (laidF N true F1 s0).2 = s := ⟨_, rfl⟩
  have HF1 : Hid ((s1 false).1 = []) := by show _ = _; rw [← hs1]; have := laidF_other N true F1 s0; rw [show (!true) = false from rfl] at this; rw [this]; exact HF0.out
  rw [hs1] at C5
  clear hs1 HF0 HNO
  generalize (laidF N true F1 s0).1 = kl at *
  go_wp2_with fail
  go_must (refine C5.out.mono ?_)
  rintro e w5 ⟨rfl, h5, ho5⟩
  have H5 := Lib.hid h5
  have HB5 := Lib.hid (HB4.out.trans (ho5.rest H4.out.base_le))
  have HK5 := Lib.hid (HK4.out.only ho5 (fun h => h.2 rfl))
  have hok : s1.Ok N := by obtain ⟨S, hd⟩ := h5.bytes; exact hd.ok
  have hlen := (hok.2 true).1
  clear h5 ho5 H4 HB4 HK4 C5 hok
  obtain ⟨la, hla⟩ : ∃ la, (s1 true).1.length = la := ⟨_, rfl⟩
  rw [hla] at hlen
  have HLA := Lib.hid hla
  have R5 : Hid (Calls Tryz.prog 18 #[.pointer (some ⟨gl, 0, none⟩)] w5 fun e w' => e = .returned (.int .i64 ((N : Int) - (la : Int))) ∧ ∃ q, w' = w5.drewN q) := by
    obtain ⟨S, hd⟩ := H5.out.bytes
    have := wroom_any true gl w1.heap.size gd N S s1 w5 hd HK5.out
    rwa [hla] at this
  clear hla
  go_wp2_with fail
  go_must (refine R5.out.mono ?_)
  rintro e w6 ⟨rfl, q6, hw6⟩
  have H6 : Hid (One false (fun i => i = gl) w6 w1.heap.size gd N s1) := by show One _ _ _ _ _ _ _; rw [hw6]; exact H5.out.below (below_drewN (Below.refl _ _) q6)
  have HB6 : Hid (Below w1.heap.size w1 w6) := by show Below _ _ _; rw [hw6]; exact below_drewN HB5.out q6
  have HK6 : Hid (Blk w6 gl (lType false) (lCells gd true)) := by show Blk _ _ _ _; rw [hw6]; exact HK5.out.drewN q6
  clear hw6 R5 H5 HB5 HK5
  have B6 : Hid (Calls Tryz.prog 19 #[.pointer (some ⟨gd, 0, none⟩), .int .i64 1] w6 fun e w' => ∃ v, e = .returned v ∧ w'.ownsRow w6.heap.size 5 1 v la ((s1 true).1.map bval) ∧ Below w6.heap.size w6 w') := by
    obtain ⟨S, hd⟩ := H6.out.bytes
    have := bytes_true w1.heap.size gd N S s1 w6 hd
    rwa [HLA.out] at this
  go_wp2_with fail
  go_must (refine B6.out.mono ?_)
  rintro e w7 ⟨vB, rfl, hownB, hb7⟩
  obtain ⟨AB, cB, rfl, hcB1, hcB2, _⟩ := own_slice hownB
  have H7 := Lib.hid (H6.out.more (X' := fun i => i = gl ∨ (Value.slice AB la cB).ownBlock = some i) hb7 (fun i hi => by
    rcases hi with h | h
    · exact .inl h
    · exact .inr (hownB.lt i h)))
  have HB7 := Lib.hid (HB6.out.trans (hb7.mono HB6.out.size))
  have HK7 := Lib.hid (HK6.out.below hb7 HK6.out.lt)
  have HOB := Lib.hid hownB
  clear hb7 hownB B6 H6 HK6
  obtain ⟨_, r7, x0, x1, _, _⟩ := HD.out w7 HB7.out
  have C7 := H7.out.act (fun S hd hb => wappend_any true gl w1.heap.size gd N S s1 k bs A m c w1.heap.size pg w7 (HD.out _ HB7.out).1 hgb hd hb HK7.out r7 HB7.out.size hm)
  obtain ⟨e1, e2, e3⟩ := room_of (k := k) (bs := bs) (N := N) (st := s1) (a := true) (by have := HBL.out; omega) (by have := HLA.out; omega)
  rw [HLA.out, HBL.out] at e1 e2
  obtain ⟨s2, hs2⟩ : ∃ s, appSt N s1 true ⟨k, bs⟩ = s := ⟨_, rfl⟩
  have HF2 : Hid ((s2 false).1 = []) := by show _ = _; rw [← hs2]; have := appSt_other N s1 true ⟨k, bs⟩; rw [show (!true) = false from rfl] at this; rw [this]; exact HF1.out
  rw [hs2] at C7 e2 e3
  generalize appN N s1 true ⟨k, bs⟩ = E at *
  have HE1 := Lib.hid e1
  have HE2 := Lib.hid e2
  have HE3 := Lib.hid e3
  have D7 := Lib.hid C7
  clear hs2 HF1 r7 e1 e2 e3 C7
  go_wp2_with fail
  go_must (refine D7.out.mono ?_)
  rintro e w8 ⟨rfl, h8, ho8⟩
  have H8 := Lib.hid h8
  have HB8 := Lib.hid (HB7.out.trans (ho8.rest H7.out.base_le))
  have HK8 := Lib.hid (HK7.out.only ho8 (fun h => h.2 (.inl rfl)))
  have HOB8 := Lib.hid (own_only HOB.out ho8 (fun i hi h => h.2 (.inr hi)))
  clear h8 ho8 H7 HK7 HOB D7 x0 x1
  obtain ⟨_, _, x0, x1, _, _⟩ := HD.out w8 HB8.out
  have hw9 : IntKind.i64.wrap (9 + (m : Int)) = 9 + (m : Int) := IntWalk.i64_in _ (by omega)
  have TAIL : Hid (∀ W, Below w1.heap.size w1 W → One false (fun i => i = gl) W w1.heap.size gd N s2 → Blk W gl (lType false) (lCells gd true) →
      Calls Tryz.prog 21 #[.pointer (some ⟨gl, 0, none⟩)] W fun e w' => e = .returned (.tuple #[]) ∧ One false (fun i => i = gl) w' w1.heap.size gd N (s2.cut true 0) ∧ Only (Rest w1.heap.size (fun i => i = gl)) W w') := fun W _ hO hK =>
    hO.act (fun S hd hb => wreset_any true gl w1.heap.size gd N S s2 W hd hb hK)
  have R8 : Hid (∀ q, Calls Tryz.prog 18 #[.pointer (some ⟨gl, 0, none⟩)] (w8.drewN q) fun e w' => e = .returned (.int .i64 (if E = 0 then (N : Int) - (la : Int) - 9 - (m : Int) else (N : Int) - (la : Int))) ∧ ∃ m, w' = (w8.drewN q).drewN m) := fun q => by
    obtain ⟨S, hd⟩ := H8.out.bytes
    have := wroom_any true gl w1.heap.size gd N S s2 (w8.drewN q) (hd.drewN q) (HK8.out.drewN q)
    rw [HE2.out] at this
    by_cases hE : E = 0
    · rw [if_pos hE] at this ⊢
      rw [show (N : Int) - ((la + (9 + m) : Nat) : Int) = (N : Int) - (la : Int) - 9 - (m : Int) by omega] at this
      exact this
    · rw [if_neg hE] at this ⊢
      exact this
  have hcase : (k < 1 ∧ E = 2) ∨ (1 ≤ k ∧ 255 < k ∧ E = 2) ∨ (1 ≤ k ∧ k ≤ 255 ∧ (N : Int) - (la : Int) < 9 + (m : Int) ∧ E = 12) ∨ (1 ≤ k ∧ k ≤ 255 ∧ ¬ ((N : Int) - (la : Int) < 9 + (m : Int)) ∧ E = 0) := by
    have := HE1.out
    split at this
    · rcases (by assumption : k < 1 ∨ 255 < k) with h | h
      · exact .inl ⟨h, by omega⟩
      · by_cases h1 : k < 1
        · exact .inl ⟨h1, by omega⟩
        · exact .inr (.inl ⟨by omega, h, by omega⟩)
    · split at this
      · exact .inr (.inr (.inl ⟨by omega, by omega, by assumption, by omega⟩))
      · exact .inr (.inr (.inr ⟨by omega, by omega, by assumption, by omega⟩))
  have B8 : Hid (∀ q, Calls Tryz.prog 19 #[.pointer (some ⟨gd, 0, none⟩), .int .i64 1] (w8.drewN q) fun e w' => ∃ v, e = .returned v ∧ w'.ownsRow (w8.drewN q).heap.size 5 1 v (s2 true).1.length ((s2 true).1.map bval) ∧ Below (w8.drewN q).heap.size (w8.drewN q) w') := fun q => by
    obtain ⟨S, hd⟩ := H8.out.bytes
    exact bytes_true w1.heap.size gd N S s2 (w8.drewN q) (hd.drewN q)
  have h255 : k ≤ 255 → ¬ (255 < k) := fun h => by omega
  have h11 : 1 ≤ k → ¬ (k < 1) := fun h => by omega
  have H255 := Lib.hid h255
  have H11 := Lib.hid h11
  clear h255 h11 HE1
  have hwa : IntKind.i64.wrap ((N : Int) - (la : Int) - 9) = (N : Int) - (la : Int) - 9 := IntWalk.i64_in _ (by omega)
  have hwb : IntKind.i64.wrap ((N : Int) - (la : Int) - 9 - (m : Int)) = (N : Int) - (la : Int) - 9 - (m : Int) := IntWalk.i64_in _ (by omega)
  have hab : ((N : Int) - (la : Int) != (N : Int) - (la : Int)) = false := by simp
  have hac : ((N : Int) - (la : Int) - 9 - (m : Int) != (N : Int) - (la : Int) - 9 - (m : Int)) = false := by simp
  have q8 : Below w8.heap.size w8 w8.drew := (Below.refl _ _).drew
  have hlB : (s1 true).1.length = la := HLA.out
  rcases hcase with ⟨hk1, rfl⟩ | ⟨hk1, hk2, rfl⟩ | ⟨hk1, hk2, hk3, rfl⟩ | ⟨hk1, hk2, hk3, rfl⟩
  case inr.inr.inr =>
    have hk1n := H11.out hk1
    have hk2n := H255.out hk2
    rw [if_pos rfl] at R8
    clear hk1 hk2 hlB
    go_wp2_with fail
    go_quiet ((go_at_call 18; go_must (exact quiet_dr (R8.out _))))
    have q9 : Below w8.heap.size w8 (w8.drewN nq) := below_drewN (Below.refl _ _) nq
    clear q8
    generalize w8.drewN nq = w9 at *
    have HB9 := Lib.hid (HB8.out.trans (q9.mono HB8.out.size))
    have H9 := Lib.hid ((H8.out.below q9).less (X' := fun i => i = gl) (fun i hi => .inl hi))
    have HK9 := Lib.hid (HK8.out.below q9 HK8.out.lt)
    have T9 := Lib.hid (TAIL.out w9 HB9.out H9.out HK9.out)
    clear q9 H8 HB8 HK8 HOB8 x0 x1 TAIL hwa hwb hab hac hw9
    go_wp2_with fail
    go_must (refine T9.out.mono ?_)
    rintro e w12 ⟨rfl, h12, ho12⟩
    have H12 := Lib.hid h12
    have HB12 := Lib.hid (HB9.out.trans (ho12.rest H9.out.base_le))
    have HK12 := Lib.hid (HK9.out.only ho12 (fun h => h.2 rfl))
    have hs3 : ((s2.cut true 0) true).1 = [] := by rw [cut_at]; have := cutL_nat 0 (s2 true).1; simpa using this
    have hs3f : ((s2.cut true 0) false).1 = [] := by have := cut_other s2 true 0; rw [show (!true) = false from rfl] at this; rw [this]; exact HF2.out
    have hop := open_encs (st := s2.cut true 0) (a := true) (F := []) (by simp) hs3
    have hopf : ((openSt (s2.cut true 0) true) false).1 = [] := by have := openSt_other (s2.cut true 0) true; rw [show (!true) = false from rfl] at this; rw [this]; exact hs3f
    have C12 := Lib.hid (H12.out.open_ (fun S hd hb => wopen_any true w1.heap.size gd N S (s2.cut true 0) w12 pg (HD.out _ HB12.out).1 hd hb))
    clear T9 h12 ho12 H9 HB9 HK9 hs3 hs3f
    go_wp2_with fail
    go_must (refine C12.out.mono ?_)
    rintro e w13 ⟨v13, G13, gm, rfl, hk13, _, hf13, hm13, ho13, hon13, _⟩
    have H13 := Lib.hid (ho13.less (X' := fun i => i = gl) (fun i hi => .inl hi))
    have HB13 := Lib.hid (HB12.out.trans (hon13.rest H12.out.base_le))
    have HK13 := Lib.hid (HK12.out.only hon13 (fun h => h.2 rfl))
    have hG13 : G13 = [] := by rw [hop.1] at hm13; simpa using hm13
    subst hG13
    obtain ⟨A13, c13, rfl, _, _, _⟩ := own_slice hf13.own
    have hz : ((openSt (s2.cut true 0) true) true).1 = [] := by rw [hop.2]; rfl
    clear C12 hk13 hf13 hm13 ho13 hon13 H12 HB12 HK12 hop
    generalize openSt (s2.cut true 0) true = s4 at *
    have R13 : Hid (Calls Tryz.prog 18 #[.pointer (some ⟨gl, 0, none⟩)] w13 fun e w' => e = .returned (.int .i64 (N : Int)) ∧ ∃ q, w' = w13.drewN q) := by
      obtain ⟨S, hd⟩ := H13.out.bytes
      have := wroom_any true gl w1.heap.size gd N S s4 w13 hd HK13.out
      rw [hz] at this
      show Calls _ _ _ _ _
      simpa using this
    have HZF := Lib.hid hopf
    clear hz hopf
    have hNe : ((N : Int) == (N : Int)) = true := by simp
    go_wp2_with fail
    go_must (refine R13.out.mono ?_)
    rintro e w14 ⟨rfl, q14, hw14⟩
    have H14 : Hid (One false (fun i => i = gl) w14 w1.heap.size gd N s4) := by show One _ _ _ _ _ _ _; rw [hw14]; exact H13.out.below (below_drewN (Below.refl _ _) q14)
    have HB14 : Hid (Below w1.heap.size w1 w14) := by show Below _ _ _; rw [hw14]; exact below_drewN HB13.out q14
    clear hw14 R13 H13 HB13 HK13
    have B14 : Hid (Calls Tryz.prog 19 #[.pointer (some ⟨gd, 0, none⟩), .int .i64 0] w14 fun e w' => ∃ A c, e = .returned (.slice A 0 c) ∧ Below w14.heap.size w14 w') := by
      obtain ⟨S, hd⟩ := H14.out.bytes
      have := bytes_false w1.heap.size gd N S s4 w14 hd
      rw [HZF.out] at this
      exact this.mono fun e w' ⟨v, h1, h2, h3⟩ => by
        obtain ⟨A9, c9, rfl, _, _, _⟩ := own_slice h2
        exact ⟨A9, c9, h1, h3⟩
    go_wp2_with fail
    go_must (refine (C2.out _).mono ?_)
    rintro e _ ⟨rfl, rfl⟩
    go_wp2_with fail
    go_must (refine B14.out.mono ?_)
    rintro e w15 ⟨A15, c15, rfl, hb15⟩
    have HB15 := Lib.hid (HB14.out.trans (hb15.mono HB14.out.size))
    clear B14 hb15
    go_wp2_with fail
    go_must (refine (WK.out _ HB15.out).mono ?_)
    rintro e w16 ⟨rfl, hb16⟩
    go_wp2_with fail
    go_ret
    exact ⟨rfl, (HD.out _ (HB15.out.trans (hb16.mono HB15.out.size))).2.2.2.2.1⟩
  all_goals
    rw [if_neg (by decide)] at R8
    have hs12 : (s2 true).1 = (s1 true).1 := HE3.out (by decide)
    have RW : Hid (∀ W, Below w8.heap.size w8 W → Calls Tryz.prog 18 #[.pointer (some ⟨gl, 0, none⟩)] W fun e w' => e = .returned (.int .i64 ((N : Int) - (la : Int))) ∧ ∃ m, w' = W.drewN m) := fun W hW => by
      obtain ⟨S, hd⟩ := (H8.out.below hW).bytes
      have := wroom_any true gl w1.heap.size gd N S s2 W hd (HK8.out.below hW HK8.out.lt)
      rwa [hs12, hlB] at this
    have BW : Hid (∀ W, Below w8.heap.size w8 W → Calls Tryz.prog 19 #[.pointer (some ⟨gd, 0, none⟩), .int .i64 1] W fun e w' => ∃ A c, e = .returned (.slice A la c) ∧ la ≤ c ∧ c ≤ maxLen ∧ w'.ownsRow W.heap.size 5 1 (.slice A la c) la ((s1 true).1.map bval) ∧ Below W.heap.size W w') := fun W hW => by
      obtain ⟨S, hd⟩ := (H8.out.below hW).bytes
      have := bytes_true w1.heap.size gd N S s2 W hd
      rw [hs12, hlB] at this
      exact this.mono fun e w' ⟨v, h1, h2, h3⟩ => by
        obtain ⟨A9, c9, rfl, h4, h5, _⟩ := own_slice h2
        exact ⟨A9, c9, h1, h4, h5, h2, h3⟩
    have SW : Hid (∀ W A10 c10, Below w8.heap.size w8 W → Reads W W.heap.size 1 A10 la ((s1 true).1.map bval) → Calls Tryz.prog 20 #[.slice A10 la c10, .slice AB la cB] W fun e w' => e = .returned (.bool true) ∧ ∃ m, w' = W.drewN m) := fun W A10 c10 hW h1 => by
      have := sameBytes_any A10 AB la c10 la cB W.heap.size w8.heap.size (s1 true).1 (s1 true).1 W h1 ((Reads.of_own HOB8.out).below hW) (by unfold maxLen; omega) (by unfold maxLen; omega)
      rwa [decide_eq_true rfl] at this
    clear R8 B8 hs12 hlB
    first
      | (have hk1n := H11.out hk1; have hk2n := H255.out hk2; clear hk1 hk2)
      | (have hk1n := H11.out hk1; clear hk1)
      | skip
    go_wp2_with fail
    refine wp_region_held_drew (S := fun _ => True) (by kernel_rfl) (by trivial) (fun hHeld => ?_)
    refine wpAnyH_take (i := 0) (v := ?_) rfl (by kernel_rfl) (by kernel_rfl) (by kernel_rfl) (fun _ _ _ h => h) (Or.inl ⟨by rfl, ?_⟩) (by assumption) ?_
    rotate_left
    · intro w0 hSw; (try dsimp only at hSw); go_simp <;> with_reducible rfl
    try simp only [Act.put, List.getElem_toArray, List.getElem_cons_zero, List.getElem_cons_succ, List.setIfInBounds_toArray, List.set_cons_zero, List.set_cons_succ]
    refine wpAnyH_take (i := 1) (v := ?_) rfl (by kernel_rfl) (by kernel_rfl) (by kernel_rfl) (fun _ _ _ h => h) (Or.inl ⟨by rfl, ?_⟩) (by assumption) ?_
    rotate_left
    · intro w0 hSw; (try dsimp only at hSw); go_simp <;> with_reducible rfl
    try simp only [Act.put, List.getElem_toArray, List.getElem_cons_zero, List.getElem_cons_succ, List.setIfInBounds_toArray, List.set_cons_zero, List.set_cons_succ]
    refine wpAnyH_take (i := 2) (v := ?_) rfl (by kernel_rfl) (by kernel_rfl) (by kernel_rfl) (fun _ _ _ h => h) (Or.inl ⟨by rfl, ?_⟩) (by assumption) ?_
    rotate_left
    · intro w0 hSw; (try dsimp only at hSw); go_simp <;> with_reducible rfl
    try simp only [Act.put, List.getElem_toArray, List.getElem_cons_zero, List.getElem_cons_succ, List.setIfInBounds_toArray, List.set_cons_zero, List.set_cons_succ]
    refine wpAnyH_take (i := 3) (v := ?_) rfl (by kernel_rfl) (by kernel_rfl) (by kernel_rfl) (fun _ _ _ h => h) (Or.inl ⟨by rfl, ?_⟩) (by assumption) ?_
    rotate_left
    · intro w0 hSw; (try dsimp only at hSw); go_simp <;> with_reducible rfl
    try simp only [Act.put, List.getElem_toArray, List.getElem_cons_zero, List.getElem_cons_succ, List.setIfInBounds_toArray, List.set_cons_zero, List.set_cons_succ]
    refine wpAnyH_take (i := 4) (v := ?_) rfl (by kernel_rfl) (by kernel_rfl) (by kernel_rfl) (fun _ _ _ h => h) (Or.inl ⟨by rfl, ?_⟩) (by assumption) ?_
    rotate_left
    · intro w0 hSw; (try dsimp only at hSw); go_simp <;> with_reducible rfl
    try simp only [Act.put, List.getElem_toArray, List.getElem_cons_zero, List.getElem_cons_succ, List.setIfInBounds_toArray, List.set_cons_zero, List.set_cons_succ]
    refine wpAnyH_take (i := 5) (v := ?_) rfl (by kernel_rfl) (by kernel_rfl) (by kernel_rfl) (fun _ _ _ h => h) (Or.inl ⟨by rfl, ?_⟩) (by assumption) ?_
    rotate_left
    · intro w0 hSw; (try dsimp only at hSw); go_simp <;> with_reducible rfl
    try simp only [Act.put, List.getElem_toArray, List.getElem_cons_zero, List.getElem_cons_succ, List.setIfInBounds_toArray, List.set_cons_zero, List.set_cons_succ]
    refine wpAnyH_take (i := 6) (v := ?_) rfl (by kernel_rfl) (by kernel_rfl) (by kernel_rfl) (fun _ _ _ h => h) (Or.inl ⟨by rfl, ?_⟩) (by assumption) ?_
    rotate_left
    · intro w0 hSw; (try dsimp only at hSw); go_simp <;> with_reducible rfl
    try simp only [Act.put, List.getElem_toArray, List.getElem_cons_zero, List.getElem_cons_succ, List.setIfInBounds_toArray, List.set_cons_zero, List.set_cons_succ]
    refine wpAnyH_take (i := 7) (v := undef) rfl (by kernel_rfl) (by kernel_rfl) (by kernel_rfl) (fun _ _ _ h => h) (Or.inr ⟨by rfl, rfl⟩) (by assumption) ?_
    try simp only [Act.put, List.getElem_toArray, List.getElem_cons_zero, List.getElem_cons_succ, List.setIfInBounds_toArray, List.set_cons_zero, List.set_cons_succ]
    refine wpAnyH_take (i := 8) (v := undef) rfl (by kernel_rfl) (by kernel_rfl) (by kernel_rfl) (fun _ _ _ h => h) (Or.inr ⟨by rfl, rfl⟩) (by assumption) ?_
    try simp only [Act.put, List.getElem_toArray, List.getElem_cons_zero, List.getElem_cons_succ, List.setIfInBounds_toArray, List.set_cons_zero, List.set_cons_succ]
    refine wpAnyH_take (i := 9) (v := undef) rfl (by kernel_rfl) (by kernel_rfl) (by kernel_rfl) (fun _ _ _ h => h) (Or.inr ⟨by rfl, rfl⟩) (by assumption) ?_
    try simp only [Act.put, List.getElem_toArray, List.getElem_cons_zero, List.getElem_cons_succ, List.setIfInBounds_toArray, List.set_cons_zero, List.set_cons_succ]
    refine wpAnyH_take (i := 10) (v := undef) rfl (by kernel_rfl) (by kernel_rfl) (by kernel_rfl) (fun _ _ _ h => h) (Or.inr ⟨by rfl, rfl⟩) (by assumption) ?_
    try simp only [Act.put, List.getElem_toArray, List.getElem_cons_zero, List.getElem_cons_succ, List.setIfInBounds_toArray, List.set_cons_zero, List.set_cons_succ]
    refine wpAnyH_take (i := 11) (v := undef) rfl (by kernel_rfl) (by kernel_rfl) (by kernel_rfl) (fun _ _ _ h => h) (Or.inr ⟨by rfl, rfl⟩) (by assumption) ?_
    try simp only [Act.put, List.getElem_toArray, List.getElem_cons_zero, List.getElem_cons_succ, List.setIfInBounds_toArray, List.set_cons_zero, List.set_cons_succ]
    refine wpAnyH_take (i := 12) (v := undef) rfl (by kernel_rfl) (by kernel_rfl) (by kernel_rfl) (fun _ _ _ h => h) (Or.inr ⟨by rfl, rfl⟩) (by assumption) ?_
    try simp only [Act.put, List.getElem_toArray, List.getElem_cons_zero, List.getElem_cons_succ, List.setIfInBounds_toArray, List.set_cons_zero, List.set_cons_succ]
    refine wpAnyH_take (i := 13) (v := undef) rfl (by kernel_rfl) (by kernel_rfl) (by kernel_rfl) (fun _ _ _ h => h) (Or.inr ⟨by rfl, rfl⟩) (by assumption) ?_
    try simp only [Act.put, List.getElem_toArray, List.getElem_cons_zero, List.getElem_cons_succ, List.setIfInBounds_toArray, List.set_cons_zero, List.set_cons_succ]
    refine wpAnyH_take (i := 14) (v := undef) rfl (by kernel_rfl) (by kernel_rfl) (by kernel_rfl) (fun _ _ _ h => h) (Or.inr ⟨by rfl, rfl⟩) (by assumption) ?_
    try simp only [Act.put, List.getElem_toArray, List.getElem_cons_zero, List.getElem_cons_succ, List.setIfInBounds_toArray, List.set_cons_zero, List.set_cons_succ]
    refine wpAnyH_take (i := 15) (v := undef) rfl (by kernel_rfl) (by kernel_rfl) (by kernel_rfl) (fun _ _ _ h => h) (Or.inr ⟨by rfl, rfl⟩) (by assumption) ?_
    try simp only [Act.put, List.getElem_toArray, List.getElem_cons_zero, List.getElem_cons_succ, List.setIfInBounds_toArray, List.set_cons_zero, List.set_cons_succ]
    refine wpAnyH_take (i := 16) (v := ?_) rfl (by kernel_rfl) (by kernel_rfl) (by kernel_rfl) (fun _ _ _ h => h) (Or.inl ⟨by rfl, ?_⟩) (by assumption) ?_
    rotate_left
    · intro w0 hSw; (try dsimp only at hSw); go_simp <;> with_reducible rfl
    try simp only [Act.put, List.getElem_toArray, List.getElem_cons_zero, List.getElem_cons_succ, List.setIfInBounds_toArray, List.set_cons_zero, List.set_cons_succ]
    refine wpAnyH_take (i := 17) (v := ?_) rfl (by kernel_rfl) (by kernel_rfl) (by kernel_rfl) (fun _ _ _ h => h) (Or.inl ⟨by rfl, ?_⟩) (by assumption) ?_
    rotate_left
    · intro w0 hSw; (try dsimp only at hSw); go_simp <;> with_reducible rfl
    try simp only [Act.put, List.getElem_toArray, List.getElem_cons_zero, List.getElem_cons_succ, List.setIfInBounds_toArray, List.set_cons_zero, List.set_cons_succ]
    refine wpAnyH_take (i := 18) (v := ?_) rfl (by kernel_rfl) (by kernel_rfl) (by kernel_rfl) (fun _ _ _ h => h) (Or.inl ⟨by rfl, ?_⟩) (by assumption) ?_
    rotate_left
    · intro w0 hSw; (try dsimp only at hSw); go_simp <;> with_reducible rfl
    try simp only [Act.put, List.getElem_toArray, List.getElem_cons_zero, List.getElem_cons_succ, List.setIfInBounds_toArray, List.set_cons_zero, List.set_cons_succ]
    refine wpAnyH_take (i := 19) (v := ?_) rfl (by kernel_rfl) (by kernel_rfl) (by kernel_rfl) (fun _ _ _ h => h) (Or.inl ⟨by rfl, ?_⟩) (by assumption) ?_
    rotate_left
    · intro w0 hSw; (try dsimp only at hSw); go_simp <;> with_reducible rfl
    try simp only [Act.put, List.getElem_toArray, List.getElem_cons_zero, List.getElem_cons_succ, List.setIfInBounds_toArray, List.set_cons_zero, List.set_cons_succ]
    refine wpAnyH_take (i := 20) (v := ?_) rfl (by kernel_rfl) (by kernel_rfl) (by kernel_rfl) (fun _ _ _ h => h) (Or.inl ⟨by rfl, ?_⟩) (by assumption) ?_
    rotate_left
    · intro w0 hSw; (try dsimp only at hSw); go_simp <;> with_reducible rfl
    try simp only [Act.put, List.getElem_toArray, List.getElem_cons_zero, List.getElem_cons_succ, List.setIfInBounds_toArray, List.set_cons_zero, List.set_cons_succ]
    refine wpAnyH_take (i := 21) (v := ?_) rfl (by kernel_rfl) (by kernel_rfl) (by kernel_rfl) (fun _ _ _ h => h) (Or.inl ⟨by rfl, ?_⟩) (by assumption) ?_
    rotate_left
    · intro w0 hSw; (try dsimp only at hSw); go_simp <;> with_reducible rfl
    try simp only [Act.put, List.getElem_toArray, List.getElem_cons_zero, List.getElem_cons_succ, List.setIfInBounds_toArray, List.set_cons_zero, List.set_cons_succ]
    refine wpAnyH_take (i := 22) (v := ?_) rfl (by kernel_rfl) (by kernel_rfl) (by kernel_rfl) (fun _ _ _ h => h) (Or.inl ⟨by rfl, ?_⟩) (by assumption) ?_
    rotate_left
    · intro w0 hSw; (try dsimp only at hSw); go_simp <;> with_reducible rfl
    try simp only [Act.put, List.getElem_toArray, List.getElem_cons_zero, List.getElem_cons_succ, List.setIfInBounds_toArray, List.set_cons_zero, List.set_cons_succ]
    refine wpAnyH_take (i := 24) (v := ?_) rfl (by kernel_rfl) (by kernel_rfl) (by kernel_rfl) (fun _ _ _ h => h) (Or.inl ⟨by rfl, ?_⟩) (by assumption) ?_
    rotate_left
    · intro w0 hSw; (try dsimp only at hSw); go_simp <;> with_reducible rfl
    try simp only [Act.put, List.getElem_toArray, List.getElem_cons_zero, List.getElem_cons_succ, List.setIfInBounds_toArray, List.set_cons_zero, List.set_cons_succ]
    refine wpAnyH_ready (rs := [23]) (by kernel_rfl) (by simp) ?_
    refine AllReadyH.cons rfl (fun K hK => ?_) AllReadyH.nil
    go_simp
    (first | (go_at_call 18; refine (RW.out _ q8).mono ?_; rintro e w9a ⟨rfl, qq, hw9a⟩; have q9a : Below w8.heap.size w8 w9a := (by rw [hw9a]; exact below_drewN q8 qq); clear hw9a) | (go_at_call 19; refine (BW.out _ q9a).mono ?_; rintro e w10 ⟨A10, c10, rfl, hc1, hc2, hown10, hb10⟩; have q10 : Below w8.heap.size w8 w10 := q9a.trans (hb10.mono q9a.size)) | (go_at_call 20; refine (SW.out _ A10 c10 q10 (Reads.of_own hown10)).mono ?_; rintro e w9 ⟨rfl, qq2, hw11⟩; have q9 : Below w8.heap.size w8 w9 := (by rw [hw11]; exact below_drewN q10 qq2); clear hw11 hown10 hb10) | fail)
    refine hK.out _ _ (by trivial) (fun hHeld2 => ?_)
    clear hK K
    try clear hHeld
    try simp only [Act.put, List.getElem_toArray, List.getElem_cons_zero, List.getElem_cons_succ, List.setIfInBounds_toArray, List.set_cons_zero, List.set_cons_succ]
    refine wpAnyH_take (i := 25) (v := ?_) rfl (by kernel_rfl) (by kernel_rfl) (by kernel_rfl) (fun _ _ _ h => h) (Or.inl ⟨by rfl, ?_⟩) (by assumption) ?_
    rotate_left
    · intro w0 hSw; (try dsimp only at hSw); go_simp <;> with_reducible rfl
    try simp only [Act.put, List.getElem_toArray, List.getElem_cons_zero, List.getElem_cons_succ, List.setIfInBounds_toArray, List.set_cons_zero, List.set_cons_succ]
    refine wpAnyH_take (i := 26) (v := ?_) rfl (by kernel_rfl) (by kernel_rfl) (by kernel_rfl) (fun _ _ _ h => h) (Or.inl ⟨by rfl, ?_⟩) (by assumption) ?_
    rotate_left
    · intro w0 hSw; (try dsimp only at hSw); go_simp <;> with_reducible rfl
    try simp only [Act.put, List.getElem_toArray, List.getElem_cons_zero, List.getElem_cons_succ, List.setIfInBounds_toArray, List.set_cons_zero, List.set_cons_succ]
    refine wpAnyH_take (i := 27) (v := ?_) rfl (by kernel_rfl) (by kernel_rfl) (by kernel_rfl) (fun _ _ _ h => h) (Or.inl ⟨by rfl, ?_⟩) (by assumption) ?_
    rotate_left
    · intro w0 hSw; (try dsimp only at hSw); go_simp <;> with_reducible rfl
    try simp only [Act.put, List.getElem_toArray, List.getElem_cons_zero, List.getElem_cons_succ, List.setIfInBounds_toArray, List.set_cons_zero, List.set_cons_succ]
    refine wpAnyH_take (i := 29) (v := ?_) rfl (by kernel_rfl) (by kernel_rfl) (by kernel_rfl) (fun _ _ _ h => h) (Or.inl ⟨by rfl, ?_⟩) (by assumption) ?_
    rotate_left
    · intro w0 hSw; (try dsimp only at hSw); go_simp <;> with_reducible rfl
    try simp only [Act.put, List.getElem_toArray, List.getElem_cons_zero, List.getElem_cons_succ, List.setIfInBounds_toArray, List.set_cons_zero, List.set_cons_succ]
    refine wpAnyH_ready (rs := [28]) (by kernel_rfl) (by simp) ?_
    refine AllReadyH.cons rfl (fun K hK => ?_) AllReadyH.nil
    go_simp
    (first | (go_at_call 18; refine (RW.out _ q8).mono ?_; rintro e w9a ⟨rfl, qq, hw9a⟩; have q9a : Below w8.heap.size w8 w9a := (by rw [hw9a]; exact below_drewN q8 qq); clear hw9a) | (go_at_call 19; refine (BW.out _ q9a).mono ?_; rintro e w10 ⟨A10, c10, rfl, hc1, hc2, hown10, hb10⟩; have q10 : Below w8.heap.size w8 w10 := q9a.trans (hb10.mono q9a.size)) | (go_at_call 20; refine (SW.out _ A10 c10 q10 (Reads.of_own hown10)).mono ?_; rintro e w9 ⟨rfl, qq2, hw11⟩; have q9 : Below w8.heap.size w8 w9 := (by rw [hw11]; exact below_drewN q10 qq2); clear hw11 hown10 hb10) | fail)
    refine hK.out _ _ (by trivial) (fun hHeld2 => ?_)
    clear hK K
    try clear hHeld
    try simp only [Act.put, List.getElem_toArray, List.getElem_cons_zero, List.getElem_cons_succ, List.setIfInBounds_toArray, List.set_cons_zero, List.set_cons_succ]
    refine wpAnyH_ready (rs := [30]) (by kernel_rfl) (by simp) ?_
    refine AllReadyH.cons rfl (fun K hK => ?_) AllReadyH.nil
    go_simp
    (first | (go_at_call 18; refine (RW.out _ q8).mono ?_; rintro e w9a ⟨rfl, qq, hw9a⟩; have q9a : Below w8.heap.size w8 w9a := (by rw [hw9a]; exact below_drewN q8 qq); clear hw9a) | (go_at_call 19; refine (BW.out _ q9a).mono ?_; rintro e w10 ⟨A10, c10, rfl, hc1, hc2, hown10, hb10⟩; have q10 : Below w8.heap.size w8 w10 := q9a.trans (hb10.mono q9a.size)) | (go_at_call 20; refine (SW.out _ A10 c10 q10 (Reads.of_own hown10)).mono ?_; rintro e w9 ⟨rfl, qq2, hw11⟩; have q9 : Below w8.heap.size w8 w9 := (by rw [hw11]; exact below_drewN q10 qq2); clear hw11 hown10 hb10) | fail)
    refine hK.out _ _ (by trivial) (fun hHeld2 => ?_)
    clear hK K
    try clear hHeld
    try simp only [Act.put, List.getElem_toArray, List.getElem_cons_zero, List.getElem_cons_succ, List.setIfInBounds_toArray, List.set_cons_zero, List.set_cons_succ]
    refine wpAnyH_take (i := 31) (v := ?_) rfl (by kernel_rfl) (by kernel_rfl) (by kernel_rfl) (fun _ _ _ h => h) (Or.inl ⟨by rfl, ?_⟩) (by assumption) ?_
    rotate_left
    · intro w0 hSw; (try dsimp only at hSw); go_simp <;> with_reducible rfl
    try simp only [Act.put, List.getElem_toArray, List.getElem_cons_zero, List.getElem_cons_succ, List.setIfInBounds_toArray, List.set_cons_zero, List.set_cons_succ]
    refine wpAnyH_take (i := 32) (v := ?_) rfl (by kernel_rfl) (by kernel_rfl) (by kernel_rfl) (fun _ _ _ h => h) (Or.inl ⟨by rfl, ?_⟩) (by assumption) ?_
    rotate_left
    · intro w0 hSw; (try dsimp only at hSw); go_simp <;> with_reducible rfl
    try simp only [Act.put, List.getElem_toArray, List.getElem_cons_zero, List.getElem_cons_succ, List.setIfInBounds_toArray, List.set_cons_zero, List.set_cons_succ]
    refine wpAnyH_take (i := 33) (v := ?_) rfl (by kernel_rfl) (by kernel_rfl) (by kernel_rfl) (fun _ _ _ h => h) (Or.inl ⟨by rfl, ?_⟩) (by assumption) ?_
    rotate_left
    · intro w0 hSw; (try dsimp only at hSw); go_simp <;> with_reducible rfl
    try simp only [Act.put, List.getElem_toArray, List.getElem_cons_zero, List.getElem_cons_succ, List.setIfInBounds_toArray, List.set_cons_zero, List.set_cons_succ]
    refine wpAnyH_take (i := 34) (v := ?_) rfl (by kernel_rfl) (by kernel_rfl) (by kernel_rfl) (fun _ _ _ h => h) (Or.inl ⟨by rfl, ?_⟩) (by assumption) ?_
    rotate_left
    · intro w0 hSw; (try dsimp only at hSw); go_simp <;> with_reducible rfl
    try simp only [Act.put, List.getElem_toArray, List.getElem_cons_zero, List.getElem_cons_succ, List.setIfInBounds_toArray, List.set_cons_zero, List.set_cons_succ]
    refine wpAnyH_done (by kernel_rfl) ?_ _
    clear q8 RW BW SW
    have HB9 := Lib.hid (HB8.out.trans (q9.mono HB8.out.size))
    have H9 := Lib.hid ((H8.out.below q9).less (X' := fun i => i = gl) (fun i hi => .inl hi))
    have HK9 := Lib.hid (HK8.out.below q9 HK8.out.lt)
    have T9 := Lib.hid (TAIL.out w9 HB9.out H9.out HK9.out)
    clear q9 H8 HB8 HK8 HOB8 x0 x1 TAIL hwa hwb hab hac hw9
    go_wp2_with fail
    go_must (refine T9.out.mono ?_)
    rintro e w12 ⟨rfl, h12, ho12⟩
    have H12 := Lib.hid h12
    have HB12 := Lib.hid (HB9.out.trans (ho12.rest H9.out.base_le))
    have HK12 := Lib.hid (HK9.out.only ho12 (fun h => h.2 rfl))
    have hs3 : ((s2.cut true 0) true).1 = [] := by rw [cut_at]; have := cutL_nat 0 (s2 true).1; simpa using this
    have hs3f : ((s2.cut true 0) false).1 = [] := by have := cut_other s2 true 0; rw [show (!true) = false from rfl] at this; rw [this]; exact HF2.out
    have hop := open_encs (st := s2.cut true 0) (a := true) (F := []) (by simp) hs3
    have hopf : ((openSt (s2.cut true 0) true) false).1 = [] := by have := openSt_other (s2.cut true 0) true; rw [show (!true) = false from rfl] at this; rw [this]; exact hs3f
    have C12 := Lib.hid (H12.out.open_ (fun S hd hb => wopen_any true w1.heap.size gd N S (s2.cut true 0) w12 pg (HD.out _ HB12.out).1 hd hb))
    clear T9 h12 ho12 H9 HB9 HK9 hs3 hs3f
    go_wp2_with fail
    go_must (refine C12.out.mono ?_)
    rintro e w13 ⟨v13, G13, gm, rfl, hk13, _, hf13, hm13, ho13, hon13, _⟩
    have H13 := Lib.hid (ho13.less (X' := fun i => i = gl) (fun i hi => .inl hi))
    have HB13 := Lib.hid (HB12.out.trans (hon13.rest H12.out.base_le))
    have HK13 := Lib.hid (HK12.out.only hon13 (fun h => h.2 rfl))
    have hG13 : G13 = [] := by rw [hop.1] at hm13; simpa using hm13
    subst hG13
    obtain ⟨A13, c13, rfl, _, _, _⟩ := own_slice hf13.own
    have hz : ((openSt (s2.cut true 0) true) true).1 = [] := by rw [hop.2]; rfl
    clear C12 hk13 hf13 hm13 ho13 hon13 H12 HB12 HK12 hop
    generalize openSt (s2.cut true 0) true = s4 at *
    have R13 : Hid (Calls Tryz.prog 18 #[.pointer (some ⟨gl, 0, none⟩)] w13 fun e w' => e = .returned (.int .i64 (N : Int)) ∧ ∃ q, w' = w13.drewN q) := by
      obtain ⟨S, hd⟩ := H13.out.bytes
      have := wroom_any true gl w1.heap.size gd N S s4 w13 hd HK13.out
      rw [hz] at this
      show Calls _ _ _ _ _
      simpa using this
    have HZF := Lib.hid hopf
    clear hz hopf
    have hNe : ((N : Int) == (N : Int)) = true := by simp
    go_wp2_with fail
    go_must (refine R13.out.mono ?_)
    rintro e w14 ⟨rfl, q14, hw14⟩
    have H14 : Hid (One false (fun i => i = gl) w14 w1.heap.size gd N s4) := by show One _ _ _ _ _ _ _; rw [hw14]; exact H13.out.below (below_drewN (Below.refl _ _) q14)
    have HB14 : Hid (Below w1.heap.size w1 w14) := by show Below _ _ _; rw [hw14]; exact below_drewN HB13.out q14
    clear hw14 R13 H13 HB13 HK13
    have B14 : Hid (Calls Tryz.prog 19 #[.pointer (some ⟨gd, 0, none⟩), .int .i64 0] w14 fun e w' => ∃ A c, e = .returned (.slice A 0 c) ∧ Below w14.heap.size w14 w') := by
      obtain ⟨S, hd⟩ := H14.out.bytes
      have := bytes_false w1.heap.size gd N S s4 w14 hd
      rw [HZF.out] at this
      exact this.mono fun e w' ⟨v, h1, h2, h3⟩ => by
        obtain ⟨A9, c9, rfl, _, _, _⟩ := own_slice h2
        exact ⟨A9, c9, h1, h3⟩
    go_wp2_with fail
    go_must (refine (C2.out _).mono ?_)
    rintro e _ ⟨rfl, rfl⟩
    go_wp2_with fail
    go_must (refine B14.out.mono ?_)
    rintro e w15 ⟨A15, c15, rfl, hb15⟩
    have HB15 := Lib.hid (HB14.out.trans (hb15.mono HB14.out.size))
    clear B14 hb15
    go_wp2_with fail
    go_must (refine (WK.out _ HB15.out).mono ?_)
    rintro e w16 ⟨rfl, hb16⟩
    go_wp2_with fail
    go_ret
    exact ⟨rfl, (HD.out _ (HB15.out.trans (hb16.mono HB15.out.size))).2.2.2.2.1⟩
end Go.Proofs.YtalkglmneicpoaaGreatDoor
