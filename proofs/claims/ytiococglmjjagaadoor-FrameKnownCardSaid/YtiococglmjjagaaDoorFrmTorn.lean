/-
  FrameTorn.
-/
import Derived.Test.YtiococglmjjagaaDoorFrmJoins
import Derived.Test.YtiococglmjjagaaDoorPick
namespace Go.Proofs.YtiococglmjjagaaDoor
set_option linter.unusedVariables false
set_option linter.unusedSimpArgs false
open Go.RowKit
theorem elIntsF : ElemInfo Tryd.prog 41 3 1 8 := .mk' Tryd.underlying41 (z := .int .i64 0) (by kernel_rfl) rfl (by decide) (by decide)
/-- Where the first k frames end, each. -/
def endsL (F : List Fr) (k : Nat) : List Value := (List.range k).map fun i => ival ((encs (F.take (i + 1))).length : Int)
theorem endsL_succ (F : List Fr) (k : Nat) : endsL F (k + 1) = endsL F k ++ [ival ((encs (F.take (k + 1))).length : Int)] := by simp [endsL, List.range_succ]
theorem endsL_at (F : List Fr) (n k : Nat) (h : k < n) : (endsL F n)[k]? = some (ival ((encs (F.take (k + 1))).length : Int)) := by simp [endsL, h]
set_option maxRecDepth 100000 in
set_option maxHeartbeats 8000000 in
theorem frameTorn_any (A : Option Addr) (n c : Nat) (G : List FrV) (F : List Fr) (hFG : G.map (·.1) = F) (cut : Int) (p : Addr) (w : World) (hG : Glob p w) (hl : G.length = n) (hx : FrsR w w.heap.size A G) (hnc : n ≤ c) (hm : n ≤ maxLen) (hc1 : -9223372036854775808 ≤ cut) (hc2 : cut ≤ 9223372036854775807) :
    Calls Tryd.prog 5 #[.slice A n c, ival cut] w fun e w' => e = .returned (.bool true) ∧ Below w.heap.size w w' := by
  have hlt := hG.lt
  have HD : Hid (∀ W, Below w.heap.size w W → Glob p W ∧ FrsR W w.heap.size A G) := fun W hW => ⟨hG.below hW hlt, hx.below hW⟩
  have WK : Hid (∀ W, Below w.heap.size w W → Calls Tryd.prog 10 #[] W fun e w' => e = .returned (.bool true) ∧ Below W.heap.size W w') := fun W hW => works_any p W (hG.below hW hlt)
  have hlF : F.length = n := by rw [← hFG]; simp [hl]
  have HDF : Hid (∀ W, Below w.heap.size w W → FrsRd W w.heap.size A F) := fun W hW => hFG ▸ (HD.out W hW).2.frd
  have C1 := Lib.hid (right_any A n c w.heap.size F w (HDF.out w (Below.refl _ _)) hlF hm)
  clear hG hx hl hFG
  cases hR : rightB F
  · rw [hR] at C1
    clear hR
    go_enter Tryd.func5, Tryd.ntmps5
    go_wp2_with fail
    go_must (refine C1.out.mono ?_)
    rintro e _ ⟨rfl, rfl⟩
    go_wp2_with fail
    go_must (refine (WK.out _ (Below.refl _ _)).mono ?_)
    rintro e w3 ⟨rfl, hb3⟩
    go_wp2_with fail
    go_ret
    exact ⟨rfl, hb3⟩
  rw [hR] at C1
  have HR := Lib.hid hR
  have hn60 : n ≤ 60 := by have := (right_facts hR).1; omega
  clear hR
  have HF := Lib.hid hlF
  have HLE : Hid (∀ k, (encs (F.take k)).length ≤ 61980) := fun k => by
    have h1 := encs_le (F.take k) (fun f hf => ((right_facts HR.out).2 f (List.mem_of_mem_take hf)).2.2)
    have h2 : (F.take k).length ≤ 60 := by rw [List.length_take, HF.out]; omega
    omega
  clear hlF
  go_enter Tryd.func5, Tryd.ntmps5
  go_wp2_with fail
  go_must (refine C1.out.mono ?_)
  rintro e _ ⟨rfl, rfl⟩
  go_wp2_with fail
  go_loopw [5, 6, 7] (fun v u i wr => ∃ k : Nat, k ≤ n ∧ i = .int .i64 k ∧ wr.ownsRow w.heap.size 5 1 v (encs (F.take k)).length ((encs (F.take k)).map bval) ∧ wr.ownsRow w.heap.size 3 1 u k (endsL F k) ∧ Below w.heap.size w wr) (fun _ _ i _ => n - (intOf i).toNat)
  case atStart => exact ⟨0, Nat.zero_le _, rfl, by simpa [encs] using World.ownsRow_nil _ _ _ _, by simpa [endsL] using World.ownsRow_nil _ _ _ _, Below.refl _ _⟩
  case round =>
    obtain ⟨k, hk, rfl, hown, hownE, hbel⟩ := hrel
    have HO := Lib.hid hown
    have HOE := Lib.hid hownE
    have HB := Lib.hid hbel
    clear hown hownE hbel C1
    by_cases hlt1 : k < n
    · have hkF : k < F.length := by rw [HF.out]; exact hlt1
      obtain ⟨ad, rfl, hab, hc0, x, hcx, hxc, hxm, hxr⟩ := HDF.out w (Below.refl _ _) k F[k] (List.getElem?_eq_getElem hkF)
      have HXB := Lib.hid (hxr.bytes_len)
      have HY : Hid (∀ W, Below w.heap.size w W → W.cell? (ad.add (k * 2)) = some (ival F[k].k) ∧ W.cell? ⟨(ad.add (k * 2)).block, (ad.add (k * 2)).off + 1, none⟩ = some x.val ∧ Reads W w.heap.size 1 x.A x.m (F[k].b.map bval)) := fun W hW =>
        ⟨(hW.cell (p := ad.add (k * 2)) (by rw [block_of_add]; exact hab)).trans hc0, (hW.cell (p := ⟨(ad.add (k * 2)).block, (ad.add (k * 2)).off + 1, none⟩) (by show (ad.add (k * 2)).block < _; rw [block_of_add]; exact hab)).trans ((congrArg _ (add_flat ad (k * 2) 1 (by omega))).trans hcx), hxr.below hW⟩
      obtain ⟨hpE, hpL, _, hb1024⟩ := right_put HR.out hkF
      have HT : Hid (encs (F.take (k + 1)) = encs (F.take k) ++ enc F[k]) := by
        show _ = _; rw [List.take_succ_eq_append_getElem hkF, encs_push]
      have HES := Lib.hid (endsL_succ F k)
      have hltI : (k : Int) < (n : Int) := by omega
      have P1 := put_any F[k].k F[k].b x.A x.m x.c w.heap.size wr (HD.out wr HB.out).1.tab (HY.out wr HB.out).2.2 HB.out.size (by omega)
      have hE2 : (⟨F[k].k, F[k].b⟩ : Fr) = F[k] := rfl
      rw [hE2, hpE, hpL] at P1
      have hel : (enc F[k]).length = 9 + x.m := by rw [enc_len, HXB.out]
      rw [hel] at P1
      have hxm1 : x.m ≤ 1024 := by rw [← HXB.out]; exact hb1024
      have HEL := Lib.hid hel
      have C2 := Lib.hid P1
      obtain ⟨y0, y1, _⟩ := HY.out wr HB.out
      clear P1 hpE hpL hb1024 hE2 hxr hel hc0 hcx
      generalize F[k] = f at *
      rcases x with ⟨xA, xm, xc⟩
      have hxm2 : xm ≤ 1024 := hxm1
      have hxc2 : xm ≤ xc := hxc
      clear hxm1 hxc hxm
      have hw9 : IntKind.i64.wrap (9 + (xm : Int)) = 9 + (xm : Int) := IntWalk.i64_in _ (by omega)
      go_wp2_with fail
      go_must (refine C2.out.mono ?_)
      rintro e w2 ⟨v2, rfl, hown2, hb2⟩
      obtain ⟨A3, c3, rfl, _, _, _⟩ := own_slice hown2
      have HO2 := Lib.hid (own_below HO.out hb2)
      have HOE2 := Lib.hid (own_below HOE.out hb2)
      have HR2 := Lib.hid (Reads.of_own hown2)
      have HB2 := Lib.hid (HB.out.trans (hb2.mono HB.out.size))
      have hq : ((encs (F.take k)).length + (9 + xm)) * 1 ≤ 140737488355328 := by have := HLE.out k; omega
      have hq2 : (k + 1) * 8 ≤ 140737488355328 := by omega
      have HLT : Hid ((encs (F.take (k + 1))).length = (encs (F.take k)).length + (9 + xm)) := by show _ = _; rw [HT.out, List.length_append, HEL.out]
      clear hown2 hb2 HO HOE HB C2 y0 y1
      have z1 := (HY.out w2 HB2.out).2.1
      have hlen : (((9 + xm : Nat) : Int) != 9 + (xm : Int)) = false := by simp
      go_wp2_with (first | (at_builtin; refine wpList_app Tryd.el22 (.tmp 46) (.tmp 47) rfl rfl HO2.out rfl rfl HR2.out (bval_one _) hq HB2.out.size ?_; intro v4 w4 hown4 hg4 hv4 hb4; have hE4 := HOE2.out.kept hg4 (own_types_ne HOE2.out HO2.out (by decide)); have HB4 := Lib.hid (HB2.out.trans hb4); obtain ⟨A4, c4, rfl, hc41, hc42, _⟩ := own_slice hown4) | (at_builtin; refine wpList_push w4 elIntsF (.tmp 49) (.tmp 52) rfl rfl hE4 rfl [ival (((encs (F.take k)).length + (9 + xm) : Nat) : Int)] rfl rfl rfl rfl hq2 HB4.out.size ?_; intro v5 w5 hown5 hg5 hv5 hb5 hs5) | fail)
      have HO5 : Hid (w5.ownsRow w.heap.size 5 1 (.slice A4 ((encs (F.take k)).length + (9 + xm)) c4) (encs (F.take (k + 1))).length ((encs (F.take (k + 1))).map bval)) := by
        show World.ownsRow _ _ _ _ _ _ _
        have h := hown4.kept hg5 (own_types_ne hown4 hE4 (by decide))
        rw [HLT.out, HT.out, List.map_append]
        exact h
      have HOE5 : Hid (w5.ownsRow w.heap.size 3 1 v5 (k + 1) (endsL F (k + 1))) := by
        show World.ownsRow _ _ _ _ _ _ _
        rw [HES.out, HLT.out]
        exact hown5
      have HB5 := Lib.hid (HB4.out.trans hb5)
      clear hown4 hg4 hv4 hb4 hE4 hown5 hg5 hv5 hb5 hs5 HO2 HOE2 HR2 HB2 HB4 hq hq2 z1 HT HLT HES
      go_wp2_with fail
      go_roundw
      case rel => exact ⟨k + 1, by omega, by go_num, HO5.out, HOE5.out, HB5.out⟩
      case measure => simp [intOf]; omega
    · obtain rfl : k = n := by omega
      have hFt : F.take k = F := List.take_of_length_le (by rw [HF.out]; omega)
      have HOF : Hid (wr.ownsRow w.heap.size 5 1 u5 (encs F).length ((encs F).map bval)) := by have := HO.out; rwa [hFt] at this
      have hTl : (encs F).length ≤ 61980 := by have := HLE.out k; rwa [hFt] at this
      have HST : Hid (∀ j Q, j ≤ k → (encs (F.take j)).length ≤ Q → (j < k → Q < (encs (F.take (j + 1))).length) → Q ≤ (encs F).length → scan ((encs F).take Q) = (F.take j, (encs (F.take j)).length)) := fun j Q h1 h2 h3 h4 =>
        scan_torn F (fun f hf => by obtain ⟨i, hi, rfl⟩ := List.getElem_of_mem hf; exact (right_put HR.out hi).2.2.1) j Q (by rw [HF.out]; exact h1) h2 (by rw [HF.out]; exact h3) h4
      clear HO hFt
      obtain ⟨A5, c5, rfl, hc51, hc52, _⟩ := own_slice HOF.out
      obtain ⟨A6, c6, rfl, hc61, hc62, _⟩ := own_slice HOE.out
      generalize hTe : (encs F).length = T at *
      have HTe := Lib.hid hTe
      clear hTe
      have hwT1 : IntKind.i64.wrap ((T : Int) + 1) = (T : Int) + 1 := IntWalk.i64_in _ (by omega)
      have hpk := Lib.hid (pick_any cut ((T : Int) + 1) wr (by omega) (by omega) hc1 hc2)
      obtain ⟨Q, hQ⟩ : ∃ Q : Nat, cut % ((T : Int) + 1) = (Q : Int) := ⟨(cut % ((T : Int) + 1)).toNat, by have := Int.emod_nonneg cut (show ((T : Int) + 1) ≠ 0 by omega); omega⟩
      have hQT : Q ≤ T := by have := Int.emod_lt_of_pos cut (show (0 : Int) < (T : Int) + 1 by omega); omega
      rw [hQ] at hpk
      clear hQ
      have hQcI : (Q : Int) ≤ (c5 : Int) := by omega
      go_wp2_with fail
      go_must (refine hpk.out.mono ?_)
      rintro e _ ⟨rfl, rfl⟩
      clear hpk hwT1
      go_wp2_with fail
      go_loop [10, 11] (fun i a => ∃ j : Nat, j ≤ k ∧ i = .int .i64 j ∧ a = .int .i64 ((encs (F.take j)).length : Nat) ∧ (encs (F.take j)).length ≤ Q) (fun i _ => k - (intOf i).toNat)
      case atStart => exact ⟨0, Nat.zero_le _, rfl, rfl, by simp [encs]⟩
      case round =>
        obtain ⟨j, hj, rfl, rfl, hjQ⟩ := hrel
        by_cases hgo : j < k ∧ (encs (F.take (j + 1))).length ≤ Q
        · obtain ⟨hjk, hle⟩ := hgo
          obtain ⟨g6, cap6, hv6, _, _⟩ := HOE.out.form (by omega)
          obtain ⟨rfl, rfl⟩ : A6 = some ⟨g6, 0, none⟩ ∧ c6 = cap6 := by injection hv6 with h1 _ h2; exact ⟨h1, h2⟩
          clear hv6
          have hcj : wr.cell? ⟨g6, j, none⟩ = some (ival ((encs (F.take (j + 1))).length : Int)) := by rw [HOE.out.cellAt j (by omega)]; exact endsL_at F k j hjk
          have hjI : (j : Int) < (k : Int) := by omega
          generalize (encs (F.take j)).length = E0 at *
          generalize hE1 : (encs (F.take (j + 1))).length = E1 at *
          have HE1 := Lib.hid hE1
          clear hE1
          have hleI : (E1 : Int) ≤ (Q : Int) := by omega
          go_wp2_with fail
          go_round
          case rel => exact ⟨j + 1, by omega, by go_num, by rw [HE1.out], by rw [HE1.out]; exact hle⟩
          case measure => simp [intOf]; omega
        · have HSC : Hid (scan ((encs F).take Q) = (F.take j, (encs (F.take j)).length)) := HST.out j Q hj hjQ (fun h => by omega) hQT
          have hRQ : Reads wr wr.heap.size 1 A5 Q (((encs F).take Q).map bval) := by
            have h := (Reads.of_own HOF.out).take (k := Q) hQT
            rwa [Nat.mul_one, ← List.map_take] at h
          have S6 := scan_any A5 Q c5 wr.heap.size ((encs F).take Q) p wr (HD.out wr HB.out).1 hRQ (Nat.le_refl _) (by omega) hc52 (by omega)
          unfold ScanPost at S6
          rw [HSC.out] at S6
          have C6 := Lib.hid S6
          have hjcI : (j : Int) ≤ (c : Int) := by omega
          have HTK : Hid ((F.take j).length = j) := by show _ = _; rw [List.length_take, HF.out]; omega
          clear S6 hRQ HSC HST
          rcases (by omega : j = k ∨ (j < k ∧ Q < (encs (F.take (j + 1))).length)) with hjk | ⟨hjk, hgt⟩
          rotate_left
          focus
            obtain ⟨g6, cap6, hv6, _, _⟩ := HOE.out.form (by omega)
            obtain ⟨rfl, rfl⟩ : A6 = some ⟨g6, 0, none⟩ ∧ c6 = cap6 := by injection hv6 with h1 _ h2; exact ⟨h1, h2⟩
            clear hv6
            have hcj : wr.cell? ⟨g6, j, none⟩ = some (ival ((encs (F.take (j + 1))).length : Int)) := by rw [HOE.out.cellAt j (by omega)]; exact endsL_at F k j hjk
            have hjI : (j : Int) < (k : Int) := by omega
            generalize (encs (F.take (j + 1))).length = E1 at *
            have hgtI : ¬ ((E1 : Int) ≤ (Q : Int)) := by omega
            go_wp2_with fail
          rotate_left
          focus
            have hjI : ¬ ((j : Int) < (k : Int)) := by omega
            clear hjk
            go_wp2_with fail
          all_goals
            go_must (refine C6.out.mono ?_)
            rintro e w7 ⟨v7, G7, rfl, hf7, hm7, hb7⟩
            obtain ⟨A7, c7, rfl, hc71, hc72, _⟩ := own_slice hf7.own
            have hr7 := hf7.r.frd
            rw [hm7] at hr7
            have hl7 : G7.length = j := by rw [← HTK.out, ← hm7, List.length_map]
            have HB7 := Lib.hid (HB.out.trans (hb7.mono HB.out.size))
            rw [hl7] at hc71
            rw [hl7]
            have hde : decide (F.take j = F.take j) = true := decide_eq_true rfl
            have S7 := sameFrames_any A7 A j c7 j c w7.heap.size w.heap.size (F.take j) (F.take j) w7 hr7 ((HDF.out w7 HB7.out).take j) HTK.out HTK.out (by omega) (by omega)
            rw [hde] at S7
            have C7 := Lib.hid S7
            clear S7 hde hr7 hl7 hm7 hf7 hb7 C6
            go_wp2_with fail
            go_must (refine C7.out.mono ?_)
            rintro e w8 ⟨rfl, q, hw8⟩
            have HB8 : Hid (Below w.heap.size w w8) := by show Below _ _ _; rw [hw8]; exact below_drewN HB7.out q
            clear hw8 C7
            go_wp2_with fail
            go_must (refine (WK.out _ HB8.out).mono ?_)
            rintro e w9 ⟨rfl, hb9⟩
            have HB9 := Lib.hid (HB8.out.trans (hb9.mono HB8.out.size))
            clear hb9
            go_wp2_with fail
            go_ret
            exact ⟨rfl, HB9.out⟩
end Go.Proofs.YtiococglmjjagaaDoor
