/-
  WalApart: the walk.
-/
import Derived.Test.YtalkglmneicpoaaDoorWalPlain
namespace Go.Proofs.YtalkglmneicpoaaDoor
set_option linter.unusedVariables false
set_option linter.unusedSimpArgs false
open Go.RowKit
theorem app_true {N : Nat} {st : DSt} {F : List Fr} {k : Nat} (hk : k < F.length) (hF : ∀ f ∈ F, Okk f) (h : (st true).1 = encs (F.take k)) :
    ((appSt N st true F[k]) true).1 = encs (F.take (if appN N st true F[k] = 0 then k + 1 else k)) := by
  by_cases h0 : appN N st true F[k] = 0
  · rw [if_pos h0, appSt_at (hF _ (List.getElem_mem hk)).putE h0, h, List.take_succ_eq_append_getElem hk, encs_app, encs_one]
  · rw [if_neg h0, appSt_no h0, h]
theorem app_false (N : Nat) (st : DSt) (f : Fr) : (appSt N st false f) true = st true := appSt_other N st false f
set_option maxRecDepth 100000 in
set_option maxHeartbeats 32000000 in
theorem walApart_any (n : Int) (A1 : Option Addr) (n1 c1 : Nat) (F1 : List Fr) (A2 : Option Addr) (n2 c2 : Nat) (F2 : List Fr) (keep : Int) (pg : Addr) (w : World) (hG : Glob pg w) (hn1 : -9223372036854775808 ≤ n) (hn2 : n ≤ 9223372036854775807)
    (hx1 : FrsRd w w.heap.size A1 F1) (hl1 : F1.length = n1) (hm1 : n1 ≤ maxLen) (hx2 : FrsRd w w.heap.size A2 F2) (hl2 : F2.length = n2) (hm2 : n2 ≤ c2) (hm3 : c2 ≤ maxLen) :
    Calls Tryd.prog 6 #[.int .i64 n, .slice A1 n1 c1, .slice A2 n2 c2, .int .i64 keep] w fun e w' => e = .returned (.bool true) ∧ Below w.heap.size w w' := by
  have hlt := hG.lt
  have HD : Hid (∀ W, Below w.heap.size w W → Glob pg W ∧ FrsRd W w.heap.size A1 F1 ∧ FrsRd W w.heap.size A2 F2) := fun W hW => ⟨hG.below hW hlt, hx1.below hW, hx2.below hW⟩
  have WK : Hid (∀ W, Below w.heap.size w W → Calls Tryd.prog 8 #[] W fun e w' => e = .returned (.bool true) ∧ Below W.heap.size W w') := fun W hW => wworks_any pg W (HD.out W hW).1
  have HL1 := Lib.hid hl1
  have HL2 := Lib.hid hl2
  have CR1 := Lib.hid (right_any A1 n1 c1 w.heap.size F1 w hx1 hl1 hm1)
  have CR2 := Lib.hid (right_any A2 n2 c2 w.heap.size F2 w hx2 hl2 (Nat.le_trans hm2 hm3))
  clear hG hx1 hx2 hl1 hl2
  cases hR1 : rightB F1
  · rw [hR1] at CR1
    clear hR1
    go_enter Tryd.func6, Tryd.ntmps6
    go_wp2_with fail
    go_must (refine CR1.out.mono ?_)
    rintro e _ ⟨rfl, rfl⟩
    go_wp2_with fail
    go_must (refine (WK.out _ (Below.refl _ _)).mono ?_)
    rintro e w3 ⟨rfl, hb3⟩
    go_wp2_with fail
    go_ret
    exact ⟨rfl, hb3⟩
  rw [hR1] at CR1
  cases hR2 : rightB F2
  · rw [hR2] at CR2
    clear hR1 hR2
    go_enter Tryd.func6, Tryd.ntmps6
    go_wp2_with fail
    go_must (refine CR1.out.mono ?_)
    rintro e _ ⟨rfl, rfl⟩
    go_wp2_with fail
    go_must (refine CR2.out.mono ?_)
    rintro e _ ⟨rfl, rfl⟩
    go_wp2_with fail
    go_must (refine (WK.out _ (Below.refl _ _)).mono ?_)
    rintro e w3 ⟨rfl, hb3⟩
    go_wp2_with fail
    go_ret
    exact ⟨rfl, hb3⟩
  rw [hR2] at CR2
  have HK2 : Hid (∀ f ∈ F2, Okk f) := fun f hf => (right_facts hR2).2 f hf
  have hn60 : n1 ≤ 60 ∧ n2 ≤ 60 := ⟨by have := (right_facts hR1).1; have := HL1.out; omega, by have := (right_facts hR2).1; have := HL2.out; omega⟩
  clear hR1 hR2
  have C2 := Lib.hid (fun W => size_any n W hn1 hn2)
  have hNr : 64 ≤ 64 + (n % 16384).toNat ∧ 64 + (n % 16384).toNat ≤ 16447 := by omega
  generalize 64 + (n % 16384).toNat = N at *
  have C3 := Lib.hid (new_any N hNr.1 (by omega) w)
  go_enter Tryd.func6, Tryd.ntmps6
  go_wp2_with fail
  go_must (refine CR1.out.mono ?_)
  rintro e _ ⟨rfl, rfl⟩
  go_wp2_with fail
  go_must (refine CR2.out.mono ?_)
  rintro e _ ⟨rfl, rfl⟩
  go_wp2_with fail
  go_must (refine (C2.out _).mono ?_)
  rintro e _ ⟨rfl, rfl⟩
  go_wp2_with fail
  go_must (refine C3.out.mono ?_)
  rintro e w2 ⟨gd, rfl, hgd, hb2, hs2, hd2⟩
  have H2 := Lib.hid (One.fresh (hd2 w.heap.size (Nat.le_refl _)) hb2.size)
  have HB2 := Lib.hid hb2
  have C4 := Lib.hid (H2.out.open_ (fun S hd hb => wopen_any false w.heap.size gd N S DSt.new w2 pg (HD.out _ HB2.out).1 hd hb))
  clear hgd hb2 hs2 hd2 CR1 CR2 C3
  go_wp2_with fail
  go_must (refine C4.out.mono ?_)
  rintro e w3 ⟨v3, G3, gl, rfl, hk3, _, hf3, hm3', ho3, hon3, _⟩
  have H3 := Lib.hid (ho3.less (X' := fun i => i = gl) (fun i hi => .inr (.inr hi)))
  have HB3 := Lib.hid (HB2.out.trans (hon3.rest H2.out.base_le))
  have HKL3 := Lib.hid hk3
  obtain ⟨A3, c3, rfl, _, _, _⟩ := own_slice hf3.own
  have C5 := Lib.hid (H3.out.open_ (fun S hd hb => wopen_any true w.heap.size gd N S (openSt DSt.new false) w3 pg (HD.out _ HB3.out).1 hd hb))
  have hs1 : ((openSt (openSt DSt.new false) true) true).1 = [] := by
    have h0 : ((openSt DSt.new false) true) = ([], 0) := openSt_other DSt.new false
    have := (open_encs (st := openSt DSt.new false) (a := true) (F := []) (by simp) (by rw [h0]; rfl)).2
    rw [this]; rfl
  clear C4 hk3 hf3 hm3' ho3 hon3 H2 HB2
  go_wp2_with fail
  go_must (refine C5.out.mono ?_)
  rintro e w4 ⟨v4, G4, gm, rfl, hk4, hgm, hf4, hm4, ho4, hon4, _⟩
  have H4 := Lib.hid (ho4.less (X' := fun i => i = gl ∨ i = gm) (fun i hi => by
    rcases hi with h | h
    · exact .inl h
    · exact .inr (.inr h)))
  have HB4 := Lib.hid (HB3.out.trans (hon4.rest H3.out.base_le))
  have HKL4 := Lib.hid (HKL3.out.only hon4 (fun h => h.2 rfl))
  have HKM4 := Lib.hid hk4
  obtain ⟨A4, c4, rfl, _, _, _⟩ := own_slice hf4.own
  have HT4 := Lib.hid hs1
  clear C5 hk4 hf4 hm4 ho4 hon4 H3 HB3 HKL3 hs1 hgm
  generalize openSt (openSt DSt.new false) true = s0 at *
  go_wp2_with fail
  go_loopw [15, 16, 17] (fun vi vk vj wr => ∃ (i k j : Nat) (st : DSt), vi = .int .i64 i ∧ vk = .int .i64 k ∧ vj = .int .i64 j ∧ i ≤ j ∧ k ≤ j ∧ k ≤ n2 ∧ j ≤ 60 ∧ (st true).1 = encs (F2.take k) ∧ One false (fun i => i = gl ∨ i = gm) wr w.heap.size gd N st ∧ Blk wr gl (lType false) (lCells gd false) ∧ Blk wr gm (lType false) (lCells gd true) ∧ Below w.heap.size w wr) (fun _ _ vj _ => 60 - (intOf vj).toNat)
  case atStart => exact ⟨0, 0, 0, s0, rfl, rfl, rfl, by omega, by omega, by omega, by omega, by simpa [encs] using HT4.out, H4.out, HKL4.out, HKM4.out, HB4.out⟩
  case round =>
    obtain ⟨i, k, j, st, rfl, rfl, rfl, hij, hkj, hkn, hj60, hst, ho, hkl, hkm, hbel⟩ := hrel
    have H := Lib.hid ho
    have HB := Lib.hid hbel
    have HKL := Lib.hid hkl
    have HKM := Lib.hid hkm
    have HT := Lib.hid hst
    clear ho hbel hkl hkm hst H4 HB4 HKL4 HKM4 HT4
    by_cases hgo : j < n1 ∨ j < n2
    · have hac : (j < n1 ∧ i = j) ∨ (j < n1 ∧ i ≠ j) ∨ ¬ j < n1 := by omega
      have hbc : (j < n2 ∧ k = j) ∨ (j < n2 ∧ k ≠ j) ∨ ¬ j < n2 := by omega
      have hj59 : j < 60 := by omega
      rcases hac with hac | hac | hac
      · rcases hbc with hbc | hbc | hbc
        · obtain ⟨ha1, rfl⟩ := hac
          obtain ⟨hb1, rfl⟩ := hbc
          have haI : (k : Int) < (n1 : Int) := by omega
          have hie : ((k : Int) == (k : Int)) = true := by simp
          have hiF : k < F1.length := by have := HL1.out; omega
          have hbI : (k : Int) < (n2 : Int) := by omega
          have hke : ((k : Int) == (k : Int)) = true := by simp
          have hkF : k < F2.length := by have := HL2.out; omega
          obtain ⟨ad, rfl, y0, x, y1, hxm, hxc, hxr⟩ := ((HD.out _ HB.out).2.1).at_ hiF
          have CA := H.out.act (fun S hd hb => wappend_any false gl w.heap.size gd N S st (F1[k]).k (F1[k]).b x.A x.m x.c w.heap.size pg wr (HD.out _ HB.out).1 hlt hd hb HKL.out hxr H.out.base_le (by omega))
          have hTA := app_false N st F1[k]
          have eA : (⟨(F1[k]).k, (F1[k]).b⟩ : Fr) = F1[k] := rfl
          rw [eA] at CA
          generalize F1[k] = fA at *
          rcases fA with ⟨fAk, fAb⟩
          generalize appN N st false ⟨fAk, fAb⟩ = EA at *
          generalize appSt N st false ⟨fAk, fAb⟩ = stA at *
          have DA := Lib.hid CA
          have HTA : Hid ((stA true).1 = encs (F2.take k)) := by show _ = _; rw [hTA]; exact HT.out
          clear CA hTA eA hxr hxm
          go_wp2_with fail
          go_must (refine DA.out.mono ?_)
          rintro e wA ⟨rfl, hoA, honA⟩
          have HA := Lib.hid hoA
          have HBA := Lib.hid (HB.out.trans (honA.rest H.out.base_le))
          have HKLA := Lib.hid (HKL.out.only honA (fun h => h.2 (.inl rfl)))
          have HKMA := Lib.hid (HKM.out.only honA (fun h => h.2 (.inr rfl)))
          clear hoA honA DA y0 y1 H HB HKL HKM HT
          by_cases hEA : EA = 0
          · subst hEA
            obtain ⟨ad2, rfl, z0, x2, z1, hx2m, hx2c, hx2r⟩ := ((HD.out _ HBA.out).2.2).at_ hkF
            have CB := HA.out.act (fun S hd hb => wappend_any true gm w.heap.size gd N S stA (F2[k]).k (F2[k]).b x2.A x2.m x2.c w.heap.size pg wA (HD.out _ HBA.out).1 hlt hd hb HKMA.out hx2r HA.out.base_le (by omega))
            have hTB := app_true (N := N) (st := stA) hkF HK2.out HTA.out
            have eB : (⟨(F2[k]).k, (F2[k]).b⟩ : Fr) = F2[k] := rfl
            rw [eB] at CB
            have HKP : Hid (k + 1 ≤ n2) := by show _ ≤ _; omega
            generalize F2[k] = fB at *
            rcases fB with ⟨fBk, fBb⟩
            generalize appN N stA true ⟨fBk, fBb⟩ = EB at *
            generalize appSt N stA true ⟨fBk, fBb⟩ = stB at *
            have DB := Lib.hid CB
            have HTB := Lib.hid hTB
            clear CB hTB eB hx2r hx2m
            go_wp2_with fail
            go_must (refine DB.out.mono ?_)
            rintro e wB ⟨rfl, hoB, honB⟩
            have HOB := Lib.hid hoB
            have HBB := Lib.hid (HBA.out.trans (honB.rest HA.out.base_le))
            have HKLB := Lib.hid (HKLA.out.only honB (fun h => h.2 (.inl rfl)))
            have HKMB := Lib.hid (HKMA.out.only honB (fun h => h.2 (.inr rfl)))
            clear hoB honB DB z0 z1
            by_cases hEB : EB = 0
            · have HTC : Hid ((stB true).1 = encs (F2.take (k + 1))) := by have := HTB.out; rwa [if_pos hEB] at this
              subst hEB
              go_wp2_with fail
              go_roundw
              case rel => exact ⟨k + 1, k + 1, k + 1, stB, by go_num, by go_num, by go_num, by omega, by omega, HKP.out, by omega, HTC.out, HOB.out, HKLB.out, HKMB.out, HBB.out⟩
              case measure => simp [intOf]; omega
            · have HTC : Hid ((stB true).1 = encs (F2.take k)) := by have := HTB.out; rwa [if_neg hEB] at this
              have hne : ((EB : Int) == 0) = false := by simp; omega
              go_wp2_with fail
              go_roundw
              case rel => exact ⟨k + 1, k, k + 1, stB, by go_num, by go_num, by go_num, by omega, by omega, by omega, by omega, HTC.out, HOB.out, HKLB.out, HKMB.out, HBB.out⟩
              case measure => simp [intOf]; omega
          · have hneA : ((EA : Int) == 0) = false := by simp; omega
            obtain ⟨ad2, rfl, z0, x2, z1, hx2m, hx2c, hx2r⟩ := ((HD.out _ HBA.out).2.2).at_ hkF
            have CB := HA.out.act (fun S hd hb => wappend_any true gm w.heap.size gd N S stA (F2[k]).k (F2[k]).b x2.A x2.m x2.c w.heap.size pg wA (HD.out _ HBA.out).1 hlt hd hb HKMA.out hx2r HA.out.base_le (by omega))
            have hTB := app_true (N := N) (st := stA) hkF HK2.out HTA.out
            have eB : (⟨(F2[k]).k, (F2[k]).b⟩ : Fr) = F2[k] := rfl
            rw [eB] at CB
            have HKP : Hid (k + 1 ≤ n2) := by show _ ≤ _; omega
            generalize F2[k] = fB at *
            rcases fB with ⟨fBk, fBb⟩
            generalize appN N stA true ⟨fBk, fBb⟩ = EB at *
            generalize appSt N stA true ⟨fBk, fBb⟩ = stB at *
            have DB := Lib.hid CB
            have HTB := Lib.hid hTB
            clear CB hTB eB hx2r hx2m
            go_wp2_with fail
            go_must (refine DB.out.mono ?_)
            rintro e wB ⟨rfl, hoB, honB⟩
            have HOB := Lib.hid hoB
            have HBB := Lib.hid (HBA.out.trans (honB.rest HA.out.base_le))
            have HKLB := Lib.hid (HKLA.out.only honB (fun h => h.2 (.inl rfl)))
            have HKMB := Lib.hid (HKMA.out.only honB (fun h => h.2 (.inr rfl)))
            clear hoB honB DB z0 z1
            by_cases hEB : EB = 0
            · have HTC : Hid ((stB true).1 = encs (F2.take (k + 1))) := by have := HTB.out; rwa [if_pos hEB] at this
              subst hEB
              go_wp2_with fail
              go_roundw
              case rel => exact ⟨k, k + 1, k + 1, stB, by go_num, by go_num, by go_num, by omega, by omega, HKP.out, by omega, HTC.out, HOB.out, HKLB.out, HKMB.out, HBB.out⟩
              case measure => simp [intOf]; omega
            · have HTC : Hid ((stB true).1 = encs (F2.take k)) := by have := HTB.out; rwa [if_neg hEB] at this
              have hne : ((EB : Int) == 0) = false := by simp; omega
              go_wp2_with fail
              go_roundw
              case rel => exact ⟨k, k, k + 1, stB, by go_num, by go_num, by go_num, by omega, by omega, by omega, by omega, HTC.out, HOB.out, HKLB.out, HKMB.out, HBB.out⟩
              case measure => simp [intOf]; omega
        · obtain ⟨ha1, rfl⟩ := hac
          have haI : (i : Int) < (n1 : Int) := by omega
          have hie : ((i : Int) == (i : Int)) = true := by simp
          have hiF : i < F1.length := by have := HL1.out; omega
          obtain ⟨hb1, hb2⟩ := hbc
          have hbI : (i : Int) < (n2 : Int) := by omega
          have hke : ((k : Int) == (i : Int)) = false := by simp; omega
          obtain ⟨ad, rfl, y0, x, y1, hxm, hxc, hxr⟩ := ((HD.out _ HB.out).2.1).at_ hiF
          have CA := H.out.act (fun S hd hb => wappend_any false gl w.heap.size gd N S st (F1[i]).k (F1[i]).b x.A x.m x.c w.heap.size pg wr (HD.out _ HB.out).1 hlt hd hb HKL.out hxr H.out.base_le (by omega))
          have hTA := app_false N st F1[i]
          have eA : (⟨(F1[i]).k, (F1[i]).b⟩ : Fr) = F1[i] := rfl
          rw [eA] at CA
          generalize F1[i] = fA at *
          rcases fA with ⟨fAk, fAb⟩
          generalize appN N st false ⟨fAk, fAb⟩ = EA at *
          generalize appSt N st false ⟨fAk, fAb⟩ = stA at *
          have DA := Lib.hid CA
          have HTA : Hid ((stA true).1 = encs (F2.take k)) := by show _ = _; rw [hTA]; exact HT.out
          clear CA hTA eA hxr hxm
          go_wp2_with fail
          go_must (refine DA.out.mono ?_)
          rintro e wA ⟨rfl, hoA, honA⟩
          have HA := Lib.hid hoA
          have HBA := Lib.hid (HB.out.trans (honA.rest H.out.base_le))
          have HKLA := Lib.hid (HKL.out.only honA (fun h => h.2 (.inl rfl)))
          have HKMA := Lib.hid (HKM.out.only honA (fun h => h.2 (.inr rfl)))
          clear hoA honA DA y0 y1 H HB HKL HKM HT
          by_cases hEA : EA = 0
          · subst hEA
            go_wp2_with fail
            go_roundw
            case rel => exact ⟨i + 1, k, i + 1, stA, by go_num, by go_num, by go_num, by omega, by omega, by omega, by omega, HTA.out, HA.out, HKLA.out, HKMA.out, HBA.out⟩
            case measure => simp [intOf]; omega
          · have hneA : ((EA : Int) == 0) = false := by simp; omega
            go_wp2_with fail
            go_roundw
            case rel => exact ⟨i, k, i + 1, stA, by go_num, by go_num, by go_num, by omega, by omega, by omega, by omega, HTA.out, HA.out, HKLA.out, HKMA.out, HBA.out⟩
            case measure => simp [intOf]; omega
        · obtain ⟨ha1, rfl⟩ := hac
          have haI : (i : Int) < (n1 : Int) := by omega
          have hie : ((i : Int) == (i : Int)) = true := by simp
          have hiF : i < F1.length := by have := HL1.out; omega
          have hbI : ¬ ((i : Int) < (n2 : Int)) := by omega
          have hbd : decide ((i : Int) < (n2 : Int)) = false := by simp; omega
          obtain ⟨ad, rfl, y0, x, y1, hxm, hxc, hxr⟩ := ((HD.out _ HB.out).2.1).at_ hiF
          have CA := H.out.act (fun S hd hb => wappend_any false gl w.heap.size gd N S st (F1[i]).k (F1[i]).b x.A x.m x.c w.heap.size pg wr (HD.out _ HB.out).1 hlt hd hb HKL.out hxr H.out.base_le (by omega))
          have hTA := app_false N st F1[i]
          have eA : (⟨(F1[i]).k, (F1[i]).b⟩ : Fr) = F1[i] := rfl
          rw [eA] at CA
          generalize F1[i] = fA at *
          rcases fA with ⟨fAk, fAb⟩
          generalize appN N st false ⟨fAk, fAb⟩ = EA at *
          generalize appSt N st false ⟨fAk, fAb⟩ = stA at *
          have DA := Lib.hid CA
          have HTA : Hid ((stA true).1 = encs (F2.take k)) := by show _ = _; rw [hTA]; exact HT.out
          clear CA hTA eA hxr hxm
          go_wp2_with fail
          go_must (refine DA.out.mono ?_)
          rintro e wA ⟨rfl, hoA, honA⟩
          have HA := Lib.hid hoA
          have HBA := Lib.hid (HB.out.trans (honA.rest H.out.base_le))
          have HKLA := Lib.hid (HKL.out.only honA (fun h => h.2 (.inl rfl)))
          have HKMA := Lib.hid (HKM.out.only honA (fun h => h.2 (.inr rfl)))
          clear hoA honA DA y0 y1 H HB HKL HKM HT
          by_cases hEA : EA = 0
          · subst hEA
            go_wp2_with fail
            go_roundw
            case rel => exact ⟨i + 1, k, i + 1, stA, by go_num, by go_num, by go_num, by omega, by omega, by omega, by omega, HTA.out, HA.out, HKLA.out, HKMA.out, HBA.out⟩
            case measure => simp [intOf]; omega
          · have hneA : ((EA : Int) == 0) = false := by simp; omega
            go_wp2_with fail
            go_roundw
            case rel => exact ⟨i, k, i + 1, stA, by go_num, by go_num, by go_num, by omega, by omega, by omega, by omega, HTA.out, HA.out, HKLA.out, HKMA.out, HBA.out⟩
            case measure => simp [intOf]; omega
      · rcases hbc with hbc | hbc | hbc
        · obtain ⟨ha1, ha2⟩ := hac
          have haI : (j : Int) < (n1 : Int) := by omega
          have hie : ((i : Int) == (j : Int)) = false := by simp; omega
          obtain ⟨hb1, rfl⟩ := hbc
          have hbI : (k : Int) < (n2 : Int) := by omega
          have hke : ((k : Int) == (k : Int)) = true := by simp
          have hkF : k < F2.length := by have := HL2.out; omega
          obtain ⟨ad2, rfl, z0, x2, z1, hx2m, hx2c, hx2r⟩ := ((HD.out _ HB.out).2.2).at_ hkF
          have CB := H.out.act (fun S hd hb => wappend_any true gm w.heap.size gd N S st (F2[k]).k (F2[k]).b x2.A x2.m x2.c w.heap.size pg wr (HD.out _ HB.out).1 hlt hd hb HKM.out hx2r H.out.base_le (by omega))
          have hTB := app_true (N := N) (st := st) hkF HK2.out HT.out
          have eB : (⟨(F2[k]).k, (F2[k]).b⟩ : Fr) = F2[k] := rfl
          rw [eB] at CB
          have HKP : Hid (k + 1 ≤ n2) := by show _ ≤ _; omega
          generalize F2[k] = fB at *
          rcases fB with ⟨fBk, fBb⟩
          generalize appN N st true ⟨fBk, fBb⟩ = EB at *
          generalize appSt N st true ⟨fBk, fBb⟩ = stB at *
          have DB := Lib.hid CB
          have HTB := Lib.hid hTB
          clear CB hTB eB hx2r hx2m
          go_wp2_with fail
          go_must (refine DB.out.mono ?_)
          rintro e wB ⟨rfl, hoB, honB⟩
          have HOB := Lib.hid hoB
          have HBB := Lib.hid (HB.out.trans (honB.rest H.out.base_le))
          have HKLB := Lib.hid (HKL.out.only honB (fun h => h.2 (.inl rfl)))
          have HKMB := Lib.hid (HKM.out.only honB (fun h => h.2 (.inr rfl)))
          clear hoB honB DB z0 z1
          by_cases hEB : EB = 0
          · have HTC : Hid ((stB true).1 = encs (F2.take (k + 1))) := by have := HTB.out; rwa [if_pos hEB] at this
            subst hEB
            go_wp2_with fail
            go_roundw
            case rel => exact ⟨i, k + 1, k + 1, stB, by go_num, by go_num, by go_num, by omega, by omega, HKP.out, by omega, HTC.out, HOB.out, HKLB.out, HKMB.out, HBB.out⟩
            case measure => simp [intOf]; omega
          · have HTC : Hid ((stB true).1 = encs (F2.take k)) := by have := HTB.out; rwa [if_neg hEB] at this
            have hne : ((EB : Int) == 0) = false := by simp; omega
            go_wp2_with fail
            go_roundw
            case rel => exact ⟨i, k, k + 1, stB, by go_num, by go_num, by go_num, by omega, by omega, by omega, by omega, HTC.out, HOB.out, HKLB.out, HKMB.out, HBB.out⟩
            case measure => simp [intOf]; omega
        · obtain ⟨ha1, ha2⟩ := hac
          have haI : (j : Int) < (n1 : Int) := by omega
          have hie : ((i : Int) == (j : Int)) = false := by simp; omega
          obtain ⟨hb1, hb2⟩ := hbc
          have hbI : (j : Int) < (n2 : Int) := by omega
          have hke : ((k : Int) == (j : Int)) = false := by simp; omega
          go_wp2_with fail
          go_roundw
          case rel => exact ⟨i, k, j + 1, st, by go_num, by go_num, by go_num, by omega, by omega, by omega, by omega, HT.out, H.out, HKL.out, HKM.out, HB.out⟩
          case measure => simp [intOf]; omega
        · obtain ⟨ha1, ha2⟩ := hac
          have haI : (j : Int) < (n1 : Int) := by omega
          have hie : ((i : Int) == (j : Int)) = false := by simp; omega
          have hbI : ¬ ((j : Int) < (n2 : Int)) := by omega
          have hbd : decide ((j : Int) < (n2 : Int)) = false := by simp; omega
          go_wp2_with fail
          go_roundw
          case rel => exact ⟨i, k, j + 1, st, by go_num, by go_num, by go_num, by omega, by omega, by omega, by omega, HT.out, H.out, HKL.out, HKM.out, HB.out⟩
          case measure => simp [intOf]; omega
      · rcases hbc with hbc | hbc | hbc
        · have haI : ¬ ((j : Int) < (n1 : Int)) := by omega
          have had : decide ((j : Int) < (n1 : Int)) = false := by simp; omega
          obtain ⟨hb1, rfl⟩ := hbc
          have hbI : (k : Int) < (n2 : Int) := by omega
          have hke : ((k : Int) == (k : Int)) = true := by simp
          have hkF : k < F2.length := by have := HL2.out; omega
          obtain ⟨ad2, rfl, z0, x2, z1, hx2m, hx2c, hx2r⟩ := ((HD.out _ HB.out).2.2).at_ hkF
          have CB := H.out.act (fun S hd hb => wappend_any true gm w.heap.size gd N S st (F2[k]).k (F2[k]).b x2.A x2.m x2.c w.heap.size pg wr (HD.out _ HB.out).1 hlt hd hb HKM.out hx2r H.out.base_le (by omega))
          have hTB := app_true (N := N) (st := st) hkF HK2.out HT.out
          have eB : (⟨(F2[k]).k, (F2[k]).b⟩ : Fr) = F2[k] := rfl
          rw [eB] at CB
          have HKP : Hid (k + 1 ≤ n2) := by show _ ≤ _; omega
          generalize F2[k] = fB at *
          rcases fB with ⟨fBk, fBb⟩
          generalize appN N st true ⟨fBk, fBb⟩ = EB at *
          generalize appSt N st true ⟨fBk, fBb⟩ = stB at *
          have DB := Lib.hid CB
          have HTB := Lib.hid hTB
          clear CB hTB eB hx2r hx2m
          go_wp2_with fail
          go_must (refine DB.out.mono ?_)
          rintro e wB ⟨rfl, hoB, honB⟩
          have HOB := Lib.hid hoB
          have HBB := Lib.hid (HB.out.trans (honB.rest H.out.base_le))
          have HKLB := Lib.hid (HKL.out.only honB (fun h => h.2 (.inl rfl)))
          have HKMB := Lib.hid (HKM.out.only honB (fun h => h.2 (.inr rfl)))
          clear hoB honB DB z0 z1
          by_cases hEB : EB = 0
          · have HTC : Hid ((stB true).1 = encs (F2.take (k + 1))) := by have := HTB.out; rwa [if_pos hEB] at this
            subst hEB
            go_wp2_with fail
            go_roundw
            case rel => exact ⟨i, k + 1, k + 1, stB, by go_num, by go_num, by go_num, by omega, by omega, HKP.out, by omega, HTC.out, HOB.out, HKLB.out, HKMB.out, HBB.out⟩
            case measure => simp [intOf]; omega
          · have HTC : Hid ((stB true).1 = encs (F2.take k)) := by have := HTB.out; rwa [if_neg hEB] at this
            have hne : ((EB : Int) == 0) = false := by simp; omega
            go_wp2_with fail
            go_roundw
            case rel => exact ⟨i, k, k + 1, stB, by go_num, by go_num, by go_num, by omega, by omega, by omega, by omega, HTC.out, HOB.out, HKLB.out, HKMB.out, HBB.out⟩
            case measure => simp [intOf]; omega
        · have haI : ¬ ((j : Int) < (n1 : Int)) := by omega
          have had : decide ((j : Int) < (n1 : Int)) = false := by simp; omega
          obtain ⟨hb1, hb2⟩ := hbc
          have hbI : (j : Int) < (n2 : Int) := by omega
          have hke : ((k : Int) == (j : Int)) = false := by simp; omega
          go_wp2_with fail
          go_roundw
          case rel => exact ⟨i, k, j + 1, st, by go_num, by go_num, by go_num, by omega, by omega, by omega, by omega, HT.out, H.out, HKL.out, HKM.out, HB.out⟩
          case measure => simp [intOf]; omega
        · exact absurd hgo (by omega)
    · have h1 : ¬ ((j : Int) < (n1 : Int)) := by omega
      have h2 : ¬ ((j : Int) < (n2 : Int)) := by omega
      have d1 : decide ((j : Int) < (n1 : Int)) = false := by simp; omega
      have d2 : decide ((j : Int) < (n2 : Int)) = false := by simp; omega
      have D1 : Hid (Calls Tryd.prog 13 #[.pointer (some ⟨gm, 0, none⟩)] wr fun e w' => e = .returned (.tuple #[]) ∧ One false (fun i => i = gl ∨ i = gm) w' w.heap.size gd N (st.sync true) ∧ Only (Rest w.heap.size (fun i => i = gl ∨ i = gm)) wr w') :=
        H.out.act (fun S hd hb => wsync_any true gm w.heap.size gd N S st wr hd hb HKM.out)
      have HS1 : Hid ((st.sync true) true = (encs (F2.take k), (encs (F2.take k)).length)) := by show _ = _; rw [sync_at, HT.out]
      clear hgo HT
      generalize st.sync true = s1 at *
      go_wp2_with fail
      go_must (refine D1.out.mono ?_)
      rintro e w5 ⟨rfl, h5, ho5⟩
      have H5 := Lib.hid h5
      have HB5 := Lib.hid (HB.out.trans (ho5.rest H.out.base_le))
      have HKL5 := Lib.hid (HKL.out.only ho5 (fun h => h.2 (.inl rfl)))
      have D5 : Hid (Calls Tryd.prog 26 #[.pointer (some ⟨gl, 0, none⟩)] w5 fun e w' => e = .returned (.tuple #[]) ∧ One false (fun i => i = gl ∨ i = gm) w' w.heap.size gd N (s1.cut false 0) ∧ Only (Rest w.heap.size (fun i => i = gl ∨ i = gm)) w5 w') :=
        H5.out.act (fun S hd hb => wreset_any false gl w.heap.size gd N S s1 w5 hd hb HKL5.out)
      have HS5 : Hid ((s1.cut false 0) true = (encs (F2.take k), (encs (F2.take k)).length) ∧ ((s1.cut false 0) false) = ([], 0)) := by
        refine ⟨?_, ?_⟩
        · have := cut_other s1 false 0; rw [show (!false) = true from rfl] at this; rw [this]; exact HS1.out
        · rw [cut_at]; have := cutL_nat 0 (s1 false).1; simp at this; rw [this]; rfl
      clear h5 ho5 H HB HKL HKM D1 HS1
      generalize s1.cut false 0 = s2 at *
      go_wp2_with fail
      go_must (refine D5.out.mono ?_)
      rintro e w6 ⟨rfl, h6, ho6⟩
      have H6 := Lib.hid h6
      have HB6 := Lib.hid (HB5.out.trans (ho6.rest H5.out.base_le))
      have D6 : Hid (Calls Tryd.prog 14 #[.pointer (some ⟨gd, 0, none⟩), .int .i64 keep] w6 fun e w' => e = .returned (.tuple #[]) ∧ One false (fun i => i = gl ∨ i = gm) w' w.heap.size gd N (s2.crash keep) ∧ Only (Rest w.heap.size (fun i => i = gl ∨ i = gm)) w6 w') :=
        H6.out.act (fun S hd hb => crash_any w.heap.size gd N S s2 keep w6 hd hb)
      have hcf := crash_found (st := s2) (a := true) (P := F2.take k) (B := []) (keep := keep) (t := 0) (fun f hf => (HK2.out f (List.mem_of_mem_take hf)).ok) (by simp) (by rw [HS5.out.1]; simp [encs]) (by simp) (by omega) (by simp)
      have hcz : ((s2.crash keep) false).1 = encs [] := by rw [crash_at, HS5.out.2]; simp [cutL, encs]
      have hco := open_encs (st := s2.crash keep) (a := false) (F := []) (by simp) hcz
      have HF0 : Hid (openFr (s2.crash keep) false = []) := hco.1
      have HF1 : Hid (openFr (openSt (s2.crash keep) false) true = F2.take k) := by
        show (scan ((openSt (s2.crash keep) false) true).1).1 = _
        have := openSt_other (s2.crash keep) false
        rw [show (!false) = true from rfl] at this
        rw [this]
        have h := hcf.1
        rw [List.take_nil, List.append_nil] at h
        exact h
      clear h6 ho6 H5 HB5 HKL5 D5 HS5 hcf hcz hco
      generalize s2.crash keep = s3 at *
      go_wp2_with fail
      go_must (refine D6.out.mono ?_)
      rintro e w7 ⟨rfl, h7, ho7⟩
      have H7 := Lib.hid h7
      have HB7 := Lib.hid (HB6.out.trans (ho7.rest H6.out.base_le))
      have C7 := Lib.hid (H7.out.open_ (fun S hd hb => wopen_any false w.heap.size gd N S s3 w7 pg (HD.out _ HB7.out).1 hd hb))
      clear h7 ho7 H6 HB6 D6
      go_wp2_with fail
      go_must (refine C7.out.mono ?_)
      rintro e w8 ⟨v8, G8, gl8, rfl, hk8, _, hf8, hm8, ho8, hon8, _⟩
      have hG8 : G8 = [] := by rw [HF0.out] at hm8; simpa using hm8
      subst hG8
      obtain ⟨A8, c8, rfl, _, _, _⟩ := own_slice hf8.own
      have H8 := Lib.hid ho8
      have HB8 := Lib.hid (HB7.out.trans (hon8.rest H7.out.base_le))
      have C8 := Lib.hid (H8.out.open_ (fun S hd hb => wopen_any true w.heap.size gd N S (openSt s3 false) w8 pg (HD.out _ HB8.out).1 hd hb))
      clear C7 hk8 hf8 hm8 ho8 hon8 H7 HB7
      go_wp2_with fail
      go_must (refine C8.out.mono ?_)
      rintro e w9 ⟨v9, G9, gm9, rfl, hk9, _, hf9, hm9, ho9, hon9, _⟩
      rw [HF1.out] at hm9
      obtain ⟨A9, c9, rfl, hc91, hc92, _⟩ := own_slice hf9.own
      have HB9 := Lib.hid (HB8.out.trans (hon9.rest H8.out.base_le))
      have hkc : k ≤ c2 := by omega
      have hkcI : (k : Int) ≤ (c2 : Int) := by omega
      have hl9 : (F2.take k).length = G9.length := by rw [← hm9, List.length_map]
      have hlk : (F2.take k).length = k := by rw [List.length_take]; have := HL2.out; omega
      have S9 := sameFrames_any A9 A2 G9.length c9 k c2 w9.heap.size w.heap.size (F2.take k) (F2.take k) w9 (by have := hf9.rd; rwa [hm9] at this) (((HD.out _ HB9.out).2.2).take k) hl9 hlk (by omega) (by omega)
      rw [decide_eq_true rfl] at S9
      have D9 := Lib.hid S9
      clear C8 hk9 hf9 hm9 ho9 hon9 H8 HB8 S9 hl9 hlk HF0 HF1
      go_wp2_with fail
      go_must (refine D9.out.mono ?_)
      rintro e w10 ⟨rfl, q10, hw10⟩
      have HB10 : Hid (Below w.heap.size w w10) := by show Below _ _ _; rw [hw10]; exact below_drewN HB9.out q10
      clear hw10 D9
      go_wp2_with fail
      go_must (refine (WK.out _ HB10.out).mono ?_)
      rintro e w11 ⟨rfl, hb11⟩
      go_wp2_with fail
      go_ret
      exact ⟨rfl, HB10.out.trans (hb11.mono HB10.out.size)⟩
end Go.Proofs.YtalkglmneicpoaaDoor
