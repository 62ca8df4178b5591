/-
  FrameJoins.
-/
import Derived.Test.YtiococglmjjagaaDoorFrmRight
namespace Go.Proofs.YtiococglmjjagaaDoor
set_option linter.unusedVariables false
set_option linter.unusedSimpArgs false
open Go.RowKit
theorem scanF_cnt (n : Nat) : ∀ L, (scanF n L).1.length ≤ n := by
  induction n with
  | zero => intro L; simp [scanF]
  | succ n ih =>
    intro L
    simp only [scanF]
    split
    · have := ih (L.drop (getN L))
      simp only [List.length_cons]
      omega
    · simp
theorem scan_cnt (L : List UInt8) : (scan L).1.length ≤ L.length + 1 := scanF_cnt _ _
theorem scanF_end (n : Nat) : ∀ L, (scanF n L).2 ≤ L.length := by
  induction n with
  | zero => intro L; simp [scanF]
  | succ n ih =>
    intro L
    simp only [scanF]
    split
    · next he =>
      have := ih (L.drop (getN L))
      have h2 := getN_pos L he
      rw [List.length_drop] at this
      show getN L + (scanF n (L.drop (getN L))).2 ≤ _
      omega
    · simp
theorem scan_end (L : List UInt8) : (scan L).2 ≤ L.length := scanF_end _ _
theorem cellsG_append (G G' : List FrV) : cellsG (G ++ G') = cellsG G ++ cellsG G' := by simp [cellsG]
theorem encs_push (F : List Fr) (f : Fr) : encs (F ++ [f]) = encs F ++ enc f := by rw [encs, List.flatMap_append]; simp only [encs, List.flatMap_cons, List.flatMap_nil, List.append_nil]
theorem encs_le (F : List Fr) (h : ∀ f ∈ F, f.b.length ≤ 1024) : (encs F).length ≤ F.length * 1033 := by
  induction F with
  | nil => simp [encs]
  | cons f F ih =>
    have h1 := h f (List.mem_cons_self ..)
    have h2 := ih (fun g hg => h g (List.mem_cons_of_mem _ hg))
    show (enc f ++ encs F).length ≤ _
    rw [List.length_append, enc_len, List.length_cons]
    omega
/-- A list of frames that came in, all right: what the walk of its encoding needs of each. -/
theorem right_put {F : List Fr} (h : rightB F = true) {k : Nat} (hk : k < F.length) : putE F[k] = 0 ∧ putL F[k] = enc F[k] ∧ Ok F[k] ∧ F[k].b.length ≤ 1024 := by
  obtain ⟨_, hf⟩ := right_facts h
  obtain ⟨h1, h2, h3⟩ := hf F[k] (List.getElem_mem hk)
  have hE : putE F[k] = 0 := by unfold putE; rw [if_neg (by omega), if_neg (by omega)]
  exact ⟨hE, by unfold putL; rw [if_pos hE], ⟨h1, h2, by omega⟩, h3⟩
set_option maxRecDepth 100000 in
set_option maxHeartbeats 8000000 in
theorem frameJoins_any (A : Option Addr) (n c : Nat) (G : List FrV) (F : List Fr) (hFG : G.map (·.1) = F) (A2 : Option Addr) (n2 c2 : Nat) (xs : List UInt8) (p : Addr) (w : World) (hG : Glob p w) (hl : G.length = n) (hx : FrsR w w.heap.size A G) (hm : n ≤ maxLen) (hr : Reads w w.heap.size 1 A2 n2 (xs.map bval)) (h2 : n2 ≤ c2) (h2m : c2 ≤ maxLen) :
    Calls Tryd.prog 8 #[.slice A n c, .slice A2 n2 c2] w fun e w' => e = .returned (.bool true) ∧ Below w.heap.size w w' := by
  have hlt := hG.lt
  have HD : Hid (∀ W, Below w.heap.size w W → Glob p W ∧ FrsR W w.heap.size A G ∧ Reads W w.heap.size 1 A2 n2 (xs.map bval)) := fun W hW => ⟨hG.below hW hlt, hx.below hW, hr.below hW⟩
  have WK : Hid (∀ W, Below w.heap.size w W → Calls Tryd.prog 10 #[] W fun e w' => e = .returned (.bool true) ∧ Below W.heap.size W w') := fun W hW => works_any p W (hG.below hW hlt)
  have HLx := Lib.hid hr.bytes_len
  have hlF : F.length = n := by rw [← hFG]; simp [hl]
  have HDF : Hid (∀ W, Below w.heap.size w W → FrsRd W w.heap.size A F) := fun W hW => hFG ▸ (HD.out W hW).2.1.frd
  have HFG := Lib.hid hFG
  have C1 := Lib.hid (right_any A n c w.heap.size F w (HDF.out w (Below.refl _ _)) hlF hm)
  have HL := Lib.hid hl
  clear hG hx hr hl hFG
  cases hR : rightB F
  · rw [hR] at C1
    clear hR
    go_enter Tryd.func8, Tryd.ntmps8
    go_wp2_with fail
    go_must (refine C1.out.mono ?_)
    rintro e _ ⟨rfl, rfl⟩
    go_wp2_with fail
    go_must (refine (WK.out _ (Below.refl _ _)).mono ?_)
    rintro e w3 ⟨rfl, hb3⟩
    go_wp2_with fail
    go_ret
    exact ⟨rfl, hb3⟩
  rw [hR] at C1
  by_cases hbig : 4096 < n2
  · clear hR
    go_enter Tryd.func8, Tryd.ntmps8
    go_wp2_with fail
    go_must (refine C1.out.mono ?_)
    rintro e _ ⟨rfl, rfl⟩
    go_wp2_with fail
    go_must (refine (WK.out _ (Below.refl _ _)).mono ?_)
    rintro e w3 ⟨rfl, hb3⟩
    go_wp2_with fail
    go_ret
    exact ⟨rfl, hb3⟩
  have HR := Lib.hid hR
  have hn60 : n ≤ 60 := by have := (right_facts hR).1; omega
  clear hR
  have HF := Lib.hid hlF
  have HLE : Hid (∀ k, (encs (F.take k)).length ≤ 61980) := fun k => by
    have h1 := encs_le (F.take k) (fun f hf => ((right_facts HR.out).2 f (List.mem_of_mem_take hf)).2.2)
    have h2 : (F.take k).length ≤ 60 := by rw [List.length_take, HF.out]; omega
    omega
  clear hlF
  go_enter Tryd.func8, Tryd.ntmps8
  go_wp2_with fail
  go_must (refine C1.out.mono ?_)
  rintro e _ ⟨rfl, rfl⟩
  go_wp2_with fail
  go_loopw [5, 6] (fun v i wr => ∃ k : Nat, k ≤ n ∧ i = .int .i64 k ∧ wr.ownsRow w.heap.size 5 1 v (encs (F.take k)).length ((encs (F.take k)).map bval) ∧ Below w.heap.size w wr) (fun _ i _ => n - (intOf i).toNat)
  case atStart => exact ⟨0, Nat.zero_le _, rfl, by simpa [encs] using World.ownsRow_nil _ _ _ _, Below.refl _ _⟩
  case round =>
    obtain ⟨k, hk, rfl, hown, hbel⟩ := hrel
    have HO := Lib.hid hown
    have HB := Lib.hid hbel
    clear hown hbel C1
    by_cases hlt1 : k < n
    · have hkF : k < F.length := by rw [HF.out]; exact hlt1
      obtain ⟨ad, rfl, y0, x, y1, hxc, hxm, hxr⟩ := (HDF.out wr HB.out).at_ hkF
      obtain ⟨hpE, hpL, _, hb1024⟩ := right_put HR.out hkF
      have HT : Hid (encs (F.take (k + 1)) = encs (F.take k) ++ enc F[k]) := by
        show _ = _; rw [List.take_succ_eq_append_getElem hkF, encs_push]
      have hltI : (k : Int) < (n : Int) := by omega
      have P1 := put_any F[k].k F[k].b x.A x.m x.c w.heap.size wr (HD.out wr HB.out).1.tab hxr HB.out.size (by omega)
      have hE2 : (⟨F[k].k, F[k].b⟩ : Fr) = F[k] := rfl
      rw [hE2, hpE, hpL] at P1
      have hel : (enc F[k]).length ≤ 1033 := by rw [enc_len]; omega
      have HEL := Lib.hid hel
      have C2 := Lib.hid P1
      clear P1 hpE hpL hb1024 hE2 hxr hel
      generalize F[k] = f at *
      rcases x with ⟨xA, xm, xc⟩
      go_wp2_with fail
      go_must (refine C2.out.mono ?_)
      rintro e w2 ⟨v2, rfl, hown2, hb2⟩
      obtain ⟨A3, c3, rfl, _, _, _⟩ := own_slice hown2
      have HO2 := Lib.hid (own_below HO.out hb2)
      have HR2 := Lib.hid (Reads.of_own hown2)
      have HB2 := Lib.hid (HB.out.trans (hb2.mono HB.out.size))
      have hq : ((encs (F.take k)).length + (enc f).length) * 1 ≤ 140737488355328 := by have := HLE.out k; have := HEL.out; omega
      clear hown2 hb2 HO HB C2 y0 y1
      go_wp2_with
        (at_builtin
         go_must (refine wpList_app Tryd.el22 (.tmp 39) (.tmp 40) rfl rfl HO2.out rfl rfl HR2.out (bval_one _) hq HB2.out.size ?_)
         intro v4 w4 hown4 hg4 hv4 hb4)
      have HO4 : Hid (w4.ownsRow w.heap.size 5 1 v4 (encs (F.take (k + 1))).length ((encs (F.take (k + 1))).map bval)) := by
        show World.ownsRow _ _ _ _ _ _ _
        rw [HT.out, List.length_append, List.map_append]
        exact hown4
      have HB4 := Lib.hid (HB2.out.trans hb4)
      clear hown4 hg4 hv4 hb4 HO2 HR2 HB2 hq HT
      go_wp2_with fail
      go_roundw
      case rel => exact ⟨k + 1, by omega, by go_num, HO4.out, HB4.out⟩
      case measure => simp [intOf]; omega
    · obtain rfl : k = n := by omega
      have hFt : F.take k = F := List.take_of_length_le (by rw [HF.out]; omega)
      have HOF : Hid (wr.ownsRow w.heap.size 5 1 u5 (encs F).length ((encs F).map bval)) := by have := HO.out; rwa [hFt] at this
      have hTl : (encs F).length ≤ 61980 := by have := HLE.out k; rwa [hFt] at this
      have HSJ := Lib.hid (scan_join F (fun f hf => by obtain ⟨i, hi, rfl⟩ := List.getElem_of_mem hf; exact (right_put HR.out hi).2.2.1) xs)
      clear HO hFt
      obtain ⟨A5, c5, rfl, hc51, hc52, _⟩ := own_slice HOF.out
      generalize hTe : (encs F).length = T at *
      have HTe := Lib.hid hTe
      clear hTe
      have hq2 : (T + n2) * 1 ≤ 140737488355328 := by omega
      have HX2 := Lib.hid (HD.out wr HB.out).2.2
      go_wp2_with
        (at_builtin
         go_must (refine wpList_app Tryd.el22 (.tmp 45) (.tmp 46) rfl rfl HOF.out rfl rfl HX2.out (bval_one xs) hq2 HB.out.size ?_)
         intro v6 w6 hown6 hg6 hv6 hb6)
      obtain ⟨A6, c6, rfl, hc61, hc62, _⟩ := own_slice hown6
      rw [← List.map_append] at hown6
      have hB6 := HB.out.trans hb6
      have S6 := scan_any A6 (T + n2) c6 w6.heap.size (encs F ++ xs) p w6 (HD.out w6 hB6).1 (Reads.of_own hown6) (Nat.le_refl _) hc61 hc62 (by omega)
      unfold ScanPost at S6
      rw [HSJ.out] at S6
      simp only [HTe.out] at S6
      have C6 := Lib.hid S6
      have HB6 := Lib.hid hB6
      have hM := scan_end xs
      rw [HLx.out] at hM
      have hCnt := scan_cnt xs
      rw [HLx.out] at hCnt
      clear S6 hown6 hg6 hv6 hb6 hB6 hq2 HX2 HOF HB
      go_wp2_with fail
      go_must (refine C6.out.mono ?_)
      rintro e w7 ⟨v7, G7, rfl, hf7, hm7, hb7⟩
      have hB7 := HB6.out.trans (hb7.mono HB6.out.size)
      have S7 := scan_any A2 n2 c2 w.heap.size xs p w7 (HD.out w7 hB7).1 (HD.out w7 hB7).2.2 hB7.size h2 h2m (by omega)
      unfold ScanPost at S7
      have C7 := Lib.hid S7
      have HF7 := Lib.hid hf7
      have HM7 := Lib.hid hm7
      have HB7 := Lib.hid hB7
      clear S7 hf7 hm7 hb7 hB7 C6 HB6
      go_wp2_with fail
      go_must (refine C7.out.mono ?_)
      rintro e w8 ⟨v8, G8, rfl, hf8, hm8, hb8⟩
      have hf78 := HF7.out.below hb8
      obtain ⟨A7, c7, rfl, hc71, hc72, _⟩ := own_slice HF7.out.own
      obtain ⟨A8, c8, rfl, hc81, hc82, _⟩ := own_slice hf8.own
      have HB8 := Lib.hid (HB7.out.trans (hb8.mono HB7.out.size))
      have HR7 := Lib.hid hf78.r
      have HR8 := Lib.hid hf8.r
      have hl8 : G8.length ≤ n2 + 1 := by rw [← List.length_map (f := (·.1)), hm8]; exact hCnt
      have hl7 : G7.length = k + G8.length := by
        have h1 := congrArg List.length HM7.out
        have h3 := congrArg List.length hm8
        rw [List.length_map, List.length_append, HF.out] at h1
        rw [List.length_map] at h3
        omega
      have HM8 := Lib.hid hm8
      have hwT : IntKind.i64.wrap ((T : Int) + ((scan xs).2 : Int)) = (T : Int) + ((scan xs).2 : Int) := IntWalk.i64_in _ (by omega)
      have hTM : ((((T + (scan xs).2 : Nat) : Int)) == (T : Int) + ((scan xs).2 : Int)) = true := by simp
      have ho0 : Hid ((w8.alloc (.cells #[] 24)).ownsRow w8.heap.size 24 2 (.slice (some ⟨w8.heap.size, 0, none⟩) 0 0) 0 []) := own_made w8 [] 0 (Nat.le_refl _) (by simp [maxLen]) #[] rfl rfl
      have hb9 : Below w8.heap.size w8 (w8.alloc (.cells #[] 24)) := (Below.refl _ _).alloc (Nat.le_refl _) _
      have HX9 := Lib.hid (HD.out _ (HB8.out.trans (hb9.mono HB8.out.size))).2.1
      have HB9 := Lib.hid hb9
      have hq9 : (0 + k) * 32 ≤ 140737488355328 := by omega
      have HXR : Hid (Reads (w8.alloc (.cells #[] 24)) w.heap.size 2 A k (cellsG G)) := by
        have := HX9.out.rd
        rw [HL.out] at this
        exact this
      have hq10 : (0 + k + G8.length) * 32 ≤ 140737488355328 := by omega
      clear hf8 hm8 hb8 hf78 HF7 HB7 C7 hM hCnt
      generalize (scan xs).2 = M at *
      go_wp2_with (first | (at_builtin; refine wpList_app_g elFrame (.tmp 63) (.tmp 64) rfl rfl ho0.out rfl rfl HXR.out HX9.out.one hq9 HB9.out.size ?_; intro v10 w10 hown10 hg10 hv10 hb10; have HQ10 := Lib.hid (HB9.out.trans hb10); have HR810 := Lib.hid (HR8.out.below HQ10.out)) | (at_builtin; refine wpList_app_g elFrame (.tmp 65) (.tmp 66) rfl rfl hown10 rfl rfl HR810.out.rd HR810.out.one hq10 HQ10.out.size ?_; intro v11 w11 hown11 hg11 hv11 hb11) | fail)
      have q11 : Below w8.heap.size w8 w11 := HQ10.out.trans hb11
      obtain ⟨A11, c11, rfl, hc111, hc112, _⟩ := own_slice hown11
      have hR11 : FrsR w11 w11.heap.size A11 (G ++ G8) := ⟨by
          have h := Reads.of_own hown11
          rw [List.nil_append, ← cellsG_append] at h
          rw [List.length_append, HL.out]
          simpa using h, fun x hx => by
          rcases List.mem_append.1 hx with h | h
          · exact (((HD.out _ (HB8.out.trans (q11.mono HB8.out.size))).2.1).more (Nat.le_trans HB8.out.size q11.size)).body x h
          · exact ((HR8.out.below q11).more q11.size).body x h⟩
      have hfl : (G ++ G8).map (·.1) = F ++ (scan xs).1 := by rw [List.map_append, HFG.out, HM8.out]
      have hfr7 : FrsRd w11 w8.heap.size A7 (F ++ (scan xs).1) := by have h := (HR7.out.below q11).frd; rw [HM7.out] at h; exact h
      have hfr11 : FrsRd w11 w11.heap.size A11 (F ++ (scan xs).1) := by have h := hR11.frd; rw [hfl] at h; exact h
      have hln7 : (F ++ (scan xs).1).length = k + G8.length := by rw [← HM7.out, List.length_map, hl7]
      have hln11 : (F ++ (scan xs).1).length = 0 + k + G8.length := by rw [← hfl, List.length_map, List.length_append, HL.out]; omega
      have hx7 : k + G8.length ≤ maxLen := by omega
      have hx11 : 0 + k + G8.length ≤ maxLen := Nat.le_trans hc111 hc112
      generalize F ++ (scan xs).1 = ZZ at hfr7 hfr11 hln7 hln11
      have hde : decide (ZZ = ZZ) = true := decide_eq_true rfl
      have S11 := sameFrames_any A7 A11 (k + G8.length) c7 (0 + k + G8.length) c11 w8.heap.size w11.heap.size ZZ ZZ w11 hfr7 hfr11 hln7 hln11 hx7 hx11
      rw [hde] at S11
      have C11 := Lib.hid S11
      have HB11 := Lib.hid (HB8.out.trans (q11.mono HB8.out.size))
      clear hde S11 hR11 hfr7 hfr11 hln7 hln11 hx7 hx11 hfl hown11 hg11 hv11 hb11 q11 hown10 hg10 hv10 hb10 HR810 HQ10 hq10 hq9 HR7 HR8
      go_must (refine C11.out.mono ?_)
      rintro e w12 ⟨rfl, q, hw12⟩
      have HB12 : Hid (Below w.heap.size w w12) := by show Below _ _ _; rw [hw12]; exact below_drewN HB11.out q
      clear hw12 C11
      go_wp2_with fail
      go_must (refine (WK.out _ HB12.out).mono ?_)
      rintro e w13 ⟨rfl, hb13⟩
      have HB13 := Lib.hid (HB12.out.trans (hb13.mono HB12.out.size))
      clear hb13
      go_wp2_with fail
      go_ret
      exact ⟨rfl, HB13.out⟩
end Go.Proofs.YtiococglmjjagaaDoor
