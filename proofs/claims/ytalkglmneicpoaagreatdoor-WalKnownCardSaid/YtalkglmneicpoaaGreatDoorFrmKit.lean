/-
  The kit of frames: SameFrames, SpoilBytes.
-/
import Derived.Test.YtalkglmneicpoaaGreatDoorFrmList
import Derived.Test.YtalkglmneicpoaaGreatDoorLent
namespace Go.Proofs.YtalkglmneicpoaaGreatDoor
set_option linter.unusedVariables false
set_option linter.unusedSimpArgs false
open Go.RowKit
theorem quiet_dr {P : Program} {f : FuncId} {args : Array Value} {w : World} {n : Nat} {v : Value} (h : Calls P f args (w.drewN n) fun e w' => e = .returned v ∧ ∃ m, w' = (w.drewN n).drewN m) :
    Calls P f args (w.drewN n) fun e w'' => e = .returned v ∧ ∃ m, w'' = w.drewN m := h.mono fun _ _ ⟨he, m, hm⟩ => ⟨he, n + m, by rw [hm, World.drewN_drewN]⟩
theorem add_flat (a : Addr) (i j : Nat) (hj : 0 < j) : (⟨(a.add i).block, (a.add i).off + j, none⟩ : Addr) = a.add (i + j) := by
  unfold Addr.add
  by_cases hi : i = 0
  · subst hi; simp; omega
  · simp [hi]; omega
/-- A frame of a list that reads, as the walk reads it. -/
theorem FrsRd.at_ {w : World} {B : Nat} {A : Option Addr} {F : List Fr} (h : FrsRd w B A F) {i : Nat} (hi : i < F.length) :
    ∃ ad, A = some ad ∧ w.cell? (ad.add (i * 2)) = some (ival (F[i]).k) ∧ ∃ x : Sl, w.cell? ⟨(ad.add (i * 2)).block, (ad.add (i * 2)).off + 1, none⟩ = some x.val ∧ x.m ≤ x.c ∧ x.c ≤ maxLen ∧ Reads w B 1 x.A x.m ((F[i]).b.map bval) := by
  obtain ⟨ad, hA, _, hc, x, hx, h1, h2, hr⟩ := h i F[i] (List.getElem?_eq_getElem hi)
  exact ⟨ad, hA, hc, x, (congrArg _ (add_flat ad (i * 2) 1 (by omega))).trans hx, h1, h2, hr⟩
set_option maxRecDepth 100000 in
set_option maxHeartbeats 2000000 in
theorem sameFrames_any (A A' : Option Addr) (n c n' c' B B' : Nat) (F F' : List Fr) (w : World) (hx : FrsRd w B A F) (hy : FrsRd w B' A' F') (hl : F.length = n) (hl' : F'.length = n') (hm : n ≤ maxLen) (hm' : n' ≤ maxLen) :
    Calls Tryz.prog 16 #[.slice A n c, .slice A' n' c'] w fun e w' => e = .returned (.bool (decide (F = F'))) ∧ ∃ m, w' = w.drewN m := by
  unfold maxLen at hm hm'
  by_cases hne : n = n'
  · subst hne
    have HL := Lib.hid hl
    have HL' := Lib.hid hl'
    have HX : Hid (∀ m, FrsRd (w.drewN m) B A F) := fun m => hx.below (below_drewN (Below.refl _ _) m)
    have HY : Hid (∀ m, FrsRd (w.drewN m) B' A' F') := fun m => hy.below (below_drewN (Below.refl _ _) m)
    clear hl hl' hx hy
    go_enter Tryz.func16, Tryz.ntmps16
    go_wp2
    go_loopw [5] (fun i wr => ∃ k m : Nat, k ≤ n ∧ i = .int .i64 k ∧ F.take k = F'.take k ∧ wr = w.drewN m) (fun i _ => n - (intOf i).toNat)
    case atStart => exact ⟨0, 0, by omega, rfl, rfl, rfl⟩
    case round =>
      obtain ⟨k, m, hk, rfl, hkk, hwr⟩ := hrel
      have HK := Lib.hid hkk
      have HW := Lib.hid hwr
      clear hkk
      by_cases hlt : k < n
      · have hk1 : k < F.length := by have := HL.out; omega
        have hk2 : k < F'.length := by have := HL'.out; omega
        obtain ⟨ad, rfl, y0, x, y1, _, hxc, hxr⟩ := (HX.out m).at_ hk1
        obtain ⟨ad', rfl, z0, x', z1, _, hxc', hxr'⟩ := (HY.out m).at_ hk2
        rw [← hwr] at y0 y1 z0 z1 hxr hxr'
        clear hwr
        have hltI : ((k : Int) < (n : Int)) := by omega
        have HE : Hid (F.take (k + 1) = F.take k ++ [F[k]] ∧ F'.take (k + 1) = F'.take k ++ [F'[k]]) := ⟨List.take_succ_eq_append_getElem hk1, List.take_succ_eq_append_getElem hk2⟩
        have HNE : Hid (F[k] ≠ F'[k] → decide (F = F') = false) := fun he => by simp; rintro rfl; exact he rfl
        generalize F[k] = f at *
        generalize F'[k] = f' at *
        rcases f with ⟨fk, fb⟩
        rcases f' with ⟨gk, gb⟩
        by_cases he : fk = gk
        · subst he
          have hb : (fk != fk) = false := by simp
          by_cases hbb : fb = gb
          · subst hbb
            have C1 : Hid (∀ q, Calls Tryz.prog 20 #[x.val, x'.val] (wr.drewN q) fun e w' => e = .returned (.bool true) ∧ ∃ m, w' = (wr.drewN q).drewN m) := fun q => by
              have := sameBytes_any x.A x'.A x.m x.c x'.m x'.c B B' fb fb (wr.drewN q) (hxr.drewN q) (hxr'.drewN q) (by omega) (by omega)
              rwa [decide_eq_true rfl] at this
            clear hxr hxr' hxc hxc'
            go_wp2
            go_quiet ((go_at_call 20; exact quiet_dr (C1.out _)))
            go_wp2
            go_roundw
            case rel => exact ⟨k + 1, m + nq, by omega, by go_num, by rw [HE.out.1, HE.out.2, HK.out], by rw [HW.out, World.drewN_drewN]⟩
            case measure => simp [intOf]; omega
          · have HQ : Hid (decide (F = F') = false) := HNE.out (by simp [hbb])
            have C1 : Hid (∀ q, Calls Tryz.prog 20 #[x.val, x'.val] (wr.drewN q) fun e w' => e = .returned (.bool false) ∧ ∃ m, w' = (wr.drewN q).drewN m) := fun q => by
              have := sameBytes_any x.A x'.A x.m x.c x'.m x'.c B B' fb gb (wr.drewN q) (hxr.drewN q) (hxr'.drewN q) (by omega) (by omega)
              rwa [decide_eq_false hbb] at this
            clear hxr hxr' hxc hxc' HNE
            go_wp2
            go_quiet ((go_at_call 20; exact quiet_dr (C1.out _)))
            go_wp2
            go_ret
            exact ⟨ret_bool HQ.out.symm, m + nq, by rw [HW.out, World.drewN_drewN]⟩
        · have hb : (fk != gk) = true := by rw [bne_iff_ne]; exact he
          have HQ : Hid (decide (F = F') = false) := HNE.out (by simp [he])
          clear hxr hxr' hxc hxc' HNE
          go_wp2
          go_quiet (fail)
          go_wp2
          go_ret
          exact ⟨ret_bool HQ.out.symm, m + nq, by rw [HW.out, World.drewN_drewN]⟩
      · have hq : decide (F = F') = true := by
          have := HL.out; have := HL'.out; have h3 := HK.out
          rw [List.take_of_length_le (by omega), List.take_of_length_le (by omega)] at h3
          simp [h3]
        have HQ := Lib.hid hq
        clear hq hwr
        go_wp2
        go_ret
        exact ⟨ret_bool HQ.out.symm, m, HW.out⟩
  · have he : ((n : Int) != (n' : Int)) = true := by simp; omega
    have hq : decide (F = F') = false := by simp; rintro rfl; omega
    rw [hq]
    clear hl hl' hq hx hy
    go_enter Tryz.func16, Tryz.ntmps16
    go_wp2
    go_ret
    exact ⟨rfl, 0, rfl⟩
set_option maxRecDepth 100000 in
set_option maxHeartbeats 400000 in
theorem markBytes_big (k : Nat) (hk : k ≤ 1099511627776) (w : World) :
    Calls Tryz.prog 57 #[.int .i64 k] w fun e w' => (∃ b : UInt8, e = .returned (bval b)) ∧ w = w' := by
  have hx : IntKind.u8.wrap (201 + 7 * (k : Int)) = ((markB k).toNat : Int) := by
    simp [IntKind.wrap, IntKind.bits, IntKind.signed, markB]
  go_enter Tryz.func57, Tryz.ntmps57
  go_wp2
  go_ret
  exact ⟨⟨markB k, by simp⟩, rfl⟩
set_option maxRecDepth 100000 in
set_option maxHeartbeats 1000000 in
theorem spoil_any (A : Option Addr) (n c base : Nat) (xs : List Value) (w : World) (hown : w.ownsRow base 5 1 (.slice A n c) n xs) (hn : n ≤ 1099511627000) :
    Calls Tryz.prog 39 #[.slice A n c] w fun e w' => e = .returned (.tuple #[]) ∧ Only (fun i => (Value.slice A n c).ownBlock = some i) w w' ∧ ∃ ys, w'.ownsRow base 5 1 (.slice A n c) n ys := by
  go_enter Tryz.func39, Tryz.ntmps39
  go_wp2
  go_loopw [2] (fun i wr => ∃ k : Nat, k ≤ n ∧ i = .int .i64 k ∧ (∃ ys : List Value, wr.ownsRow base 5 1 (.slice A n c) n ys) ∧ Only (fun i => (Value.slice A n c).ownBlock = some i) w wr) (fun i _ => n - (intOf i).toNat)
  case atStart => exact ⟨0, by omega, rfl, ⟨_, hown⟩, Only.refl _ _⟩
  case round =>
    obtain ⟨k, hk, rfl, ⟨ys, ho⟩, hon⟩ := hrel
    by_cases hlt : k < n
    · obtain ⟨g, cap, hv, hg1, hg2⟩ := ho.form (by omega)
      obtain ⟨rfl, rfl⟩ : A = some ⟨g, 0, none⟩ ∧ c = cap := by injection hv with h1 _ h2; exact ⟨h1, h2⟩
      clear hv
      have hly : ys.length = n := by have := ho.1; omega
      have hca : wr.cell? ⟨g, k, none⟩ = some ys[k] := by
        rw [ho.cellAt k (by omega)]; exact List.getElem?_eq_getElem (by omega)
      have hfa : wr.frozen? ⟨g, k, none⟩ = false := ho.frozenAt k
      have HM := Lib.hid (markBytes_big (k + 7) (by omega) wr)
      have HO := Lib.hid ho
      have HON := Lib.hid hon
      clear ho hown hon
      go_wp2_with fail
      go_must (refine HM.out.mono ?_)
      rintro e w2 ⟨⟨b, rfl⟩, rfl⟩
      go_wp2
      go_roundw
      case rel => exact ⟨k + 1, by omega, by go_num, ⟨_, (HO.out.stored k _).1⟩, HON.out.setCell (.inl rfl) _ _⟩
      case measure => simp [intOf]; omega
    · go_wp2
      go_end0
      exact ⟨rfl, hon, ys, ho⟩
end Go.Proofs.YtalkglmneicpoaaGreatDoor
