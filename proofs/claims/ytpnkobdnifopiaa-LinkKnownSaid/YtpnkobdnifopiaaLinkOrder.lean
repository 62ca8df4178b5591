/-
  LinkOrder.
-/
import Derived.Test.YtpnkobdnifopiaaLinkPeeks
namespace Go.Proofs.Ytpnkobdnifopiaa
set_option linter.unusedVariables false
set_option linter.unusedSimpArgs false
open Go.RowKit
def mo (a : Nat) : List Msg := (List.range a).map fun (i : Nat) => msgOf (i : Int)
theorem mo_len (a : Nat) : (mo a).length = a := by simp [mo]
theorem mo_succ (a : Nat) : mo (a + 1) = mo a ++ [msgOf (a : Int)] := by simp [mo, List.range_succ]
theorem mo_at (a b : Nat) (h : b < a) : (mo a)[b]? = some (msgOf (b : Int)) := by simp [mo, h]
theorem push_mo {W w : World} {gl gc most a b : Nat} (hb : b ≤ a) (h : WS W w gl gc most ((mo a).drop b)) :
    Calls Try.prog 11 #[.pointer (some ⟨gl, 0, none⟩), msgV (msgOf (a : Int))] w fun e w' => e = .returned (.bool (decide (a - b < most))) ∧ WS W w' gl gc most ((mo (a + (if a - b < most then 1 else 0))).drop b) ∧ Only (LinkS gl gc) w w' := by
  refine push_ws h ?_ ?_
  · simp [pushOk, mo_len]
  · unfold pushL
    rw [List.length_drop, mo_len]
    by_cases hlt : a - b < most
    · rw [if_pos hlt, if_pos hlt, mo_succ, List.drop_append_of_le_length (by rw [mo_len]; omega)]
    · rw [if_neg hlt, if_neg hlt]; rfl
set_option maxRecDepth 100000 in
set_option maxHeartbeats 8000000 in
theorem linkOrder_any (most : Int) (A : Option Addr) (n c : Nat) (bs : List Bool) (w : World) (hr : Reads w w.heap.size 1 A n (bs.map fun b => Value.bool b)) (hn : n ≤ c) (hc : c ≤ maxLen) :
    Calls Try.prog 4 #[ival most, .slice A n c] w fun e w' => e = .returned (.bool true) ∧ Below w.heap.size w w' := by
  have WK := Lib.hid (fun W : World => works_any W)
  have HM := Lib.hid (fun (a : Nat) (h1 : a ≤ 400) (w : World) => msg_any (a : Int) w (by omega) (by omega))
  have HR := Lib.hid hr
  clear hr hc
  by_cases hbig : 400 < n
  · go_enter Try.func4, Try.ntmps4
    go_wp2_with fail
    go_must (refine (WK.out _).mono ?_)
    rintro e w3 ⟨rfl, hb3⟩
    go_wp2_with fail
    go_ret
    exact ⟨rfl, hb3⟩
  · have C1 := Lib.hid (new_any most w)
    go_enter Try.func4, Try.ntmps4
    go_wp2_with fail
    go_must (refine C1.out.mono ?_)
    rintro e w1 ⟨gl, gc, rfl, hl, hb1⟩
    have H1 : Hid (WS w w1 gl gc (mostOf most) ((mo 0).drop 0)) := ⟨hl, hb1⟩
    clear hl hb1 C1
    obtain ⟨M0, e1⟩ : ∃ M0, (if 64 < most then 64 else most) = M0 := ⟨_, rfl⟩
    have e2 : (if 1 < M0 then M0 else 1) = ((mostOf most : Nat) : Int) := by
      rw [mostOf_cast, ← e1]; unfold mostI; split <;> split <;> (try split) <;> omega
    have hm64 : mostOf most ≤ 64 := by have := mostI_lo most; have := mostOf_cast most; omega
    generalize mostOf most = m at *
    go_wp2_with fail
    clear e1 e2
    go_loopw [7, 8, 9] (fun x y i wr => ∃ k a b : Nat, k ≤ n ∧ a ≤ k ∧ b ≤ a ∧ a - b ≤ m ∧ x = .int .i64 a ∧ y = .int .i64 b ∧ i = .int .i64 k ∧ WS w wr gl gc m ((mo a).drop b)) (fun _ _ i _ => n - (intOf i).toNat)
    case atStart => exact ⟨0, 0, 0, Nat.zero_le _, Nat.zero_le _, Nat.zero_le _, Nat.zero_le _, rfl, rfl, rfl, H1.out⟩
    case round =>
      obtain ⟨k, a, b, hk, hak, hba, habm, rfl, rfl, rfl, hws⟩ := hrel
      have H3 := Lib.hid hws
      clear H1 hws
      by_cases hlt : k < n
      · have hl : (bs.map fun b => Value.bool b).length = n := by have := HR.out.1; omega
        have hlb : k < bs.length := by simpa using (by omega : k < (bs.map fun b => Value.bool b).length)
        obtain ⟨ad, u, rfl, _, hu, y0⟩ := (HR.out.below H3.out.bel).at_ hlt
        obtain rfl : u = .bool bs[k] := by rw [List.getElem?_map, List.getElem?_eq_getElem hlb] at hu; simpa using hu.symm
        clear hu hl
        generalize bs[k] = pk at *
        cases pk
        · by_cases hba2 : b < a
          · obtain ⟨hd, hne, htl⟩ := headD_drop (mo_at a b hba2)
            have P1 : Hid (Calls Try.prog 13 #[.pointer (some ⟨gl, 0, none⟩)] wr fun e w' => e = .returned (.tuple #[msgV (msgOf (b : Int)), .bool true]) ∧ WS w w' gl gc m ((mo a).drop (b + 1)) ∧ Only (LinkS gl gc) wr w') := pop_ws H3.out hne hd htl
            have M1 := Lib.hid (fun W => HM.out b (by omega) W)
            clear hd hne htl
            have hbaI : ((b : Int) < (a : Int)) := by omega
            generalize msgOf (b : Int) = mb at *
            go_wp2_with fail
            go_must (refine P1.out.mono ?_)
            rintro e w5 ⟨rfl, h5, _⟩
            have H5 := Lib.hid h5
            clear h5 P1 H3
            go_wp2_with fail
            have hb6 : Below w5.heap.size w5 (w5.alloc (.cells #[ival mb.k, ival mb.n, ival mb.key, ival mb.v] 31)) := (Below.refl _ _).alloc (Nat.le_refl _) _
            have H6 := Lib.hid (H5.out.below hb6)
            have K6 : Hid (Blk (w5.alloc (.cells #[ival mb.k, ival mb.n, ival mb.key, ival mb.v] 31)) w5.heap.size 31 #[ival mb.k, ival mb.n, ival mb.key, ival mb.v]) := Blk.new _ _ _
            clear hb6 H5
            generalize w5.alloc (.cells #[ival mb.k, ival mb.n, ival mb.key, ival mb.v] 31) = w6 at *
            generalize w5.heap.size = g5 at *
            have HS : Hid (∀ w', Below w6.heap.size w6 w' → w'.cell? ⟨g5, 0, none⟩ = some (ival mb.k) ∧ w'.cell? ⟨g5, 1, none⟩ = some (ival mb.n) ∧ w'.cell? ⟨g5, 2, none⟩ = some (ival mb.key) ∧ w'.cell? ⟨g5, 3, none⟩ = some (ival mb.v)) := fun w' hb => by
              have kk := K6.out.below hb K6.out.lt
              exact ⟨kk.cell 0, kk.cell 1, kk.cell 2, kk.cell 3⟩
            obtain ⟨x0, x1, x2, x3⟩ := HS.out w6 (Below.refl _ _)
            --REGION
            refine wp_region_held_drew (S := (fun w' => w'.cell? ⟨g5, 0, none⟩ = some (ival mb.k) ∧ w'.cell? ⟨g5, 1, none⟩ = some (ival mb.n) ∧ w'.cell? ⟨g5, 2, none⟩ = some (ival mb.key) ∧ w'.cell? ⟨g5, 3, none⟩ = some (ival mb.v))) (by kernel_rfl) (by first | exact HS.out _ (Below.refl _ _).drew | exact HS.out _ ((Below.refl _ _).drew.trans hb7)) (fun hHeld => ?_)
            refine wpAnyH_take (i := 0) (v := ?_) rfl (by kernel_rfl) (by kernel_rfl) (by kernel_rfl) (fun _ _ _ h => h) (Or.inl ⟨by rfl, ?_⟩) (by assumption) ?_
            rotate_left
            · intro w0 hSw; (try dsimp only at hSw); go_simp <;> with_reducible rfl
            try simp only [Act.put, List.getElem_toArray, List.getElem_cons_zero, List.getElem_cons_succ, List.setIfInBounds_toArray, List.set_cons_zero, List.set_cons_succ]
            refine wpAnyH_take (i := 1) (v := ?_) rfl (by kernel_rfl) (by kernel_rfl) (by kernel_rfl) (fun _ _ _ h => h) (Or.inl ⟨by rfl, ?_⟩) (by assumption) ?_
            rotate_left
            · intro w0 hSw; (try dsimp only at hSw); go_simp <;> with_reducible rfl
            try simp only [Act.put, List.getElem_toArray, List.getElem_cons_zero, List.getElem_cons_succ, List.setIfInBounds_toArray, List.set_cons_zero, List.set_cons_succ]
            refine wpAnyH_take (i := 2) (v := ?_) rfl (by kernel_rfl) (by kernel_rfl) (by kernel_rfl) (fun _ _ _ h => h) (Or.inl ⟨by rfl, ?_⟩) (by assumption) ?_
            rotate_left
            · intro w0 hSw; (try dsimp only at hSw); go_simp <;> with_reducible rfl
            try simp only [Act.put, List.getElem_toArray, List.getElem_cons_zero, List.getElem_cons_succ, List.setIfInBounds_toArray, List.set_cons_zero, List.set_cons_succ]
            refine wpAnyH_take (i := 3) (v := ?_) rfl (by kernel_rfl) (by kernel_rfl) (by kernel_rfl) (fun _ _ _ h => h) (Or.inl ⟨by rfl, ?_⟩) (by assumption) ?_
            rotate_left
            · intro w0 hSw; (try dsimp only at hSw); go_simp <;> with_reducible rfl
            try simp only [Act.put, List.getElem_toArray, List.getElem_cons_zero, List.getElem_cons_succ, List.setIfInBounds_toArray, List.set_cons_zero, List.set_cons_succ]
            refine wpAnyH_take (i := 4) (v := ?_) rfl (by kernel_rfl) (by kernel_rfl) (by kernel_rfl) (fun _ _ _ h => h) (Or.inl ⟨by rfl, ?_⟩) (by assumption) ?_
            rotate_left
            · intro w0 hSw; (try dsimp only at hSw); go_simp <;> with_reducible rfl
            try simp only [Act.put, List.getElem_toArray, List.getElem_cons_zero, List.getElem_cons_succ, List.setIfInBounds_toArray, List.set_cons_zero, List.set_cons_succ]
            refine wpAnyH_take (i := 5) (v := ?_) rfl (by kernel_rfl) (by kernel_rfl) (by kernel_rfl) (fun _ _ _ h => h) (Or.inl ⟨by rfl, ?_⟩) (by assumption) ?_
            rotate_left
            · intro w0 hSw; (try dsimp only at hSw); go_simp <;> with_reducible rfl
            try simp only [Act.put, List.getElem_toArray, List.getElem_cons_zero, List.getElem_cons_succ, List.setIfInBounds_toArray, List.set_cons_zero, List.set_cons_succ]
            refine wpAnyH_take (i := 6) (v := ?_) rfl (by kernel_rfl) (by kernel_rfl) (by kernel_rfl) (fun _ _ _ h => h) (Or.inl ⟨by rfl, ?_⟩) (by assumption) ?_
            rotate_left
            · intro w0 hSw; (try dsimp only at hSw); go_simp <;> with_reducible rfl
            try simp only [Act.put, List.getElem_toArray, List.getElem_cons_zero, List.getElem_cons_succ, List.setIfInBounds_toArray, List.set_cons_zero, List.set_cons_succ]
            refine wpAnyH_take (i := 7) (v := ?_) rfl (by kernel_rfl) (by kernel_rfl) (by kernel_rfl) (fun _ _ _ h => h) (Or.inl ⟨by rfl, ?_⟩) (by assumption) ?_
            rotate_left
            · intro w0 hSw; (try dsimp only at hSw); go_simp <;> with_reducible rfl
            try simp only [Act.put, List.getElem_toArray, List.getElem_cons_zero, List.getElem_cons_succ, List.setIfInBounds_toArray, List.set_cons_zero, List.set_cons_succ]
            refine wpAnyH_take (i := 8) (v := ?_) rfl (by kernel_rfl) (by kernel_rfl) (by kernel_rfl) (fun _ _ _ h => h) (Or.inl ⟨by rfl, ?_⟩) (by assumption) ?_
            rotate_left
            · intro w0 hSw; (try dsimp only at hSw); go_simp <;> with_reducible rfl
            try simp only [Act.put, List.getElem_toArray, List.getElem_cons_zero, List.getElem_cons_succ, List.setIfInBounds_toArray, List.set_cons_zero, List.set_cons_succ]
            refine wpAnyH_take (i := 9) (v := ?_) rfl (by kernel_rfl) (by kernel_rfl) (by kernel_rfl) (fun _ _ _ h => h) (Or.inl ⟨by rfl, ?_⟩) (by assumption) ?_
            rotate_left
            · intro w0 hSw; (try dsimp only at hSw); go_simp <;> with_reducible rfl
            try simp only [Act.put, List.getElem_toArray, List.getElem_cons_zero, List.getElem_cons_succ, List.setIfInBounds_toArray, List.set_cons_zero, List.set_cons_succ]
            refine wpAnyH_ready (rs := [10]) (by kernel_rfl) (by simp) ?_
            refine AllReadyH.cons rfl (fun K hK => ?_) AllReadyH.nil
            go_simp
            (go_at_call 21; refine (M1.out _).mono ?_; rintro e w7 ⟨rfl, hb7⟩)
            refine hK.out _ _ (by first | exact HS.out _ (Below.refl _ _).drew | exact HS.out _ ((Below.refl _ _).drew.trans hb7)) (fun hHeld2 => ?_)
            clear hK K hHeld
            try simp only [Act.put, List.getElem_toArray, List.getElem_cons_zero, List.getElem_cons_succ, List.setIfInBounds_toArray, List.set_cons_zero, List.set_cons_succ]
            refine wpAnyH_take (i := 11) (v := ?_) rfl (by kernel_rfl) (by kernel_rfl) (by kernel_rfl) (fun _ _ _ h => h) (Or.inl ⟨by rfl, ?_⟩) (by assumption) ?_
            rotate_left
            · intro w0 hSw; (try dsimp only at hSw); go_simp <;> with_reducible rfl
            try simp only [Act.put, List.getElem_toArray, List.getElem_cons_zero, List.getElem_cons_succ, List.setIfInBounds_toArray, List.set_cons_zero, List.set_cons_succ]
            refine wpAnyH_take (i := 12) (v := ?_) rfl (by kernel_rfl) (by kernel_rfl) (by kernel_rfl) (fun _ _ _ h => h) (Or.inl ⟨by rfl, ?_⟩) (by assumption) ?_
            rotate_left
            · intro w0 hSw; (try dsimp only at hSw); go_simp <;> with_reducible rfl
            try simp only [Act.put, List.getElem_toArray, List.getElem_cons_zero, List.getElem_cons_succ, List.setIfInBounds_toArray, List.set_cons_zero, List.set_cons_succ]
            refine wpAnyH_take (i := 13) (v := ?_) rfl (by kernel_rfl) (by kernel_rfl) (by kernel_rfl) (fun _ _ _ h => h) (Or.inl ⟨by rfl, ?_⟩) (by assumption) ?_
            rotate_left
            · intro w0 hSw; (try dsimp only at hSw); go_simp <;> with_reducible rfl
            try simp only [Act.put, List.getElem_toArray, List.getElem_cons_zero, List.getElem_cons_succ, List.setIfInBounds_toArray, List.set_cons_zero, List.set_cons_succ]
            refine wpAnyH_take (i := 14) (v := ?_) rfl (by kernel_rfl) (by kernel_rfl) (by kernel_rfl) (fun _ _ _ h => h) (Or.inl ⟨by rfl, ?_⟩) (by assumption) ?_
            rotate_left
            · intro w0 hSw; (try dsimp only at hSw); go_simp <;> with_reducible rfl
            try simp only [Act.put, List.getElem_toArray, List.getElem_cons_zero, List.getElem_cons_succ, List.setIfInBounds_toArray, List.set_cons_zero, List.set_cons_succ]
            refine wpAnyH_take (i := 15) (v := ?_) rfl (by kernel_rfl) (by kernel_rfl) (by kernel_rfl) (fun _ _ _ h => h) (Or.inl ⟨by rfl, ?_⟩) (by assumption) ?_
            rotate_left
            · intro w0 hSw; (try dsimp only at hSw); go_simp <;> with_reducible rfl
            try simp only [Act.put, List.getElem_toArray, List.getElem_cons_zero, List.getElem_cons_succ, List.setIfInBounds_toArray, List.set_cons_zero, List.set_cons_succ]
            refine wpAnyH_take (i := 16) (v := ?_) rfl (by kernel_rfl) (by kernel_rfl) (by kernel_rfl) (fun _ _ _ h => h) (Or.inl ⟨by rfl, ?_⟩) (by assumption) ?_
            rotate_left
            · intro w0 hSw; (try dsimp only at hSw); go_simp <;> with_reducible rfl
            try simp only [Act.put, List.getElem_toArray, List.getElem_cons_zero, List.getElem_cons_succ, List.setIfInBounds_toArray, List.set_cons_zero, List.set_cons_succ]
            refine wpAnyH_take (i := 17) (v := ?_) rfl (by kernel_rfl) (by kernel_rfl) (by kernel_rfl) (fun _ _ _ h => h) (Or.inl ⟨by rfl, ?_⟩) (by assumption) ?_
            rotate_left
            · intro w0 hSw; (try dsimp only at hSw); go_simp <;> with_reducible rfl
            try simp only [Act.put, List.getElem_toArray, List.getElem_cons_zero, List.getElem_cons_succ, List.setIfInBounds_toArray, List.set_cons_zero, List.set_cons_succ]
            refine wpAnyH_take (i := 18) (v := undef) rfl (by kernel_rfl) (by kernel_rfl) (by kernel_rfl) (fun _ _ _ h => h) (Or.inr ⟨by rfl, rfl⟩) (by assumption) ?_
            try simp only [Act.put, List.getElem_toArray, List.getElem_cons_zero, List.getElem_cons_succ, List.setIfInBounds_toArray, List.set_cons_zero, List.set_cons_succ]
            refine wpAnyH_take (i := 19) (v := undef) rfl (by kernel_rfl) (by kernel_rfl) (by kernel_rfl) (fun _ _ _ h => h) (Or.inr ⟨by rfl, rfl⟩) (by assumption) ?_
            try simp only [Act.put, List.getElem_toArray, List.getElem_cons_zero, List.getElem_cons_succ, List.setIfInBounds_toArray, List.set_cons_zero, List.set_cons_succ]
            refine wpAnyH_take (i := 20) (v := undef) rfl (by kernel_rfl) (by kernel_rfl) (by kernel_rfl) (fun _ _ _ h => h) (Or.inr ⟨by rfl, rfl⟩) (by assumption) ?_
            try simp only [Act.put, List.getElem_toArray, List.getElem_cons_zero, List.getElem_cons_succ, List.setIfInBounds_toArray, List.set_cons_zero, List.set_cons_succ]
            refine wpAnyH_take (i := 21) (v := ?_) rfl (by kernel_rfl) (by kernel_rfl) (by kernel_rfl) (fun _ _ _ h => h) (Or.inl ⟨by rfl, ?_⟩) (by assumption) ?_
            rotate_left
            · intro w0 hSw; (try dsimp only at hSw); go_simp <;> with_reducible rfl
            try simp only [Act.put, List.getElem_toArray, List.getElem_cons_zero, List.getElem_cons_succ, List.setIfInBounds_toArray, List.set_cons_zero, List.set_cons_succ]
            refine wpAnyH_take (i := 22) (v := ?_) rfl (by kernel_rfl) (by kernel_rfl) (by kernel_rfl) (fun _ _ _ h => h) (Or.inl ⟨by rfl, ?_⟩) (by assumption) ?_
            rotate_left
            · intro w0 hSw; (try dsimp only at hSw); go_simp <;> with_reducible rfl
            try simp only [Act.put, List.getElem_toArray, List.getElem_cons_zero, List.getElem_cons_succ, List.setIfInBounds_toArray, List.set_cons_zero, List.set_cons_succ]
            refine wpAnyH_done (by kernel_rfl) ?_ _
            --ENDREGION
            have H7 := Lib.hid (H6.out.below ((Below.refl _ _).drew.trans hb7))
            clear H6 K6 HS M1 hb7 x0 x1 x2 x3
            --TAIL H7 | w7 | (a : Int) | ((b : Int) + 1) | a | b + 1
            have LE : Hid (∀ q, Calls Try.prog 17 #[.pointer (some ⟨gl, 0, none⟩)] (w7.drewN q) fun e w' => e = .returned (.int .i64 ((a : Int) - ((b : Int) + 1))) ∧ w7.drewN q = w') := fun q => len_ws H7.out (by rw [List.length_drop, mo_len]; omega) q
            have RO : Hid (∀ q, Calls Try.prog 19 #[.pointer (some ⟨gl, 0, none⟩)] (w7.drewN q) fun e w' => e = .returned (.int .i64 ((m : Int) - ((a : Int) - ((b : Int) + 1)))) ∧ ∃ q', w' = (w7.drewN q).drewN q') := fun q => (room_any _ gl gc m _ _ (H7.out.lat.drewN q)).mono fun e w' ⟨he, hq⟩ => ⟨by rw [he, List.length_drop, mo_len, show ((m : Int) - (((a) - (b + 1) : Nat) : Int)) = ((m : Int) - ((a : Int) - ((b : Int) + 1))) by omega], hq⟩
            have LE0 : Hid (Calls Try.prog 17 #[.pointer (some ⟨gl, 0, none⟩)] w7 fun e w' => e = .returned (.int .i64 ((a : Int) - ((b : Int) + 1))) ∧ w7 = w') := LE.out 0
            have RO0 : Hid (Calls Try.prog 19 #[.pointer (some ⟨gl, 0, none⟩)] w7 fun e w' => e = .returned (.int .i64 ((m : Int) - ((a : Int) - ((b : Int) + 1)))) ∧ ∃ q', w' = w7.drewN q') := RO.out 0
            clear RO
            go_wp2_with fail
            go_must (refine LE0.out.mono ?_)
            rintro e _ ⟨rfl, rfl⟩
            go_wp2_with fail
            go_must (refine RO0.out.mono ?_)
            rintro e _ ⟨rfl, q, rfl⟩
            go_wp2_with fail
            go_must (refine (LE.out q).mono ?_)
            rintro e _ ⟨rfl, rfl⟩
            go_wp2_with fail
            go_roundw
            case rel => exact ⟨k + 1, a, b + 1, by omega, by omega, by omega, by omega, by go_num, by go_num, by go_num, H7.out.below (below_drewN (Below.refl _ _) q)⟩
            case measure => simp [intOf]; omega
            --ENDTAIL
          · obtain rfl : b = a := by omega
            have P1 : Hid (Calls Try.prog 13 #[.pointer (some ⟨gl, 0, none⟩)] wr fun e w' => e = .returned (.tuple #[msgV Msg.zero, .bool false]) ∧ WS w w' gl gc m ((mo b).drop b) ∧ Only (LinkS gl gc) wr w') := by
              have hd : (mo b).drop b = [] := List.drop_of_length_le (by rw [mo_len]; omega)
              exact pop_ws H3.out (by rw [hd]; rfl) (by rw [hd]; rfl) (by rw [hd]; rfl)
            simp only [msgV, Msg.zero] at P1
            go_wp2_with fail
            go_must (refine P1.out.mono ?_)
            rintro e w5 ⟨rfl, h5, _⟩
            have H5 := Lib.hid h5
            clear h5 P1 H3
            go_wp2_with fail
            have hb6 : Below w5.heap.size w5 (w5.alloc (.cells #[ival 0, ival 0, ival 0, ival 0] 31)) := (Below.refl _ _).alloc (Nat.le_refl _) _
            have H6 := Lib.hid (H5.out.below hb6)
            have K6 : Hid (Blk (w5.alloc (.cells #[ival 0, ival 0, ival 0, ival 0] 31)) w5.heap.size 31 #[ival 0, ival 0, ival 0, ival 0]) := Blk.new _ _ _
            clear hb6 H5
            generalize w5.alloc (.cells #[ival 0, ival 0, ival 0, ival 0] 31) = w6 at *
            generalize w5.heap.size = g5 at *
            have x0 : w6.cell? ⟨g5, 0, none⟩ = some (ival 0) := K6.out.cell 0
            have x1 : w6.cell? ⟨g5, 1, none⟩ = some (ival 0) := K6.out.cell 1
            have x2 : w6.cell? ⟨g5, 2, none⟩ = some (ival 0) := K6.out.cell 2
            have x3 : w6.cell? ⟨g5, 3, none⟩ = some (ival 0) := K6.out.cell 3
            clear K6
            go_quiet (fail)
            have H7 := Lib.hid (H6.out.below (below_drewN (Below.refl _ _) nq))
            clear H6 x0 x1 x2 x3
            generalize w6.drewN nq = w7 at *
            --TAIL H7 | w7 | (b : Int) | (b : Int) | b | b
            have LE : Hid (∀ q, Calls Try.prog 17 #[.pointer (some ⟨gl, 0, none⟩)] (w7.drewN q) fun e w' => e = .returned (.int .i64 ((b : Int) - (b : Int))) ∧ w7.drewN q = w') := fun q => len_ws H7.out (by rw [List.length_drop, mo_len]; omega) q
            have RO : Hid (∀ q, Calls Try.prog 19 #[.pointer (some ⟨gl, 0, none⟩)] (w7.drewN q) fun e w' => e = .returned (.int .i64 ((m : Int) - ((b : Int) - (b : Int)))) ∧ ∃ q', w' = (w7.drewN q).drewN q') := fun q => (room_any _ gl gc m _ _ (H7.out.lat.drewN q)).mono fun e w' ⟨he, hq⟩ => ⟨by rw [he, List.length_drop, mo_len, show ((m : Int) - (((b) - (b) : Nat) : Int)) = ((m : Int) - ((b : Int) - (b : Int))) by omega], hq⟩
            have LE0 : Hid (Calls Try.prog 17 #[.pointer (some ⟨gl, 0, none⟩)] w7 fun e w' => e = .returned (.int .i64 ((b : Int) - (b : Int))) ∧ w7 = w') := LE.out 0
            have RO0 : Hid (Calls Try.prog 19 #[.pointer (some ⟨gl, 0, none⟩)] w7 fun e w' => e = .returned (.int .i64 ((m : Int) - ((b : Int) - (b : Int)))) ∧ ∃ q', w' = w7.drewN q') := RO.out 0
            clear RO
            go_wp2_with fail
            go_must (refine LE0.out.mono ?_)
            rintro e _ ⟨rfl, rfl⟩
            go_wp2_with fail
            go_must (refine RO0.out.mono ?_)
            rintro e _ ⟨rfl, q, rfl⟩
            go_wp2_with fail
            go_must (refine (LE.out q).mono ?_)
            rintro e _ ⟨rfl, rfl⟩
            go_wp2_with fail
            go_roundw
            case rel => exact ⟨k + 1, b, b, by omega, by omega, by omega, by omega, by go_num, by go_num, by go_num, H7.out.below (below_drewN (Below.refl _ _) q)⟩
            case measure => simp [intOf]; omega
            --ENDTAIL
        · by_cases hroom : a - b < m
          · have P1 : Hid (∀ W, WS w W gl gc m ((mo a).drop b) → Calls Try.prog 11 #[.pointer (some ⟨gl, 0, none⟩), msgV (msgOf (a : Int))] W fun e w' => e = .returned (.bool true) ∧ WS w w' gl gc m ((mo (a + 1)).drop b) ∧ Only (LinkS gl gc) W w') := fun W hW => by
              have := push_mo hba hW
              rwa [if_pos hroom, decide_eq_true hroom] at this
            have M1 := Lib.hid (fun W => HM.out a (by omega) W)
            have hroomI : ((a : Int) - (b : Int)) < (m : Int) := by omega
            go_wp2_with fail
            go_must (refine (M1.out _).mono ?_)
            rintro e w4 ⟨rfl, hb4⟩
            have H4 := Lib.hid (H3.out.below hb4)
            clear hb4 H3 M1
            go_wp2_with fail
            go_must (refine (P1.out _ H4.out).mono ?_)
            rintro e w5 ⟨rfl, h5, _⟩
            have H5 := Lib.hid h5
            clear h5 H4 P1
            --TAIL H5 | w5 | (a : Int) + 1 | (b : Int) | a + 1 | b
            have LE : Hid (∀ q, Calls Try.prog 17 #[.pointer (some ⟨gl, 0, none⟩)] (w5.drewN q) fun e w' => e = .returned (.int .i64 ((a : Int) + 1 - (b : Int))) ∧ w5.drewN q = w') := fun q => len_ws H5.out (by rw [List.length_drop, mo_len]; omega) q
            have RO : Hid (∀ q, Calls Try.prog 19 #[.pointer (some ⟨gl, 0, none⟩)] (w5.drewN q) fun e w' => e = .returned (.int .i64 ((m : Int) - ((a : Int) + 1 - (b : Int)))) ∧ ∃ q', w' = (w5.drewN q).drewN q') := fun q => (room_any _ gl gc m _ _ (H5.out.lat.drewN q)).mono fun e w' ⟨he, hq⟩ => ⟨by rw [he, List.length_drop, mo_len, show ((m : Int) - (((a + 1) - (b) : Nat) : Int)) = ((m : Int) - ((a : Int) + 1 - (b : Int))) by omega], hq⟩
            have LE0 : Hid (Calls Try.prog 17 #[.pointer (some ⟨gl, 0, none⟩)] w5 fun e w' => e = .returned (.int .i64 ((a : Int) + 1 - (b : Int))) ∧ w5 = w') := LE.out 0
            have RO0 : Hid (Calls Try.prog 19 #[.pointer (some ⟨gl, 0, none⟩)] w5 fun e w' => e = .returned (.int .i64 ((m : Int) - ((a : Int) + 1 - (b : Int)))) ∧ ∃ q', w' = w5.drewN q') := RO.out 0
            clear RO
            go_wp2_with fail
            go_must (refine LE0.out.mono ?_)
            rintro e _ ⟨rfl, rfl⟩
            go_wp2_with fail
            go_must (refine RO0.out.mono ?_)
            rintro e _ ⟨rfl, q, rfl⟩
            go_wp2_with fail
            go_must (refine (LE.out q).mono ?_)
            rintro e _ ⟨rfl, rfl⟩
            go_wp2_with fail
            go_roundw
            case rel => exact ⟨k + 1, a + 1, b, by omega, by omega, by omega, by omega, by go_num, by go_num, by go_num, H5.out.below (below_drewN (Below.refl _ _) q)⟩
            case measure => simp [intOf]; omega
            --ENDTAIL
          · have P1 : Hid (∀ W, WS w W gl gc m ((mo a).drop b) → Calls Try.prog 11 #[.pointer (some ⟨gl, 0, none⟩), msgV (msgOf (a : Int))] W fun e w' => e = .returned (.bool false) ∧ WS w w' gl gc m ((mo a).drop b) ∧ Only (LinkS gl gc) W w') := fun W hW => by
              have := push_mo hba hW
              rwa [if_neg hroom, decide_eq_false hroom] at this
            have M1 := Lib.hid (fun W => HM.out a (by omega) W)
            have hroomI : ¬ (((a : Int) - (b : Int)) < (m : Int)) := by omega
            have hroomB : decide (((a : Int) - (b : Int)) < (m : Int)) = false := by simp; omega
            go_wp2_with fail
            go_must (refine (M1.out _).mono ?_)
            rintro e w4 ⟨rfl, hb4⟩
            have H4 := Lib.hid (H3.out.below hb4)
            clear hb4 H3 M1
            go_wp2_with fail
            go_must (refine (P1.out _ H4.out).mono ?_)
            rintro e w5 ⟨rfl, h5, _⟩
            have H5 := Lib.hid h5
            clear h5 H4 P1
            --TAIL H5 | w5 | (a : Int) | (b : Int) | a | b
            have LE : Hid (∀ q, Calls Try.prog 17 #[.pointer (some ⟨gl, 0, none⟩)] (w5.drewN q) fun e w' => e = .returned (.int .i64 ((a : Int) - (b : Int))) ∧ w5.drewN q = w') := fun q => len_ws H5.out (by rw [List.length_drop, mo_len]; omega) q
            have RO : Hid (∀ q, Calls Try.prog 19 #[.pointer (some ⟨gl, 0, none⟩)] (w5.drewN q) fun e w' => e = .returned (.int .i64 ((m : Int) - ((a : Int) - (b : Int)))) ∧ ∃ q', w' = (w5.drewN q).drewN q') := fun q => (room_any _ gl gc m _ _ (H5.out.lat.drewN q)).mono fun e w' ⟨he, hq⟩ => ⟨by rw [he, List.length_drop, mo_len, show ((m : Int) - (((a) - (b) : Nat) : Int)) = ((m : Int) - ((a : Int) - (b : Int))) by omega], hq⟩
            have LE0 : Hid (Calls Try.prog 17 #[.pointer (some ⟨gl, 0, none⟩)] w5 fun e w' => e = .returned (.int .i64 ((a : Int) - (b : Int))) ∧ w5 = w') := LE.out 0
            have RO0 : Hid (Calls Try.prog 19 #[.pointer (some ⟨gl, 0, none⟩)] w5 fun e w' => e = .returned (.int .i64 ((m : Int) - ((a : Int) - (b : Int)))) ∧ ∃ q', w' = w5.drewN q') := RO.out 0
            clear RO
            go_wp2_with fail
            go_must (refine LE0.out.mono ?_)
            rintro e _ ⟨rfl, rfl⟩
            go_wp2_with fail
            go_must (refine RO0.out.mono ?_)
            rintro e _ ⟨rfl, q, rfl⟩
            go_wp2_with fail
            go_must (refine (LE.out q).mono ?_)
            rintro e _ ⟨rfl, rfl⟩
            go_wp2_with fail
            go_roundw
            case rel => exact ⟨k + 1, a, b, by omega, by omega, by omega, by omega, by go_num, by go_num, by go_num, H5.out.below (below_drewN (Below.refl _ _) q)⟩
            case measure => simp [intOf]; omega
            --ENDTAIL
      · obtain rfl : k = n := by omega
        go_wp2_with fail
        go_loopw [8] (fun y wr => ∃ b' : Nat, b' ≤ a ∧ y = .int .i64 b' ∧ WS w wr gl gc m ((mo a).drop b')) (fun y _ => a - (intOf y).toNat)
        case atStart => exact ⟨b, hba, rfl, H3.out⟩
        case round =>
          obtain ⟨b', hba', rfl, hws⟩ := hrel
          have H3 := Lib.hid hws
          clear hws
          by_cases hba2 : b' < a
          · obtain ⟨hd, hne, htl⟩ := headD_drop (mo_at a b' hba2)
            have P1 : Hid (Calls Try.prog 13 #[.pointer (some ⟨gl, 0, none⟩)] wr fun e w' => e = .returned (.tuple #[msgV (msgOf (b' : Int)), .bool true]) ∧ WS w w' gl gc m ((mo a).drop (b' + 1)) ∧ Only (LinkS gl gc) wr w') := pop_ws H3.out hne hd htl
            have M1 := Lib.hid (fun W => HM.out b' (by omega) W)
            clear hd hne htl
            generalize msgOf (b' : Int) = mb at *
            go_wp2_with fail
            go_must (refine P1.out.mono ?_)
            rintro e w5 ⟨rfl, h5, _⟩
            have H5 := Lib.hid h5
            clear h5 P1 H3
            go_wp2_with fail
            have hb6 : Below w5.heap.size w5 (w5.alloc (.cells #[ival mb.k, ival mb.n, ival mb.key, ival mb.v] 31)) := (Below.refl _ _).alloc (Nat.le_refl _) _
            have H6 := Lib.hid (H5.out.below hb6)
            have K6 : Hid (Blk (w5.alloc (.cells #[ival mb.k, ival mb.n, ival mb.key, ival mb.v] 31)) w5.heap.size 31 #[ival mb.k, ival mb.n, ival mb.key, ival mb.v]) := Blk.new _ _ _
            clear hb6 H5
            generalize w5.alloc (.cells #[ival mb.k, ival mb.n, ival mb.key, ival mb.v] 31) = w6 at *
            generalize w5.heap.size = g5 at *
            have HS : Hid (∀ w', Below w6.heap.size w6 w' → w'.cell? ⟨g5, 0, none⟩ = some (ival mb.k) ∧ w'.cell? ⟨g5, 1, none⟩ = some (ival mb.n) ∧ w'.cell? ⟨g5, 2, none⟩ = some (ival mb.key) ∧ w'.cell? ⟨g5, 3, none⟩ = some (ival mb.v)) := fun w' hb => by
              have kk := K6.out.below hb K6.out.lt
              exact ⟨kk.cell 0, kk.cell 1, kk.cell 2, kk.cell 3⟩
            obtain ⟨x0, x1, x2, x3⟩ := HS.out w6 (Below.refl _ _)
            first | (go_region_held3 (fun w' => w'.cell? ⟨g5, 0, none⟩ = some (ival mb.k) ∧ w'.cell? ⟨g5, 1, none⟩ = some (ival mb.n) ∧ w'.cell? ⟨g5, 2, none⟩ = some (ival mb.key) ∧ w'.cell? ⟨g5, 3, none⟩ = some (ival mb.v)) (first | exact HS.out _ (Below.refl _ _).drew | exact HS.out _ ((Below.refl _ _).drew.trans hb7)) ((go_at_call 21; refine (M1.out _).mono ?_; rintro e w7 ⟨rfl, hb7⟩))) | fail
            have H7 := Lib.hid (H6.out.below ((Below.refl _ _).drew.trans hb7))
            clear H6 K6 HS M1 hb7 x0 x1 x2 x3
            go_wp2_with fail
            go_roundw
            case rel => exact ⟨b' + 1, by omega, by go_num, H7.out⟩
            case measure => simp [intOf]; omega
          · obtain rfl : b' = a := by omega
            go_wp2_with fail
            go_must (refine (len_any _ gl gc m _ _ H3.out.lat).mono ?_)
            rw [show (((mo b').drop b').length : Int) = 0 by rw [List.length_drop, mo_len]; omega]
            rintro e _ ⟨rfl, rfl⟩
            go_wp2_with fail
            go_must (refine (WK.out _).mono ?_)
            rintro e w3 ⟨rfl, hb3⟩
            go_wp2_with fail
            go_ret
            exact ⟨rfl, H3.out.bel.trans (hb3.mono H3.out.bel.size)⟩
end Go.Proofs.Ytpnkobdnifopiaa
