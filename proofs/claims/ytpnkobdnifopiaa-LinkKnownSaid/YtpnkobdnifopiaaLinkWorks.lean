/-
  The chapter's calls.
-/
import Derived.Test.YtpnkobdnifopiaaLinkMsg
import Derived.Deep.RegionHeld3
namespace Go.Proofs.Ytpnkobdnifopiaa
set_option linter.unusedVariables false
set_option linter.unusedSimpArgs false
open Go.RowKit
theorem LAt.keeps {w w' : World} {base gl gc most a : Nat} {L : List Msg} {cs : Array Value} (h : LAt w base gl gc most L) (k : Blk w a 31 cs) (ho : Only (LinkS gl gc) w w') : Blk w' a 31 cs := by
  refine k.only ho ?_
  rintro (rfl | rfl)
  · exact k.ne_ h.blk (by decide) rfl
  · obtain ⟨s, r, hc⟩ := h.chan
    unfold Blk at k
    rw [k] at hc
    cases hc
/-- A link of a call's own, seen from where the call began. -/
structure WS (W w : World) (gl gc most : Nat) (L : List Msg) : Prop where
  lat : LAt w W.heap.size gl gc most L
  bel : Below W.heap.size W w
theorem WS.below {W w w' : World} {gl gc most : Nat} {L : List Msg} (h : WS W w gl gc most L) (hb : Below w.heap.size w w') : WS W w' gl gc most L := ⟨h.lat.below hb, h.bel.trans (hb.mono h.bel.size)⟩
theorem WS.step {W w w' : World} {gl gc most : Nat} {L L' : List Msg} (h : WS W w gl gc most L) (h' : LAt w' W.heap.size gl gc most L') (ho : Only (LinkS gl gc) w w') : WS W w' gl gc most L' :=
  ⟨h', h.bel.trans (ho.to (fun i hi => by rcases hi with rfl | rfl; exact h.lat.bl; exact h.lat.bc) h.bel.size)⟩
theorem push_ws {W w : World} {gl gc most : Nat} {L : List Msg} {m : Msg} (h : WS W w gl gc most L) {b : Bool} (hb : pushOk most L = b) {L' : List Msg} (hl : pushL most L m = L') :
    Calls Try.prog 11 #[.pointer (some ⟨gl, 0, none⟩), msgV m] w fun e w' => e = .returned (.bool b) ∧ WS W w' gl gc most L' ∧ Only (LinkS gl gc) w w' :=
  (push_any _ gl gc most L m w h.lat).mono fun e w' ⟨he, h1, ho⟩ => ⟨by rw [he, hb], h.step (hl ▸ h1) ho, ho⟩
theorem pop_ws {W w : World} {gl gc most : Nat} {L : List Msg} (h : WS W w gl gc most L) {b : Bool} (hb : (!L.isEmpty) = b) {m : Msg} (hm : L.headD Msg.zero = m) {L' : List Msg} (hl : L.tail = L') :
    Calls Try.prog 13 #[.pointer (some ⟨gl, 0, none⟩)] w fun e w' => e = .returned (.tuple #[msgV m, .bool b]) ∧ WS W w' gl gc most L' ∧ Only (LinkS gl gc) w w' :=
  (pop_any _ gl gc most L w h.lat).mono fun e w' ⟨he, h1, ho⟩ => ⟨by rw [he, hb, hm], h.step (hl ▸ h1) ho, ho⟩
theorem peek_ws {W w : World} {gl gc most : Nat} {L : List Msg} (h : WS W w gl gc most L) {b : Bool} (hb : (!L.isEmpty) = b) {m : Msg} (hm : L.headD Msg.zero = m) :
    Calls Try.prog 15 #[.pointer (some ⟨gl, 0, none⟩)] w fun e w' => e = .returned (.tuple #[msgV m, .bool b]) ∧ WS W w' gl gc most L ∧ Below w.heap.size w w' :=
  (peek_any _ gl gc most L w h.lat).mono fun e w' ⟨he, h1⟩ => ⟨by rw [he, hb, hm], h.below h1, h1⟩
theorem room_ws {W w : World} {gl gc most : Nat} {L : List Msg} (h : WS W w gl gc most L) {z : Int} (hz : (most : Int) - (L.length : Int) = z) :
    Calls Try.prog 19 #[.pointer (some ⟨gl, 0, none⟩)] w fun e w' => e = .returned (.int .i64 z) ∧ Below w.heap.size w w' :=
  (room_any _ gl gc most L w h.lat).mono fun e w' ⟨he, q, hq⟩ => ⟨by rw [he, hz], hq ▸ below_drewN (Below.refl _ _) q⟩
set_option maxRecDepth 100000 in
set_option maxHeartbeats 8000000 in
theorem works_any (W : World) : Calls Try.prog 8 #[] W fun e w' => e = .returned (.bool true) ∧ Below W.heap.size W w' := by
  have HM := Lib.hid (fun (n : Int) (h0 : 0 ≤ n) (h1 : n ≤ 9223372036854775807) (w : World) => msg_any n w h0 h1)
  have CN := Lib.hid (new_any 2 W)
  go_enter Try.func8, Try.ntmps8
  go_wp2_with fail
  go_must (refine CN.out.mono ?_)
  rintro e w1 ⟨gl, gc, rfl, hl, hbe⟩
  have H1 : Hid (WS W w1 gl gc 2 []) := ⟨hl, hbe⟩
  clear hl hbe CN
  go_wp2_with fail
  --STEPS
  go_must (refine (HM.out 1 (by decide) (by decide) _).mono ?_)
  rintro e w2 ⟨rfl, hb⟩
  have H2 := Lib.hid (H1.out.below hb)
  clear hb H1
  go_wp2_with fail
  go_must (refine (push_ws H2.out (m := msgOf 1) (b := true) rfl (L' := [msgOf 1]) rfl).mono ?_)
  rintro e w3 ⟨rfl, h, ho⟩
  have H3 := Lib.hid h
  clear h ho H2
  go_wp2_with fail
  go_must (refine (HM.out 2 (by decide) (by decide) _).mono ?_)
  rintro e w4 ⟨rfl, hb⟩
  have H4 := Lib.hid (H3.out.below hb)
  clear hb H3
  go_wp2_with fail
  go_must (refine (push_ws H4.out (m := msgOf 2) (b := true) rfl (L' := [msgOf 1, msgOf 2]) rfl).mono ?_)
  rintro e w5 ⟨rfl, h, ho⟩
  have H5 := Lib.hid h
  clear h ho H4
  go_wp2_with fail
  go_must (refine (HM.out 3 (by decide) (by decide) _).mono ?_)
  rintro e w6 ⟨rfl, hb⟩
  have H6 := Lib.hid (H5.out.below hb)
  clear hb H5
  go_wp2_with fail
  go_must (refine (push_ws H6.out (m := msgOf 3) (b := false) rfl (L' := [msgOf 1, msgOf 2]) rfl).mono ?_)
  rintro e w7 ⟨rfl, h, ho⟩
  have H7 := Lib.hid h
  clear h ho H6
  go_wp2_with fail
  go_must (refine (len_any _ gl gc 2 [msgOf 1, msgOf 2] _ H7.out.lat).mono ?_)
  rintro e _ ⟨rfl, rfl⟩
  go_wp2_with fail
  go_must (refine (room_ws H7.out (z := 0) rfl).mono ?_)
  rintro e w8 ⟨rfl, hb⟩
  have H8 := Lib.hid (H7.out.below hb)
  clear hb H7
  go_wp2_with fail
  go_must (refine (peek_ws H8.out (b := true) rfl (m := msgOf 1) rfl).mono ?_)
  rintro e w9 ⟨rfl, h, hb⟩
  have H9 := Lib.hid h
  clear h hb H8
  go_wp2_with fail
  have hb : Below w9.heap.size w9 (w9.alloc (.cells #[ival (msgOf 1).k, ival (msgOf 1).n, ival (msgOf 1).key, ival (msgOf 1).v] 31)) := (Below.refl _ _).alloc (Nat.le_refl _) _
  have H10 := Lib.hid (H9.out.below hb)
  have KA : Hid (Blk (w9.alloc (.cells #[ival (msgOf 1).k, ival (msgOf 1).n, ival (msgOf 1).key, ival (msgOf 1).v] 31)) w9.heap.size 31 #[ival (msgOf 1).k, ival (msgOf 1).n, ival (msgOf 1).key, ival (msgOf 1).v]) := Blk.new _ _ _
  clear hb H9
  generalize w9.alloc (.cells #[ival (msgOf 1).k, ival (msgOf 1).n, ival (msgOf 1).key, ival (msgOf 1).v] 31) = w10 at *
  generalize w9.heap.size = ka at *
  go_must (refine (pop_ws H10.out (b := true) rfl (m := msgOf 1) rfl (L' := [msgOf 2]) rfl).mono ?_)
  rintro e w11 ⟨rfl, h, ho⟩
  have H11 := Lib.hid h
  replace KA := Lib.hid (H10.out.lat.keeps KA.out ho)
  clear h ho H10
  go_wp2_with fail
  have hb : Below w11.heap.size w11 (w11.alloc (.cells #[ival (msgOf 1).k, ival (msgOf 1).n, ival (msgOf 1).key, ival (msgOf 1).v] 31)) := (Below.refl _ _).alloc (Nat.le_refl _) _
  have H12 := Lib.hid (H11.out.below hb)
  have KB : Hid (Blk (w11.alloc (.cells #[ival (msgOf 1).k, ival (msgOf 1).n, ival (msgOf 1).key, ival (msgOf 1).v] 31)) w11.heap.size 31 #[ival (msgOf 1).k, ival (msgOf 1).n, ival (msgOf 1).key, ival (msgOf 1).v]) := Blk.new _ _ _
  replace KA := Lib.hid (KA.out.below hb KA.out.lt)
  clear hb H11
  generalize w11.alloc (.cells #[ival (msgOf 1).k, ival (msgOf 1).n, ival (msgOf 1).key, ival (msgOf 1).v] 31) = w12 at *
  generalize w11.heap.size = kb at *
  go_must (refine (HM.out 3 (by decide) (by decide) _).mono ?_)
  rintro e w13 ⟨rfl, hb⟩
  have H13 := Lib.hid (H12.out.below hb)
  replace KA := Lib.hid (KA.out.below hb KA.out.lt)
  replace KB := Lib.hid (KB.out.below hb KB.out.lt)
  clear hb H12
  go_wp2_with fail
  go_must (refine (push_ws H13.out (m := msgOf 3) (b := true) rfl (L' := [msgOf 2, msgOf 3]) rfl).mono ?_)
  rintro e w14 ⟨rfl, h, ho⟩
  have H14 := Lib.hid h
  replace KA := Lib.hid (H13.out.lat.keeps KA.out ho)
  replace KB := Lib.hid (H13.out.lat.keeps KB.out ho)
  clear h ho H13
  go_wp2_with fail
  go_must (refine (pop_ws H14.out (b := true) rfl (m := msgOf 2) rfl (L' := [msgOf 3]) rfl).mono ?_)
  rintro e w15 ⟨rfl, h, ho⟩
  have H15 := Lib.hid h
  replace KA := Lib.hid (H14.out.lat.keeps KA.out ho)
  replace KB := Lib.hid (H14.out.lat.keeps KB.out ho)
  clear h ho H14
  go_wp2_with fail
  have hb : Below w15.heap.size w15 (w15.alloc (.cells #[ival (msgOf 2).k, ival (msgOf 2).n, ival (msgOf 2).key, ival (msgOf 2).v] 31)) := (Below.refl _ _).alloc (Nat.le_refl _) _
  have H16 := Lib.hid (H15.out.below hb)
  have KC : Hid (Blk (w15.alloc (.cells #[ival (msgOf 2).k, ival (msgOf 2).n, ival (msgOf 2).key, ival (msgOf 2).v] 31)) w15.heap.size 31 #[ival (msgOf 2).k, ival (msgOf 2).n, ival (msgOf 2).key, ival (msgOf 2).v]) := Blk.new _ _ _
  replace KA := Lib.hid (KA.out.below hb KA.out.lt)
  replace KB := Lib.hid (KB.out.below hb KB.out.lt)
  clear hb H15
  generalize w15.alloc (.cells #[ival (msgOf 2).k, ival (msgOf 2).n, ival (msgOf 2).key, ival (msgOf 2).v] 31) = w16 at *
  generalize w15.heap.size = kc at *
  go_must (refine (pop_ws H16.out (b := true) rfl (m := msgOf 3) rfl (L' := []) rfl).mono ?_)
  rintro e w17 ⟨rfl, h, ho⟩
  have H17 := Lib.hid h
  replace KA := Lib.hid (H16.out.lat.keeps KA.out ho)
  replace KB := Lib.hid (H16.out.lat.keeps KB.out ho)
  replace KC := Lib.hid (H16.out.lat.keeps KC.out ho)
  clear h ho H16
  go_wp2_with fail
  have hb : Below w17.heap.size w17 (w17.alloc (.cells #[ival (msgOf 3).k, ival (msgOf 3).n, ival (msgOf 3).key, ival (msgOf 3).v] 31)) := (Below.refl _ _).alloc (Nat.le_refl _) _
  have H18 := Lib.hid (H17.out.below hb)
  have KD : Hid (Blk (w17.alloc (.cells #[ival (msgOf 3).k, ival (msgOf 3).n, ival (msgOf 3).key, ival (msgOf 3).v] 31)) w17.heap.size 31 #[ival (msgOf 3).k, ival (msgOf 3).n, ival (msgOf 3).key, ival (msgOf 3).v]) := Blk.new _ _ _
  replace KA := Lib.hid (KA.out.below hb KA.out.lt)
  replace KB := Lib.hid (KB.out.below hb KB.out.lt)
  replace KC := Lib.hid (KC.out.below hb KC.out.lt)
  clear hb H17
  generalize w17.alloc (.cells #[ival (msgOf 3).k, ival (msgOf 3).n, ival (msgOf 3).key, ival (msgOf 3).v] 31) = w18 at *
  generalize w17.heap.size = kd at *
  go_must (refine (pop_ws H18.out (b := false) rfl (m := Msg.zero) rfl (L' := []) rfl).mono ?_)
  rintro e w19 ⟨rfl, h, ho⟩
  have H19 := Lib.hid h
  replace KA := Lib.hid (H18.out.lat.keeps KA.out ho)
  replace KB := Lib.hid (H18.out.lat.keeps KB.out ho)
  replace KC := Lib.hid (H18.out.lat.keeps KC.out ho)
  replace KD := Lib.hid (H18.out.lat.keeps KD.out ho)
  clear h ho H18
  go_wp2_with fail
  have hb : Below w19.heap.size w19 (w19.alloc (.cells #[ival (Msg.zero).k, ival (Msg.zero).n, ival (Msg.zero).key, ival (Msg.zero).v] 31)) := (Below.refl _ _).alloc (Nat.le_refl _) _
  have H20 := Lib.hid (H19.out.below hb)
  have KE : Hid (Blk (w19.alloc (.cells #[ival (Msg.zero).k, ival (Msg.zero).n, ival (Msg.zero).key, ival (Msg.zero).v] 31)) w19.heap.size 31 #[ival (Msg.zero).k, ival (Msg.zero).n, ival (Msg.zero).key, ival (Msg.zero).v]) := Blk.new _ _ _
  replace KA := Lib.hid (KA.out.below hb KA.out.lt)
  replace KB := Lib.hid (KB.out.below hb KB.out.lt)
  replace KC := Lib.hid (KC.out.below hb KC.out.lt)
  replace KD := Lib.hid (KD.out.below hb KD.out.lt)
  clear hb H19
  generalize w19.alloc (.cells #[ival (Msg.zero).k, ival (Msg.zero).n, ival (Msg.zero).key, ival (Msg.zero).v] 31) = w20 at *
  generalize w19.heap.size = ke at *
  --ENDSTEPS
  have HMF : Hid (∀ (n : Int), 0 ≤ n → n ≤ 9223372036854775807 → ∀ w', Below w20.heap.size w20 w' → Calls Try.prog 21 #[ival n] w' fun e w'' => e = .returned (.agg #[ival 1, ival 0, ival n, ival (-n)]) ∧ Below w20.heap.size w20 w'') := fun n h0 h1 w' hw =>
    (HM.out n h0 h1 w').mono fun e w'' ⟨he, hb⟩ => ⟨he, hw.trans (hb.mono hw.size)⟩
  have hb0 : Below w20.heap.size w20 w20.drew := (Below.refl _ _).drew
  have RD : Hid (∀ w', Below w20.heap.size w20 w' → w'.cell? ⟨ka, 0, none⟩ = some (ival 1) ∧ w'.cell? ⟨ka, 1, none⟩ = some (ival 0) ∧ w'.cell? ⟨ka, 2, none⟩ = some (ival 1) ∧ w'.cell? ⟨ka, 3, none⟩ = some (ival (-1)) ∧ w'.cell? ⟨kb, 0, none⟩ = some (ival 1) ∧ w'.cell? ⟨kb, 1, none⟩ = some (ival 0) ∧ w'.cell? ⟨kb, 2, none⟩ = some (ival 1) ∧ w'.cell? ⟨kb, 3, none⟩ = some (ival (-1)) ∧ w'.cell? ⟨kc, 0, none⟩ = some (ival 1) ∧ w'.cell? ⟨kc, 1, none⟩ = some (ival 0) ∧ w'.cell? ⟨kc, 2, none⟩ = some (ival 2) ∧ w'.cell? ⟨kc, 3, none⟩ = some (ival (-2)) ∧ w'.cell? ⟨kd, 0, none⟩ = some (ival 1) ∧ w'.cell? ⟨kd, 1, none⟩ = some (ival 0) ∧ w'.cell? ⟨kd, 2, none⟩ = some (ival 3) ∧ w'.cell? ⟨kd, 3, none⟩ = some (ival (-3))) := fun w' hw =>
    ⟨(KA.out.below hw KA.out.lt).cell 0, (KA.out.below hw KA.out.lt).cell 1, (KA.out.below hw KA.out.lt).cell 2, (KA.out.below hw KA.out.lt).cell 3, (KB.out.below hw KB.out.lt).cell 0, (KB.out.below hw KB.out.lt).cell 1, (KB.out.below hw KB.out.lt).cell 2, (KB.out.below hw KB.out.lt).cell 3, (KC.out.below hw KC.out.lt).cell 0, (KC.out.below hw KC.out.lt).cell 1, (KC.out.below hw KC.out.lt).cell 2, (KC.out.below hw KC.out.lt).cell 3, (KD.out.below hw KD.out.lt).cell 0, (KD.out.below hw KD.out.lt).cell 1, (KD.out.below hw KD.out.lt).cell 2, (KD.out.below hw KD.out.lt).cell 3⟩
  have r0 := RD.out w20 (Below.refl _ _)
  obtain ⟨r1, r2, r3, r4, r5, r6, r7, r8, r9, r10, r11, r12, r13, r14, r15, r16⟩ := r0
  have HEND : Hid (∀ w', Below w20.heap.size w20 w' → Below W.heap.size W w') := fun w' hw => H20.out.bel.trans (hw.mono H20.out.bel.size)
  clear HM H20 KA KB KC KD KE
  go_region_held3 (fun w' => w'.cell? ⟨ka, 0, none⟩ = some (ival 1) ∧ w'.cell? ⟨ka, 1, none⟩ = some (ival 0) ∧ w'.cell? ⟨ka, 2, none⟩ = some (ival 1) ∧ w'.cell? ⟨ka, 3, none⟩ = some (ival (-1)) ∧ w'.cell? ⟨kb, 0, none⟩ = some (ival 1) ∧ w'.cell? ⟨kb, 1, none⟩ = some (ival 0) ∧ w'.cell? ⟨kb, 2, none⟩ = some (ival 1) ∧ w'.cell? ⟨kb, 3, none⟩ = some (ival (-1)) ∧ w'.cell? ⟨kc, 0, none⟩ = some (ival 1) ∧ w'.cell? ⟨kc, 1, none⟩ = some (ival 0) ∧ w'.cell? ⟨kc, 2, none⟩ = some (ival 2) ∧ w'.cell? ⟨kc, 3, none⟩ = some (ival (-2)) ∧ w'.cell? ⟨kd, 0, none⟩ = some (ival 1) ∧ w'.cell? ⟨kd, 1, none⟩ = some (ival 0) ∧ w'.cell? ⟨kd, 2, none⟩ = some (ival 3) ∧ w'.cell? ⟨kd, 3, none⟩ = some (ival (-3))) (first | exact RD.out _ hb0 | exact RD.out _ (by assumption) | exact RD.out _ (Below.refl _ _))
    ((first | (go_at_call 21; refine (HMF.out _ (by decide) (by decide) _ (by first | assumption | exact hb0)).mono ?_; rintro e wx ⟨rfl, hbx⟩)))
  all_goals
    go_wp2_with fail
    go_ret
    exact ⟨rfl, HEND.out _ (by assumption)⟩
end Go.Proofs.Ytpnkobdnifopiaa
