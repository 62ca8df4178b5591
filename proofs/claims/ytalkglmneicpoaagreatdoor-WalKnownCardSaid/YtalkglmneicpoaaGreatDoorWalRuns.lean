/-
  WalRuns: the walk.
-/
import Derived.Test.YtalkglmneicpoaaGreatDoorWalDo
import Derived.RegionTactic
namespace Go.Proofs.YtalkglmneicpoaaGreatDoor
set_option linter.unusedVariables false
set_option linter.unusedSimpArgs false
open Go.RowKit
def LongPost (n : Nat) (Q : Nat → WAct) (w : World) (e : Ending) (w' : World) : Prop := ∃ b : Bool, e = .returned (.bool b) ∧ (b = false → n ≤ 150 ∧ ∀ i, i < n → (Q i).x.m ≤ 4096) ∧ w = w'
set_option maxRecDepth 100000 in
set_option maxHeartbeats 2000000 in
theorem long_any (A : Option Addr) (n c B : Nat) (Q : Nat → WAct) (w : World) (hx : WActs w B A n Q) (hm : n ≤ maxLen) :
    Calls Tryz.prog 22 #[.slice A n c] w (LongPost n Q w) := by
  unfold maxLen at hm
  have HX := Lib.hid hx
  clear hx
  go_enter Tryz.func22, Tryz.ntmps22
  go_wp2
  go_loop [3] (fun i => ∃ k : Nat, k ≤ n ∧ i = .int .i64 k ∧ ∀ i, i < k → (Q i).x.m ≤ 4096) (fun i => n - (intOf i).toNat)
  case atStart => exact ⟨0, by omega, rfl, fun i hi => absurd hi (by omega)⟩
  case round =>
    obtain ⟨k, hk, rfl, hall⟩ := hrel
    have HA := Lib.hid hall
    clear hall
    by_cases hlt : k < n
    · obtain ⟨ad, rfl, _, hq, _⟩ := HX.out k hlt
      have y3 := hq.c3
      have y3' : w.cell? ⟨(ad.add (k * 4)).block, (ad.add (k * 4)).off + 2 + 1, none⟩ = some (Q k).x.val := y3
      have hltI : ((k : Int) < (n : Int)) := by omega
      have HSU : Hid ((Q k).x.m ≤ 4096 → ∀ i, i < k + 1 → (Q i).x.m ≤ 4096) := fun h i hi => by
        by_cases e : i = k
        · subst e; exact h
        · exact HA.out i (by omega)
      clear hq
      generalize (Q k).x = x at *
      rcases x with ⟨xA, xm, xc, xb⟩
      simp only [ActB.val] at y3 y3'
      by_cases h1 : 4096 < xm
      · go_wp2
        go_ret
        exact ⟨true, rfl, (fun h => by cases h), rfl⟩
      · have HN := Lib.hid (HSU.out (by simp only; omega))
        go_wp2
        go_round
        case rel => exact ⟨k + 1, by omega, by go_num, HN.out⟩
        case measure => simp [intOf]; omega
    · obtain rfl : k = n := by omega
      go_wp2
      go_ret
      exact ⟨_, rfl, (fun h => ⟨by simp at h; omega, HA.out⟩), rfl⟩
theorem pdo_any (q : WAct) (hq : q.Ok) (B : Nat) (pg : Addr) (base gp gl gm gd gx N : Nat) (st : DSt) (L M : Bool → Nat) (w : World) (hG : ∀ W, Below base w W → Glob pg W ∧ Reads W B 1 q.x.A q.x.m (q.x.bs.map bval)) (hgb : 3 ≤ base) (hB : B ≤ base) (hm : q.x.m ≤ 4096) (hmc : q.x.m ≤ q.x.c)
    (h : PairAt w base gp gl gm gd gx N st st (fun a => some (L a)) (fun a => some (M a))) (hbase : base ≤ w.heap.size) :
    Calls Tryz.prog 25 #[.pointer (some ⟨gp, 0, none⟩), q.val] w (DoPost base gp gl gm gd gx N w) := by
  obtain ⟨kd, nn, fk, ⟨xA, xm, xc, bs⟩⟩ := q
  obtain ⟨_, hn1, hn2⟩ := hq
  have h2 := Int.emod_nonneg nn (show (2 : Int) ≠ 0 by omega)
  have h3 := Int.emod_lt_of_pos nn (show (0 : Int) < 2 by omega)
  simp only at hn1 hn2
  rcases (by omega : nn % 2 = 0 ∨ nn % 2 = 1) with ha | ha
  · by_cases h0 : kd = 0
    · subst h0; exact pdo_0_false nn fk xA xm xc bs B pg base gp gl gm gd gx N st L M w hG hgb hB hm hmc h hbase hn1 hn2 ha
    by_cases h1 : kd = 1
    · subst h1; exact pdo_1_false nn fk xA xm xc bs B pg base gp gl gm gd gx N st L M w hG hgb hB hm hmc h hbase hn1 hn2 ha
    by_cases h2x : kd = 2
    · subst h2x; exact pdo_2_false nn fk xA xm xc bs B pg base gp gl gm gd gx N st L M w hG hgb hB hm hmc h hbase hn1 hn2 ha
    by_cases h3x : kd = 3
    · subst h3x; exact pdo_3_false nn fk xA xm xc bs B pg base gp gl gm gd gx N st L M w hG hgb hB hm hmc h hbase hn1 hn2 ha
    by_cases h4 : kd = 4
    · subst h4; exact pdo_4_false nn fk xA xm xc bs B pg base gp gl gm gd gx N st L M w hG hgb hB hm hmc h hbase hn1 hn2 ha
    by_cases h5 : kd = 5
    · subst h5; exact pdo_5_false nn fk xA xm xc bs B pg base gp gl gm gd gx N st L M w hG hgb hB hm hmc h hbase hn1 hn2 ha
    exact pdo_k_false kd (by simpa using h0) (by simpa using h1) (by simpa using h2x) (by simpa using h3x) (by simpa using h4) (by simpa using h5) nn fk xA xm xc bs B pg base gp gl gm gd gx N st L M w hG hgb hB hm hmc h hbase hn1 hn2 ha
  · by_cases h0 : kd = 0
    · subst h0; exact pdo_0_true nn fk xA xm xc bs B pg base gp gl gm gd gx N st L M w hG hgb hB hm hmc h hbase hn1 hn2 ha
    by_cases h1 : kd = 1
    · subst h1; exact pdo_1_true nn fk xA xm xc bs B pg base gp gl gm gd gx N st L M w hG hgb hB hm hmc h hbase hn1 hn2 ha
    by_cases h2x : kd = 2
    · subst h2x; exact pdo_2_true nn fk xA xm xc bs B pg base gp gl gm gd gx N st L M w hG hgb hB hm hmc h hbase hn1 hn2 ha
    by_cases h3x : kd = 3
    · subst h3x; exact pdo_3_true nn fk xA xm xc bs B pg base gp gl gm gd gx N st L M w hG hgb hB hm hmc h hbase hn1 hn2 ha
    by_cases h4 : kd = 4
    · subst h4; exact pdo_4_true nn fk xA xm xc bs B pg base gp gl gm gd gx N st L M w hG hgb hB hm hmc h hbase hn1 hn2 ha
    by_cases h5 : kd = 5
    · subst h5; exact pdo_5_true nn fk xA xm xc bs B pg base gp gl gm gd gx N st L M w hG hgb hB hm hmc h hbase hn1 hn2 ha
    exact pdo_k_true kd (by simpa using h0) (by simpa using h1) (by simpa using h2x) (by simpa using h3x) (by simpa using h4) (by simpa using h5) nn fk xA xm xc bs B pg base gp gl gm gd gx N st L M w hG hgb hB hm hmc h hbase hn1 hn2 ha
theorem updF_two (l1 l2 : Nat) : updF true (some l2) (updF false (some l1) (fun _ => none)) = fun a => some (if a = true then l2 else l1) := by
  funext a; cases a <;> rfl
set_option maxRecDepth 100000 in
set_option maxHeartbeats 16000000 in
theorem walRuns_any (n : Int) (A : Option Addr) (m c : Nat) (Q : Nat → WAct) (pg : Addr) (w : World) (hG : Glob pg w) (hn1 : -9223372036854775808 ≤ n) (hn2 : n ≤ 9223372036854775807) (hx : WActs w w.heap.size A m Q) (hm : m ≤ maxLen) :
    Calls Tryz.prog 7 #[.int .i64 n, .slice A m c] w fun e w' => e = .returned (.bool true) ∧ Below w.heap.size w w' := by
  have hlt := hG.lt
  have HD : Hid (∀ W, Below w.heap.size w W → Glob pg W ∧ WActs W w.heap.size A m Q) := fun W hW => ⟨hG.below hW hlt, hx.below hW⟩
  have WK : Hid (∀ W, Below w.heap.size w W → Calls Tryz.prog 8 #[] W fun e w' => e = .returned (.bool true) ∧ Below W.heap.size W w') := fun W hW => wworks_any pg W (HD.out W hW).1
  have CL := Lib.hid (long_any A m c w.heap.size Q w hx hm)
  have C2 := Lib.hid (fun W => size_any n W hn1 hn2)
  have hNr : 64 ≤ 64 + (n % 16384).toNat ∧ 64 + (n % 16384).toNat ≤ 16447 := by omega
  generalize 64 + (n % 16384).toNat = N at *
  have C3 := Lib.hid (new_any N hNr.1 (by omega) w)
  have C4 := Lib.hid (fun W => rnew_any N hNr.1 (by omega) W)
  clear hG hx
  go_enter Tryz.func7, Tryz.ntmps7
  go_wp2_with fail
  go_must (refine CL.out.mono ?_)
  rintro e _ ⟨b, rfl, hb, rfl⟩
  have HLB := Lib.hid hb
  clear hb CL
  cases b
  case true =>
    go_wp2_with fail
    go_must (refine (WK.out _ (Below.refl _ _)).mono ?_)
    rintro e w3 ⟨rfl, hb3⟩
    go_wp2_with fail
    go_ret
    exact ⟨rfl, hb3⟩
  have hm150 : m ≤ 150 := (HLB.out rfl).1
  have HM : Hid (∀ i, i < m → (Q i).x.m ≤ 4096) := (HLB.out rfl).2
  clear HLB
  go_wp2_with fail
  go_must (refine (C2.out _).mono ?_)
  rintro e _ ⟨rfl, rfl⟩
  go_wp2_with fail
  go_must (refine C3.out.mono ?_)
  rintro e w1 ⟨gd, rfl, hgd, hb1, hs1, hd1⟩
  have HGD := Lib.hid hgd
  have HD1 := Lib.hid hd1
  clear hgd hd1
  go_wp2_with fail
  go_must (refine (C2.out _).mono ?_)
  rintro e _ ⟨rfl, rfl⟩
  go_wp2_with fail
  go_must (refine (C4.out w1).mono ?_)
  rintro e w2 ⟨gx, rfl, hgx, hb2, hs2, hd2⟩
  have T2 : Hid (Two false true (fun _ => False) w2 w.heap.size gd gx N DSt.new DSt.new) := (One.fresh (HD1.out w.heap.size (Nat.le_refl _)) hb1.size).two hb2 (hd2 w.heap.size hb1.size) (by omega)
  have HB2 := Lib.hid (hb1.trans (hb2.mono hb1.size))
  have hzz : w.heap.size ≤ w2.heap.size := HB2.out.size
  clear HGD HD1 hb1 hs1 hgx hb2 hs2 hd2 C3 C4 C2
  have hmk1 : ∀ W, (Instr.makeSlice 54 (.int .i64 2) (.int .i64 2)).run Tryz.prog W = .ok (.slice (some ⟨W.heap.size, 0, none⟩) 2 2) (W.alloc (.cells #[.pointer none, .pointer none] 40)) := fun _ => by kernel_rfl
  have hmk2 : ∀ W, (Instr.makeSlice 55 (.int .i64 2) (.int .i64 2)).run Tryz.prog W = .ok (.slice (some ⟨W.heap.size, 0, none⟩) 2 2) (W.alloc (.cells #[.pointer none, .pointer none] 60)) := fun _ => by kernel_rfl
  go_wp2_with fail
  go_region
  all_goals first
    | (obtain ⟨w3, hw3⟩ : ∃ w3, w3 = (((w2.alloc (.cells #[.pointer none, .pointer none] 40)).alloc (.cells #[.pointer none, .pointer none] 60)).alloc (.cells #[.pointer (some ⟨gd, 0, none⟩), .pointer (some ⟨gx, 0, none⟩), .slice (some ⟨w2.heap.size, 0, none⟩) 2 2, .slice (some ⟨w2.heap.size + 1, 0, none⟩) 2 2] 57)).drew := ⟨_, rfl⟩
       rw [← hw3]
       have hb3 : Below w2.heap.size w2 w3 := by rw [hw3]; exact ((((Below.refl _ _).alloc (Nat.le_refl _) _).alloc (by simp) _).alloc (by simp; omega) _).drew
       have hs3 : w3.heap.size = w2.heap.size + 1 + 1 + 1 := by rw [hw3]; show (World.alloc _ _).heap.size = _; simp
       have PB3 : Hid (PairB w3 (w2.heap.size + 1 + 1) (w2.heap.size) (w2.heap.size + 1) gd gx (fun _ => none) (fun _ => none)) := by
         rw [hw3]
         refine ⟨?_, ?_, ?_, (fun _ _ h => by cases h), (fun _ _ h => by cases h)⟩
         · have := (Blk.new ((w2.alloc (.cells #[.pointer none, .pointer none] 40)).alloc (.cells #[.pointer none, .pointer none] 60)) 57 #[.pointer (some ⟨gd, 0, none⟩), .pointer (some ⟨gx, 0, none⟩), .slice (some ⟨w2.heap.size, 0, none⟩) 2 2, .slice (some ⟨w2.heap.size + 1, 0, none⟩) 2 2]).drew
           simpa using this
         · exact (((Blk.new w2 40 #[.pointer none, .pointer none]).alloc _).alloc _).drew
         · rw [show w2.heap.size + 1 = (w2.alloc (.cells #[.pointer none, .pointer none] 40)).heap.size by simp]; exact ((Blk.new _ _ _).alloc _).drew
       have T3 : Hid (Two false true (PairX (w2.heap.size + 1 + 1) (w2.heap.size) (w2.heap.size + 1) (fun _ => none) (fun _ => none)) w3 w.heap.size gd gx N DSt.new DSt.new) := T2.out.more hb3 (fun i hi => by
         rcases hi with rfl | rfl | rfl | ⟨_, h⟩ | ⟨_, h⟩
         · exact .inr ⟨by omega, by omega⟩
         · exact .inr ⟨by omega, by omega⟩
         · exact .inr ⟨by omega, by omega⟩
         · cases h
         · cases h)
       have HB3 := Lib.hid (HB2.out.trans (hb3.mono hzz))
       have HAB : Hid (w.heap.size ≤ w2.heap.size ∧ w.heap.size ≤ w2.heap.size + 1) := ⟨by omega, by omega⟩
       clear hw3 hb3 hs3
       generalize w2.heap.size + 1 + 1 = gp at *
       generalize w2.heap.size + 1 = gm at *
       generalize w2.heap.size = gl at *)
    | (obtain ⟨w3, hw3⟩ : ∃ w3, w3 = (((w2.alloc (.cells #[.pointer none, .pointer none] 60)).alloc (.cells #[.pointer none, .pointer none] 40)).alloc (.cells #[.pointer (some ⟨gd, 0, none⟩), .pointer (some ⟨gx, 0, none⟩), .slice (some ⟨w2.heap.size + 1, 0, none⟩) 2 2, .slice (some ⟨w2.heap.size, 0, none⟩) 2 2] 57)).drew := ⟨_, rfl⟩
       rw [← hw3]
       have hb3 : Below w2.heap.size w2 w3 := by rw [hw3]; exact ((((Below.refl _ _).alloc (Nat.le_refl _) _).alloc (by simp) _).alloc (by simp; omega) _).drew
       have hs3 : w3.heap.size = w2.heap.size + 1 + 1 + 1 := by rw [hw3]; show (World.alloc _ _).heap.size = _; simp
       have PB3 : Hid (PairB w3 (w2.heap.size + 1 + 1) (w2.heap.size + 1) (w2.heap.size) gd gx (fun _ => none) (fun _ => none)) := by
         rw [hw3]
         refine ⟨?_, ?_, ?_, (fun _ _ h => by cases h), (fun _ _ h => by cases h)⟩
         · have := (Blk.new ((w2.alloc (.cells #[.pointer none, .pointer none] 60)).alloc (.cells #[.pointer none, .pointer none] 40)) 57 #[.pointer (some ⟨gd, 0, none⟩), .pointer (some ⟨gx, 0, none⟩), .slice (some ⟨w2.heap.size + 1, 0, none⟩) 2 2, .slice (some ⟨w2.heap.size, 0, none⟩) 2 2]).drew
           simpa using this
         · rw [show w2.heap.size + 1 = (w2.alloc (.cells #[.pointer none, .pointer none] 60)).heap.size by simp]; exact ((Blk.new _ _ _).alloc _).drew
         · exact (((Blk.new w2 60 #[.pointer none, .pointer none]).alloc _).alloc _).drew
       have T3 : Hid (Two false true (PairX (w2.heap.size + 1 + 1) (w2.heap.size + 1) (w2.heap.size) (fun _ => none) (fun _ => none)) w3 w.heap.size gd gx N DSt.new DSt.new) := T2.out.more hb3 (fun i hi => by
         rcases hi with rfl | rfl | rfl | ⟨_, h⟩ | ⟨_, h⟩
         · exact .inr ⟨by omega, by omega⟩
         · exact .inr ⟨by omega, by omega⟩
         · exact .inr ⟨by omega, by omega⟩
         · cases h
         · cases h)
       have HB3 := Lib.hid (HB2.out.trans (hb3.mono hzz))
       have HAB : Hid (w.heap.size ≤ w2.heap.size + 1 ∧ w.heap.size ≤ w2.heap.size) := ⟨by omega, by omega⟩
       clear hw3 hb3 hs3
       generalize w2.heap.size + 1 + 1 = gp at *
       generalize w2.heap.size + 1 = gl at *
       generalize w2.heap.size = gm at *)
  all_goals
    have C5 := Lib.hid (popen_false pg w.heap.size gp gl gm gd gx N DSt.new (fun _ => none) (fun _ => none) w3 (fun W hW => (HD.out W (HB3.out.trans hW)).1) ⟨T3.out, PB3.out, HAB.out⟩ T3.out.base_le)
    clear T3 PB3 HAB hmk1 hmk2 T2 HB2 hzz
    go_wp2_with fail
    go_must (refine C5.out.mono ?_)
    rintro e w4 ⟨rfl, l1, m1, hp4, hb4⟩
    have HB4 := Lib.hid (HB3.out.trans hb4)
    have C6 := Lib.hid (popen_true pg w.heap.size gp gl gm gd gx N _ _ _ w4 (fun W hW => (HD.out W (HB4.out.trans hW)).1) hp4 hp4.two.base_le)
    clear hp4 hb4 C5 HB3
    go_wp2_with fail
    go_must (refine C6.out.mono ?_)
    rintro e w5 ⟨rfl, l2, m2, hp5, hb5⟩
    rw [updF_two, updF_two] at hp5
    have HP5 := Lib.hid hp5
    have HB5 := Lib.hid (HB4.out.trans hb5)
    clear hp5 hb5 C6 HB4
    go_wp2_with fail
    go_loopw [10] (fun i wr => ∃ (k : Nat) (st : DSt) (L M : Bool → Nat), k ≤ m ∧ i = .int .i64 k ∧ PairAt wr w.heap.size gp gl gm gd gx N st st (fun a => some (L a)) (fun a => some (M a)) ∧ Below w.heap.size w wr) (fun i _ => m - (intOf i).toNat)
    case atStart => exact ⟨0, _, _, _, by omega, rfl, HP5.out, HB5.out⟩
    case round =>
      obtain ⟨k, st, L, M, hk, rfl, hp, hbel⟩ := hrel
      have HP := Lib.hid hp
      have HB := Lib.hid hbel
      clear hp hbel HP5 HB5
      by_cases hkm : k < m
      · obtain ⟨ad, rfl, _, hq, hqok⟩ := (HD.out _ HB.out).2 k hkm
        have C7 := Lib.hid (pdo_any (Q k) hqok w.heap.size pg w.heap.size gp gl gm gd gx N st L M wr (fun W hW => by
          have h := HD.out W (HB.out.trans hW)
          obtain ⟨ad', e', _, hq', _⟩ := h.2 k hkm
          exact ⟨h.1, hq'.rd⟩) hlt (Nat.le_refl _) (HM.out k hkm) hq.mc HP.out HP.out.two.base_le)
        have y0 := hq.c0
        have y1 := hq.c1
        have y2 := hq.c2
        have y3 := hq.c3
        have hkI : (k : Int) < (m : Int) := by omega
        clear hq hqok
        generalize Q k = q at *
        rcases q with ⟨kd, nn, fk, ⟨xA, xm, xc, xb⟩⟩
        simp only [WAct.val, ActB.val] at y0 y1 y2 y3 C7
        go_wp2_with fail
        go_must (refine C7.out.mono ?_)
        rintro e w7 ⟨rfl, st2, L2, M2, hp7, hb7⟩
        have HP7 := Lib.hid hp7
        have HB7 := Lib.hid (HB.out.trans hb7)
        clear hp7 hb7 C7 y0 y1 y2 y3 HP HB
        obtain ⟨wo, rfl⟩ : ∃ wo : World, wo = wr := ⟨_, rfl⟩
        go_wp2_with fail
        go_loopw [11] (fun i wr => ∃ j : Nat, j ≤ 2 ∧ i = .int .i64 j ∧ PairAt wr w.heap.size gp gl gm gd gx N st2 st2 (fun a => some (L2 a)) (fun a => some (M2 a)) ∧ Below w.heap.size w wr) (fun i _ => 2 - (intOf i).toNat)
        case atStart => exact ⟨0, by omega, rfl, HP7.out, HB7.out⟩
        case round =>
          obtain ⟨j, hj, rfl, hp, hbr⟩ := hrel
          have HP := Lib.hid hp
          have HBR := Lib.hid hbr
          clear hp hbr HP7 HB7
          rcases (by omega : j = 0 ∨ j = 1 ∨ j = 2) with rfl | rfl | rfl
          · have PL : Hid (∀ W, Below wr.heap.size wr W → W.cell? ⟨gp, 2, none⟩ = some (.slice (some ⟨gl, 0, none⟩) 2 2) ∧ W.cell? ⟨gp, 3, none⟩ = some (.slice (some ⟨gm, 0, none⟩) 2 2) ∧ W.cell? ⟨gl, 0, none⟩ = some (.pointer (some ⟨L2 false, 0, none⟩)) ∧ W.cell? ⟨gm, 0, none⟩ = some (.pointer (some ⟨M2 false, 0, none⟩))) := fun W hW => by
              have hb := (HP.out.below hW).b
              exact ⟨hb.bp.cell 2, hb.bp.cell 3, hb.bl.cell 0, hb.bm.cell 0⟩
            have RW : Hid (∀ W, Below wr.heap.size wr W → Calls Tryz.prog 18 #[.pointer (some ⟨L2 false, 0, none⟩)] W fun e w' => e = .returned (.int .i64 ((N : Int) - ((st2 false).1.length : Int))) ∧ ∃ m, w' = W.drewN m) := fun W hW => by
              have hp := HP.out.below hW
              obtain ⟨S, hd⟩ := hp.two.ld
              exact wroom_any false (L2 false) w.heap.size gd N S st2 W hd (hp.b.lo false _ rfl)
            have RX : Hid (∀ W, Below wr.heap.size wr W → Calls Tryz.prog 26 #[.pointer (some ⟨M2 false, 0, none⟩)] W fun e w' => e = .returned (.int .i64 ((N : Int) - ((st2 false).1.length : Int))) ∧ ∃ m, w' = W.drewN m) := fun W hW => by
              have hp := HP.out.below hW
              obtain ⟨S, hd⟩ := hp.two.rd
              exact rroom_any false (M2 false) w.heap.size gx N S st2 W hd (hp.b.mo false _ rfl)
            have BW : Hid (∀ W, Below wr.heap.size wr W → Calls Tryz.prog 19 #[.pointer (some ⟨gd, 0, none⟩), .int .i64 0] W fun e w' => ∃ A c, e = .returned (.slice A (st2 false).1.length c) ∧ (st2 false).1.length ≤ c ∧ c ≤ maxLen ∧ w'.ownsRow W.heap.size 5 1 (.slice A (st2 false).1.length c) (st2 false).1.length ((st2 false).1.map bval) ∧ Below W.heap.size W w') := fun W hW => by
              obtain ⟨S, hd⟩ := (HP.out.below hW).two.ld
              exact (bytes_false w.heap.size gd N S st2 W hd).mono fun e w' ⟨v, h1, h2, h3⟩ => by
                obtain ⟨A9, c9, rfl, h4, h5, _⟩ := own_slice h2
                exact ⟨A9, c9, h1, h4, h5, h2, h3⟩
            have BX : Hid (∀ W, Below wr.heap.size wr W → Calls Tryz.prog 27 #[.pointer (some ⟨gx, 0, none⟩), .int .i64 0] W fun e w' => ∃ A c, e = .returned (.slice A (st2 false).1.length c) ∧ (st2 false).1.length ≤ c ∧ c ≤ maxLen ∧ w'.ownsRow W.heap.size 5 1 (.slice A (st2 false).1.length c) (st2 false).1.length ((st2 false).1.map bval) ∧ Below W.heap.size W w') := fun W hW => by
              obtain ⟨S, hd⟩ := (HP.out.below hW).two.rd
              exact (rbytes_false w.heap.size gx N S st2 W hd).mono fun e w' ⟨v, h1, h2, h3⟩ => by
                obtain ⟨A9, c9, rfl, h4, h5, _⟩ := own_slice h2
                exact ⟨A9, c9, h1, h4, h5, h2, h3⟩
            have hlen : (st2 false).1.length ≤ 262144 := by
              obtain ⟨S, hd⟩ := HP.out.two.ld
              exact Nat.le_trans (hd.ok.2 false).1 hd.ok.1
            generalize (st2 false).1 = LB at *
            have SW : Hid (∀ W A1 c1 A2 c2, Reads W W.heap.size 1 A1 LB.length (LB.map bval) → Reads W W.heap.size 1 A2 LB.length (LB.map bval) → Calls Tryz.prog 20 #[.slice A1 LB.length c1, .slice A2 LB.length c2] W fun e w' => e = .returned (.bool true) ∧ ∃ m, w' = W.drewN m) := fun W A1 c1 A2 c2 h1 h2 => by
              have := sameBytes_any A1 A2 LB.length c1 LB.length c2 W.heap.size W.heap.size LB LB W h1 h2 (by unfold maxLen; omega) (by unfold maxLen; omega)
              rwa [decide_eq_true rfl] at this
            have hrr : ((N : Int) - (LB.length : Int) != (N : Int) - (LB.length : Int)) = false := by simp
            have q0 : Below wr.heap.size wr wr.drew := (Below.refl _ _).drew
            go_wp2_with fail
            go_region_held3 (fun W => W.cell? ⟨gp, 2, none⟩ = some (.slice (some ⟨gl, 0, none⟩) 2 2) ∧ W.cell? ⟨gp, 3, none⟩ = some (.slice (some ⟨gm, 0, none⟩) 2 2) ∧ W.cell? ⟨gl, 0, none⟩ = some (.pointer (some ⟨L2 false, 0, none⟩)) ∧ W.cell? ⟨gm, 0, none⟩ = some (.pointer (some ⟨M2 false, 0, none⟩))) (first | exact PL.out _ q0 | exact PL.out _ q1 | exact PL.out _ q2 | exact PL.out _ q3 | exact PL.out _ q4 | exact PL.out _ q5) ((first | (go_at_call 18; refine (RW.out _ q0).mono ?_; rintro e wa ⟨rfl, qa, hwa⟩; have q1 : Below wr.heap.size wr wa := (by rw [hwa]; exact below_drewN q0 qa); clear hwa) | (go_at_call 26; refine (RX.out _ q1).mono ?_; rintro e wb ⟨rfl, qb, hwb⟩; have q2 : Below wr.heap.size wr wb := (by rw [hwb]; exact below_drewN q1 qb); clear hwb) | (go_at_call 19; refine (BW.out _ q2).mono ?_; rintro e wc ⟨Ac, cc, rfl, hcc1, hcc2, hownc, hbc⟩; have q3 : Below wr.heap.size wr wc := q2.trans (hbc.mono q2.size)) | (go_at_call 27; refine (BX.out _ q3).mono ?_; rintro e wd ⟨Ad, cd, rfl, hcd1, hcd2, hownd, hbd⟩; have q4 : Below wr.heap.size wr wd := q3.trans (hbd.mono q3.size); have hrc := Reads.of_own (own_below hownc hbd); have hrd := Reads.of_own hownd) | (go_at_call 20; refine (SW.out _ Ac cc Ad cd hrc hrd).mono ?_; rintro e we ⟨rfl, qe, hwe⟩; have q5 : Below wr.heap.size wr we := (by rw [hwe]; exact below_drewN q4 qe); clear hwe) | fail))
            have HP5 := Lib.hid (HP.out.below q5)
            have HB5 := Lib.hid (HBR.out.trans (q5.mono HBR.out.size))
            clear q0 q1 q2 q3 q4 q5 hownc hownd hrc hrd hbc hbd RW RX BW BX SW PL hrr
            go_wp2_with fail
            go_roundw
            case rel => exact ⟨0 + 1, by omega, by go_num, HP5.out, HB5.out⟩
            case measure => simp [intOf]
          · have PL : Hid (∀ W, Below wr.heap.size wr W → W.cell? ⟨gp, 2, none⟩ = some (.slice (some ⟨gl, 0, none⟩) 2 2) ∧ W.cell? ⟨gp, 3, none⟩ = some (.slice (some ⟨gm, 0, none⟩) 2 2) ∧ W.cell? ⟨gl, 1, none⟩ = some (.pointer (some ⟨L2 true, 0, none⟩)) ∧ W.cell? ⟨gm, 1, none⟩ = some (.pointer (some ⟨M2 true, 0, none⟩))) := fun W hW => by
              have hb := (HP.out.below hW).b
              exact ⟨hb.bp.cell 2, hb.bp.cell 3, hb.bl.cell 1, hb.bm.cell 1⟩
            have RW : Hid (∀ W, Below wr.heap.size wr W → Calls Tryz.prog 18 #[.pointer (some ⟨L2 true, 0, none⟩)] W fun e w' => e = .returned (.int .i64 ((N : Int) - ((st2 true).1.length : Int))) ∧ ∃ m, w' = W.drewN m) := fun W hW => by
              have hp := HP.out.below hW
              obtain ⟨S, hd⟩ := hp.two.ld
              exact wroom_any true (L2 true) w.heap.size gd N S st2 W hd (hp.b.lo true _ rfl)
            have RX : Hid (∀ W, Below wr.heap.size wr W → Calls Tryz.prog 26 #[.pointer (some ⟨M2 true, 0, none⟩)] W fun e w' => e = .returned (.int .i64 ((N : Int) - ((st2 true).1.length : Int))) ∧ ∃ m, w' = W.drewN m) := fun W hW => by
              have hp := HP.out.below hW
              obtain ⟨S, hd⟩ := hp.two.rd
              exact rroom_any true (M2 true) w.heap.size gx N S st2 W hd (hp.b.mo true _ rfl)
            have BW : Hid (∀ W, Below wr.heap.size wr W → Calls Tryz.prog 19 #[.pointer (some ⟨gd, 0, none⟩), .int .i64 1] W fun e w' => ∃ A c, e = .returned (.slice A (st2 true).1.length c) ∧ (st2 true).1.length ≤ c ∧ c ≤ maxLen ∧ w'.ownsRow W.heap.size 5 1 (.slice A (st2 true).1.length c) (st2 true).1.length ((st2 true).1.map bval) ∧ Below W.heap.size W w') := fun W hW => by
              obtain ⟨S, hd⟩ := (HP.out.below hW).two.ld
              exact (bytes_true w.heap.size gd N S st2 W hd).mono fun e w' ⟨v, h1, h2, h3⟩ => by
                obtain ⟨A9, c9, rfl, h4, h5, _⟩ := own_slice h2
                exact ⟨A9, c9, h1, h4, h5, h2, h3⟩
            have BX : Hid (∀ W, Below wr.heap.size wr W → Calls Tryz.prog 27 #[.pointer (some ⟨gx, 0, none⟩), .int .i64 1] W fun e w' => ∃ A c, e = .returned (.slice A (st2 true).1.length c) ∧ (st2 true).1.length ≤ c ∧ c ≤ maxLen ∧ w'.ownsRow W.heap.size 5 1 (.slice A (st2 true).1.length c) (st2 true).1.length ((st2 true).1.map bval) ∧ Below W.heap.size W w') := fun W hW => by
              obtain ⟨S, hd⟩ := (HP.out.below hW).two.rd
              exact (rbytes_true w.heap.size gx N S st2 W hd).mono fun e w' ⟨v, h1, h2, h3⟩ => by
                obtain ⟨A9, c9, rfl, h4, h5, _⟩ := own_slice h2
                exact ⟨A9, c9, h1, h4, h5, h2, h3⟩
            have hlen : (st2 true).1.length ≤ 262144 := by
              obtain ⟨S, hd⟩ := HP.out.two.ld
              exact Nat.le_trans (hd.ok.2 true).1 hd.ok.1
            generalize (st2 true).1 = LB at *
            have SW : Hid (∀ W A1 c1 A2 c2, Reads W W.heap.size 1 A1 LB.length (LB.map bval) → Reads W W.heap.size 1 A2 LB.length (LB.map bval) → Calls Tryz.prog 20 #[.slice A1 LB.length c1, .slice A2 LB.length c2] W fun e w' => e = .returned (.bool true) ∧ ∃ m, w' = W.drewN m) := fun W A1 c1 A2 c2 h1 h2 => by
              have := sameBytes_any A1 A2 LB.length c1 LB.length c2 W.heap.size W.heap.size LB LB W h1 h2 (by unfold maxLen; omega) (by unfold maxLen; omega)
              rwa [decide_eq_true rfl] at this
            have hrr : ((N : Int) - (LB.length : Int) != (N : Int) - (LB.length : Int)) = false := by simp
            have q0 : Below wr.heap.size wr wr.drew := (Below.refl _ _).drew
            go_wp2_with fail
            go_region_held3 (fun W => W.cell? ⟨gp, 2, none⟩ = some (.slice (some ⟨gl, 0, none⟩) 2 2) ∧ W.cell? ⟨gp, 3, none⟩ = some (.slice (some ⟨gm, 0, none⟩) 2 2) ∧ W.cell? ⟨gl, 1, none⟩ = some (.pointer (some ⟨L2 true, 0, none⟩)) ∧ W.cell? ⟨gm, 1, none⟩ = some (.pointer (some ⟨M2 true, 0, none⟩))) (first | exact PL.out _ q0 | exact PL.out _ q1 | exact PL.out _ q2 | exact PL.out _ q3 | exact PL.out _ q4 | exact PL.out _ q5) ((first | (go_at_call 18; refine (RW.out _ q0).mono ?_; rintro e wa ⟨rfl, qa, hwa⟩; have q1 : Below wr.heap.size wr wa := (by rw [hwa]; exact below_drewN q0 qa); clear hwa) | (go_at_call 26; refine (RX.out _ q1).mono ?_; rintro e wb ⟨rfl, qb, hwb⟩; have q2 : Below wr.heap.size wr wb := (by rw [hwb]; exact below_drewN q1 qb); clear hwb) | (go_at_call 19; refine (BW.out _ q2).mono ?_; rintro e wc ⟨Ac, cc, rfl, hcc1, hcc2, hownc, hbc⟩; have q3 : Below wr.heap.size wr wc := q2.trans (hbc.mono q2.size)) | (go_at_call 27; refine (BX.out _ q3).mono ?_; rintro e wd ⟨Ad, cd, rfl, hcd1, hcd2, hownd, hbd⟩; have q4 : Below wr.heap.size wr wd := q3.trans (hbd.mono q3.size); have hrc := Reads.of_own (own_below hownc hbd); have hrd := Reads.of_own hownd) | (go_at_call 20; refine (SW.out _ Ac cc Ad cd hrc hrd).mono ?_; rintro e we ⟨rfl, qe, hwe⟩; have q5 : Below wr.heap.size wr we := (by rw [hwe]; exact below_drewN q4 qe); clear hwe) | fail))
            have HP5 := Lib.hid (HP.out.below q5)
            have HB5 := Lib.hid (HBR.out.trans (q5.mono HBR.out.size))
            clear q0 q1 q2 q3 q4 q5 hownc hownd hrc hrd hbc hbd RW RX BW BX SW PL hrr
            go_wp2_with fail
            go_roundw
            case rel => exact ⟨1 + 1, by omega, by go_num, HP5.out, HB5.out⟩
            case measure => simp [intOf]
          · go_wp2_with fail
            go_roundw
            case rel => exact ⟨k + 1, st2, L2, M2, by omega, by go_num, HP.out, HBR.out⟩
            case measure => simp [intOf]; omega
      · obtain rfl : k = m := by omega
        go_wp2_with fail
        go_must (refine (WK.out _ HB.out).mono ?_)
        rintro e w8 ⟨rfl, hb8⟩
        go_wp2_with fail
        go_ret
        exact ⟨rfl, HB.out.trans (hb8.mono HB.out.size)⟩
end Go.Proofs.YtalkglmneicpoaaGreatDoor
