/-
  CalcFolds: the walk.
-/
import Derived.Test.YtpokbdchbceenaaCalcTotal
import Derived.Test.YtpokbdchbceenaaPick
import Derived.Test.YtpokbdchbceenaaInts
import Derived.StillTailTactics
import Derived.IntWalk
import Derived.Deep.RegionHeld3
namespace Go.Proofs.Ytpokbdchbceenaa
set_option linter.unusedVariables false
set_option linter.unusedSimpArgs false
open Go.RowKit
theorem quiet_same {P : Program} {f : FuncId} {args : Array Value} {w : World} {n : Nat} {v : Value} (h : Calls P f args (w.drewN n) fun e w' => e = .returned v ∧ w.drewN n = w') :
    Calls P f args (w.drewN n) fun e w'' => e = .returned v ∧ ∃ m, w'' = w.drewN m := h.mono fun _ _ ⟨he, hm⟩ => ⟨he, n, hm.symm⟩
set_option maxRecDepth 100000 in
set_option maxHeartbeats 8000000 in
theorem calcFolds_any (op size : Int) (A : Option Addr) (n c : Nat) (zs : List Int) (w : World) (lo : -9223372036854775808 ≤ op) (ho : op ≤ 9223372036854775807) (ls : -9223372036854775808 ≤ size) (hs : size ≤ 9223372036854775807)
    (hx : Reads w w.heap.size 1 A n (zs.map ival)) (hnc : n ≤ c) (hcm : c ≤ maxLen) :
    Calls Try.prog 4 #[.int .i64 op, .int .i64 size, .slice A n c] w fun e w' => e = .returned (.bool true) ∧ Below w.heap.size w w' := by
  have C3 := Lib.hid works_any
  obtain ⟨o, hoe, ho4⟩ : ∃ o : Nat, wrap64 (op - 1) % 4 = (o : Int) ∧ o < 4 := ⟨(wrap64 (op - 1) % 4).toNat, by omega, by omega⟩
  obtain ⟨s, hse, hs16⟩ : ∃ s : Nat, wrap64 (size - 1) % 16 = (s : Int) ∧ s < 16 := ⟨(wrap64 (size - 1) % 16).toNat, by omega, by omega⟩
  have P1 : Hid (∀ W, Calls Try.prog 10 #[.int .i64 (wrap64 (op - 1)), .int .i64 4] W fun e w' => e = .returned (.int .i64 (o : Int)) ∧ W = w') := fun W => by
    have := pick_any (wrap64 (op - 1)) 4 W (by omega) (by omega) (by unfold wrap64; omega) (by unfold wrap64; omega)
    rwa [hoe] at this
  have P2 : Hid (∀ W, Calls Try.prog 10 #[.int .i64 (wrap64 (size - 1)), .int .i64 16] W fun e w' => e = .returned (.int .i64 (s : Int)) ∧ W = w') := fun W => by
    have := pick_any (wrap64 (size - 1)) 16 W (by omega) (by omega) (by unfold wrap64; omega) (by unfold wrap64; omega)
    rwa [hse] at this
  clear hoe hse lo ho ls hs
  have HL := Lib.hid hx.ints_len
  have HX := Lib.hid hx
  clear hx
  have hnm : n ≤ maxLen := Nat.le_trans hnc hcm
  have HNM := Lib.hid hnm
  unfold maxLen at hnm hcm
  by_cases hbig : 300 < n
  · go_enter Try.func4, Try.ntmps4
    go_wp2_with fail
    go_must (refine (P1.out _).mono ?_)
    rintro e w1 ⟨rfl, rfl⟩
    go_wp2_with fail
    go_must (refine (P2.out _).mono ?_)
    rintro e w1 ⟨rfl, rfl⟩
    go_wp2_with fail
    go_must (refine (C3.out _).mono ?_)
    rintro e w1 ⟨rfl, hb⟩
    go_wp2_with fail
    go_ret
    exact ⟨rfl, hb⟩
  have FA : Hid (∀ (acc v : Int) (k : Nat) W, k ≤ 300 → Calls Try.prog 11 #[fnV (1 + (o : Int)) 0 0, cellV acc k, .int .i64 v] W fun e w' => e = .returned (cellV (foldV (1 + o) acc k v) ((k : Int) + 1)) ∧ Below W.heap.size W w') := fun acc v k W hk =>
    fold_any (1 + o) k 0 0 acc v W (by omega) (by omega) (by omega)
  have WA1 : Hid (∀ (acc v : Int) (k : Nat) W, k + 1 < 1 + s → Calls Try.prog 13 #[fnV (1 + (o : Int)) (1 + (s : Int)) 0, cellV acc k, .int .i64 v] W fun e w' => e = .returned (.tuple #[cellV (foldV (1 + o) acc k v) ((k : Int) + 1), ival 0, .bool false]) ∧ Below W.heap.size W w') := fun acc v k W hk => by
    have := window_any (1 + o) k (1 + (s : Int)) 0 acc v W (by omega) (by omega) (by omega)
    unfold winV at this
    rw [if_pos (by omega)] at this
    exact this
  have WA2 : Hid (∀ (acc v : Int) (k : Nat) W, k ≤ 300 → 1 + s ≤ k + 1 → Calls Try.prog 13 #[fnV (1 + (o : Int)) (1 + (s : Int)) 0, cellV acc k, .int .i64 v] W fun e w' => e = .returned (.tuple #[cellV 0 0, ival (foldV (1 + o) acc k v), .bool true]) ∧ Below W.heap.size W w') := fun acc v k W h3 hk => by
    have := window_any (1 + o) k (1 + (s : Int)) 0 acc v W (by omega) (by omega) (by omega)
    unfold winV at this
    rw [if_neg (by omega)] at this
    exact this
  have TA : Hid (∀ (A : Option Addr) (n c B : Nat) (ys : List Int) W, Reads W B 1 A n (ys.map ival) → 1 ≤ n → n ≤ maxLen → Calls Try.prog 12 #[.int .i64 (1 + (o : Int)), .slice A n c] W fun e w' => e = .returned (.int .i64 (accV (1 + o) ys)) ∧ W = w') := fun A n c B ys W hr h1 hm =>
    total_any (1 + o) (by omega) (by omega) A n c B ys W hr h1 hm
  have hnb : n ≤ 300 := by omega
  have hbd : decide ((300 : Int) < (n : Int)) = false := by simp; omega
  clear hbig
  go_enter Try.func4, Try.ntmps4
  go_wp2_with fail
  go_must (refine (P1.out _).mono ?_)
  rintro e w1 ⟨rfl, rfl⟩
  go_wp2_with fail
  go_must (refine (P2.out _).mono ?_)
  rintro e w1 ⟨rfl, rfl⟩
  go_wp2_with fail
  have K7 : Hid (Blk ((w.alloc (.cells #[ival 0, ival 0] 31)).alloc (.cells #[ival 0, ival 0] 31)) w.heap.size 31 #[ival 0, ival 0]) := (Blk.new w _ _).alloc _
  have K8 : Hid (Blk ((w.alloc (.cells #[ival 0, ival 0] 31)).alloc (.cells #[ival 0, ival 0] 31)) (w.heap.size + 1) 31 #[ival 0, ival 0]) := by
    have := Blk.new (w.alloc (.cells #[ival 0, ival 0] 31)) 31 #[ival 0, ival 0]
    rw [show (w.alloc (.cells #[ival 0, ival 0] 31)).heap.size = w.heap.size + 1 by simp] at this
    exact this
  have HB : Hid (Below w.heap.size w ((w.alloc (.cells #[ival 0, ival 0] 31)).alloc (.cells #[ival 0, ival 0] 31))) := ((Below.refl _ _).alloc (Nat.le_refl _) _).alloc (by simp) _
  generalize (w.alloc (.cells #[ival 0, ival 0] 31)).alloc (.cells #[ival 0, ival 0] 31) = w0 at *
  go_loopw [9] (fun i wr => ∃ k : Nat, k ≤ n ∧ i = .int .i64 k ∧ Blk wr w.heap.size 31 #[ival (accV (1 + o) (zs.take k)), ival k] ∧ Blk wr (w.heap.size + 1) 31 #[ival (accV (1 + o) (segV (1 + s) k zs)), ival ((k % (1 + s) : Nat) : Int)] ∧ Below w.heap.size w wr) (fun i _ => n - (intOf i).toNat)
  case atStart => exact ⟨0, by omega, rfl, by simpa [accV] using K7.out, by simpa [accV, segV] using K8.out, HB.out⟩
  case round =>
    obtain ⟨k, hk, rfl, k7, k8, hbel⟩ := hrel
    clear K7 K8 HB
    by_cases hlt : k < n
    · have hlt' : (k : Int) < (n : Int) := by omega
      obtain ⟨ad, rfl, hadb, hc⟩ := (HX.out.below hbel).int (k := k) (by rw [HL.out]; omega)
      have hT := accV_take (1 + o) zs k (by rw [HL.out]; omega)
      have hk1 : k < zs.length := by rw [HL.out]; omega
      have hSg := accV_snoc (1 + o) (segV (1 + s) k zs) zs[k]
      rw [segV_len _ _ _ (by omega)] at hSg
      have HS1 : Hid (k % (1 + s) + 1 < 1 + s → segV (1 + s) (k + 1) zs = segV (1 + s) k zs ++ [zs[k]]) := seg_next (1 + s) k zs hk1
      have HS2 : Hid (1 + s ≤ k % (1 + s) + 1 → segV (1 + s) (k + 1) zs = []) := seg_full (1 + s) k zs hk1 (by omega)
      have HS3 : Hid (1 + s ≤ k % (1 + s) + 1 → segV (1 + s) k zs ++ [zs[k]] = (zs.take (k + 1)).drop (k + 1 - (1 + s))) := seg_told (1 + s) k zs hk1 (by omega)
      have HM1 := Lib.hid (mod_next (1 + s) k)
      have HM2 := Lib.hid (mod_full (1 + s) k (by omega))
      have HC : Hid (w.cell? (ad.add k) = some (ival zs[k])) := by rw [← hbel.cell (by rw [block_of_add]; exact hadb)]; exact hc
      have HT := Lib.hid hT
      have HSG := Lib.hid hSg
      have hml := Nat.mod_lt k (show 0 < 1 + s by omega)
      generalize zs[k] = z at *
      generalize segV (1 + s) k zs = sg at *
      have HMK := Lib.hid (Nat.mod_le k (1 + s))
      generalize k % (1 + s) = m at *
      generalize accV (1 + o) (zs.take k) = ac at *
      generalize accV (1 + o) sg = sc at *
      have c70 := k7.cell 0
      have c71 := k7.cell 1
      simp only [List.getElem?_toArray, List.getElem?_cons_zero, List.getElem?_cons_succ] at c70 c71
      have K7 := Lib.hid k7
      have K8 := Lib.hid k8
      have HB := Lib.hid hbel
      clear hT hSg k7 k8 hbel
      go_wp2_with fail
      go_still_tail 7, (by kernel_rfl)
      change wpList _ _ _ _ _ (wr.drewN 1)
      go_wp2_with fail
      go_must (refine (FA.out _ _ _ _ (by omega)).mono ?_)
      rintro e w1 ⟨rfl, hb1⟩
      have k7 := (K7.out.drewN 1).below hb1 K7.out.lt
      have k8 := (K8.out.drewN 1).below hb1 K8.out.lt
      have hbel := (below_drewN HB.out 1).trans (hb1.mono HB.out.size)
      clear K7 K8 HB hb1 c70 c71
      have d70 := k7.cell 0
      have d71 := k7.cell 1
      simp only [List.getElem?_toArray, List.getElem?_cons_zero, List.getElem?_cons_succ] at d70 d71
      have f70 := k7.frozen 0
      have f71 := k7.frozen 1
      generalize hF : foldV (1 + o) ac k z = F at *
      have K7 := Lib.hid ((k7.set_ 0 (ival F)).set_ 1 (ival ((k : Int) + 1)))
      have K8 := Lib.hid ((k8.far (p := ⟨w.heap.size, 0, none⟩) (by simp) (ival F)).far (p := ⟨w.heap.size, 1, none⟩) (by simp) (ival ((k : Int) + 1)))
      have HB := Lib.hid (below_set1 (below_set1 hbel (Nat.le_refl _) 0 (ival F)) (Nat.le_refl _) 1 (ival ((k : Int) + 1)))
      have HF := Lib.hid hF
      clear k7 k8 hbel hF hc
      go_wp2_with fail
      generalize (w1.setCell ⟨w.heap.size, 0, none⟩ (ival F)).setCell ⟨w.heap.size, 1, none⟩ (ival ((k : Int) + 1)) = w2 at *
      clear d70 d71 f70 f71
      have T1 : Hid (∀ q, Calls Try.prog 12 #[.int .i64 (1 + (o : Int)), .slice (some ad) (k + 1) c] (w2.drewN q) fun e w' => e = .returned (.int .i64 F) ∧ w2.drewN q = w') := fun q => by
        have hr := ((HX.out.below HB.out).take (k := k + 1) (by omega)).drewN q
        rw [Nat.mul_one, ← List.map_take] at hr
        have := TA.out (some ad) (k + 1) c _ _ _ hr (by omega) (by have := HNM.out; omega)
        rwa [HT.out] at this
      have e70 := K7.out.cell 0
      have e71 := K7.out.cell 1
      simp only [Array.setIfInBounds, List.getElem?_toArray, List.getElem?_cons_zero, List.getElem?_cons_succ] at e70 e71
      have hFF : (F != F) = false := by simp
      have hkc : k + 1 ≤ c := by omega
      have hkc2 : (k : Int) + 1 ≤ (c : Int) := by omega
      have hkk : ((k : Int) + 1 != (k : Int) + 1) = false := by simp
      have hq1 : (0 : Int) ≤ (k : Int) + 1 := by omega
      have hq2 : ((k : Int) + 1).toNat = k + 1 := by omega
      have hq3 : IntKind.i64.wrap ((k : Int) + 1) = (k : Int) + 1 := IntWalk.i64_in _ (by omega)
      go_quiet ((go_at_call 12; exact quiet_same (T1.out _)))
      clear e70 e71 T1
      replace K7 := Lib.hid (K7.out.drewN nq)
      replace K8 := Lib.hid (K8.out.drewN nq)
      replace HB := Lib.hid (below_drewN HB.out nq)
      generalize w2.drewN nq = w3 at *
      have e80 := K8.out.cell 0
      have e81 := K8.out.cell 1
      simp only [List.getElem?_toArray, List.getElem?_cons_zero, List.getElem?_cons_succ] at e80 e81
      have hel : w3.cell? (ad.add k) = some (ival z) := (HB.out.cell (by rw [block_of_add]; exact hadb)).trans HC.out
      have ZZ := Lib.hid hFF
      by_cases hw : m + 1 < 1 + s
      · generalize hG : foldV (1 + o) sc m z = G at *
        have HG := Lib.hid hG
        have WB : Hid (∀ W, Calls Try.prog 13 #[fnV (1 + (o : Int)) (1 + (s : Int)) 0, cellV sc m, .int .i64 z] W fun e w' => e = .returned (.tuple #[cellV G ((m : Int) + 1), ival 0, .bool false]) ∧ Below W.heap.size W w') := fun W => by
          have := WA1.out sc z m W hw
          rwa [hG] at this
        clear hG
        clear hq1 hq2 hq3 hkc hkc2 hkk hFF
        have hp : (ad.add k).block < w.heap.size := by rw [block_of_add]; exact hadb
        have hz3 := HB.out.size
        have hl8 := K8.out.lt
        have hne8 : w.heap.size + 1 ≠ w3.heap.size := by omega
        have hne7 : w.heap.size ≠ w3.heap.size := by omega
        go_wp2_with fail
        go_region_held3 (fun w' => w'.cell? ⟨w.heap.size + 1, 0, none⟩ = some (ival sc) ∧ w'.cell? ⟨w.heap.size + 1, 1, none⟩ = some (ival (m : Int)) ∧ w'.cell? (ad.add k) = some (ival z))
          (first | go_keep | (have B1 := (HB.out.drew).trans (hb4.mono hz3); have K1 := K8.out.drew.below hb4 hl8; exact ⟨K1.cell 0, K1.cell 1, (B1.cell hp).trans HC.out⟩) | (have B1 := (HB.out.drew).trans (hb4.mono hz3); have K1 := K8.out.drew.below hb4 hl8; exact ⟨(K1.alloc _).cell 0, (K1.alloc _).cell 1, ((B1.alloc B1.size _).cell hp).trans HC.out⟩) | (have B1 := ((HB.out.drew).alloc hz3 (.cells #[ival 0, ival 0] 31)).trans (hb4.mono (by simp; omega)); have K1 := (K8.out.drew.alloc (.cells #[ival 0, ival 0] 31)).below hb4 (by simp; omega); exact ⟨K1.cell 0, K1.cell 1, (B1.cell hp).trans HC.out⟩) | (have B1 := ((HB.out.drew).alloc hz3 (.cells #[ival 0, ival 0] 31)).trans (hb4.mono (by simp; omega)); have K1 := (K8.out.drew.alloc (.cells #[ival 0, ival 0] 31)).below hb4 (by simp; omega); exact ⟨((K1.far (p := ⟨w3.heap.size, 0, none⟩) hne8 _).far (p := ⟨w3.heap.size, 1, none⟩) hne8 _).cell 0, ((K1.far (p := ⟨w3.heap.size, 0, none⟩) hne8 _).far (p := ⟨w3.heap.size, 1, none⟩) hne8 _).cell 1, ((below_set1 (below_set1 B1 hz3 0 _) hz3 1 _).cell hp).trans HC.out⟩))
          (((go_at_call 13; refine (WB.out _).mono ?_; rintro e w4 ⟨rfl, hb4⟩; (first | (have kx := (Blk.new w3.drew 31 #[ival 0, ival 0]).below hb4 (by simp); have x1 : w4.cell? ⟨w3.heap.size, 0, none⟩ = some (ival 0) := kx.cell 0; have x2 : w4.cell? ⟨w3.heap.size, 1, none⟩ = some (ival 0) := kx.cell 1; have x3 : w4.frozen? ⟨w3.heap.size, 0, none⟩ = false := kx.frozen 0; have x4 : w4.frozen? ⟨w3.heap.size, 1, none⟩ = false := kx.frozen 1) | skip))))

        all_goals first
          | (have B1 := ((HB.out.drew).alloc hz3 (.cells #[ival 0, ival 0] 31)).trans (hb4.mono (by simp; omega))
             have J9 : Hid (Blk ((w4.setCell ⟨w3.heap.size, 0, none⟩ (ival G)).setCell ⟨w3.heap.size, 1, none⟩ (ival ((m : Int) + 1))) w3.heap.size 31 #[ival G, ival ((m : Int) + 1)]) := ((kx.set_ 0 (ival G)).set_ 1 (ival ((m : Int) + 1)))
             have J7 := Lib.hid ((((K7.out.drew.alloc (.cells #[ival 0, ival 0] 31)).below hb4 (by simp; omega)).far (p := ⟨w3.heap.size, 0, none⟩) hne7 (ival G)).far (p := ⟨w3.heap.size, 1, none⟩) hne7 (ival ((m : Int) + 1)))
             have J8 := Lib.hid ((((K8.out.drew.alloc (.cells #[ival 0, ival 0] 31)).below hb4 (by simp; omega)).far (p := ⟨w3.heap.size, 0, none⟩) hne8 (ival G)).far (p := ⟨w3.heap.size, 1, none⟩) hne8 (ival ((m : Int) + 1)))
             have JB := Lib.hid (below_set1 (below_set1 B1 hz3 0 (ival G)) hz3 1 (ival ((m : Int) + 1)))
             have hgl : w.heap.size + 1 < w3.heap.size := hl8
             clear kx x1 x2 x3 x4 B1 hb4 hne7 hne8 hl8 hz3 K7 K8
             generalize ((w4.setCell ⟨w3.heap.size, 0, none⟩ (ival G)).setCell ⟨w3.heap.size, 1, none⟩ (ival ((m : Int) + 1))) = w5 at *
             generalize w3.heap.size = g at *)
          | (have B1 := (HB.out.drew).trans (hb4.mono hz3)
             have J9 := Lib.hid (Blk.new w4 31 #[ival G, ival ((m : Int) + 1)])
             have J7 := Lib.hid ((K7.out.drew.below hb4 K7.out.lt).alloc (.cells #[ival G, ival ((m : Int) + 1)] 31))
             have J8 := Lib.hid ((K8.out.drew.below hb4 hl8).alloc (.cells #[ival G, ival ((m : Int) + 1)] 31))
             have JB := Lib.hid (B1.alloc B1.size (.cells #[ival G, ival ((m : Int) + 1)] 31))
             have hgl : w.heap.size + 1 < w4.heap.size := Nat.lt_of_lt_of_le hl8 hb4.size
             clear B1 hb4 hne7 hne8 hl8 hz3 K7 K8
             generalize w4.alloc (.cells #[ival G, ival ((m : Int) + 1)] 31) = w5 at *
             generalize w4.heap.size = g at *)
        all_goals
          have e90 := J9.out.cell 0
          have e91 := J9.out.cell 1
          simp only [List.getElem?_toArray, List.getElem?_cons_zero, List.getElem?_cons_succ] at e90 e91
          have hq1 : (0 : Int) ≤ (k : Int) + 1 := by omega
          have hmm : ((m : Int) + 1 != (m : Int) + 1) = false := by simp
          have hm0 : ((m : Int) + 1 == 0) = false := by simp; omega
          have hs0 : (1 + (s : Int) == 0) = false := by simp; omega
          have hq4 : ((k : Int) + 1).tmod (1 + (s : Int)) = (m : Int) + 1 := by
            rw [Int.tmod_eq_emod_of_nonneg (by omega), show (k : Int) + 1 = ((k + 1 : Nat) : Int) from rfl, show 1 + (s : Int) = ((1 + s : Nat) : Int) by omega, ← Int.natCast_emod, HM1.out hw]
            rfl
          have hq5 : IntKind.i64.wrap ((m : Int) + 1) = (m : Int) + 1 := IntWalk.i64_in _ (by omega)
          have hq3 : IntKind.i64.wrap ((k : Int) + 1) = (k : Int) + 1 := IntWalk.i64_in _ (by omega)
          go_wp2_with fail
          go_quiet (fail)
          clear hq1 hmm hm0 hs0 hq4 hq5 hq3
          replace J7 := Lib.hid (J7.out.drewN nq)
          replace J8 := Lib.hid (J8.out.drewN nq)
          replace J9 := Lib.hid (J9.out.drewN nq)
          replace JB := Lib.hid (below_drewN JB.out nq)
          generalize w5.drewN nq = w6 at *
          have e80 := J8.out.cell 0
          have e81 := J8.out.cell 1
          have f80 := J8.out.frozen 0
          have f81 := J8.out.frozen 1
          have e90 := J9.out.cell 0
          have e91 := J9.out.cell 1
          simp only [List.getElem?_toArray, List.getElem?_cons_zero, List.getElem?_cons_succ] at e80 e81 e90 e91
          have L7 := Lib.hid ((J7.out.far (p := ⟨w.heap.size + 1, 0, none⟩) (by simp) (ival G)).far (p := ⟨w.heap.size + 1, 1, none⟩) (by simp) (ival ((m : Int) + 1)))
          have L8 := Lib.hid ((J8.out.set_ 0 (ival G)).set_ 1 (ival ((m : Int) + 1)))
          have LB := Lib.hid (below_set1 (below_set1 JB.out (Nat.le_succ _) 0 (ival G)) (Nat.le_succ _) 1 (ival ((m : Int) + 1)))
          clear J7 J8 J9 JB
          go_wp2_with fail
          go_roundw
          case rel => exact ⟨k + 1, by omega, by go_num, by rw [HT.out]; exact L7.out, by rw [HS1.out hw, HSG.out, HM1.out hw]; exact L8.out, LB.out⟩
          case measure => simp [intOf]; omega
      · generalize hG : foldV (1 + o) sc m z = G at *
        have HG := Lib.hid hG
        have WB : Hid (∀ W, Calls Try.prog 13 #[fnV (1 + (o : Int)) (1 + (s : Int)) 0, cellV sc m, .int .i64 z] W fun e w' => e = .returned (.tuple #[cellV 0 0, ival G, .bool true]) ∧ Below W.heap.size W w') := fun W => by
          have := WA2.out sc z m W (by omega) (by omega)
          rwa [hG] at this
        clear hG
        clear hq1 hq2 hq3 hkc hkc2 hkk hFF
        have hp : (ad.add k).block < w.heap.size := by rw [block_of_add]; exact hadb
        have hz3 := HB.out.size
        have hl8 := K8.out.lt
        have hne8 : w.heap.size + 1 ≠ w3.heap.size := by omega
        have hne7 : w.heap.size ≠ w3.heap.size := by omega
        go_wp2_with fail
        go_region_held3 (fun w' => w'.cell? ⟨w.heap.size + 1, 0, none⟩ = some (ival sc) ∧ w'.cell? ⟨w.heap.size + 1, 1, none⟩ = some (ival (m : Int)) ∧ w'.cell? (ad.add k) = some (ival z))
          (first | go_keep | (have B1 := (HB.out.drew).trans (hb4.mono hz3); have K1 := K8.out.drew.below hb4 hl8; exact ⟨K1.cell 0, K1.cell 1, (B1.cell hp).trans HC.out⟩) | (have B1 := (HB.out.drew).trans (hb4.mono hz3); have K1 := K8.out.drew.below hb4 hl8; exact ⟨(K1.alloc _).cell 0, (K1.alloc _).cell 1, ((B1.alloc B1.size _).cell hp).trans HC.out⟩) | (have B1 := ((HB.out.drew).alloc hz3 (.cells #[ival 0, ival 0] 31)).trans (hb4.mono (by simp; omega)); have K1 := (K8.out.drew.alloc (.cells #[ival 0, ival 0] 31)).below hb4 (by simp; omega); exact ⟨K1.cell 0, K1.cell 1, (B1.cell hp).trans HC.out⟩) | (have B1 := ((HB.out.drew).alloc hz3 (.cells #[ival 0, ival 0] 31)).trans (hb4.mono (by simp; omega)); have K1 := (K8.out.drew.alloc (.cells #[ival 0, ival 0] 31)).below hb4 (by simp; omega); exact ⟨((K1.far (p := ⟨w3.heap.size, 0, none⟩) hne8 _).far (p := ⟨w3.heap.size, 1, none⟩) hne8 _).cell 0, ((K1.far (p := ⟨w3.heap.size, 0, none⟩) hne8 _).far (p := ⟨w3.heap.size, 1, none⟩) hne8 _).cell 1, ((below_set1 (below_set1 B1 hz3 0 _) hz3 1 _).cell hp).trans HC.out⟩))
          (((go_at_call 13; refine (WB.out _).mono ?_; rintro e w4 ⟨rfl, hb4⟩; (first | (have kx := (Blk.new w3.drew 31 #[ival 0, ival 0]).below hb4 (by simp); have x1 : w4.cell? ⟨w3.heap.size, 0, none⟩ = some (ival 0) := kx.cell 0; have x2 : w4.cell? ⟨w3.heap.size, 1, none⟩ = some (ival 0) := kx.cell 1; have x3 : w4.frozen? ⟨w3.heap.size, 0, none⟩ = false := kx.frozen 0; have x4 : w4.frozen? ⟨w3.heap.size, 1, none⟩ = false := kx.frozen 1) | skip))))

        all_goals first
          | (have B1 := ((HB.out.drew).alloc hz3 (.cells #[ival 0, ival 0] 31)).trans (hb4.mono (by simp; omega))
             have J9 : Hid (Blk ((w4.setCell ⟨w3.heap.size, 0, none⟩ (ival 0)).setCell ⟨w3.heap.size, 1, none⟩ (ival 0)) w3.heap.size 31 #[ival 0, ival 0]) := ((kx.set_ 0 (ival 0)).set_ 1 (ival 0))
             have J7 := Lib.hid ((((K7.out.drew.alloc (.cells #[ival 0, ival 0] 31)).below hb4 (by simp; omega)).far (p := ⟨w3.heap.size, 0, none⟩) hne7 (ival 0)).far (p := ⟨w3.heap.size, 1, none⟩) hne7 (ival 0))
             have J8 := Lib.hid ((((K8.out.drew.alloc (.cells #[ival 0, ival 0] 31)).below hb4 (by simp; omega)).far (p := ⟨w3.heap.size, 0, none⟩) hne8 (ival 0)).far (p := ⟨w3.heap.size, 1, none⟩) hne8 (ival 0))
             have JB := Lib.hid (below_set1 (below_set1 B1 hz3 0 (ival 0)) hz3 1 (ival 0))
             have hgl : w.heap.size + 1 < w3.heap.size := hl8
             clear kx x1 x2 x3 x4 B1 hb4 hne7 hne8 hl8 hz3 K7 K8
             generalize ((w4.setCell ⟨w3.heap.size, 0, none⟩ (ival 0)).setCell ⟨w3.heap.size, 1, none⟩ (ival 0)) = w5 at *
             generalize w3.heap.size = g at *)
          | (have B1 := (HB.out.drew).trans (hb4.mono hz3)
             have J9 := Lib.hid (Blk.new w4 31 #[ival 0, ival 0])
             have J7 := Lib.hid ((K7.out.drew.below hb4 K7.out.lt).alloc (.cells #[ival 0, ival 0] 31))
             have J8 := Lib.hid ((K8.out.drew.below hb4 hl8).alloc (.cells #[ival 0, ival 0] 31))
             have JB := Lib.hid (B1.alloc B1.size (.cells #[ival 0, ival 0] 31))
             have hgl : w.heap.size + 1 < w4.heap.size := Nat.lt_of_lt_of_le hl8 hb4.size
             clear B1 hb4 hne7 hne8 hl8 hz3 K7 K8
             generalize w4.alloc (.cells #[ival 0, ival 0] 31) = w5 at *
             generalize w4.heap.size = g at *)
        all_goals
          have e90 := J9.out.cell 0
          have e91 := J9.out.cell 1
          simp only [List.getElem?_toArray, List.getElem?_cons_zero, List.getElem?_cons_succ] at e90 e91
          have hq1 : (0 : Int) ≤ (k : Int) + 1 := by omega
          have hq2 : ((k : Int) + 1).toNat = k + 1 := by omega
          have hkc : k + 1 ≤ c := by omega
          have hkc2 : (k : Int) + 1 ≤ (c : Int) := by omega
          have hs0 : (1 + (s : Int) == 0) = false := by simp; omega
          have hgg : (G != G) = false := by simp
          have hmk : m ≤ k := by have := HMK.out; omega
          have hqk : ((k + 1 - (1 + s) : Nat) : Int) = (k : Int) + 1 - (1 + (s : Int)) := by omega
          have T2 : Hid (∀ q', Calls Try.prog 12 #[.int .i64 (1 + (o : Int)), .slice (cutA (some ad) c (k + 1 - (1 + s)) 1) (k + 1 - (k + 1 - (1 + s))) (c - (k + 1 - (1 + s)))] (w5.drewN q') fun e w' => e = .returned (.int .i64 G) ∧ w5.drewN q' = w') := fun q' => by
            have hr := (((HX.out.below JB.out).take (k := k + 1) (by omega)).cutA (k := k + 1 - (1 + s)) (cap := c) (by omega) (by omega)).drewN q'
            rw [Nat.mul_one, Nat.mul_one, ← List.map_take, ← List.map_drop, ← HS3.out (by omega)] at hr
            have := TA.out (cutA (some ad) c (k + 1 - (1 + s)) 1) (k + 1 - (k + 1 - (1 + s))) (c - (k + 1 - (1 + s))) _ _ _ hr (by omega) (by have := HNM.out; omega)
            rwa [HSG.out] at this
          have hcut := run_cut_lh Try.elInts (some ad) n c (l := k + 1 - (1 + s)) (h := k + 1) (by omega) hkc
          have hq4 : ((k : Int) + 1).tmod (1 + (s : Int)) = 0 := by
            rw [Int.tmod_eq_emod_of_nonneg (by omega), show (k : Int) + 1 = ((k + 1 : Nat) : Int) from rfl, show 1 + (s : Int) = ((1 + s : Nat) : Int) by omega, ← Int.natCast_emod, HM2.out (by omega)]
            rfl
          generalize k + 1 - (1 + s) = q at *
          have hq6 : IntKind.i64.wrap ((k : Int) + 1 - (1 + (s : Int))) = (q : Int) := by rw [← hqk]; exact IntWalk.i64_in _ (by omega)
          have hq3 : IntKind.i64.wrap ((k : Int) + 1) = (k : Int) + 1 := IntWalk.i64_in _ (by omega)
          have hq7 : ∀ W, (Instr.slice 28 (.slice (some ad) n c) (some (.int .i64 (q : Int))) (some (.int .i64 ((k : Int) + 1))) none).run Try.prog W = .ok (.slice (cutA (some ad) c q 1) (k + 1 - q) (c - q)) W := hcut
          clear hcut hqk
          go_wp2_with fail
          go_quiet ((go_at_call 12; exact quiet_same (T2.out _)))
          clear hq1 hq2 hkc hkc2 hs0 hgg hq3 hq4 hq6 hq7
          replace J7 := Lib.hid (J7.out.drewN nq)
          replace J8 := Lib.hid (J8.out.drewN nq)
          replace J9 := Lib.hid (J9.out.drewN nq)
          replace JB := Lib.hid (below_drewN JB.out nq)
          generalize w5.drewN nq = w6 at *
          have e80 := J8.out.cell 0
          have e81 := J8.out.cell 1
          have f80 := J8.out.frozen 0
          have f81 := J8.out.frozen 1
          have e90 := J9.out.cell 0
          have e91 := J9.out.cell 1
          simp only [List.getElem?_toArray, List.getElem?_cons_zero, List.getElem?_cons_succ] at e80 e81 e90 e91
          have L7 := Lib.hid ((J7.out.far (p := ⟨w.heap.size + 1, 0, none⟩) (by simp) (ival 0)).far (p := ⟨w.heap.size + 1, 1, none⟩) (by simp) (ival 0))
          have L8 := Lib.hid ((J8.out.set_ 0 (ival 0)).set_ 1 (ival 0))
          have LB := Lib.hid (below_set1 (below_set1 JB.out (Nat.le_succ _) 0 (ival 0)) (Nat.le_succ _) 1 (ival 0))
          clear J7 J8 J9 JB
          go_wp2_with fail
          go_roundw
          case rel => exact ⟨k + 1, by omega, by go_num, by rw [HT.out]; exact L7.out, by rw [HS2.out (by omega), HM2.out (by omega)]; exact L8.out, LB.out⟩
          case measure => simp [intOf]; omega
    · obtain rfl : k = n := by omega
      go_wp2_with fail
      go_must (refine (C3.out _).mono ?_)
      rintro e w1 ⟨rfl, hb⟩
      go_wp2_with fail
      go_ret
      exact ⟨rfl, hbel.trans (hb.mono hbel.size)⟩
end Go.Proofs.Ytpokbdchbceenaa
