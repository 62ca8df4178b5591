/-
  PackBack: numbers and bytes that were laid are read as they were. The walk.
-/
import Derived.Test.YtnknefchpepegaaPackOpen
import Derived.Deep.RegionHeld3
import Derived.BigQuiet
namespace Go.Proofs.Ytnknefchpepegaa
set_option linter.unusedVariables false
set_option linter.unusedSimpArgs false
open Go.RowKit
def item (zs : List Int) (n1 : Nat) (Q : Nat → ActB) (i : Nat) : List UInt8 := vint (zig (zs.getD i 0)) ++ blobItem (decide (i < n1 ∧ (Q i).m ≤ 4096)) (Q i).bs
theorem item_yes {zs : List Int} {n1 i : Nat} {Q : Nat → ActB} (h1 : i < n1) (h2 : (Q i).m ≤ 4096) : item zs n1 Q i = vint (zig (zs.getD i 0)) ++ (vint (zig ((Q i).bs.length : Int)) ++ (Q i).bs) := by
  unfold item blobItem
  rw [if_pos (by simp; exact ⟨h1, h2⟩)]
theorem item_no {zs : List Int} {n1 i : Nat} {Q : Nat → ActB} (h : ¬ (i < n1 ∧ (Q i).m ≤ 4096)) : item zs n1 Q i = vint (zig (zs.getD i 0)) := by
  unfold item blobItem
  rw [if_neg (by simpa using h), List.append_nil]
theorem RdOf.own_ne' {W : World} {g B : Nat} {bs : List UInt8} {er : Int} (h : RdOf W g B bs er) {base size n : Nat} {v : Value} {xs : List Value} (ho : W.ownsRow base 5 size v n xs) : ∀ i, v.ownBlock = some i → ¬ (i = g) := by
  obtain ⟨A, m, c, h⟩ := h
  rintro i hi rfl
  exact own_blk_ne ho h.blk (by decide) hi
set_option maxRecDepth 100000 in
set_option maxHeartbeats 8000000 in
theorem packBack_any (A0 : Option Addr) (n0 c0 : Nat) (zs : List Int) (A1 : Option Addr) (n1 c1 : Nat) (Q : Nat → ActB) (w : World) (hr0 : Reads w w.heap.size 1 A0 n0 (zs.map ival)) (hz : ∀ z ∈ zs, -9223372036854775808 ≤ z ∧ z ≤ 9223372036854775807) (hn0 : n0 ≤ maxLen) (hr1 : Blobs w w.heap.size A1 n1 Q) (hn1 : n1 ≤ maxLen) :
    Calls Try.prog 3 #[.slice A0 n0 c0, .slice A1 n1 c1] w fun e w' => e = .returned (.bool true) ∧ Below w.heap.size w w' := by
  have hl0 := hr0.ints_len
  have HD : Hid (∀ k, k < n0 → ∃ ad, A0 = some ad ∧ (∀ W, Below w.heap.size w W → W.cell? (ad.add k) = some (.int .i64 (zs.getD k 0))) ∧ -9223372036854775808 ≤ zs.getD k 0 ∧ zs.getD k 0 ≤ 9223372036854775807) := by
    intro k hk
    have hkz : k < zs.length := by omega
    obtain ⟨ad, hA, hadB, hcell⟩ := hr0.int hkz
    have e : zs.getD k 0 = zs[k] := by simp [hkz]
    rw [e]
    exact ⟨ad, hA, fun W hW => (hW.cell (p := ad.add k) (by rw [block_of_add]; exact hadB)).trans hcell, hz _ (List.getElem_mem hkz)⟩
  have HB1 := Lib.hid hr1
  have HLe : Hid (∀ k, k ≤ 200 → (many (item zs n1 Q) 0 k).length ≤ 823200) := by
    intro k hk
    have h := many_le (item zs n1 Q) 4116 k 0 (fun i _ _ => by
      have h1 : (vint (zig (zs.getD i 0))).length ≤ 10 := by
        by_cases hi : i < zs.length
        · have e : zs.getD i 0 = zs[i] := by simp [hi]
          rw [e]
          have := hz _ (List.getElem_mem hi)
          exact vint_le _ (zig_lt _ this.1 this.2)
        · have e : zs.getD i 0 = 0 := by simp [hi]
          rw [e]
          exact vint_le _ (by decide)
      by_cases h : i < n1 ∧ (Q i).m ≤ 4096
      · rw [item_yes h.1 h.2]
        obtain ⟨_, _, _, _, _, _, hr⟩ := hr1 i h.1
        have hl := hr.bytes_len
        have := vint_le (zig ((Q i).bs.length : Int)) (zig_lt _ (by omega) (by omega))
        simp only [List.length_append]
        omega
      · rw [item_no h]; omega)
    omega
  unfold maxLen at hn0 hn1
  generalize hN : min n0 200 = N
  have HN := Lib.hid hN
  have hNn : N ≤ n0 := by omega
  have hN2 : N ≤ 200 := by omega
  clear hN hr0 hr1 hz hl0
  go_enter Try.func3, Try.ntmps3
  go_wp2_with fail
  go_loopw [5, 6] (fun V I wr => ∃ (k n c : Nat) (A : Option Addr), V = .slice A n c ∧ I = .int .i64 k ∧ k ≤ N ∧ wr.ownsRow w.heap.size 5 1 (.slice A n c) n ((many (item zs n1 Q) 0 k).map bval) ∧ Below w.heap.size w wr) (fun _ I _ => N - (intOf I).toNat)
  case atStart => exact ⟨0, 0, 0, none, rfl, rfl, by omega, World.ownsRow_nil _ _ _ _, Below.refl _ _⟩
  case round =>
    obtain ⟨k, n, c, A, rfl, rfl, hk, hown, hbk⟩ := hrel
    have HBK := Lib.hid hbk
    have HO := Lib.hid hown
    clear hbk hown
    have hnl : (many (item zs n1 Q) 0 k).length = n := by have := HO.out.1; simpa using this
    have hnle : n ≤ 823200 := by have := HLe.out k (by omega); omega
    by_cases hlt : k < N
    · have hltI : (k : Int) < (n0 : Int) := by omega
      have hl200 : (k : Int) < 200 := by omega
      obtain ⟨ad, rfl, hcell, hz1, hz2⟩ := HD.out k (by omega)
      have x0 := hcell wr HBK.out
      have D1 := Lib.hid (packInt_any A n c wr.heap.size (many (item zs n1 Q) 0 k) (zs.getD k 0) wr (Reads.of_own HO.out) (Nat.le_refl _) (by omega) hz1 hz2)
      have hvl := vint_le (zig (zs.getD k 0)) (zig_lt _ hz1 hz2)
      have HE : Hid (many (item zs n1 Q) 0 (k + 1) = many (item zs n1 Q) 0 k ++ item zs n1 Q k) := by have := many_end (item zs n1 Q) k 0; rw [Nat.zero_add] at this; exact this
      clear hcell
      generalize hgz : zs.getD k 0 = z at *
      have HGZ := Lib.hid hgz
      clear hgz
      generalize hgv : (vint (zig z)).length = q at *
      have HGV := Lib.hid hgv
      clear hgv
      go_wp2_with fail
      go_must (refine D1.out.mono ?_)
      rintro e w1 ⟨v1, rfl, hown1, hb1⟩
      obtain ⟨Av, cv, rfl, hcv, _, _⟩ := own_slice hown1
      have HO1 : Hid (w1.ownsRow w.heap.size 5 1 (.slice Av (n + q) cv) (n + q) ((many (item zs n1 Q) 0 k ++ vint (zig z)).map bval)) := own_base hown1 (fun i hi => Nat.le_trans HBK.out.size (hown1.lt i hi).1)
      have HB11 : Hid (Below w.heap.size w w1) := HBK.out.trans (hb1.mono HBK.out.size)
      clear hown1 hb1 D1 HO HBK x0
      by_cases hk1 : k < n1
      · have hk1I : (k : Int) < (n1 : Int) := by omega
        obtain ⟨ad1, rfl, hadB, hc1, hm1, hm2, hr1⟩ := HB1.out.below HB11.out k hk1
        obtain ⟨A3, m3, c3, xs, hQ⟩ : ∃ A3 m3 c3 xs, Q k = ⟨A3, m3, c3, xs⟩ := ⟨_, _, _, _, rfl⟩
        have hxl : xs.length = m3 := by have := hr1.bytes_len; rw [hQ] at this; exact this
        rw [hQ] at hc1 hm1 hm2 hr1
        simp only at hc1 hm1 hm2 hr1
        by_cases h4 : m3 ≤ 4096
        · have h4I : (m3 : Int) ≤ 4096 := by omega
          have HI : Hid (item zs n1 Q k = vint (zig z) ++ (vint (zig (m3 : Int)) ++ xs)) := by
            have := item_yes (zs := zs) (Q := Q) hk1 (by rw [hQ]; exact h4)
            rw [hQ, HGZ.out] at this
            simp only at this
            rw [hxl] at this
            exact this
          have D2 := Lib.hid (packBlob_any Av (n + q) cv w1.heap.size (many (item zs n1 Q) 0 k ++ vint (zig z)) A3 m3 c3 w.heap.size xs w1 (Reads.of_own HO1.out) (Nat.le_refl _) hr1 HB11.out.size (by omega) (by omega))
          have hvl2 := vint_le (zig (m3 : Int)) (zig_lt _ (by omega) (by omega))
          generalize hgv : (vint (zig (m3 : Int))).length = q2 at *
          clear hgv hQ hr1 hm1 hm2 hxl
          go_wp2_with fail
          go_must (refine D2.out.mono ?_)
          rintro e w2 ⟨v2, rfl, hown2, hb2⟩
          obtain ⟨A5, c5, rfl, hc5, _, _⟩ := own_slice hown2
          have HO2 : Hid (w2.ownsRow w.heap.size 5 1 (.slice A5 (n + q + q2 + m3) c5) (n + q + q2 + m3) ((many (item zs n1 Q) 0 (k + 1)).map bval)) := by
            show World.ownsRow _ _ _ _ _ _ _
            rw [HE.out, HI.out, ← List.append_assoc, ← List.append_assoc]
            exact own_base hown2 (fun i hi => Nat.le_trans HB11.out.size (hown2.lt i hi).1)
          have HB2 : Hid (Below w.heap.size w w2) := HB11.out.trans (hb2.mono HB11.out.size)
          clear hown2 hb2 D2 HO1 HB11 hc1
          go_wp2_with fail
          go_roundw
          case rel => exact ⟨k + 1, _, c5, A5, rfl, by go_num, by omega, HO2.out, HB2.out⟩
          case measure => simp [intOf]; omega
        · have h4I : ¬ (m3 : Int) ≤ 4096 := by omega
          have HI : Hid (item zs n1 Q k = vint (zig z)) := by
            have := item_no (zs := zs) (n1 := n1) (i := k) (Q := Q) (by rw [hQ]; intro h; exact h4 h.2)
            rw [HGZ.out] at this
            exact this
          clear hQ hr1 hm1 hm2 hxl h4
          go_wp2_with fail
          go_roundw
          case rel => exact ⟨k + 1, _, cv, Av, rfl, by go_num, by omega, by rw [HE.out, HI.out]; exact HO1.out, HB11.out⟩
          case measure => simp [intOf]; omega
      · have hk1I : ¬ (k : Int) < (n1 : Int) := by omega
        have HI : Hid (item zs n1 Q k = vint (zig z)) := by
          have := item_no (zs := zs) (n1 := n1) (i := k) (Q := Q) (fun h => hk1 h.1)
          rw [HGZ.out] at this
          exact this
        clear hk1
        go_wp2_with fail
        go_roundw
        case rel => exact ⟨k + 1, _, cv, Av, rfl, by go_num, by omega, by rw [HE.out, HI.out]; exact HO1.out, HB11.out⟩
        case measure => simp [intOf]; omega
    · obtain rfl : k = N := by omega
      have hstop : ¬ ((k : Int) < (n0 : Int)) ∨ ((k : Int) < (n0 : Int) ∧ ¬ (k : Int) < 200) := by have := HN.out; omega
      have C3 := Lib.hid (from_any A n c wr.heap.size _ wr (Reads.of_own HO.out) (Nat.le_refl _) (by omega))
      clear hlt
      rcases hstop with hs | ⟨hs, hs'⟩
      all_goals
        go_wp2_with fail
        go_must (refine C3.out.mono ?_)
        rintro e w3 ⟨g, rfl, hrd3, hg3, hb3⟩
        have HR3 := Lib.hid hrd3
        have HB3 : Hid (Below w.heap.size w w3) := HBK.out.trans (hb3.mono HBK.out.size)
        have hgw : w.heap.size ≤ g := Nat.le_trans HBK.out.size hg3
        clear C3 hrd3 hb3 hs HBK HO
        (try clear hs')
        obtain ⟨wo, rfl⟩ : ∃ wo : World, wo = wr := ⟨_, rfl⟩
        go_wp2_with fail
        go_loopw [8] (fun I wr => ∃ j : Nat, j ≤ k ∧ I = .int .i64 j ∧ RdOf wr g g (many (item zs n1 Q) j (k - j)) 0 ∧ Below w.heap.size w wr) (fun I _ => k - (intOf I).toNat)
        case atStart => exact ⟨0, by omega, rfl, HR3.out, HB3.out⟩
        case round =>
          obtain ⟨j, hj, rfl, hrj, hbj⟩ := hrel
          have HRJ := Lib.hid hrj
          have HBJ := Lib.hid hbj
          clear hrj hbj HR3 HB3
          by_cases hlt : j < k
          · have hltI : (j : Int) < (n0 : Int) := by omega
            have hl200 : (j : Int) < 200 := by omega
            obtain ⟨ad, rfl, hcell, hz1, hz2⟩ := HD.out j (by omega)
            have hm : many (item zs n1 Q) j (k - j) = item zs n1 Q j ++ many (item zs n1 Q) (j + 1) (k - (j + 1)) := by
              rw [show k - j = k - (j + 1) + 1 by omega]; rfl
            have HC : Hid (∀ W, Below w.heap.size w W → W.cell? (ad.add j) = some (.int .i64 (zs.getD j 0))) := hcell
            clear hcell
            have HGZ : Hid (zs.getD j 0 = zs.getD j 0) := rfl
            generalize hgz : zs.getD j 0 = z at hz1 hz2 HC
            have hgz := Lib.hid hgz
            have hItem : ∃ y, item zs n1 Q j = vint (zig z) ++ y ∧ y = blobItem (decide (j < n1 ∧ (Q j).m ≤ 4096)) (Q j).bs := ⟨_, by unfold item; rw [hgz.out], rfl⟩
            obtain ⟨y, hI, hy⟩ := hItem
            rw [hm, hI, List.append_assoc] at HRJ
            generalize hrest : many (item zs n1 Q) (j + 1) (k - (j + 1)) = rest at *
            have HRS := Lib.hid hrest
            clear hrest
            have HIY := Lib.hid hy
            clear hm hI hy hgz HGZ
            have D1 := readInt_any g g (vint (zig z) ++ (y ++ rest)) 0 wr.drew (HRJ.out.drewN 1)
            rw [rd_int z hz1 hz2] at D1
            have D1 := Lib.hid D1
            have hgl := HRJ.out.lt
            have q0 : Below w.heap.size w wr.drew := HBJ.out.drew
            have x0 := HC.out wr HBJ.out
            go_wp2_with fail
            go_region_held3 (fun w' => w'.cell? (ad.add j) = some (.int .i64 z)) (first | exact HC.out _ q0 | exact HC.out _ q6) ((first | (go_at_call 10; refine D1.out.mono ?_; rintro e w6 ⟨rfl, hr6, ho6⟩; have q6 : Below w.heap.size w w6 := q0.trans (ho6.at_ (by omega) hgl)) | fail))
            all_goals
              have HR6 : Hid (RdOf w6 g g (y ++ rest) 0) := hr6
              have HB6 := Lib.hid q6
              clear hr6 ho6 q6 q0 D1 HRJ HBJ x0
            by_cases hk1 : j < n1
            · have hk1I : (j : Int) < (n1 : Int) := by omega
              have hk1D : decide ((j : Int) < (n1 : Int)) = true := by simpa using hk1
              have HB1' := Lib.hid (HB1.out.below HB6.out)
              obtain ⟨ad1, rfl, hadB, hc1, hm1, hm2, hr1⟩ := HB1'.out j hk1
              obtain ⟨A3, m3, c3, xs, hQ⟩ : ∃ A3 m3 c3 xs, Q j = ⟨A3, m3, c3, xs⟩ := ⟨_, _, _, _, rfl⟩
              have hxl : xs.length = m3 := by have := hr1.bytes_len; rw [hQ] at this; exact this
              rw [hQ] at hc1 hm1 hm2 hr1 HIY
              simp only at hc1 hm1 hm2 hr1
              by_cases h4 : m3 ≤ 4096
              · have h4I : (m3 : Int) ≤ 4096 := by omega
                have h4D : decide ((m3 : Int) ≤ 4096) = true := decide_eq_true h4I
                have hy : y = vint (zig (m3 : Int)) ++ xs := by rw [HIY.out]; unfold blobItem; rw [if_pos (by simpa using ⟨hk1, h4⟩)]; simp only; rw [hxl]
                rw [hy] at HR6
                clear HIY hy HB1' hk1 hQ
                have D2 := readBlob_any g g (vint (zig (m3 : Int)) ++ xs ++ rest) 0 w6.drew (HR6.out.drewN 1)
                rw [← hxl, rd_blob xs rest (by omega), hxl] at D2
                have D2 := Lib.hid D2
                have HX := Lib.hid hxl
                have hgl6 := HR6.out.lt
                have q0 : Below w.heap.size w w6.drew := HB6.out.drew
                have HC1 : Hid (∀ W, Below w.heap.size w6 W → W.cell? (ad1.add j) = some (.slice A3 m3 c3) ∧ Reads W w.heap.size 1 A3 m3 (xs.map bval)) := fun W hW => ⟨(hW.cell (p := ad1.add j) (by rw [block_of_add]; exact hadB)).trans hc1, hr1.below hW⟩
                have qq0 : Below w.heap.size w6 w6.drew := (Below.refl _ _).drew
                clear hr1 hxl
                go_wp2_with fail
                go_region_held3 (fun w' => w'.cell? (ad1.add j) = some (.slice A3 m3 c3)) (first | exact (HC1.out _ qq0).1 | exact (HC1.out _ qq7).1 | exact (HC1.out _ (below_drewN qq7 kq)).1) ((first | (go_at_call 12; refine D2.out.mono ?_; rintro e w7 ⟨v7, rfl, hown7, hr7, ho7⟩; obtain ⟨A7, c7, rfl, hc7, hcm7, _⟩ := own_slice hown7; have qq7 : Below w.heap.size w6 w7 := qq0.trans (ho7.at_ hgw hgl6); have hown7 : w7.ownsRow _ 5 1 (.slice A7 m3 c7) m3 (xs.map bval) := (by rw [← HX.out]; rw [← HX.out] at hown7; exact hown7)) | (go_at_call 11; refine (sameBytes_any A7 A3 m3 c7 m3 c3 _ _ xs xs w7 (Reads.of_own hown7) (HC1.out _ qq7).2 (by unfold maxLen; omega) (by unfold maxLen; omega)).mono ?_; rintro e _ ⟨rfl, kq, rfl⟩) | fail))
                all_goals
                  have HR7 : Hid (RdOf (w7.drewN kq) g g rest 0) := RdOf.drewN hr7 kq
                  have HB7 : Hid (Below w.heap.size w (w7.drewN kq)) := below_drewN (HB6.out.trans qq7) kq
                  clear hr7 ho7 qq7 qq0 q0 hown7 D2 HR6 HB6
                  go_wp2_with fail
                  go_roundw
                  case rel => exact ⟨j + 1, by omega, by go_num, by rw [HRS.out]; exact HR7.out, HB7.out⟩
                  case measure => simp [intOf]; omega
              · have h4I : ¬ (m3 : Int) ≤ 4096 := by omega
                have h4D : decide ((m3 : Int) ≤ 4096) = false := decide_eq_false h4I
                have hy : y = [] := by rw [HIY.out]; unfold blobItem; rw [if_neg (by simp; omega)]
                rw [hy, List.nil_append] at HR6
                clear HIY hy HB1' hk1 hQ hr1 hxl
                go_wp2_with fail
                go_quiet (fail)
                go_wp2_with fail
                go_roundw
                case rel => exact ⟨j + 1, by omega, by go_num, by rw [HRS.out]; exact HR6.out.drewN _, below_drewN HB6.out _⟩
                case measure => simp [intOf]; omega
            · have hk1I : ¬ (j : Int) < (n1 : Int) := by omega
              have hk1D : decide ((j : Int) < (n1 : Int)) = false := decide_eq_false hk1I
              have hk1N : decide (j < n1) = false := decide_eq_false hk1
              have hy : y = [] := by rw [HIY.out]; unfold blobItem; rw [if_neg (by simp; omega)]
              rw [hy, List.nil_append] at HR6
              clear HIY hy hk1
              go_wp2_with fail
              go_quiet (fail)
              go_wp2_with fail
              go_roundw
              case rel => exact ⟨j + 1, by omega, by go_num, by rw [HRS.out]; exact HR6.out.drewN _, below_drewN HB6.out _⟩
              case measure => simp [intOf]; omega
          · obtain rfl : j = k := by omega
            have hmz : many (item zs n1 Q) j (j - j) = [] := by rw [Nat.sub_self]; rfl
            rw [hmz] at HRJ
            have D2 := done_any g g [] 0 wr HRJ.out
            rw [show doneE 0 ([] : List UInt8).length = 0 from rfl] at D2
            have D2 := Lib.hid D2
            have KN := Lib.hid (known_any wr)
            have hstop : ¬ ((j : Int) < (n0 : Int)) ∨ ((j : Int) < (n0 : Int) ∧ ¬ (j : Int) < 200) := by have := HN.out; omega
            clear hlt hmz
            rcases hstop with hs | ⟨hs, hs'⟩
            all_goals
              go_wp2_with fail
              go_must (refine D2.out.mono ?_)
              rintro e w7 ⟨rfl, rfl⟩
              clear D2
              go_wp2_with fail
              go_must (refine KN.out.mono ?_)
              rintro e w8 ⟨rfl, hb8⟩
              have HB8 : Hid (Below w.heap.size w w8) := HBJ.out.trans (hb8.mono HBJ.out.size)
              clear hb8 KN
              go_wp2_with fail
              go_ret
              exact ⟨rfl, HB8.out⟩
end Go.Proofs.Ytnknefchpepegaa
