/-
  PackFails: behind a failure nothing is read. The walk.
-/
import Derived.Test.YtnknefchpepegaaPackWorks
namespace Go.Proofs.Ytnknefchpepegaa
set_option linter.unusedVariables false
set_option linter.unusedSimpArgs false
open Go.RowKit
theorem doneE_ne {er : Int} {n : Nat} (h : er ≠ 0) : doneE er n = er := by unfold doneE; rw [if_neg h]
theorem rd_six (bs : List UInt8) : rd (6 :: bs) 0 0 = .inr (6, bs) := by
  rw [rd, if_neg (by simp), if_pos (by decide)]; rfl
theorem cnt_six (bs : List UInt8) : cnt 2 (6 :: bs) = .inl 3 := by
  unfold cnt; rw [rd_six]; rfl
/-- Behind a failure: each reading answers a zero value, and nothing turns. -/
theorem int_failed (g B : Nat) (bs : List UInt8) (er : Int) (he : er ≠ 0) (C : Nat) (w : World) (h : RdOf w g B bs er) (hC : C ≤ g) :
    Calls Try.prog 10 #[.pointer (some ⟨g, 0, none⟩)] w fun e w' => e = .returned (.int .i64 0) ∧ RdOf w' g B bs er ∧ Below C w w' :=
  (readInt_any g B bs er w h).mono fun e w' ⟨h1, h2, h3⟩ => by
    rw [rdNum_failed he] at h1 h2
    exact ⟨h1, h2, h3.at_ hC h.lt⟩
theorem count_failed (g B : Nat) (bs : List UInt8) (er most : Int) (he : er ≠ 0) (C : Nat) (w : World) (h : RdOf w g B bs er) (hC : C ≤ g) :
    Calls Try.prog 15 #[.pointer (some ⟨g, 0, none⟩), .int .i64 most] w fun e w' => e = .returned (.int .i64 0) ∧ RdOf w' g B bs er ∧ Below C w w' :=
  (readCount_any g B bs er most w h).mono fun e w' ⟨h1, h2, h3⟩ => by
    rw [rdNum_failed he] at h1 h2
    exact ⟨h1, h2, h3.at_ hC h.lt⟩
theorem blob_failed (g B : Nat) (bs : List UInt8) (er : Int) (he : er ≠ 0) (C : Nat) (w : World) (h : RdOf w g B bs er) (hC : C ≤ g) :
    Calls Try.prog 12 #[.pointer (some ⟨g, 0, none⟩)] w fun e w' => ∃ A c, e = .returned (.slice A 0 c) ∧ RdOf w' g B bs er ∧ Below C w w' :=
  (readBlob_any g B bs er w h).mono fun e w' ⟨v, h1, h2, h3, h4⟩ => by
    rw [rdBytes_failed he] at h2 h3
    obtain ⟨A, c, rfl, _⟩ := own_slice h2
    exact ⟨A, c, h1, h3, h4.at_ hC h.lt⟩
set_option maxRecDepth 100000 in
set_option maxHeartbeats 4000000 in
theorem packFails_any (A0 : Option Addr) (n0 c0 : Nat) (bs : List UInt8) (A1 : Option Addr) (n1 c1 : Nat) (zs : List Int) (w : World) (hr0 : Reads w w.heap.size 1 A0 n0 (bs.map bval)) (hr1 : Reads w w.heap.size 1 A1 n1 (zs.map ival)) (hn1 : n1 ≤ maxLen) :
    Calls Try.prog 6 #[.slice A0 n0 c0, .slice A1 n1 c1] w fun e w' => e = .returned (.bool true) ∧ Below w.heap.size w w' := by
  by_cases hbig : 4096 < n0
  · have hbI : (4096 : Int) < (n0 : Int) := by omega
    have KN := Lib.hid (known_any w)
    clear hr0 hr1
    go_enter Try.func6, Try.ntmps6
    go_wp2_with fail
    go_must (refine KN.out.mono ?_)
    rintro e w1 ⟨rfl, hb⟩
    have HB := Lib.hid hb
    clear hb KN
    go_wp2_with fail
    go_ret
    exact ⟨rfl, HB.out⟩
  · have hbI : ¬ (4096 : Int) < (n0 : Int) := by omega
    obtain ⟨i0, hi, hz, hs, hby⟩ := info_parts (show (Try.prog.info? 5).map (fun i => (i.zero, i.size, i.bytes)) = some (some (.int .u8 0), 1, 1) by kernel_rfl)
    have hown : (w.alloc (.cells #[.int .u8 6] 5)).ownsRow w.heap.size 5 1 (.slice (some ⟨w.heap.size, 0, none⟩) 1 1) 1 (([6] : List UInt8).map bval) := World.ownsRow_lit w #[.int .u8 6] 1 (Nat.le_refl _) (by simp [maxLen]) rfl
    have HO := Lib.hid hown
    have HR := Lib.hid (hr0.alloc (Nat.le_refl _) (.cells #[.int .u8 6] 5))
    have h1c : ∀ u ∈ bs.map bval, u.oneCell' = true := fun u hu => by obtain ⟨b, _, rfl⟩ := List.mem_map.1 hu; rfl
    have h2c : 1 + n0 ≤ maxLen := by unfold maxLen; omega
    have h3c : (1 + n0) * 1 ≤ 140737488355328 := by omega
    have h4c : w.heap.size ≤ (w.alloc (.cells #[.int .u8 6] 5)).heap.size := by simp
    have HR1 := Lib.hid hr1
    have HZL := Lib.hid hr1.ints_len
    unfold maxLen at hn1
    clear hown hr0 hr1
    go_enter Try.func6, Try.ntmps6
    go_wp2_with (at_builtin; go_must (refine wpList_append_any _ rfl (.tmp 11) (.tmp 12) 24 rfl w.heap.size 5 i0 (.int .u8 0) 1 1 Try.underlying24 hi hz hs hby rfl (by decide) _ 1 _ rfl HO.out w.heap.size A0 n0 c0 (bs.map bval) rfl HR.out h1c h2c h3c h4c ?_); intro v' w1 hown1 hg1 hv1)
    have hb1 : Below w.heap.size w w1 := ((Below.refl _ _).alloc (Nat.le_refl _) _).grown hg1 (by simp) (fun k hk => Nat.le_of_eq (Option.some.inj hk))
    obtain ⟨A2, c2, rfl, hc2, _, _⟩ := own_slice hown1
    have hown1' : w1.ownsRow w.heap.size 5 1 (.slice A2 (1 + n0) c2) (1 + n0) ((6 :: bs).map bval) := hown1
    have C3 := Lib.hid (from_any A2 (1 + n0) c2 w1.heap.size (6 :: bs) w1 (Reads.of_own hown1') (Nat.le_refl _) (by omega))
    have HB1 := Lib.hid hb1
    clear hg1 hv1 hown1 hown1' hb1 HO HR
    go_wp2_with fail
    go_must (refine C3.out.mono ?_)
    rintro e w3 ⟨g, rfl, hrd3, hg3, hb3⟩
    have HR3 := Lib.hid hrd3
    have HB3 : Hid (Below w.heap.size w w3) := HB1.out.trans (hb3.mono HB1.out.size)
    have hs1 := HB1.out.size
    clear C3 HB1 hrd3 hb3
    have C4 := readCount_any g g (6 :: bs) 0 2 w3 HR3.out
    rw [cnt_six, rdNum_inl] at C4
    have C4 := Lib.hid C4
    go_wp2_with fail
    go_must (refine C4.out.mono ?_)
    rintro e w4 ⟨rfl, hr4, ho4⟩
    have HR4 : Hid (RdOf w4 g g (6 :: bs) 3) := hr4
    have HB4 : Hid (Below w.heap.size w w4) := HB3.out.trans (ho4.at_ (by omega) HR3.out.lt)
    clear C4 HR3 HB3 hr4 ho4
    have C5 := done_any g g (6 :: bs) 3 w4 HR4.out
    rw [doneE_ne (by decide)] at C5
    have C5 := Lib.hid C5
    go_wp2_with fail
    go_must (refine C5.out.mono ?_)
    rintro e w5 ⟨rfl, rfl⟩
    clear C5
    go_wp2_with fail
    go_loopw [6] (fun I wr => ∃ k : Nat, k ≤ n1 ∧ k ≤ 60 ∧ I = .int .i64 k ∧ RdOf wr g g (6 :: bs) 3 ∧ Below w.heap.size w wr) (fun I _ => n1 - (intOf I).toNat)
    case atStart => exact ⟨0, by omega, by omega, rfl, HR4.out, HB4.out⟩
    case round =>
      obtain ⟨k, hk, hk60, rfl, hrk, hbk⟩ := hrel
      have HRK := Lib.hid hrk
      have HBK := Lib.hid hbk
      clear hrk hbk HR4 HB4
      by_cases hlt : k < n1 ∧ k < 60
      · obtain ⟨hlt, hl60⟩ := hlt
        have hltI : (k : Int) < (n1 : Int) := by omega
        have hl60I : (k : Int) < 60 := by omega
        have hkz : k < zs.length := by have := HZL.out; omega
        obtain ⟨ad, rfl, hadB, hcell⟩ := HR1.out.int hkz
        have D1 := Lib.hid (int_failed g g (6 :: bs) 3 (by decide) w.heap.size wr HRK.out (by omega))
        have hadB' : (ad.add k).block < w.heap.size := by rw [block_of_add]; exact hadB
        have HC : Hid (∀ W, Below w.heap.size w W → W.cell? (ad.add k) = some (.int .i64 zs[k])) := fun W hW => (hW.cell (p := ad.add k) hadB').trans hcell
        clear hcell
        go_wp2_with fail
        go_must (refine D1.out.mono ?_)
        rintro e w6 ⟨rfl, hr6, hb6⟩
        have HR6 := Lib.hid hr6
        have HB6 := Lib.hid (HBK.out.trans hb6)
        clear hr6 hb6 D1 HRK HBK
        have D2 := Lib.hid (blob_failed g g (6 :: bs) 3 (by decide) w.heap.size w6 HR6.out (by omega))
        go_wp2_with fail
        go_must (refine D2.out.mono ?_)
        rintro e w7 ⟨A7, c7, rfl, hr7, hb7⟩
        have HR7 := Lib.hid hr7
        have HB7 := Lib.hid (HB6.out.trans hb7)
        have x7 := HC.out w7 HB7.out
        clear hr7 hb7 D2 HR6 HB6
        have D3 := Lib.hid (count_failed g g (6 :: bs) 3 zs[k] (by decide) w.heap.size w7 HR7.out (by omega))
        go_wp2_with fail
        go_must (refine D3.out.mono ?_)
        rintro e w8 ⟨rfl, hr8, hb8⟩
        have HR8 := Lib.hid hr8
        have HB8 := Lib.hid (HB7.out.trans hb8)
        clear hr8 hb8 D3 HR7 HB7 x7
        have D4 := done_any g g (6 :: bs) 3 w8 HR8.out
        rw [doneE_ne (by decide)] at D4
        have D4 := Lib.hid D4
        go_wp2_with fail
        go_must (refine D4.out.mono ?_)
        rintro e w9 ⟨rfl, rfl⟩
        clear D4
        go_wp2_with fail
        go_roundw
        case rel => exact ⟨k + 1, by omega, by omega, by go_num, HR8.out, HB8.out⟩
        case measure => simp [intOf]; omega
      · have KN := Lib.hid (known_any wr)
        have hstop : ¬ ((k : Int) < (n1 : Int)) ∨ ((k : Int) < (n1 : Int) ∧ ¬ (k : Int) < 60) := by omega
        clear hlt
        rcases hstop with hs | ⟨hs, hs'⟩
        all_goals
          go_wp2_with fail
          go_must (refine KN.out.mono ?_)
          rintro e w10 ⟨rfl, hb10⟩
          have HB10 : Hid (Below w.heap.size w w10) := HBK.out.trans (hb10.mono HBK.out.size)
          clear hb10 KN
          go_wp2_with fail
          go_ret
          exact ⟨rfl, HB10.out⟩
end Go.Proofs.Ytnknefchpepegaa
