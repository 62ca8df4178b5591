/-
  DiskWrites: the walk.
-/
import Derived.Test.YtaccefkjdggcaaaDiskBegins
import Derived.Deep.RegionHeld3
namespace Go.Proofs.Ytaccefkjdggcaaa
set_option linter.unusedVariables false
set_option linter.unusedSimpArgs false
open Go.RowKit
theorem writeB (base g N : Nat) (S : Nat → Prop) (st : DSt) (a : Bool) (Ab : Option Addr) (m cb B : Nat) (b : List UInt8) (w : World) (h0 : DAt false w base g N S st) (hbase : base ≤ w.heap.size) (hb : Reads w B 1 Ab m (b.map bval)) (hm : m ≤ maxLen) :
    Calls Try.prog 19 #[.pointer (some ⟨g, 0, none⟩), .int .i64 (aI a), .slice Ab m cb] w (DPost false base g N S w (.int .i64 (wrote N st a b)) (st.write N a b)) := by
  cases a
  · exact write_false base g N S st Ab m cb B b w h0 hbase hb hm
  · exact write_true base g N S st Ab m cb B b w h0 hbase hb hm
theorem bytesB (base g N : Nat) (S : Nat → Prop) (st : DSt) (a : Bool) (w : World) (h0 : DAt false w base g N S st) :
    Calls Try.prog 23 #[.pointer (some ⟨g, 0, none⟩), .int .i64 (aI a)] w fun e w' => ∃ v, e = .returned v ∧ w'.ownsRow w.heap.size 5 1 v (st a).1.length ((st a).1.map bval) ∧ Below w.heap.size w w' := by
  cases a
  · exact bytes_false base g N S st w h0
  · exact bytes_true base g N S st w h0
theorem bytesN (base g N : Nat) (S : Nat → Prop) (st : DSt) (a : Bool) (w : World) (h0 : DAt false w base g N S st) :
    Calls Try.prog 23 #[.pointer (some ⟨g, 0, none⟩), .int .i64 (1 - aI a)] w fun e w' => ∃ v, e = .returned v ∧ w'.ownsRow w.heap.size 5 1 v (st (!a)).1.length ((st (!a)).1.map bval) ∧ Below w.heap.size w w' := by
  cases a
  · exact bytes_true base g N S st w h0
  · exact bytes_false base g N S st w h0
theorem roomB (base g N : Nat) (S : Nat → Prop) (st : DSt) (a : Bool) (w : World) (h0 : DAt false w base g N S st) :
    Calls Try.prog 26 #[.pointer (some ⟨g, 0, none⟩), .int .i64 (aI a)] w fun e w' => e = .returned (.int .i64 ((N : Int) - ((st a).1.length : Int))) ∧ ∃ m, w' = w.drewN m := by
  cases a
  · exact room_false base g N S st w h0
  · exact room_true base g N S st w h0
theorem cutB (base g N : Nat) (S : Nat → Prop) (st : DSt) (a : Bool) (n : Int) (w : World) (h0 : DAt false w base g N S st) (hbase : base ≤ w.heap.size) :
    Calls Try.prog 14 #[.pointer (some ⟨g, 0, none⟩), .int .i64 (aI a), .int .i64 n] w (DPost false base g N S w (.tuple #[]) (st.cut a n)) := by
  cases a
  · exact dcut_false base g N S st n w h0 hbase
  · exact dcut_true base g N S st n w h0 hbase
/-- One area holds L, nothing of it synced; the other one is empty. -/
def stW (a : Bool) (L : List UInt8) : DSt := updF a (L, 0) DSt.new
theorem stW_at (a : Bool) (L : List UInt8) : stW a L a = (L, 0) := by simp [stW, updF]
theorem stW_no (a : Bool) (L : List UInt8) : stW a L (!a) = ([], 0) := by cases a <;> simp [stW, updF, DSt.new]
theorem stW_new (a : Bool) : stW a [] = DSt.new := by funext b; unfold stW updF; split <;> rfl
theorem stW_fits (N : Nat) (a : Bool) (L b : List UInt8) (h : b.length + L.length ≤ N) : (stW a L).write N a b = stW a (L ++ b) ∧ wrote N (stW a L) a b = 0 := by
  have hf : fits N (stW a L a).1 b = true := by rw [stW_at]; simpa [fits] using h
  refine ⟨?_, ?_⟩
  · unfold DSt.write
    rw [if_pos hf, stW_at]
    funext c; unfold stW updF; split <;> rfl
  · unfold wrote; rw [if_pos hf]
theorem stW_full (N : Nat) (a : Bool) (L b : List UInt8) (h : ¬ b.length + L.length ≤ N) : (stW a L).write N a b = stW a L ∧ wrote N (stW a L) a b = 12 := by
  have hf : ¬ fits N (stW a L a).1 b = true := by rw [stW_at]; simpa [fits] using h
  refine ⟨?_, ?_⟩
  · unfold DSt.write; rw [if_neg hf]
  · unfold wrote; rw [if_neg hf]
theorem cut_crash (st : DSt) (a : Bool) (n : Int) : (((st.cut a n).crash 0) a).1 = cutL n (st a).1 := by
  have h1 : (st.cut a n) a = (cutL n (st a).1, (cutL n (st a).1).length) := by unfold DSt.cut updF; simp
  have h3 : (((st.cut a n).crash 0) a).1 = cutL (keepN 0 ((st.cut a n) a)) ((st.cut a n) a).1 := by rw [crash_comp]
  rw [h3, h1]
  unfold cutL
  apply List.take_of_length_le
  unfold cutK keepN
  dsimp only
  omega
set_option maxRecDepth 100000 in
set_option maxHeartbeats 8000000 in
theorem diskWrites_any (A1 A2 : Option Addr) (n1 n2 c1 c2 : Nat) (La Lb : List UInt8) (area n : Int) (w : World) (hA : Reads w w.heap.size 1 A1 n1 (La.map bval)) (hB : Reads w w.heap.size 1 A2 n2 (Lb.map bval)) (lar : -9223372036854775808 ≤ area) (har : area ≤ 9223372036854775807) (hm1 : n1 ≤ maxLen) (hm2 : n2 ≤ maxLen) :
    Calls Try.prog 5 #[.slice A1 n1 c1, .slice A2 n2 c2, .int .i64 area, .int .i64 n] w fun e w' => e = .returned (.bool true) ∧ Below w.heap.size w w' := by
  have CK := Lib.hid known_any
  by_cases hbig1 : 4096 < n1
  · have h1 : (4096 : Int) < (n1 : Int) := by omega
    go_enter Try.func5, Try.ntmps5
    go_wp2_with fail
    go_must (refine (CK.out _).mono ?_)
    rintro e w4 ⟨rfl, hb⟩
    go_wp2_with fail
    go_ret
    exact ⟨rfl, hb⟩
  have hs1 : decide ((4096 : Int) < (n1 : Int)) = false := by simp; omega
  by_cases hbig2 : 4096 < n2
  · have h1 : (4096 : Int) < (n2 : Int) := by omega
    clear hbig1
    go_enter Try.func5, Try.ntmps5
    go_wp2_with fail
    go_must (refine (CK.out _).mono ?_)
    rintro e w4 ⟨rfl, hb⟩
    go_wp2_with fail
    go_ret
    exact ⟨rfl, hb⟩
  have hs2 : decide ((4096 : Int) < (n2 : Int)) = false := by simp; omega
  have hn1 : n1 ≤ 4096 := by omega
  have hn2 : n2 ≤ 4096 := by omega
  clear hbig1 hbig2
  have HM1 := Lib.hid hm1
  have HM2 := Lib.hid hm2
  have HA := Lib.hid hA
  have HB := Lib.hid hB
  have hl1 := hA.bytes_len
  have hl2 := hB.bytes_len
  have HL1 := Lib.hid hl1
  have HL2 := Lib.hid hl2
  obtain ⟨al, hal⟩ : ∃ al : Bool, area % 2 = aI al := by
    rcases (by omega : area % 2 = 0 ∨ area % 2 = 1) with h | h
    · exact ⟨false, h⟩
    · exact ⟨true, h⟩
  have hal0 : 0 ≤ aI al := by cases al <;> decide
  have hal1 : aI al ≤ 1 := by cases al <;> decide
  have PK : Hid (∀ W, Calls Try.prog 11 #[.int .i64 area, .int .i64 2] W fun e w' => e = .returned (.int .i64 (aI al)) ∧ W = w') := fun W => by
    have := pick_any area 2 W (by omega) (by omega) lar har
    rwa [hal] at this
  have C1 := Lib.hid (new_any 300 (by omega) (by omega))
  obtain ⟨k, hk⟩ : ∃ k : Nat, k = 0 := ⟨0, rfl⟩
  clear hal lar har hA hB hm1 hm2 hk
  have HN := Lib.hid (stW_new al)
  go_enter Try.func5, Try.ntmps5
  go_wp2_with fail
  go_must (refine (C1.out _).mono ?_)
  rintro e w1 ⟨gd, rfl, hgd, hb1, hsz1, hd1⟩
  have H1 : Hid (One false noX w1 w.heap.size gd 300 (stW al [])) := by rw [HN.out]; exact One.fresh (hd1 _ (Nat.le_refl _)) hb1.size
  have HB1 := Lib.hid hb1
  clear hd1 hsz1 hb1 hgd
  go_wp2_with fail
  go_must (refine (PK.out _).mono ?_)
  rintro e w2 ⟨rfl, rfl⟩
  have A2' := H1.out.act (fun S hd hb => writeB w.heap.size gd 300 S (stW al []) al A1 n1 c1 w.heap.size La w1 hd hb (HA.out.below HB1.out) HM1.out)
  go_wp2_with fail
  by_cases hfa : n1 ≤ 300

  · have hfa' : (n1 : Int) ≤ 300 := by omega
    have hst := stW_fits 300 al [] La (by rw [HL1.out]; simpa using hfa)
    rw [hst.1, hst.2, List.nil_append] at A2'
    clear hst
    have HA2 := Lib.hid A2'
    clear A2' hfa hl1 hl2
    go_must (refine HA2.out.mono ?_)
    rintro e w3 ⟨rfl, h3, ho3⟩
    have H3 := Lib.hid h3
    have HB3 : Hid (Below w.heap.size w w3) := HB1.out.trans (ho3.rest H1.out.base_le)
    clear h3 ho3 HA2
    obtain ⟨S3, hd3⟩ := H3.out.bytes
    have BW := bytesB w.heap.size gd 300 S3 _ al w3 hd3
    simp only [stW_at] at BW
    have HBW := Lib.hid BW
    clear BW hd3
    go_wp2_with fail
    go_must (refine HBW.out.mono ?_)
    rintro e w4 ⟨vw, rfl, hownw, hbw⟩
    obtain ⟨Aw, cw, rfl, hcw, hccw, _⟩ := own_slice hownw
    have H4 : Hid (One false (fun i => (Value.slice Aw (La : List UInt8).length cw).ownBlock = some i) w4 w.heap.size gd 300 (stW al La)) := H3.out.more hbw (fun i hi => .inr (hownw.lt i hi))
    have HB4 : Hid (Below w.heap.size w w4) := HB3.out.trans (hbw.mono H3.out.base_le)
    have RW4 := Lib.hid hownw
    clear hownw hbw HBW H3 HB3
    have SBa := sameBytes_any Aw A1 _ cw _ c1 _ _ La La w4 (Reads.of_own RW4.out) (HA.out.below HB4.out) (by have := HL1.out; unfold maxLen; omega) HM1.out
    rw [show decide (La = La) = true by simp] at SBa
    have HSB := Lib.hid SBa
    clear SBa
    go_wp2_with fail
    go_must (refine HSB.out.mono ?_)
    rintro e w5 ⟨rfl, q5, rfl⟩
    obtain ⟨S5, hd5⟩ := H4.out.bytes
    have RM := roomB w.heap.size gd 300 S5 _ al (w4.drewN q5) (hd5.drewN q5)
    simp only [stW_at] at RM
    have HRM := Lib.hid RM
    clear RM hd5
    have hL300 : (La : List UInt8).length ≤ 300 := by rw [HL1.out]; omega
    go_wp2_with fail
    go_must (refine HRM.out.mono ?_)
    rintro e w6 ⟨rfl, q6, rfl⟩
    have H6 := Lib.hid (H4.out.below (below_drewN (Below.refl _ _) (q5 + q6)))
    have HB6 := Lib.hid (below_drewN HB4.out (q5 + q6))
    have RW6 := Lib.hid (own_below RW4.out (below_drewN (Below.refl w4.heap.size w4) (q5 + q6)))
    clear H4 HB4 RW4 HRM HSB
    go_wp2_with fail
    generalize w4.drewN (q5 + q6) = w6 at *

    by_cases hfb : n2 + (La : List UInt8).length ≤ 300
    · have hfb' : ((La).length : Int) + (n2 : Int) ≤ 300 := by omega
      have A7 := H6.out.act (fun S hd hb => writeB w.heap.size gd 300 S _ al A2 n2 c2 w.heap.size Lb w6 hd hb (HB.out.below HB6.out) HM2.out)
      have hst := stW_fits 300 al La Lb (by rw [HL2.out]; omega)
      rw [hst.1, hst.2] at A7
      clear hst
      have HA7 := Lib.hid A7
      clear A7 hfb
      go_must (refine HA7.out.mono ?_)
      rintro e w7 ⟨rfl, h7, ho7⟩
      have H7 := Lib.hid h7
      have HB7 : Hid (Below w.heap.size w w7) := HB6.out.trans (ho7.rest H6.out.base_le)
      have RW7 := Lib.hid (own_only RW6.out ho7 (fun i hi h => h.2 hi))
      clear h7 ho7 HA7 H6 HB6 RW6
      have hown0 : (w7.alloc (.cells #[] 5)).ownsRow w7.heap.size 5 1 (.slice (some ⟨w7.heap.size, 0, none⟩) 0 0) 0 [] := World.ownsRow_lit w7 #[] 0 (Nat.le_refl _) (by simp [maxLen]) rfl
      have HO0 := Lib.hid hown0
      have HR0 := Lib.hid ((Reads.of_own RW7.out).alloc (Nat.le_refl _) (.cells #[] 5))
      obtain ⟨i0, hi, hz, hs, hby⟩ := info_parts (show (Try.prog.info? 5).map (fun i => (i.zero, i.size, i.bytes)) = some (some (.int .u8 0), 1, 1) by kernel_rfl)
      have h1c : ∀ u ∈ (La : List UInt8).map bval, u.oneCell' = true := fun u hu => by obtain ⟨b, _, rfl⟩ := List.mem_map.1 hu; rfl
      have h2c : 0 + (La : List UInt8).length ≤ maxLen := by unfold maxLen; omega
      have h3c : (0 + (La : List UInt8).length) * 1 ≤ 140737488355328 := by omega
      have h4c : w7.heap.size ≤ (w7.alloc (.cells #[] 5)).heap.size := by simp
      have g1c : ∀ u ∈ Lb.map bval, u.oneCell' = true := fun u hu => by obtain ⟨b, _, rfl⟩ := List.mem_map.1 hu; rfl
      have g2c : 0 + (La : List UInt8).length + n2 ≤ maxLen := by unfold maxLen; omega
      have g3c : (0 + (La : List UInt8).length + n2) * 1 ≤ 140737488355328 := by omega
      clear hown0
      go_wp2_with
        (first
         | (at_builtin
            refine wpList_append_any _ rfl (.tmp 84) (.tmp 85) 31 rfl w7.heap.size 5 i0 (.int .u8 0) 1 1 Try.underlying31 hi hz hs hby rfl (by decide) _ 0 [] rfl HO0.out w7.heap.size Aw (La : List UInt8).length cw ((La : List UInt8).map bval) rfl HR0.out h1c h2c h3c h4c ?_
            intro v8 w8 hown8 hg8 hv8
            have HO8 := Lib.hid hown8
            have hb78 : Below w7.heap.size w7 w8 := ((Below.refl _ _).alloc (Nat.le_refl _) _).grown hg8 (by simp) (fun k hk => Nat.le_of_eq (Option.some.inj hk))
            have HB78 := Lib.hid hb78
            have HR8 := Lib.hid (HB.out.below (HB7.out.trans (hb78.mono H7.out.base_le)))
            have h5c := hb78.size
            clear hown8 hg8 hv8 hb78)
         | (at_builtin
            refine wpList_append_any _ rfl (.tmp 86) (.tmp 87) 31 rfl w7.heap.size 5 i0 (.int .u8 0) 1 1 Try.underlying31 hi hz hs hby rfl (by decide) _ (0 + (La : List UInt8).length) _ rfl HO8.out w.heap.size A2 n2 c2 (Lb.map bval) rfl HR8.out g1c g2c g3c h5c ?_
            intro v9 w9 hown9 hg9 hv9
            have hb79 : Below w7.heap.size w7 w9 := HB78.out.grown hg9 h5c (fun k hk => (HO8.out.lt k hk).1)
            obtain ⟨nl, hnl, hown9'⟩ : ∃ nl : Nat, nl = (La : List UInt8).length + n2 ∧ w9.ownsRow w7.heap.size 5 1 v9 nl ((La ++ Lb : List UInt8).map bval) := ⟨0 + (La : List UInt8).length + n2, by omega, by rw [List.map_append]; simpa using hown9⟩
            obtain ⟨Al, cl, rfl, hcl, hccl, _⟩ := own_slice hown9'
            have H9 := Lib.hid (H7.out.below hb79)
            have HB9 : Hid (Below w.heap.size w w9) := HB7.out.trans (hb79.mono H7.out.base_le)
            have RW9 := Lib.hid (own_below RW7.out hb79)
            have RA9 := Lib.hid hown9'
            have hA3 : (nl : Int) ≤ 300 := by omega
            have hA4 : nl ≤ 5000 := by omega
            have HNL := Lib.hid hnl
            clear hown9 hnl
            clear hown9' hg9 hv9 hb79 HR8 HB78 h5c))
      obtain ⟨S9, hd9⟩ := H9.out.bytes
      have BY9 := bytesB w.heap.size gd 300 S9 _ al w9 hd9
      simp only [stW_at] at BY9
      have hLn : (La ++ Lb : List UInt8).length = nl := by rw [List.length_append, HL2.out]; exact HNL.out.symm
      rw [hLn] at BY9
      have HLN := Lib.hid hLn
      clear hLn
      have HBY9 := Lib.hid BY9
      clear BY9 hd9

      have hL2 : (La ++ Lb : List UInt8).length ≤ 300 := by rw [HLN.out]; omega
      go_must (refine HBY9.out.mono ?_)
      rintro e w10 ⟨v10, rfl, hown10, hb10⟩
      obtain ⟨A10, c10, rfl, hc10, hcc10, _⟩ := own_slice hown10
      have SB10 := sameBytes_any A10 Al nl c10 nl cl _ _ (La ++ Lb : List UInt8) (La ++ Lb : List UInt8) w10 (Reads.of_own hown10) ((Reads.of_own RA9.out).below hb10) (by unfold maxLen; omega) (by unfold maxLen; omega)
      rw [show decide ((La ++ Lb : List UInt8) = (La ++ Lb : List UInt8)) = true by simp] at SB10
      have HSB10 := Lib.hid SB10
      have H10 := Lib.hid (H9.out.below hb10)
      have HB10 : Hid (Below w.heap.size w w10) := HB9.out.trans (hb10.mono H9.out.base_le)
      clear SB10 hown10 hb10 HBY9 H9 HB9
      go_wp2_with fail
      go_must (refine HSB10.out.mono ?_)
      rintro e w11 ⟨rfl, q10, rfl⟩
      have H11 := Lib.hid (H10.out.below (below_drewN (Below.refl _ _) q10))
      have HB11 := Lib.hid (below_drewN HB10.out q10)
      obtain ⟨S11, hd11⟩ := H11.out.bytes
      have BN := bytesN w.heap.size gd 300 S11 _ al _ hd11
      simp only [stW_no] at BN
      have HBN := Lib.hid BN
      clear BN hd11 H10 HB10 HSB10
      go_wp2_with fail
      go_must (refine HBN.out.mono ?_)
      rintro e w12 ⟨v12, rfl, hown12, hb12⟩
      obtain ⟨A12, c12, rfl, hc12, hcc12, _⟩ := own_slice hown12
      have H12 := Lib.hid (H11.out.below hb12)
      have HB12 : Hid (Below w.heap.size w w12) := HB11.out.trans (hb12.mono H11.out.base_le)
      clear hown12 hb12 HBN H11 HB11
      simp only [List.length_nil]
      go_wp2_with fail
      generalize (La ++ Lb : List UInt8) = LL at *
      obtain ⟨S12, hd12⟩ := H12.out.bytes
      have BX := bytesB w.heap.size gd 300 S12 _ al _ hd12
      simp only [stW_at] at BX
      have HBX := Lib.hid BX
      clear BX hd12
      go_must (refine HBX.out.mono ?_)
      rintro e w13 ⟨v13, rfl, hown13, hb13⟩
      obtain ⟨An, cn, rfl, hcn, hccn, _⟩ := own_slice hown13
      have H13 : Hid (One false (fun i => (Value.slice An LL.length cn).ownBlock = some i) w13 w.heap.size gd 300 (stW al LL)) := H12.out.more hb13 (fun i hi => .inr (hown13.lt i hi))
      have HB13 : Hid (Below w.heap.size w w13) := HB12.out.trans (hb13.mono H12.out.base_le)
      have RN13 := Lib.hid hown13
      have A14 := Lib.hid (H13.out.act (fun S hd hb => cutB w.heap.size gd 300 S _ al n w13 hd hb))
      clear hown13 hb13 HBX H12 HB12
      go_wp2_with fail
      go_must (refine A14.out.mono ?_)
      rintro e w14 ⟨rfl, h14, ho14⟩
      have H14 := Lib.hid h14
      have HB14 : Hid (Below w.heap.size w w14) := HB13.out.trans (ho14.rest H13.out.base_le)
      have RN14 := Lib.hid (own_only RN13.out ho14 (fun i hi h => h.2 hi))
      have A15 := Lib.hid (H14.out.act (fun S hd hb => crash_any w.heap.size gd 300 S _ 0 w14 hd hb))
      have HCC : Hid ((((stW al LL).cut al n).crash 0 al).1 = cutL n LL) := by show _ = _; rw [cut_crash, stW_at]
      have HCK := Lib.hid (cutK_le n LL)
      have hkc : cutK n LL ≤ cn := Nat.le_trans (cutK_le n LL) hcn
      have hm2' : (if (0 : Int) < (if (LL.length : Int) < n then (LL.length : Int) else n) then (if (LL.length : Int) < n then (LL.length : Int) else n) else 0) = ((cutK n LL : Nat) : Int) := by unfold cutK; split <;> split <;> omega
      have HLK := Lib.hid (cutL_len n LL)
      have HTK : Hid (LL.take (cutK n LL) = cutL n LL) := rfl
      generalize hm1' : (if (LL.length : Int) < n then (LL.length : Int) else n) = mm at *
      generalize cutK n LL = kk at *
      clear h14 ho14 A14
      go_wp2_with fail
      clear hm1' hm2'
      go_must (refine A15.out.mono ?_)
      rintro e w15 ⟨rfl, h15, ho15⟩
      have H15 := Lib.hid (h15.below (Below.refl _ _).drew)
      have HB15 : Hid (Below w.heap.size w w15.drew) := (HB14.out.trans (ho15.rest H14.out.base_le)).drew
      have RN15 : Hid (w15.drew.ownsRow w12.heap.size 5 1 (.slice An LL.length cn) LL.length (LL.map bval)) := own_only (S := fun _ => False) (own_only RN14.out ho15 (fun i hi h => h.2 hi)) ((Only.refl _ w15).drew) (fun _ _ h => h)
      obtain ⟨S15, hd15⟩ := H15.out.bytes
      have BZ := bytesB w.heap.size gd 300 S15 _ al _ hd15
      rw [HCC.out] at BZ
      have HBZ := Lib.hid BZ
      have hbd : 0 ≤ (kk : Int) := by omega
      have RX : Hid (∀ A16 c16 w16, w16.ownsRow w15.drew.heap.size 5 1 (.slice A16 (cutL n LL).length c16) (cutL n LL).length ((cutL n LL).map bval) → Below w15.drew.heap.size w15.drew w16 → Calls Try.prog 25 #[.slice A16 (cutL n LL).length c16, .slice An kk cn] w16 fun e w' => e = .returned (.bool true) ∧ ∃ m, w' = w16.drewN m) := fun A16 c16 w16 ho hb => by
        have hr := ((Reads.of_own RN15.out).below hb).take HCK.out
        rw [Nat.mul_one, ← List.map_take, HTK.out] at hr
        have := sameBytes_any A16 An _ c16 kk cn _ _ (cutL n LL) (cutL n LL) w16 (Reads.of_own ho) hr (by have := HLK.out; have := HCK.out; unfold maxLen; omega) (by have := HCK.out; unfold maxLen; omega)
        rwa [show decide (cutL n LL = cutL n LL) = true by simp] at this
      clear BZ hd15 h15 ho15 A15
      go_wp2_with fail
      go_region_held3 (fun _ => True) (trivial) ((first | (go_at_call 23; refine HBZ.out.mono ?_; rintro e w16 ⟨v16, rfl, hown16, hb16⟩; obtain ⟨A16, c16, rfl, hc16, hcc16, _⟩ := own_slice hown16) | (go_at_call 25; refine (RX.out A16 c16 w16 hown16 hb16).mono ?_; rintro e w17 ⟨rfl, q17, rfl⟩) | (go_at_call 10; refine (CK.out _).mono ?_; rintro e w18 ⟨rfl, hb18⟩)))
      have HB18 : Hid (Below w.heap.size w w18) := (below_drewN (HB15.out.trans (hb16.mono H15.out.base_le)) q17).trans (hb18.mono (Nat.le_trans H15.out.base_le hb16.size))
      clear hb18 hb16 hown16
      go_wp2_with fail
      go_ret
      exact ⟨rfl, HB18.out⟩
    · have hfb' : decide (((La).length : Int) + (n2 : Int) ≤ 300) = false := by simp only [decide_eq_false_iff_not]; omega
      have hfc : 300 < (La : List UInt8).length + n2 := by omega
      have A7 := H6.out.act (fun S hd hb => writeB w.heap.size gd 300 S _ al A2 n2 c2 w.heap.size Lb w6 hd hb (HB.out.below HB6.out) HM2.out)
      have hst := stW_full 300 al La Lb (by rw [HL2.out]; omega)
      rw [hst.1, hst.2] at A7
      clear hst
      have HA7 := Lib.hid A7
      clear A7 hfb
      go_must (refine HA7.out.mono ?_)
      rintro e w7 ⟨rfl, h7, ho7⟩
      have H7 := Lib.hid h7
      have HB7 : Hid (Below w.heap.size w w7) := HB6.out.trans (ho7.rest H6.out.base_le)
      have RW7 := Lib.hid (own_only RW6.out ho7 (fun i hi h => h.2 hi))
      clear h7 ho7 HA7 H6 HB6 RW6
      have hown0 : (w7.alloc (.cells #[] 5)).ownsRow w7.heap.size 5 1 (.slice (some ⟨w7.heap.size, 0, none⟩) 0 0) 0 [] := World.ownsRow_lit w7 #[] 0 (Nat.le_refl _) (by simp [maxLen]) rfl
      have HO0 := Lib.hid hown0
      have HR0 := Lib.hid ((Reads.of_own RW7.out).alloc (Nat.le_refl _) (.cells #[] 5))
      obtain ⟨i0, hi, hz, hs, hby⟩ := info_parts (show (Try.prog.info? 5).map (fun i => (i.zero, i.size, i.bytes)) = some (some (.int .u8 0), 1, 1) by kernel_rfl)
      have h1c : ∀ u ∈ (La : List UInt8).map bval, u.oneCell' = true := fun u hu => by obtain ⟨b, _, rfl⟩ := List.mem_map.1 hu; rfl
      have h2c : 0 + (La : List UInt8).length ≤ maxLen := by unfold maxLen; omega
      have h3c : (0 + (La : List UInt8).length) * 1 ≤ 140737488355328 := by omega
      have h4c : w7.heap.size ≤ (w7.alloc (.cells #[] 5)).heap.size := by simp
      have g1c : ∀ u ∈ Lb.map bval, u.oneCell' = true := fun u hu => by obtain ⟨b, _, rfl⟩ := List.mem_map.1 hu; rfl
      have g2c : 0 + (La : List UInt8).length + n2 ≤ maxLen := by unfold maxLen; omega
      have g3c : (0 + (La : List UInt8).length + n2) * 1 ≤ 140737488355328 := by omega
      clear hown0
      go_wp2_with
        (first
         | (at_builtin
            refine wpList_append_any _ rfl (.tmp 84) (.tmp 85) 31 rfl w7.heap.size 5 i0 (.int .u8 0) 1 1 Try.underlying31 hi hz hs hby rfl (by decide) _ 0 [] rfl HO0.out w7.heap.size Aw (La : List UInt8).length cw ((La : List UInt8).map bval) rfl HR0.out h1c h2c h3c h4c ?_
            intro v8 w8 hown8 hg8 hv8
            have HO8 := Lib.hid hown8
            have hb78 : Below w7.heap.size w7 w8 := ((Below.refl _ _).alloc (Nat.le_refl _) _).grown hg8 (by simp) (fun k hk => Nat.le_of_eq (Option.some.inj hk))
            have HB78 := Lib.hid hb78
            have HR8 := Lib.hid (HB.out.below (HB7.out.trans (hb78.mono H7.out.base_le)))
            have h5c := hb78.size
            clear hown8 hg8 hv8 hb78)
         | (at_builtin
            refine wpList_append_any _ rfl (.tmp 86) (.tmp 87) 31 rfl w7.heap.size 5 i0 (.int .u8 0) 1 1 Try.underlying31 hi hz hs hby rfl (by decide) _ (0 + (La : List UInt8).length) _ rfl HO8.out w.heap.size A2 n2 c2 (Lb.map bval) rfl HR8.out g1c g2c g3c h5c ?_
            intro v9 w9 hown9 hg9 hv9
            have hb79 : Below w7.heap.size w7 w9 := HB78.out.grown hg9 h5c (fun k hk => (HO8.out.lt k hk).1)
            obtain ⟨nl, hnl, hown9'⟩ : ∃ nl : Nat, nl = (La : List UInt8).length + n2 ∧ w9.ownsRow w7.heap.size 5 1 v9 nl ((La ++ Lb : List UInt8).map bval) := ⟨0 + (La : List UInt8).length + n2, by omega, by rw [List.map_append]; simpa using hown9⟩
            obtain ⟨Al, cl, rfl, hcl, hccl, _⟩ := own_slice hown9'
            have H9 := Lib.hid (H7.out.below hb79)
            have HB9 : Hid (Below w.heap.size w w9) := HB7.out.trans (hb79.mono H7.out.base_le)
            have RW9 := Lib.hid (own_below RW7.out hb79)
            have RA9 := Lib.hid hown9'
            have hA3 : decide ((nl : Int) ≤ 300) = false := by simp only [decide_eq_false_iff_not]; omega
            have hA4 : nl ≤ 5000 := by omega
            have HNL := Lib.hid hnl
            clear hown9 hnl
            clear hown9' hg9 hv9 hb79 HR8 HB78 h5c))
      obtain ⟨S9, hd9⟩ := H9.out.bytes
      have BY9 := bytesB w.heap.size gd 300 S9 _ al w9 hd9
      simp only [stW_at] at BY9
      have HBY9 := Lib.hid BY9
      clear BY9 hd9

      have hL2 : (La : List UInt8).length ≤ 300 := by omega
      go_must (refine HBY9.out.mono ?_)
      rintro e w10 ⟨v10, rfl, hown10, hb10⟩
      obtain ⟨A10, c10, rfl, hc10, hcc10, _⟩ := own_slice hown10
      have SB10 := sameBytes_any A10 Aw (La : List UInt8).length c10 (La : List UInt8).length cw _ _ (La : List UInt8) (La : List UInt8) w10 (Reads.of_own hown10) ((Reads.of_own RW9.out).below hb10) (by unfold maxLen; omega) (by unfold maxLen; omega)
      rw [show decide ((La : List UInt8) = (La : List UInt8)) = true by simp] at SB10
      have HSB10 := Lib.hid SB10
      have H10 := Lib.hid (H9.out.below hb10)
      have HB10 : Hid (Below w.heap.size w w10) := HB9.out.trans (hb10.mono H9.out.base_le)
      clear SB10 hown10 hb10 HBY9 H9 HB9
      go_wp2_with fail
      go_must (refine HSB10.out.mono ?_)
      rintro e w11 ⟨rfl, q10, rfl⟩
      have H11 := Lib.hid (H10.out.below (below_drewN (Below.refl _ _) q10))
      have HB11 := Lib.hid (below_drewN HB10.out q10)
      obtain ⟨S11, hd11⟩ := H11.out.bytes
      have BN := bytesN w.heap.size gd 300 S11 _ al _ hd11
      simp only [stW_no] at BN
      have HBN := Lib.hid BN
      clear BN hd11 H10 HB10 HSB10
      go_wp2_with fail
      go_must (refine HBN.out.mono ?_)
      rintro e w12 ⟨v12, rfl, hown12, hb12⟩
      obtain ⟨A12, c12, rfl, hc12, hcc12, _⟩ := own_slice hown12
      have H12 := Lib.hid (H11.out.below hb12)
      have HB12 : Hid (Below w.heap.size w w12) := HB11.out.trans (hb12.mono H11.out.base_le)
      clear hown12 hb12 HBN H11 HB11
      simp only [List.length_nil]
      go_wp2_with fail
      generalize (La : List UInt8) = LL at *
      obtain ⟨S12, hd12⟩ := H12.out.bytes
      have BX := bytesB w.heap.size gd 300 S12 _ al _ hd12
      simp only [stW_at] at BX
      have HBX := Lib.hid BX
      clear BX hd12
      go_must (refine HBX.out.mono ?_)
      rintro e w13 ⟨v13, rfl, hown13, hb13⟩
      obtain ⟨An, cn, rfl, hcn, hccn, _⟩ := own_slice hown13
      have H13 : Hid (One false (fun i => (Value.slice An LL.length cn).ownBlock = some i) w13 w.heap.size gd 300 (stW al LL)) := H12.out.more hb13 (fun i hi => .inr (hown13.lt i hi))
      have HB13 : Hid (Below w.heap.size w w13) := HB12.out.trans (hb13.mono H12.out.base_le)
      have RN13 := Lib.hid hown13
      have A14 := Lib.hid (H13.out.act (fun S hd hb => cutB w.heap.size gd 300 S _ al n w13 hd hb))
      clear hown13 hb13 HBX H12 HB12
      go_wp2_with fail
      go_must (refine A14.out.mono ?_)
      rintro e w14 ⟨rfl, h14, ho14⟩
      have H14 := Lib.hid h14
      have HB14 : Hid (Below w.heap.size w w14) := HB13.out.trans (ho14.rest H13.out.base_le)
      have RN14 := Lib.hid (own_only RN13.out ho14 (fun i hi h => h.2 hi))
      have A15 := Lib.hid (H14.out.act (fun S hd hb => crash_any w.heap.size gd 300 S _ 0 w14 hd hb))
      have HCC : Hid ((((stW al LL).cut al n).crash 0 al).1 = cutL n LL) := by show _ = _; rw [cut_crash, stW_at]
      have HCK := Lib.hid (cutK_le n LL)
      have hkc : cutK n LL ≤ cn := Nat.le_trans (cutK_le n LL) hcn
      have hm2' : (if (0 : Int) < (if (LL.length : Int) < n then (LL.length : Int) else n) then (if (LL.length : Int) < n then (LL.length : Int) else n) else 0) = ((cutK n LL : Nat) : Int) := by unfold cutK; split <;> split <;> omega
      have HLK := Lib.hid (cutL_len n LL)
      have HTK : Hid (LL.take (cutK n LL) = cutL n LL) := rfl
      generalize hm1' : (if (LL.length : Int) < n then (LL.length : Int) else n) = mm at *
      generalize cutK n LL = kk at *
      clear h14 ho14 A14
      go_wp2_with fail
      clear hm1' hm2'
      go_must (refine A15.out.mono ?_)
      rintro e w15 ⟨rfl, h15, ho15⟩
      have H15 := Lib.hid (h15.below (Below.refl _ _).drew)
      have HB15 : Hid (Below w.heap.size w w15.drew) := (HB14.out.trans (ho15.rest H14.out.base_le)).drew
      have RN15 : Hid (w15.drew.ownsRow w12.heap.size 5 1 (.slice An LL.length cn) LL.length (LL.map bval)) := own_only (S := fun _ => False) (own_only RN14.out ho15 (fun i hi h => h.2 hi)) ((Only.refl _ w15).drew) (fun _ _ h => h)
      obtain ⟨S15, hd15⟩ := H15.out.bytes
      have BZ := bytesB w.heap.size gd 300 S15 _ al _ hd15
      rw [HCC.out] at BZ
      have HBZ := Lib.hid BZ
      have hbd : 0 ≤ (kk : Int) := by omega
      have RX : Hid (∀ A16 c16 w16, w16.ownsRow w15.drew.heap.size 5 1 (.slice A16 (cutL n LL).length c16) (cutL n LL).length ((cutL n LL).map bval) → Below w15.drew.heap.size w15.drew w16 → Calls Try.prog 25 #[.slice A16 (cutL n LL).length c16, .slice An kk cn] w16 fun e w' => e = .returned (.bool true) ∧ ∃ m, w' = w16.drewN m) := fun A16 c16 w16 ho hb => by
        have hr := ((Reads.of_own RN15.out).below hb).take HCK.out
        rw [Nat.mul_one, ← List.map_take, HTK.out] at hr
        have := sameBytes_any A16 An _ c16 kk cn _ _ (cutL n LL) (cutL n LL) w16 (Reads.of_own ho) hr (by have := HLK.out; have := HCK.out; unfold maxLen; omega) (by have := HCK.out; unfold maxLen; omega)
        rwa [show decide (cutL n LL = cutL n LL) = true by simp] at this
      clear BZ hd15 h15 ho15 A15
      go_wp2_with fail
      go_region_held3 (fun _ => True) (trivial) ((first | (go_at_call 23; refine HBZ.out.mono ?_; rintro e w16 ⟨v16, rfl, hown16, hb16⟩; obtain ⟨A16, c16, rfl, hc16, hcc16, _⟩ := own_slice hown16) | (go_at_call 25; refine (RX.out A16 c16 w16 hown16 hb16).mono ?_; rintro e w17 ⟨rfl, q17, rfl⟩) | (go_at_call 10; refine (CK.out _).mono ?_; rintro e w18 ⟨rfl, hb18⟩)))
      have HB18 : Hid (Below w.heap.size w w18) := (below_drewN (HB15.out.trans (hb16.mono H15.out.base_le)) q17).trans (hb18.mono (Nat.le_trans H15.out.base_le hb16.size))
      clear hb18 hb16 hown16
      go_wp2_with fail
      go_ret
      exact ⟨rfl, HB18.out⟩
  · have hfa' : decide ((n1 : Int) ≤ 300) = false := by simp; omega
    have hst := stW_full 300 al [] La (by rw [HL1.out]; simpa using hfa)
    rw [hst.1, hst.2] at A2'
    clear hst
    have HA2 := Lib.hid A2'
    clear A2' hfa hl1 hl2
    go_must (refine HA2.out.mono ?_)
    rintro e w3 ⟨rfl, h3, ho3⟩
    have H3 := Lib.hid h3
    have HB3 : Hid (Below w.heap.size w w3) := HB1.out.trans (ho3.rest H1.out.base_le)
    clear h3 ho3 HA2
    obtain ⟨S3, hd3⟩ := H3.out.bytes
    have BW := bytesB w.heap.size gd 300 S3 _ al w3 hd3
    simp only [stW_at] at BW
    have HBW := Lib.hid BW
    clear BW hd3
    go_wp2_with fail
    go_must (refine HBW.out.mono ?_)
    rintro e w4 ⟨vw, rfl, hownw, hbw⟩
    obtain ⟨Aw, cw, rfl, hcw, hccw, _⟩ := own_slice hownw
    have H4 : Hid (One false (fun i => (Value.slice Aw ([] : List UInt8).length cw).ownBlock = some i) w4 w.heap.size gd 300 (stW al [])) := H3.out.more hbw (fun i hi => .inr (hownw.lt i hi))
    have HB4 : Hid (Below w.heap.size w w4) := HB3.out.trans (hbw.mono H3.out.base_le)
    have RW4 := Lib.hid hownw
    clear hownw hbw HBW H3 HB3
    obtain ⟨S5, hd5⟩ := H4.out.bytes
    have RM := roomB w.heap.size gd 300 S5 _ al w4 hd5
    simp only [stW_at] at RM
    have HRM := Lib.hid RM
    clear RM hd5
    have hL300 : ([] : List UInt8).length ≤ 300 := by simp
    go_wp2_with fail
    go_must (refine HRM.out.mono ?_)
    rintro e w6 ⟨rfl, q6, rfl⟩
    have H6 := Lib.hid (H4.out.below (below_drewN (Below.refl _ _) q6))
    have HB6 := Lib.hid (below_drewN HB4.out q6)
    have RW6 := Lib.hid (own_below RW4.out (below_drewN (Below.refl w4.heap.size w4) q6))
    clear H4 HB4 RW4 HRM
    go_wp2_with fail
    generalize w4.drewN q6 = w6 at *

    by_cases hfb : n2 + (([] : List UInt8) : List UInt8).length ≤ 300
    · have hfb' : ((([] : List UInt8)).length : Int) + (n2 : Int) ≤ 300 := by omega
      have A7 := H6.out.act (fun S hd hb => writeB w.heap.size gd 300 S _ al A2 n2 c2 w.heap.size Lb w6 hd hb (HB.out.below HB6.out) HM2.out)
      have hst := stW_fits 300 al ([] : List UInt8) Lb (by rw [HL2.out]; omega)
      rw [hst.1, hst.2] at A7
      clear hst
      have HA7 := Lib.hid A7
      clear A7 hfb
      go_must (refine HA7.out.mono ?_)
      rintro e w7 ⟨rfl, h7, ho7⟩
      have H7 := Lib.hid h7
      have HB7 : Hid (Below w.heap.size w w7) := HB6.out.trans (ho7.rest H6.out.base_le)
      have RW7 := Lib.hid (own_only RW6.out ho7 (fun i hi h => h.2 hi))
      clear h7 ho7 HA7 H6 HB6 RW6
      have hown0 : (w7.alloc (.cells #[] 5)).ownsRow w7.heap.size 5 1 (.slice (some ⟨w7.heap.size, 0, none⟩) 0 0) 0 [] := World.ownsRow_lit w7 #[] 0 (Nat.le_refl _) (by simp [maxLen]) rfl
      have HO0 := Lib.hid hown0
      have HR0 := Lib.hid ((Reads.of_own RW7.out).alloc (Nat.le_refl _) (.cells #[] 5))
      obtain ⟨i0, hi, hz, hs, hby⟩ := info_parts (show (Try.prog.info? 5).map (fun i => (i.zero, i.size, i.bytes)) = some (some (.int .u8 0), 1, 1) by kernel_rfl)
      have h1c : ∀ u ∈ (([] : List UInt8) : List UInt8).map bval, u.oneCell' = true := fun u hu => by obtain ⟨b, _, rfl⟩ := List.mem_map.1 hu; rfl
      have h2c : 0 + (([] : List UInt8) : List UInt8).length ≤ maxLen := by unfold maxLen; omega
      have h3c : (0 + (([] : List UInt8) : List UInt8).length) * 1 ≤ 140737488355328 := by omega
      have h4c : w7.heap.size ≤ (w7.alloc (.cells #[] 5)).heap.size := by simp
      have g1c : ∀ u ∈ Lb.map bval, u.oneCell' = true := fun u hu => by obtain ⟨b, _, rfl⟩ := List.mem_map.1 hu; rfl
      have g2c : 0 + (([] : List UInt8) : List UInt8).length + n2 ≤ maxLen := by unfold maxLen; omega
      have g3c : (0 + (([] : List UInt8) : List UInt8).length + n2) * 1 ≤ 140737488355328 := by omega
      clear hown0
      go_wp2_with
        (first
         | (at_builtin
            refine wpList_append_any _ rfl (.tmp 84) (.tmp 85) 31 rfl w7.heap.size 5 i0 (.int .u8 0) 1 1 Try.underlying31 hi hz hs hby rfl (by decide) _ 0 [] rfl HO0.out w7.heap.size Aw (([] : List UInt8) : List UInt8).length cw ((([] : List UInt8) : List UInt8).map bval) rfl HR0.out h1c h2c h3c h4c ?_
            intro v8 w8 hown8 hg8 hv8
            have HO8 := Lib.hid hown8
            have hb78 : Below w7.heap.size w7 w8 := ((Below.refl _ _).alloc (Nat.le_refl _) _).grown hg8 (by simp) (fun k hk => Nat.le_of_eq (Option.some.inj hk))
            have HB78 := Lib.hid hb78
            have HR8 := Lib.hid (HB.out.below (HB7.out.trans (hb78.mono H7.out.base_le)))
            have h5c := hb78.size
            clear hown8 hg8 hv8 hb78)
         | (at_builtin
            refine wpList_append_any _ rfl (.tmp 86) (.tmp 87) 31 rfl w7.heap.size 5 i0 (.int .u8 0) 1 1 Try.underlying31 hi hz hs hby rfl (by decide) _ (0 + (([] : List UInt8) : List UInt8).length) _ rfl HO8.out w.heap.size A2 n2 c2 (Lb.map bval) rfl HR8.out g1c g2c g3c h5c ?_
            intro v9 w9 hown9 hg9 hv9
            have hb79 : Below w7.heap.size w7 w9 := HB78.out.grown hg9 h5c (fun k hk => (HO8.out.lt k hk).1)
            obtain ⟨nl, hnl, hown9'⟩ : ∃ nl : Nat, nl = (([] : List UInt8) : List UInt8).length + n2 ∧ w9.ownsRow w7.heap.size 5 1 v9 nl ((([] : List UInt8) ++ Lb : List UInt8).map bval) := ⟨0 + (([] : List UInt8) : List UInt8).length + n2, by omega, by rw [List.map_append]; simpa using hown9⟩
            obtain ⟨Al, cl, rfl, hcl, hccl, _⟩ := own_slice hown9'
            have H9 := Lib.hid (H7.out.below hb79)
            have HB9 : Hid (Below w.heap.size w w9) := HB7.out.trans (hb79.mono H7.out.base_le)
            have RW9 := Lib.hid (own_below RW7.out hb79)
            have RA9 := Lib.hid hown9'
            have hA3 : (nl : Int) ≤ 300 := by omega
            have hA4 : nl ≤ 5000 := by omega
            have HNL := Lib.hid hnl
            clear hown9 hnl
            clear hown9' hg9 hv9 hb79 HR8 HB78 h5c))
      obtain ⟨S9, hd9⟩ := H9.out.bytes
      have BY9 := bytesB w.heap.size gd 300 S9 _ al w9 hd9
      simp only [stW_at] at BY9
      have hLn : (([] : List UInt8) ++ Lb : List UInt8).length = nl := by rw [List.length_append, HL2.out]; exact HNL.out.symm
      rw [hLn] at BY9
      have HLN := Lib.hid hLn
      clear hLn
      have HBY9 := Lib.hid BY9
      clear BY9 hd9

      have hL2 : (([] : List UInt8) ++ Lb : List UInt8).length ≤ 300 := by rw [HLN.out]; omega
      go_must (refine HBY9.out.mono ?_)
      rintro e w10 ⟨v10, rfl, hown10, hb10⟩
      obtain ⟨A10, c10, rfl, hc10, hcc10, _⟩ := own_slice hown10
      have SB10 := sameBytes_any A10 Al nl c10 nl cl _ _ (([] : List UInt8) ++ Lb : List UInt8) (([] : List UInt8) ++ Lb : List UInt8) w10 (Reads.of_own hown10) ((Reads.of_own RA9.out).below hb10) (by unfold maxLen; omega) (by unfold maxLen; omega)
      rw [show decide ((([] : List UInt8) ++ Lb : List UInt8) = (([] : List UInt8) ++ Lb : List UInt8)) = true by simp] at SB10
      have HSB10 := Lib.hid SB10
      have H10 := Lib.hid (H9.out.below hb10)
      have HB10 : Hid (Below w.heap.size w w10) := HB9.out.trans (hb10.mono H9.out.base_le)
      clear SB10 hown10 hb10 HBY9 H9 HB9
      go_wp2_with fail
      go_must (refine HSB10.out.mono ?_)
      rintro e w11 ⟨rfl, q10, rfl⟩
      have H11 := Lib.hid (H10.out.below (below_drewN (Below.refl _ _) q10))
      have HB11 := Lib.hid (below_drewN HB10.out q10)
      obtain ⟨S11, hd11⟩ := H11.out.bytes
      have BN := bytesN w.heap.size gd 300 S11 _ al _ hd11
      simp only [stW_no] at BN
      have HBN := Lib.hid BN
      clear BN hd11 H10 HB10 HSB10
      go_wp2_with fail
      go_must (refine HBN.out.mono ?_)
      rintro e w12 ⟨v12, rfl, hown12, hb12⟩
      obtain ⟨A12, c12, rfl, hc12, hcc12, _⟩ := own_slice hown12
      have H12 := Lib.hid (H11.out.below hb12)
      have HB12 : Hid (Below w.heap.size w w12) := HB11.out.trans (hb12.mono H11.out.base_le)
      clear hown12 hb12 HBN H11 HB11
      simp only [List.length_nil]
      go_wp2_with fail
      generalize (([] : List UInt8) ++ Lb : List UInt8) = LL at *
      obtain ⟨S12, hd12⟩ := H12.out.bytes
      have BX := bytesB w.heap.size gd 300 S12 _ al _ hd12
      simp only [stW_at] at BX
      have HBX := Lib.hid BX
      clear BX hd12
      go_must (refine HBX.out.mono ?_)
      rintro e w13 ⟨v13, rfl, hown13, hb13⟩
      obtain ⟨An, cn, rfl, hcn, hccn, _⟩ := own_slice hown13
      have H13 : Hid (One false (fun i => (Value.slice An LL.length cn).ownBlock = some i) w13 w.heap.size gd 300 (stW al LL)) := H12.out.more hb13 (fun i hi => .inr (hown13.lt i hi))
      have HB13 : Hid (Below w.heap.size w w13) := HB12.out.trans (hb13.mono H12.out.base_le)
      have RN13 := Lib.hid hown13
      have A14 := Lib.hid (H13.out.act (fun S hd hb => cutB w.heap.size gd 300 S _ al n w13 hd hb))
      clear hown13 hb13 HBX H12 HB12
      go_wp2_with fail
      go_must (refine A14.out.mono ?_)
      rintro e w14 ⟨rfl, h14, ho14⟩
      have H14 := Lib.hid h14
      have HB14 : Hid (Below w.heap.size w w14) := HB13.out.trans (ho14.rest H13.out.base_le)
      have RN14 := Lib.hid (own_only RN13.out ho14 (fun i hi h => h.2 hi))
      have A15 := Lib.hid (H14.out.act (fun S hd hb => crash_any w.heap.size gd 300 S _ 0 w14 hd hb))
      have HCC : Hid ((((stW al LL).cut al n).crash 0 al).1 = cutL n LL) := by show _ = _; rw [cut_crash, stW_at]
      have HCK := Lib.hid (cutK_le n LL)
      have hkc : cutK n LL ≤ cn := Nat.le_trans (cutK_le n LL) hcn
      have hm2' : (if (0 : Int) < (if (LL.length : Int) < n then (LL.length : Int) else n) then (if (LL.length : Int) < n then (LL.length : Int) else n) else 0) = ((cutK n LL : Nat) : Int) := by unfold cutK; split <;> split <;> omega
      have HLK := Lib.hid (cutL_len n LL)
      have HTK : Hid (LL.take (cutK n LL) = cutL n LL) := rfl
      generalize hm1' : (if (LL.length : Int) < n then (LL.length : Int) else n) = mm at *
      generalize cutK n LL = kk at *
      clear h14 ho14 A14
      go_wp2_with fail
      clear hm1' hm2'
      go_must (refine A15.out.mono ?_)
      rintro e w15 ⟨rfl, h15, ho15⟩
      have H15 := Lib.hid (h15.below (Below.refl _ _).drew)
      have HB15 : Hid (Below w.heap.size w w15.drew) := (HB14.out.trans (ho15.rest H14.out.base_le)).drew
      have RN15 : Hid (w15.drew.ownsRow w12.heap.size 5 1 (.slice An LL.length cn) LL.length (LL.map bval)) := own_only (S := fun _ => False) (own_only RN14.out ho15 (fun i hi h => h.2 hi)) ((Only.refl _ w15).drew) (fun _ _ h => h)
      obtain ⟨S15, hd15⟩ := H15.out.bytes
      have BZ := bytesB w.heap.size gd 300 S15 _ al _ hd15
      rw [HCC.out] at BZ
      have HBZ := Lib.hid BZ
      have hbd : 0 ≤ (kk : Int) := by omega
      have RX : Hid (∀ A16 c16 w16, w16.ownsRow w15.drew.heap.size 5 1 (.slice A16 (cutL n LL).length c16) (cutL n LL).length ((cutL n LL).map bval) → Below w15.drew.heap.size w15.drew w16 → Calls Try.prog 25 #[.slice A16 (cutL n LL).length c16, .slice An kk cn] w16 fun e w' => e = .returned (.bool true) ∧ ∃ m, w' = w16.drewN m) := fun A16 c16 w16 ho hb => by
        have hr := ((Reads.of_own RN15.out).below hb).take HCK.out
        rw [Nat.mul_one, ← List.map_take, HTK.out] at hr
        have := sameBytes_any A16 An _ c16 kk cn _ _ (cutL n LL) (cutL n LL) w16 (Reads.of_own ho) hr (by have := HLK.out; have := HCK.out; unfold maxLen; omega) (by have := HCK.out; unfold maxLen; omega)
        rwa [show decide (cutL n LL = cutL n LL) = true by simp] at this
      clear BZ hd15 h15 ho15 A15
      go_wp2_with fail
      go_region_held3 (fun _ => True) (trivial) ((first | (go_at_call 23; refine HBZ.out.mono ?_; rintro e w16 ⟨v16, rfl, hown16, hb16⟩; obtain ⟨A16, c16, rfl, hc16, hcc16, _⟩ := own_slice hown16) | (go_at_call 25; refine (RX.out A16 c16 w16 hown16 hb16).mono ?_; rintro e w17 ⟨rfl, q17, rfl⟩) | (go_at_call 10; refine (CK.out _).mono ?_; rintro e w18 ⟨rfl, hb18⟩)))
      have HB18 : Hid (Below w.heap.size w w18) := (below_drewN (HB15.out.trans (hb16.mono H15.out.base_le)) q17).trans (hb18.mono (Nat.le_trans H15.out.base_le hb16.size))
      clear hb18 hb16 hown16
      go_wp2_with fail
      go_ret
      exact ⟨rfl, HB18.out⟩
    · have hfb' : decide (((([] : List UInt8)).length : Int) + (n2 : Int) ≤ 300) = false := by simp only [decide_eq_false_iff_not]; omega
      have hfc : 300 < (([] : List UInt8) : List UInt8).length + n2 := by omega
      have A7 := H6.out.act (fun S hd hb => writeB w.heap.size gd 300 S _ al A2 n2 c2 w.heap.size Lb w6 hd hb (HB.out.below HB6.out) HM2.out)
      have hst := stW_full 300 al ([] : List UInt8) Lb (by rw [HL2.out]; omega)
      rw [hst.1, hst.2] at A7
      clear hst
      have HA7 := Lib.hid A7
      clear A7 hfb
      go_must (refine HA7.out.mono ?_)
      rintro e w7 ⟨rfl, h7, ho7⟩
      have H7 := Lib.hid h7
      have HB7 : Hid (Below w.heap.size w w7) := HB6.out.trans (ho7.rest H6.out.base_le)
      have RW7 := Lib.hid (own_only RW6.out ho7 (fun i hi h => h.2 hi))
      clear h7 ho7 HA7 H6 HB6 RW6
      have hown0 : (w7.alloc (.cells #[] 5)).ownsRow w7.heap.size 5 1 (.slice (some ⟨w7.heap.size, 0, none⟩) 0 0) 0 [] := World.ownsRow_lit w7 #[] 0 (Nat.le_refl _) (by simp [maxLen]) rfl
      have HO0 := Lib.hid hown0
      have HR0 := Lib.hid ((Reads.of_own RW7.out).alloc (Nat.le_refl _) (.cells #[] 5))
      obtain ⟨i0, hi, hz, hs, hby⟩ := info_parts (show (Try.prog.info? 5).map (fun i => (i.zero, i.size, i.bytes)) = some (some (.int .u8 0), 1, 1) by kernel_rfl)
      have h1c : ∀ u ∈ (([] : List UInt8) : List UInt8).map bval, u.oneCell' = true := fun u hu => by obtain ⟨b, _, rfl⟩ := List.mem_map.1 hu; rfl
      have h2c : 0 + (([] : List UInt8) : List UInt8).length ≤ maxLen := by unfold maxLen; omega
      have h3c : (0 + (([] : List UInt8) : List UInt8).length) * 1 ≤ 140737488355328 := by omega
      have h4c : w7.heap.size ≤ (w7.alloc (.cells #[] 5)).heap.size := by simp
      have g1c : ∀ u ∈ Lb.map bval, u.oneCell' = true := fun u hu => by obtain ⟨b, _, rfl⟩ := List.mem_map.1 hu; rfl
      have g2c : 0 + (([] : List UInt8) : List UInt8).length + n2 ≤ maxLen := by unfold maxLen; omega
      have g3c : (0 + (([] : List UInt8) : List UInt8).length + n2) * 1 ≤ 140737488355328 := by omega
      clear hown0
      go_wp2_with
        (first
         | (at_builtin
            refine wpList_append_any _ rfl (.tmp 84) (.tmp 85) 31 rfl w7.heap.size 5 i0 (.int .u8 0) 1 1 Try.underlying31 hi hz hs hby rfl (by decide) _ 0 [] rfl HO0.out w7.heap.size Aw (([] : List UInt8) : List UInt8).length cw ((([] : List UInt8) : List UInt8).map bval) rfl HR0.out h1c h2c h3c h4c ?_
            intro v8 w8 hown8 hg8 hv8
            have HO8 := Lib.hid hown8
            have hb78 : Below w7.heap.size w7 w8 := ((Below.refl _ _).alloc (Nat.le_refl _) _).grown hg8 (by simp) (fun k hk => Nat.le_of_eq (Option.some.inj hk))
            have HB78 := Lib.hid hb78
            have HR8 := Lib.hid (HB.out.below (HB7.out.trans (hb78.mono H7.out.base_le)))
            have h5c := hb78.size
            clear hown8 hg8 hv8 hb78)
         | (at_builtin
            refine wpList_append_any _ rfl (.tmp 86) (.tmp 87) 31 rfl w7.heap.size 5 i0 (.int .u8 0) 1 1 Try.underlying31 hi hz hs hby rfl (by decide) _ (0 + (([] : List UInt8) : List UInt8).length) _ rfl HO8.out w.heap.size A2 n2 c2 (Lb.map bval) rfl HR8.out g1c g2c g3c h5c ?_
            intro v9 w9 hown9 hg9 hv9
            have hb79 : Below w7.heap.size w7 w9 := HB78.out.grown hg9 h5c (fun k hk => (HO8.out.lt k hk).1)
            obtain ⟨nl, hnl, hown9'⟩ : ∃ nl : Nat, nl = (([] : List UInt8) : List UInt8).length + n2 ∧ w9.ownsRow w7.heap.size 5 1 v9 nl ((([] : List UInt8) ++ Lb : List UInt8).map bval) := ⟨0 + (([] : List UInt8) : List UInt8).length + n2, by omega, by rw [List.map_append]; simpa using hown9⟩
            obtain ⟨Al, cl, rfl, hcl, hccl, _⟩ := own_slice hown9'
            have H9 := Lib.hid (H7.out.below hb79)
            have HB9 : Hid (Below w.heap.size w w9) := HB7.out.trans (hb79.mono H7.out.base_le)
            have RW9 := Lib.hid (own_below RW7.out hb79)
            have RA9 := Lib.hid hown9'
            have hA3 : decide ((nl : Int) ≤ 300) = false := by simp only [decide_eq_false_iff_not]; omega
            have hA4 : nl ≤ 5000 := by omega
            have HNL := Lib.hid hnl
            clear hown9 hnl
            clear hown9' hg9 hv9 hb79 HR8 HB78 h5c))
      obtain ⟨S9, hd9⟩ := H9.out.bytes
      have BY9 := bytesB w.heap.size gd 300 S9 _ al w9 hd9
      simp only [stW_at] at BY9
      have HBY9 := Lib.hid BY9
      clear BY9 hd9

      have hL2 : (([] : List UInt8) : List UInt8).length ≤ 300 := by omega
      go_must (refine HBY9.out.mono ?_)
      rintro e w10 ⟨v10, rfl, hown10, hb10⟩
      obtain ⟨A10, c10, rfl, hc10, hcc10, _⟩ := own_slice hown10
      have SB10 := sameBytes_any A10 Aw (([] : List UInt8) : List UInt8).length c10 (([] : List UInt8) : List UInt8).length cw _ _ (([] : List UInt8) : List UInt8) (([] : List UInt8) : List UInt8) w10 (Reads.of_own hown10) ((Reads.of_own RW9.out).below hb10) (by unfold maxLen; omega) (by unfold maxLen; omega)
      rw [show decide ((([] : List UInt8) : List UInt8) = (([] : List UInt8) : List UInt8)) = true by simp] at SB10
      have HSB10 := Lib.hid SB10
      have H10 := Lib.hid (H9.out.below hb10)
      have HB10 : Hid (Below w.heap.size w w10) := HB9.out.trans (hb10.mono H9.out.base_le)
      clear SB10 hown10 hb10 HBY9 H9 HB9
      go_wp2_with fail
      go_must (refine HSB10.out.mono ?_)
      rintro e w11 ⟨rfl, q10, rfl⟩
      have H11 := Lib.hid (H10.out.below (below_drewN (Below.refl _ _) q10))
      have HB11 := Lib.hid (below_drewN HB10.out q10)
      obtain ⟨S11, hd11⟩ := H11.out.bytes
      have BN := bytesN w.heap.size gd 300 S11 _ al _ hd11
      simp only [stW_no] at BN
      have HBN := Lib.hid BN
      clear BN hd11 H10 HB10 HSB10
      go_wp2_with fail
      go_must (refine HBN.out.mono ?_)
      rintro e w12 ⟨v12, rfl, hown12, hb12⟩
      obtain ⟨A12, c12, rfl, hc12, hcc12, _⟩ := own_slice hown12
      have H12 := Lib.hid (H11.out.below hb12)
      have HB12 : Hid (Below w.heap.size w w12) := HB11.out.trans (hb12.mono H11.out.base_le)
      clear hown12 hb12 HBN H11 HB11
      simp only [List.length_nil]
      go_wp2_with fail
      generalize (([] : List UInt8) : List UInt8) = LL at *
      obtain ⟨S12, hd12⟩ := H12.out.bytes
      have BX := bytesB w.heap.size gd 300 S12 _ al _ hd12
      simp only [stW_at] at BX
      have HBX := Lib.hid BX
      clear BX hd12
      go_must (refine HBX.out.mono ?_)
      rintro e w13 ⟨v13, rfl, hown13, hb13⟩
      obtain ⟨An, cn, rfl, hcn, hccn, _⟩ := own_slice hown13
      have H13 : Hid (One false (fun i => (Value.slice An LL.length cn).ownBlock = some i) w13 w.heap.size gd 300 (stW al LL)) := H12.out.more hb13 (fun i hi => .inr (hown13.lt i hi))
      have HB13 : Hid (Below w.heap.size w w13) := HB12.out.trans (hb13.mono H12.out.base_le)
      have RN13 := Lib.hid hown13
      have A14 := Lib.hid (H13.out.act (fun S hd hb => cutB w.heap.size gd 300 S _ al n w13 hd hb))
      clear hown13 hb13 HBX H12 HB12
      go_wp2_with fail
      go_must (refine A14.out.mono ?_)
      rintro e w14 ⟨rfl, h14, ho14⟩
      have H14 := Lib.hid h14
      have HB14 : Hid (Below w.heap.size w w14) := HB13.out.trans (ho14.rest H13.out.base_le)
      have RN14 := Lib.hid (own_only RN13.out ho14 (fun i hi h => h.2 hi))
      have A15 := Lib.hid (H14.out.act (fun S hd hb => crash_any w.heap.size gd 300 S _ 0 w14 hd hb))
      have HCC : Hid ((((stW al LL).cut al n).crash 0 al).1 = cutL n LL) := by show _ = _; rw [cut_crash, stW_at]
      have HCK := Lib.hid (cutK_le n LL)
      have hkc : cutK n LL ≤ cn := Nat.le_trans (cutK_le n LL) hcn
      have hm2' : (if (0 : Int) < (if (LL.length : Int) < n then (LL.length : Int) else n) then (if (LL.length : Int) < n then (LL.length : Int) else n) else 0) = ((cutK n LL : Nat) : Int) := by unfold cutK; split <;> split <;> omega
      have HLK := Lib.hid (cutL_len n LL)
      have HTK : Hid (LL.take (cutK n LL) = cutL n LL) := rfl
      generalize hm1' : (if (LL.length : Int) < n then (LL.length : Int) else n) = mm at *
      generalize cutK n LL = kk at *
      clear h14 ho14 A14
      go_wp2_with fail
      clear hm1' hm2'
      go_must (refine A15.out.mono ?_)
      rintro e w15 ⟨rfl, h15, ho15⟩
      have H15 := Lib.hid (h15.below (Below.refl _ _).drew)
      have HB15 : Hid (Below w.heap.size w w15.drew) := (HB14.out.trans (ho15.rest H14.out.base_le)).drew
      have RN15 : Hid (w15.drew.ownsRow w12.heap.size 5 1 (.slice An LL.length cn) LL.length (LL.map bval)) := own_only (S := fun _ => False) (own_only RN14.out ho15 (fun i hi h => h.2 hi)) ((Only.refl _ w15).drew) (fun _ _ h => h)
      obtain ⟨S15, hd15⟩ := H15.out.bytes
      have BZ := bytesB w.heap.size gd 300 S15 _ al _ hd15
      rw [HCC.out] at BZ
      have HBZ := Lib.hid BZ
      have hbd : 0 ≤ (kk : Int) := by omega
      have RX : Hid (∀ A16 c16 w16, w16.ownsRow w15.drew.heap.size 5 1 (.slice A16 (cutL n LL).length c16) (cutL n LL).length ((cutL n LL).map bval) → Below w15.drew.heap.size w15.drew w16 → Calls Try.prog 25 #[.slice A16 (cutL n LL).length c16, .slice An kk cn] w16 fun e w' => e = .returned (.bool true) ∧ ∃ m, w' = w16.drewN m) := fun A16 c16 w16 ho hb => by
        have hr := ((Reads.of_own RN15.out).below hb).take HCK.out
        rw [Nat.mul_one, ← List.map_take, HTK.out] at hr
        have := sameBytes_any A16 An _ c16 kk cn _ _ (cutL n LL) (cutL n LL) w16 (Reads.of_own ho) hr (by have := HLK.out; have := HCK.out; unfold maxLen; omega) (by have := HCK.out; unfold maxLen; omega)
        rwa [show decide (cutL n LL = cutL n LL) = true by simp] at this
      clear BZ hd15 h15 ho15 A15
      go_wp2_with fail
      go_region_held3 (fun _ => True) (trivial) ((first | (go_at_call 23; refine HBZ.out.mono ?_; rintro e w16 ⟨v16, rfl, hown16, hb16⟩; obtain ⟨A16, c16, rfl, hc16, hcc16, _⟩ := own_slice hown16) | (go_at_call 25; refine (RX.out A16 c16 w16 hown16 hb16).mono ?_; rintro e w17 ⟨rfl, q17, rfl⟩) | (go_at_call 10; refine (CK.out _).mono ?_; rintro e w18 ⟨rfl, hb18⟩)))
      have HB18 : Hid (Below w.heap.size w w18) := (below_drewN (HB15.out.trans (hb16.mono H15.out.base_le)) q17).trans (hb18.mono (Nat.le_trans H15.out.base_le hb16.size))
      clear hb18 hb16 hown16
      go_wp2_with fail
      go_ret
      exact ⟨rfl, HB18.out⟩
end Go.Proofs.Ytaccefkjdggcaaa
