/-
  The chapter's example (works).
-/
import Derived.Test.YtalkglmneicpoaaGreatDoorWalKit
namespace Go.Proofs.YtalkglmneicpoaaGreatDoor
set_option linter.unusedVariables false
set_option linter.unusedSimpArgs false
open Go.RowKit
set_option maxRecDepth 100000 in
set_option maxHeartbeats 16000000 in
theorem wworks_any (pg : Addr) (w : World) (hG : Glob pg w) : Calls Tryz.prog 8 #[] w fun e w' => e = .returned (.bool true) ∧ Below w.heap.size w w' := by
  have hlt := hG.lt
  have HGW : Hid (∀ W, Below w.heap.size w W → Glob pg W) := fun W hW => hG.below hW hlt
  clear hG
  obtain ⟨f1, f2, f3, f4, f5, f6⟩ := wk_facts
  have C1 := Lib.hid (new_any 64 (by omega) (by omega) w)
  go_enter Tryz.func8, Tryz.ntmps8
  go_wp2_with fail
  go_must (refine C1.out.mono ?_)
  rintro e w1 ⟨gd, rfl, hgd, hb1, hs1, hd1⟩
  have H1 := Lib.hid (One.fresh (hd1 w.heap.size (Nat.le_refl _)) hb1.size)
  have HB1 := Lib.hid hb1
  have C2 := Lib.hid (H1.out.open_ (fun S hd hb => wopen_any true w.heap.size gd 64 S DSt.new w1 pg (HGW.out _ HB1.out) hd hb))
  clear C1 hgd hb1 hs1 hd1
  go_wp2_with fail
  go_must (refine C2.out.mono ?_)
  rintro e w2 ⟨v2, G2, gl, rfl, hk2, _, hf2, hm2, ho2, hon2, _⟩
  have H2 : Hid (One false (fun i => i = gl) w2 w.heap.size gd 64 wk1) := ho2.less (fun i hi => .inr (.inr hi))
  have HB2 := Lib.hid (HB1.out.trans (hon2.rest H1.out.base_le))
  have HK2 := Lib.hid hk2
  have hG2 : G2 = [] := by rw [f1] at hm2; simpa using hm2
  subst hG2
  obtain ⟨A2, c2, rfl, _, _, _⟩ := own_slice hf2.own
  clear C2 hk2 hf2 hm2 ho2 hon2 H1 HB1 f1
  obtain ⟨w3, hw3⟩ : ∃ w3, w3 = w2.alloc (.cells #[.int .u8 7] 5) := ⟨_, rfl⟩
  have hb3 : Below w2.heap.size w2 w3 := by rw [hw3]; exact (Below.refl _ _).alloc (Nat.le_refl _) _
  have hr3 : Reads w3 w3.heap.size 1 (some ⟨w2.heap.size, 0, none⟩) 1 (([7] : List UInt8).map bval) := by
    rw [hw3]; exact (Reads.new w2 #[.int .u8 7] 5 (0, 0)).more (by simp)
  have H3 := Lib.hid (H2.out.below hb3)
  have HB3 := Lib.hid (HB2.out.trans (hb3.mono HB2.out.size))
  have HK3 := Lib.hid (HK2.out.below hb3 HK2.out.lt)
  have C3 := H3.out.act (fun S hd hb => wappend_any true gl w.heap.size gd 64 S wk1 1 [7] (some ⟨w2.heap.size, 0, none⟩) 1 1 w3.heap.size pg w3 (HGW.out _ HB3.out) hlt hd hb HK3.out hr3 (Nat.le_refl _) (by decide))
  rw [f2] at C3
  have D3 : Hid (Calls Tryz.prog 17 #[.pointer (some ⟨gl, 0, none⟩), .agg #[.int .i64 1, .slice (some ⟨w2.heap.size, 0, none⟩) 1 1]] w3 fun e w' => e = .returned (.int .i64 0) ∧ One false (fun i => i = gl) w' w.heap.size gd 64 wk2 ∧ Only (Rest w.heap.size (fun i => i = gl)) w3 w') := C3
  clear C3 hb3 hr3 H2 HB2 HK2
  go_wp2_with fail
  rw [← hw3]
  clear hw3
  go_must (refine D3.out.mono ?_)
  rintro e w4 ⟨rfl, h4, ho4⟩
  have H4 := Lib.hid h4
  have HB4 := Lib.hid (HB3.out.trans (ho4.rest H3.out.base_le))
  have HK4 := Lib.hid (HK3.out.only ho4 (fun h => h.2 rfl))
  have D4 : Hid (Calls Tryz.prog 14 #[.pointer (some ⟨gl, 0, none⟩)] w4 fun e w' => e = .returned (.tuple #[]) ∧ One false (fun i => i = gl) w' w.heap.size gd 64 wk3 ∧ Only (Rest w.heap.size (fun i => i = gl)) w4 w') :=
    H4.out.act (fun S hd hb => wsync_any true gl w.heap.size gd 64 S wk2 w4 hd hb HK4.out)
  clear h4 ho4 H3 HB3 HK3 D3
  go_wp2_with fail
  go_must (refine D4.out.mono ?_)
  rintro e w5 ⟨rfl, h5, ho5⟩
  have H5 := Lib.hid h5
  have HB5 := Lib.hid (HB4.out.trans (ho5.rest H4.out.base_le))
  have HK5 := Lib.hid (HK4.out.only ho5 (fun h => h.2 rfl))
  clear h5 ho5 H4 HB4 HK4 D4
  obtain ⟨w6, hw6⟩ : ∃ w6, w6 = w5.alloc (.cells #[.int .u8 8, .int .u8 9] 5) := ⟨_, rfl⟩
  have hb6 : Below w5.heap.size w5 w6 := by rw [hw6]; exact (Below.refl _ _).alloc (Nat.le_refl _) _
  have hr6 : Reads w6 w6.heap.size 1 (some ⟨w5.heap.size, 0, none⟩) 2 (([8, 9] : List UInt8).map bval) := by
    rw [hw6]; exact (Reads.new w5 #[.int .u8 8, .int .u8 9] 5 (0, 0)).more (by simp)
  have H6 := Lib.hid (H5.out.below hb6)
  have HB6 := Lib.hid (HB5.out.trans (hb6.mono HB5.out.size))
  have HK6 := Lib.hid (HK5.out.below hb6 HK5.out.lt)
  have C6 := H6.out.act (fun S hd hb => wappend_any true gl w.heap.size gd 64 S wk3 2 [8, 9] (some ⟨w5.heap.size, 0, none⟩) 2 2 w6.heap.size pg w6 (HGW.out _ HB6.out) hlt hd hb HK6.out hr6 (Nat.le_refl _) (by decide))
  rw [f3] at C6
  have D6 : Hid (Calls Tryz.prog 17 #[.pointer (some ⟨gl, 0, none⟩), .agg #[.int .i64 2, .slice (some ⟨w5.heap.size, 0, none⟩) 2 2]] w6 fun e w' => e = .returned (.int .i64 0) ∧ One false (fun i => i = gl) w' w.heap.size gd 64 wk4 ∧ Only (Rest w.heap.size (fun i => i = gl)) w6 w') := C6
  clear C6 hb6 hr6 H5 HB5 HK5
  go_wp2_with fail
  rw [← hw6]
  clear hw6
  go_must (refine D6.out.mono ?_)
  rintro e w7 ⟨rfl, h7, ho7⟩
  have H7 := Lib.hid h7
  have HB7 := Lib.hid (HB6.out.trans (ho7.rest H6.out.base_le))
  have HK7 := Lib.hid (HK6.out.only ho7 (fun h => h.2 rfl))
  clear h7 ho7 H6 HB6 HK6 D6
  obtain ⟨w8, hw8⟩ : ∃ w8, w8 = w7.alloc (.cells (madeCells #[.int .u8 0] 60) 5) := ⟨_, rfl⟩
  have hb8 : Below w7.heap.size w7 w8 := by rw [hw8]; exact (Below.refl _ _).alloc (Nat.le_refl _) _
  have hr8 : Reads w8 w8.heap.size 1 (some ⟨w7.heap.size, 0, none⟩) 60 ((List.replicate 60 (0 : UInt8)).map bval) := by
    rw [hw8]
    exact Reads.of_own (own_made_one (e := 5) w7 (.int .u8 0) rfl 60 (base := w7.heap.size) (Nat.le_refl _) (by decide))
  have hmk : ∀ W, (Instr.makeSlice 22 (.int .i64 60) (.int .i64 60)).run Tryz.prog W = .ok (.slice (some ⟨W.heap.size, 0, none⟩) 60 60) (W.alloc (.cells (madeCells #[.int .u8 0] 60) 5)) := fun W =>
    run_make_one (MakeInfo.mk' (e := 5) (bytes := 1) Tryz.underlying22 (by kernel_rfl)) rfl 60 (by omega) (by omega) W
  have H8 := Lib.hid (H7.out.below hb8)
  have HB8 := Lib.hid (HB7.out.trans (hb8.mono HB7.out.size))
  have HK8 := Lib.hid (HK7.out.below hb8 HK7.out.lt)
  have C8 := H8.out.act (fun S hd hb => wappend_any true gl w.heap.size gd 64 S wk4 2 (List.replicate 60 0) (some ⟨w7.heap.size, 0, none⟩) 60 60 w8.heap.size pg w8 (HGW.out _ HB8.out) hlt hd hb HK8.out hr8 (Nat.le_refl _) (by decide))
  rw [f4] at C8
  have D8 : Hid (Calls Tryz.prog 17 #[.pointer (some ⟨gl, 0, none⟩), .agg #[.int .i64 2, .slice (some ⟨w7.heap.size, 0, none⟩) 60 60]] w8 fun e w' => e = .returned (.int .i64 12) ∧ One false (fun i => i = gl) w' w.heap.size gd 64 wk5 ∧ Only (Rest w.heap.size (fun i => i = gl)) w8 w') := C8
  clear C8 hb8 hr8 H7 HB7 HK7
  go_wp2_with fail
  rw [← hw8]
  clear hw8 hmk
  go_must (refine D8.out.mono ?_)
  rintro e w9 ⟨rfl, h9, ho9⟩
  have H9 := Lib.hid h9
  have HB9 := Lib.hid (HB8.out.trans (ho9.rest H8.out.base_le))
  have D9 : Hid (Calls Tryz.prog 15 #[.pointer (some ⟨gd, 0, none⟩), .int .i64 5] w9 fun e w' => e = .returned (.tuple #[]) ∧ One false (fun i => i = gl) w' w.heap.size gd 64 wk6 ∧ Only (Rest w.heap.size (fun i => i = gl)) w9 w') :=
    H9.out.act (fun S hd hb => crash_any w.heap.size gd 64 S wk5 5 w9 hd hb)
  clear h9 ho9 H8 HB8 HK8 D8
  go_wp2_with fail
  go_must (refine D9.out.mono ?_)
  rintro e w10 ⟨rfl, h10, ho10⟩
  have H10 := Lib.hid h10
  have HB10 := Lib.hid (HB9.out.trans (ho10.rest H9.out.base_le))
  have C10 := Lib.hid (H10.out.open_ (fun S hd hb => wopen_any true w.heap.size gd 64 S wk6 w10 pg (HGW.out _ HB10.out) hd hb))
  clear h10 ho10 H9 HB9 D9
  go_wp2_with fail
  go_must (refine C10.out.mono ?_)
  rintro e w11 ⟨v11, G11, gm, rfl, hk11, _, hf11, hm11, ho11, hon11, _⟩
  rw [f5] at hm11
  have H11 : Hid (One false _ w11 w.heap.size gd 64 wk7) := ho11
  have HB11 := Lib.hid (HB10.out.trans (hon11.rest H10.out.base_le))
  have HK11 := Lib.hid hk11
  obtain ⟨x, rfl, hx⟩ : ∃ x : FrV, G11 = [x] ∧ x.1 = ⟨1, [7]⟩ := by
    rcases G11 with _ | ⟨x, _ | ⟨y, G⟩⟩
    · simp at hm11
    · exact ⟨x, rfl, by simpa using hm11⟩
    · simp at hm11
  obtain ⟨fx, vx⟩ := x
  simp only at hx
  subst hx
  have hbx := hf11.body _ (List.mem_singleton.2 rfl)
  obtain ⟨Ax, cx, hvx, hcx1, hcx2, _⟩ := own_slice hbx
  simp only at hvx
  subst hvx
  obtain ⟨A11, c11, rfl, hc1, hc2, _⟩ := own_slice hf11.own
  obtain ⟨ad, hA, _, hcell⟩ := (Reads.of_own hf11.own).2 (Nat.zero_lt_one)
  subst hA
  have y0 : w11.cell? ad = some (ival 1) := by have := hcell 0 (ival 1) rfl; rwa [show ad.add 0 = ad by cases ad; simp [Addr.add]] at this
  have y1 : w11.cell? ⟨ad.block, ad.off + 1, none⟩ = some (.slice Ax 1 cx) := by have := hcell 1 (.slice Ax 1 cx) rfl; rwa [show ad.add 1 = ⟨ad.block, ad.off + 1, none⟩ by simp [Addr.add]] at this
  obtain ⟨w12, hw12⟩ : ∃ w12, w12 = w11.alloc (.cells #[.int .u8 7] 5) := ⟨_, rfl⟩
  have hb12 : Below w11.heap.size w11 w12 := by rw [hw12]; exact (Below.refl _ _).alloc (Nat.le_refl _) _
  have hrx : Reads w12 w12.heap.size 1 Ax 1 (([7] : List UInt8).map bval) := ((Reads.of_own hbx).below hb12).more hb12.size
  have hr12 : Reads w12 w12.heap.size 1 (some ⟨w11.heap.size, 0, none⟩) 1 (([7] : List UInt8).map bval) := by
    rw [hw12]; exact (Reads.new w11 #[.int .u8 7] 5 (0, 0)).more (by simp)
  have S12 := sameBytes_any Ax (some ⟨w11.heap.size, 0, none⟩) 1 cx 1 1 w12.heap.size w12.heap.size [7] [7] w12 hrx hr12 (by decide) (by decide)
  rw [decide_eq_true rfl] at S12
  have C12 := Lib.hid S12
  have H12 := Lib.hid (H11.out.below hb12)
  have HB12 := Lib.hid (HB11.out.trans (hb12.mono HB11.out.size))
  have HK12 := Lib.hid (HK11.out.below hb12 HK11.out.lt)
  have R12 : Hid (∀ q, Calls Tryz.prog 18 #[.pointer (some ⟨gm, 0, none⟩)] (w12.drewN q) fun e w' => e = .returned (.int .i64 54) ∧ ∃ m, w' = (w12.drewN q).drewN m) := fun q => by
    obtain ⟨S, hd⟩ := H12.out.bytes
    have := wroom_any true gm w.heap.size gd 64 S wk7 (w12.drewN q) (hd.drewN q) (HK12.out.drewN q)
    rw [f6] at this
    exact this
  have h1I : (0 : Int) < ((1 : Nat) : Int) := by omega
  clear S12 hb12 hrx hr12 hbx hcell hk11 hf11 hm11 ho11 hon11 H10 HB10 H11 HB11 HK11 C10 f2 f3 f4 f5 f6
  go_wp2_with fail
  rw [← hw12]
  clear hw12 y0 y1
  go_must (refine C12.out.mono ?_)
  rintro e w13 ⟨rfl, q, rfl⟩
  go_wp2_with fail
  go_must (refine (R12.out q).mono ?_)
  rintro e w14 ⟨rfl, q', rfl⟩
  go_wp2_with fail
  go_ret
  exact ⟨rfl, below_drewN HB12.out (q + q')⟩
end Go.Proofs.YtalkglmneicpoaaGreatDoor
