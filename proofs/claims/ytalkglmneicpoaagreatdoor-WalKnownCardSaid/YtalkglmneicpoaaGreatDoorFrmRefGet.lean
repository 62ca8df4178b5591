/-
  The document's Get of a frame (oxbowref04.Get).
-/
import Derived.Test.YtalkglmneicpoaaGreatDoorFrmRefSum
import Derived.Test.YtalkglmneicpoaaGreatDoorFrmGet
import Derived.Deep.RegionLaw
namespace Go.Proofs.YtalkglmneicpoaaGreatDoor
set_option linter.unusedVariables false
set_option linter.unusedSimpArgs false
open Go.RowKit
section
variable {P : Program} {w : World}
theorem step_push {ops : Array Oper} {o : Oper} {a : Act} {K : Act → World → Prop} {Q : Exit → Act → World → Prop} {E : Prop} {W : World} {t e : TypeId} {size bytes : Nat} (he : ElemInfo P t e size bytes) (s x : Operand) (hgd : o.guard = none)
    (ho : o.op = .call { callee := .builtin .append, args := #[s, x], argTypes := #[t, t] })
    {base : Nat} {v : Value} {n : Nat} {xs : List Value} (hown : w.ownsRow base e size v n xs) (hs : a.eval s = v)
    (news : List Value) (hW : W = w.alloc (.cells news.toArray e)) {c : Nat} (hx : a.eval x = .slice (some ⟨w.heap.size, 0, none⟩) 1 c) (hl : news.length = size) (h1 : news.all Value.oneCell' = true)
    (hbytes : (n + 1) * bytes ≤ 140737488355328) (hbase : base ≤ w.heap.size)
    (h : ∀ v' w', w'.ownsRow base e size v' (n + 1) (xs ++ news) → w.grownBy w' v.ownBlock → (v'.ownBlock = v.ownBlock ∨ v'.ownBlock = some (w.heap.size + 1)) → Below base w w' → w.heap.size < w'.heap.size → K (a.put o.dst v') w') :
    if Region.wanted o (yielded ops a.tmps) = true then Oper.wp P o a W K Q else E := by
  subst hW
  obtain ⟨ht, hsz, hb, i, z, hi, hz, hsize, hby, hzs⟩ := he
  have h63 : n + 1 ≤ maxLen := by
    have := Nat.le_mul_of_pos_right (n + 1) hb
    unfold maxLen
    omega
  have hw : Region.wanted o (yielded ops a.tmps) = true := by simp [Region.wanted, hgd]
  rw [if_pos hw]
  exact wp_append_one w s x t ho base e i z size bytes ht hi hz hsize hby hzs hsz v n xs hs hown news c hx hl (fun u hu => List.all_eq_true.1 h1 u hu) h63 hbytes hbase h
end
theorem getPost_bad {L : List UInt8} {w w' : World} {E : Nat} (h : getE L = E) (hE : E ≠ 0) (hb : Below w.heap.size w w') :
    GetPost L w (.returned (.tuple #[.agg #[ival 0, .slice none 0 0], ival 0, ival E])) w' := by
  have h0 : getE L ≠ 0 := by omega
  have hF : getF L = ⟨0, []⟩ := by unfold getF; rw [if_neg h0]
  have hN : getN L = 0 := by unfold getN; rw [if_neg h0]
  refine ⟨.slice none 0 0, ?_, ?_, hb⟩
  · rw [hF, hN, h]; rfl
  · rw [hF]; exact World.ownsRow_nil _ _ _ _
set_option maxRecDepth 100000 in
set_option maxHeartbeats 4000000 in
theorem refGet_short (A : Option Addr) (n c B : Nat) (L : List UInt8) (w : World) (hr : Reads w B 1 A n (L.map bval)) (h9 : n < 9) :
    Calls Tryz.prog 70 #[.slice A n c] w (GetPost L w) := by
  have hl := hr.bytes_len
  have hE : getE L = 4 := by unfold getE; rw [if_pos (by omega)]
  have HE := Lib.hid hE
  clear hr hl hE
  go_enter Tryz.func70, Tryz.ntmps70
  go_wp2_with fail
  refine end_frame3 rfl rfl rfl (Blk.new w 25 #[ival 0, .slice none 0 0]) rfl rfl rfl ?_
  exact getPost_bad HE.out (by decide) ((Below.refl _ _).alloc (Nat.le_refl _) _)
set_option maxRecDepth 100000 in
set_option maxHeartbeats 8000000 in
theorem refGet_long (A : Option Addr) (n c B : Nat) (L : List UInt8) (w : World) (hr : Reads w B 1 A n (L.map bval)) (hB : B ≤ w.heap.size) (hn : n ≤ c) (hc : c ≤ maxLen) (h9 : ¬ n < 9) :
    Calls Tryz.prog 70 #[.slice A n c] w (GetPost L w) := by
  have hl := hr.bytes_len
  obtain ⟨w2, hw2⟩ : ∃ w2, w2 = w.alloc (.cells #[ival 0, .slice none 0 0] 25) := ⟨_, rfl⟩
  have hb2 : Below w.heap.size w w2 := by rw [hw2]; exact (Below.refl _ _).alloc (Nat.le_refl _) _
  have HB2 := Lib.hid hb2
  have HS2 : Hid (w2.heap.size = w.heap.size + 1) := by show _ = _; rw [hw2]; simp
  have HF : Hid (Blk w2 w.heap.size 25 #[ival 0, .slice none 0 0]) := by show Blk _ _ _ _; rw [hw2]; exact Blk.new _ _ _
  have HR := Lib.hid (hr.below (hb2.mono hB))
  obtain ⟨ad4, u4, hA, hab, hx4, hc4⟩ := HR.out.at_ (k := 4) (by omega)
  have h4l : 4 < L.length := by omega
  have hu4 : u4 = .int .u8 ((L.getD 4 0).toNat : Int) := by
    rw [List.getElem?_map, List.getElem?_eq_getElem h4l] at hx4
    rw [List.getD_eq_getElem?_getD, List.getElem?_eq_getElem h4l]
    exact (Option.some.inj hx4).symm
  subst hu4 hA
  have C1 := Lib.hid (refNumber_any (some ad4) n c B L w2 HR.out (by omega))
  have hbe := be4_lt L
  have HLn := Lib.hid hl
  have HE0 : Hid (¬ L.length < 9) := by show ¬ _; omega
  have hc4' : w2.cell? ⟨ad4.block, ad4.off + 4, none⟩ = some (.int .u8 ((L.getD 4 0).toNat : Int)) := by
    have e : ad4.add 4 = ⟨ad4.block, ad4.off + 4, none⟩ := by unfold Addr.add; simp
    rw [← e]; exact hc4
  have HC4 := Lib.hid hc4'
  clear hr hx4 hb2 hl hc4 hc4'
  generalize hbN : be4 L = N at *
  have HBN := Lib.hid hbN
  have hk4 := (L.getD 4 0).toNat_lt
  generalize hk : L.getD 4 0 = kb at *
  have HKB := Lib.hid hk
  clear hbN hk
  have hwi : IntKind.i64.wrap (N : Int) = (N : Int) := IntWalk.i64_in _ (by omega)
  have h4n : 4 < n := by omega
  have h4I : (4 : Int) < (n : Int) := by omega
  go_enter Tryz.func70, Tryz.ntmps70
  go_wp2_with fail
  rw [← hw2]
  clear hw2
  go_must (refine C1.out.mono ?_)
  rintro e w3 ⟨rfl, q, hw3⟩
  replace HR : Hid (Reads w3 B 1 (some ad4) n (L.map bval)) := by rw [hw3]; exact HR.out.drewN q
  replace HF : Hid (Blk w3 w.heap.size 25 #[ival 0, .slice none 0 0]) := by show Blk _ _ _ _; rw [hw3]; exact HF.out.drewN q
  replace HB2 : Hid (Below w.heap.size w w3) := by show Below _ _ _; rw [hw3]; exact below_drewN HB2.out q
  replace HS2 : Hid (w3.heap.size = w.heap.size + 1) := by show _ = _; rw [hw3]; exact HS2.out
  have hc4' : w3.cell? ⟨ad4.block, ad4.off + 4, none⟩ = some (.int .u8 (kb.toNat : Int)) := by rw [hw3]; exact HC4.out
  clear hw3 C1 HC4
  by_cases h5 : 262144 < N
  · have HE : Hid (getE L = 5) := by show _ = _; unfold getE; rw [if_neg HE0.out, HBN.out, if_pos h5]
    clear HR
    have f0 : w3.frozen? ⟨w.heap.size, 0, none⟩ = false := HF.out.frozen 0
    have f1 : w3.frozen? ⟨w.heap.size, 1, none⟩ = false := HF.out.frozen 1
    have c0 : w3.cell? ⟨w.heap.size, 0, none⟩ = some (ival 0) := HF.out.cell 0
    have c1 : w3.cell? ⟨w.heap.size, 1, none⟩ = some (.slice none 0 0) := HF.out.cell 1
    go_wp2_with fail
    refine end_frame3 rfl rfl rfl (show Blk _ _ _ #[ival 0, .slice none 0 0] from (HF.out.set_ 0 _).set_ 1 _) rfl rfl rfl ?_
    exact getPost_bad HE.out (by decide) ((HB2.out.setCell (Nat.le_refl _) _).setCell (Nat.le_refl _) _)
  by_cases hk0 : kb = 0
  · have HE : Hid (getE L = 2) := by show _ = _; unfold getE; rw [if_neg HE0.out, HBN.out, if_neg h5, HKB.out, if_pos hk0]
    subst hk0
    have hz : ((0 : UInt8).toNat : Int) = 0 := rfl
    clear HR
    have f0 : w3.frozen? ⟨w.heap.size, 0, none⟩ = false := HF.out.frozen 0
    have f1 : w3.frozen? ⟨w.heap.size, 1, none⟩ = false := HF.out.frozen 1
    have c0 : w3.cell? ⟨w.heap.size, 0, none⟩ = some (ival 0) := HF.out.cell 0
    have c1 : w3.cell? ⟨w.heap.size, 1, none⟩ = some (.slice none 0 0) := HF.out.cell 1
    go_wp2_with fail
    refine end_frame3 rfl rfl rfl (show Blk _ _ _ #[ival 0, .slice none 0 0] from (HF.out.set_ 0 _).set_ 1 _) rfl rfl rfl ?_
    exact getPost_bad HE.out (by decide) ((HB2.out.setCell (Nat.le_refl _) _).setCell (Nat.le_refl _) _)
  have hk0n : kb.toNat ≠ 0 := fun h => hk0 (UInt8.toNat_inj.1 h)
  have hk0I : ((kb.toNat : Int) == 0) = false := by simp; omega
  have hws : IntKind.i64.wrap ((n : Int) - 9) = (n : Int) - 9 := IntWalk.i64_in _ (by unfold maxLen at hc; omega)
  by_cases h10 : n < 9 + N
  · have HE : Hid (getE L = 4) := by show _ = _; unfold getE; rw [if_neg HE0.out, HBN.out, if_neg h5, HKB.out, if_neg hk0, if_pos (by rw [HLn.out]; exact h10)]
    have h10I : (n : Int) - 9 < (N : Int) := by omega
    clear HR
    have f0 : w3.frozen? ⟨w.heap.size, 0, none⟩ = false := HF.out.frozen 0
    have f1 : w3.frozen? ⟨w.heap.size, 1, none⟩ = false := HF.out.frozen 1
    have c0 : w3.cell? ⟨w.heap.size, 0, none⟩ = some (ival 0) := HF.out.cell 0
    have c1 : w3.cell? ⟨w.heap.size, 1, none⟩ = some (.slice none 0 0) := HF.out.cell 1
    go_wp2_with fail
    refine end_frame3 rfl rfl rfl (show Blk _ _ _ #[ival 0, .slice none 0 0] from (HF.out.set_ 0 _).set_ 1 _) rfl rfl rfl ?_
    exact getPost_bad HE.out (by decide) ((HB2.out.setCell (Nat.le_refl _) _).setCell (Nat.le_refl _) _)
  have h10I : ¬ ((n : Int) - 9 < (N : Int)) := by omega
  have hwk : IntKind.i64.wrap (kb.toNat : Int) = (kb.toNat : Int) := IntWalk.i64_in _ (by omega)
  have hbl : ((L.drop 9).take N).length = N := by rw [List.length_take, List.length_drop, HLn.out]; omega
  have HX : Hid (getE L = if frSum kb ((L.drop 9).take N) ≠ be4 (L.drop 5) then 6 else 0) := by
    show _ = _; unfold getE; rw [if_neg HE0.out, HBN.out, if_neg h5, HKB.out, if_neg hk0, if_neg (by rw [HLn.out]; exact h10)]
  have HGF : Hid (getE L = 0 → getF L = ⟨(kb.toNat : Int), (L.drop 9).take N⟩ ∧ getN L = 9 + N) := fun h => ⟨by unfold getF; rw [if_pos h, HBN.out, HKB.out], by unfold getN; rw [if_pos h, HBN.out]⟩
  have HBL := Lib.hid hbl
  clear hbl
  obtain ⟨w6, hw6⟩ : ∃ w6, w6 = w3.alloc (.cells #[ival (kb.toNat : Int), .slice none 0 0] 25) := ⟨_, rfl⟩
  have hb6 : Below w3.heap.size w3 w6 := by rw [hw6]; exact (Below.refl _ _).alloc (Nat.le_refl _) _
  have HB6 := Lib.hid hb6
  have HK6 : Hid (Blk w6 w3.heap.size 25 #[ival (kb.toNat : Int), .slice none 0 0]) := by show Blk _ _ _ _; rw [hw6]; exact Blk.new _ _ _
  have HS6 : Hid (w6.heap.size = w3.heap.size + 1) := by show _ = _; rw [hw6]; simp
  clear hb6
  go_wp2_with fail
  have hw6' : w3.alloc (.cells #[.int .i64 (kb.toNat : Int), .slice none 0 0] 25) = w6 := hw6.symm
  rw [hw6']
  clear hw6 hw6' hc4' hwk hws hwi
  have RB : Hid (∀ W, Below w3.heap.size w3 W → Reads W B 1 (some ad4) n (L.map bval) ∧ Blk W w.heap.size 25 #[ival 0, .slice none 0 0] ∧ Below w.heap.size w W) := fun W hW =>
    ⟨HR.out.below (hW.mono (by have := HS2.out; omega)), HF.out.below hW HF.out.lt, HB2.out.trans (hW.mono (by have := HS2.out; omega))⟩
  have HNF : Hid (N ≤ 262144 ∧ 9 + N ≤ n) := ⟨by omega, by omega⟩
  have hSZ3 : w.heap.size < w3.heap.size := by have := HS2.out; omega
  have HBD : Hid ((((L.drop 9).take N)).length = N ∧ ∀ j, j < N → ((L.drop 9).take N)[j]? = L[9 + j]?) := ⟨HBL.out, fun j hj => by rw [List.getElem?_take, if_pos hj, List.getElem?_drop]⟩
  clear HR HF
  generalize hbody : (L.drop 9).take N = body at *
  clear hbody
  generalize hg6 : w3.heap.size = g6 at *
  go_loopw [7] (fun i wr => ∃ (j : Nat) (A4 : Option Addr) (c4 : Nat), j ≤ N ∧ i = .int .i64 j ∧ Blk wr g6 25 #[ival (kb.toNat : Int), .slice A4 j c4] ∧ wr.ownsRow (g6 + 1) 5 1 (.slice A4 j c4) j ((body.take j).map bval) ∧ Below g6 w3 wr) (fun i _ => N - (intOf i).toNat)
  case atStart => exact ⟨0, none, 0, by omega, rfl, HK6.out, by simpa using World.ownsRow_nil _ _ _ _, HB6.out⟩
  case round =>
    obtain ⟨j, A4, c4, hj, rfl, hblk, hown, hbel⟩ := hrel
    have HBK := Lib.hid hblk
    have HO := Lib.hid hown
    have HBE := Lib.hid hbel
    obtain ⟨r1, r2, r3⟩ := RB.out _ hbel
    have HR1 := Lib.hid r1
    have HF1 := Lib.hid r2
    have HB1 := Lib.hid r3
    clear hblk hown hbel r1 r2 r3 HK6 HB6 HS6
    by_cases hlt : j < N
    · have hn9 : 9 + j < n := by have := HNF.out.2; omega
      have h9l : 9 + j < L.length := by have := HLn.out; omega
      obtain ⟨ad, u9, hA9, _, hx9, hc9⟩ := HR1.out.at_ (k := 9 + j) hn9
      obtain rfl : ad4 = ad := Option.some.inj hA9
      have hu9 : u9 = .int .u8 ((L[9 + j]'h9l).toNat : Int) := by
        rw [List.getElem?_map, List.getElem?_eq_getElem h9l] at hx9
        exact (Option.some.inj hx9).symm
      subst hu9
      have HT : Hid ((body.take j).map bval ++ [.int .u8 ((L[9 + j]'h9l).toNat : Int)] = (body.take (j + 1)).map bval) := by
        have hjb : j < body.length := by have := HBD.out.1; omega
        have he : body[j] = L[9 + j]'h9l := by
          have := HBD.out.2 j hlt
          rw [List.getElem?_eq_getElem hjb, List.getElem?_eq_getElem h9l] at this
          exact Option.some.inj this
        show _ = _
        rw [List.take_succ_eq_append_getElem hjb, List.map_append, he]; rfl
      generalize (L[9 + j]'h9l) = b at *
      clear hx9 hA9 h9l
      have hwj : IntKind.i64.wrap (9 + (j : Int)) = 9 + (j : Int) := IntWalk.i64_in _ (by unfold maxLen at hc; omega)
      have hj0 : (0 : Int) ≤ 9 + (j : Int) := by omega
      have hjn : 9 + (j : Int) < (n : Int) := by omega
      have hjt : (9 + (j : Int)).toNat = 9 + j := by omega
      have c0 : wr.cell? ⟨g6, 1, none⟩ = some (.slice A4 j c4) := HBK.out.cell 1
      have f0 : wr.frozen? ⟨g6, 1, none⟩ = false := HBK.out.frozen 1
      have a0 : ∀ O, (wr.drew.alloc O).cell? ⟨g6, 1, none⟩ = some (.slice A4 j c4) := fun O => (HBK.out.drew.alloc O).cell 1
      have a2 : ∀ O, (wr.drew.alloc O).frozen? ⟨g6, 1, none⟩ = false := fun O => (HBK.out.drew.alloc O).frozen 1
      have b0 : ∀ O, (wr.alloc O).cell? ⟨g6, 1, none⟩ = some (.slice A4 j c4) := fun O => (HBK.out.alloc O).cell 1
      have b2 : ∀ O, (wr.alloc O).frozen? ⟨g6, 1, none⟩ = false := fun O => (HBK.out.alloc O).frozen 1
      have HOD : Hid (wr.drew.ownsRow (g6 + 1) 5 1 (.slice A4 j c4) j ((body.take j).map bval)) := HO.out.drew
      have HBS : Hid (g6 + 1 ≤ wr.drew.heap.size) := by have := HBK.out.lt; show g6 + 1 ≤ wr.heap.size; omega
      have hq : (j + 1) * 1 ≤ 140737488355328 := by have := HNF.out.1; omega
      have HEND : Hid (∀ v1 w1, w1.ownsRow (g6 + 1) 5 1 v1 (j + 1) ((body.take j).map bval ++ [.int .u8 (b.toNat : Int)]) → wr.drew.grownBy w1 (Value.slice A4 j c4).ownBlock → Below (g6 + 1) wr.drew w1 →
          w1.cell? ⟨g6, 1, none⟩ = some (.slice A4 j c4) ∧ w1.frozen? ⟨g6, 1, none⟩ = false ∧ (∃ (A5 : Option Addr) (c5 : Nat), Blk (w1.setCell ⟨g6, 1, none⟩ v1) g6 25 #[ival (kb.toNat : Int), .slice A5 (j + 1) c5] ∧ (w1.setCell ⟨g6, 1, none⟩ v1).ownsRow (g6 + 1) 5 1 (.slice A5 (j + 1) c5) (j + 1) ((body.take (j + 1)).map bval) ∧ Below g6 w3 (w1.setCell ⟨g6, 1, none⟩ v1))) := fun v1 w1 h1 h2 h3 => by
        rw [HT.out] at h1
        have kk := HBK.out.drew.below h3 (Nat.lt_succ_self _)
        obtain ⟨A5, c5, rfl, _, _, _⟩ := own_slice h1
        refine ⟨kk.cell 1, kk.frozen 1, A5, c5, kk.set_ 1 _, ?_, ?_⟩
        · exact own_only h1 ((Only.refl (fun i => i = g6) w1).setCell (.inl rfl) 1 _) (fun i hi h => by have := (h1.lt i hi).1; omega)
        · exact (HBE.out.drew.trans (h3.mono (by omega))).setCell (Nat.le_refl _) _
      clear HBK HO HT
      go_wp2_with fail
      go_region_law ((refine step_push Tryz.el22 (.tmp 40) (.tmp 46) rfl rfl HOD.out rfl [.int .u8 (b.toNat : Int)] rfl rfl rfl rfl hq HBS.out ?_; intro v1 w1 hown1 hg1 hv1 hb1 hs1; obtain ⟨y1, y2, y3⟩ := HEND.out v1 w1 hown1 hg1 hb1; have Y3 := Lib.hid y3; obtain ⟨A9, c9, rfl, _, _, _⟩ := own_slice hown1; clear hown1 hg1 hv1 hb1 hs1 y3))
      all_goals
        go_wp2_with fail
        go_roundw
        case rel => obtain ⟨A5, c5, k1, k2, k3⟩ := Y3.out; exact ⟨j + 1, A5, c5, by omega, by go_num, k1, k2, k3⟩
        case measure => simp [intOf]; omega
    · obtain rfl : j = N := by omega
      have hHO : (body.take j).map bval = body.map bval := by rw [List.take_of_length_le (by have := HBD.out.1; omega)]
      replace HO : Hid (wr.ownsRow (g6 + 1) 5 1 (.slice A4 j c4) j (body.map bval)) := by show World.ownsRow _ _ _ _ _ _ _; rw [← hHO]; exact HO.out
      clear hHO
      have hcn : 9 ≤ c := by omega
      have hcnI : (9 : Int) ≤ (c : Int) := by omega
      have hsl : ∀ W, (Instr.slice 22 (.slice (some ad4) n c) (some (.int .i64 5)) (some (.int .i64 9)) none).run Tryz.prog W = .ok (.slice (cutA (some ad4) c 5 1) 4 (c - 5)) W := fun W => by
        have := run_cut_lh Tryz.el22 (some ad4) n c (l := 5) (h := 9) (by omega) hcn W
        simpa using this
      have hgs : g6 < wr.heap.size := HBK.out.lt
      have q4 : Below wr.heap.size wr wr.drew := (Below.refl wr.heap.size wr).drew
      have HS : Hid (∀ W, Below wr.heap.size wr W → W.cell? ⟨g6, 0, none⟩ = some (ival (kb.toNat : Int)) ∧ W.cell? ⟨g6, 1, none⟩ = some (.slice A4 j c4)) := fun W hW =>
        ⟨(HBK.out.below hW hgs).cell 0, (HBK.out.below hW hgs).cell 1⟩
      have C4 : Hid (∀ W, Below wr.heap.size wr W → Calls Tryz.prog 72 #[.agg #[ival (kb.toNat : Int), .slice A4 j c4]] W fun e w' => e = .returned (.int .u32 (frSum kb body : Nat)) ∧ Below W.heap.size W w') := fun W hW =>
        refFsum_any kb body A4 j c4 wr.heap.size W ((Reads.of_own HO.out).below hW) hW.size (by have := HNF.out.1; omega)
      have C5 : Hid (∀ W, Below wr.heap.size wr W → Calls Tryz.prog 77 #[.slice (cutA (some ad4) c 5 1) 4 (c - 5)] W fun e w' => e = .returned (.int .u32 (be4 (L.drop 5) : Nat)) ∧ ∃ q, w' = W.drewN q) := fun W hW => by
        have h1 := ((RB.out W (HBE.out.trans (hW.mono (by omega)))).1.cutA (k := 5) (cap := c) (by omega) hn).take (k := 4) (by omega)
        rw [Nat.mul_one, Nat.mul_one, ← List.map_drop, ← List.map_take] at h1
        have := refNumber_any (cutA (some ad4) c 5 1) 4 (c - 5) B ((L.drop 5).take 4) W h1 (by omega)
        rw [be4_take _ _ (by omega)] at this
        exact this
      have hS5 := be4_lt (L.drop 5)
      have hS4 := frSum_lt kb body
      obtain ⟨S, hS⟩ : ∃ S, frSum kb body = S := ⟨_, rfl⟩
      obtain ⟨S5, hSS⟩ : ∃ S5, be4 (L.drop 5) = S5 := ⟨_, rfl⟩
      rw [hS] at C4 HX hS4
      rw [hSS] at C5 HX hS5
      clear hS hSS
      go_wp2_with fail
      go_region_held3 (fun w' => w'.cell? ⟨g6, 0, none⟩ = some (ival (kb.toNat : Int)) ∧ w'.cell? ⟨g6, 1, none⟩ = some (.slice A4 j c4)) (first | exact HS.out _ q4 | exact HS.out _ q5 | exact HS.out _ q6) ((first | (go_at_call 72; refine (C4.out _ q4).mono ?_; rintro e w5 ⟨rfl, hb5⟩; have q5 : Below wr.heap.size wr w5 := q4.trans (hb5.mono q4.size)) | (go_at_call 77; refine (C5.out w5 q5).mono ?_; rintro e _ ⟨rfl, qq, rfl⟩; have q6 : Below wr.heap.size wr (w5.drewN qq) := below_drewN q5 qq) | fail))
      clear q4 q5 C4 C5 hsl
      have HO5 := Lib.hid (own_only HO.out (Only.of_below (S := fun _ => False) (q6.mono (Nat.le_refl _))) (fun _ _ h => h))
      have HK5 := Lib.hid (HBK.out.below q6 hgs)
      have HF5 := Lib.hid (HF1.out.below q6 (by omega))
      have HB5 := Lib.hid (HB1.out.trans (q6.mono (by omega)))
      clear q6 hb5 HO HBK HF1 HB1 HR1 HBE HS RB
      generalize w5.drewN qq = w7 at *
      have f0 : w7.frozen? ⟨w.heap.size, 0, none⟩ = false := HF5.out.frozen 0
      have f1 : w7.frozen? ⟨w.heap.size, 1, none⟩ = false := HF5.out.frozen 1
      have c0 : w7.cell? ⟨w.heap.size, 0, none⟩ = some (ival 0) := HF5.out.cell 0
      have c1 : w7.cell? ⟨w.heap.size, 1, none⟩ = some (.slice none 0 0) := HF5.out.cell 1
      have x0 : w7.cell? ⟨g6, 0, none⟩ = some (ival (kb.toNat : Int)) := HK5.out.cell 0
      have x1 : w7.cell? ⟨g6, 1, none⟩ = some (.slice A4 j c4) := HK5.out.cell 1
      by_cases hsum : S = S5
      · have HE : Hid (getE L = 0) := by show _ = _; rw [HX.out, if_neg (by simp [hsum])]
        have hneq : ((S : Int) != (S5 : Int)) = false := by simp [hsum]
        have hw9 : IntKind.i64.wrap (9 + (j : Int)) = 9 + (j : Int) := IntWalk.i64_in _ (by have := HNF.out.1; omega)
        clear hsum HX
        go_wp2_with fail
        refine end_frame3 rfl rfl rfl (show Blk _ _ _ #[ival (kb.toNat : Int), .slice A4 j c4] from (HF5.out.set_ 0 _).set_ 1 _) rfl rfl rfl ?_
        obtain ⟨e1, e2⟩ := HGF.out HE.out
        have ho : Only (fun i => i = w.heap.size) w7 ((w7.setCell ⟨w.heap.size, 0, none⟩ (ival (kb.toNat : Int))).setCell ⟨w.heap.size, 1, none⟩ (.slice A4 j c4)) := ((Only.refl (fun i => i = w.heap.size) w7).setCell (.inl rfl) 0 _).setCell (.inl rfl) 1 _
        refine ⟨.slice A4 j c4, by rw [e1, e2, HE.out]; rfl, ?_, (HB5.out.setCell (Nat.le_refl _) _).setCell (Nat.le_refl _) _⟩
        rw [e1]
        show World.ownsRow _ _ _ _ _ body.length _
        rw [HBL.out]
        have hlo := HO5.out.lt
        exact own_base (own_only HO5.out ho (fun g hg h => by have := (hlo g hg).1; omega)) (fun g hg => by have := (hlo g hg).1; omega)
      · have HE : Hid (getE L = 6) := by show _ = _; rw [HX.out, if_pos hsum]
        have hneq : ((S : Int) != (S5 : Int)) = true := by simp; omega
        clear hsum HX
        go_wp2_with fail
        refine end_frame3 rfl rfl rfl (show Blk _ _ _ #[ival 0, .slice none 0 0] from (HF5.out.set_ 0 _).set_ 1 _) rfl rfl rfl ?_
        exact getPost_bad HE.out (by decide) ((HB5.out.setCell (Nat.le_refl _) _).setCell (Nat.le_refl _) _)
theorem refGet_any (A : Option Addr) (n c B : Nat) (L : List UInt8) (w : World) (hr : Reads w B 1 A n (L.map bval)) (hB : B ≤ w.heap.size) (hn : n ≤ c) (hc : c ≤ maxLen) :
    Calls Tryz.prog 70 #[.slice A n c] w (GetPost L w) := by
  by_cases h9 : n < 9
  · exact refGet_short A n c B L w hr h9
  · exact refGet_long A n c B L w hr hB hn hc h9
end Go.Proofs.YtalkglmneicpoaaGreatDoor
