/-
  LinkKnown.
-/
import Derived.Test.YtpnkobdnifopiaaLinkOrder
namespace Go.Proofs.Ytpnkobdnifopiaa
set_option linter.unusedVariables false
set_option linter.unusedSimpArgs false
open Go.RowKit
def In64 (z : Int) : Prop := -9223372036854775808 ≤ z ∧ z ≤ 9223372036854775807
/-- Rows of elements of other types are not one. -/
theorem own_types_ne {w : World} {base base' : Nat} {e e' : TypeId} {size size' n n' : Nat} {v v' : Value} {xs xs' : List Value} (h : w.ownsRow base e size v n xs) (h' : w.ownsRow base' e' size' v' n' xs') (hne : e ≠ e') :
    v.ownBlock = none ∨ v.ownBlock ≠ v'.ownBlock := by
  rcases h.2 with ⟨rfl, _⟩ | ⟨g, cap, cur, rfl, _, h2, _⟩
  · exact .inl rfl
  · refine .inr fun hb => ?_
    rcases h'.2 with ⟨rfl, _⟩ | ⟨g', cap', cur', rfl, _, h2', _⟩
    · simp [Value.ownBlock] at hb
    · have : g = g' := by simpa [Value.ownBlock] using hb
      subst this
      rw [h2] at h2'
      injection h2' with h2'
      injection h2' with _ ht
      exact hne ht
theorem tab_own {w : World} {base n m c : Nat} {e : TypeId} {A : Option Addr} {zs : List Int} (h : w.ownsRow base e m (.slice A n c) n (zs.map ival)) (hm : 0 < m) (hb : ∀ z ∈ zs, In64 z) : Tab w w.heap.size m A n (fun i j => zs.getD (i * m + j) 0) := fun i hi => by
  obtain ⟨g, cap, hv, _, hlt⟩ := h.form (by omega)
  have hA : A = some ⟨g, 0, none⟩ := by injection hv
  subst hA
  refine ⟨_, rfl, hlt, fun j hj => ?_⟩
  have hl : zs.length = n * m := by simpa using h.1
  have hx : i * m + j < zs.length := by
    rw [hl]
    have := Nat.mul_le_mul_right m (by omega : i + 1 ≤ n)
    rw [Nat.add_mul] at this
    omega
  rw [add_zero_block]
  have hc := (Reads.of_own h).2 (by omega)
  obtain ⟨ad, hA, _, hcell⟩ := hc
  cases hA
  have h1 := hcell (i * m + j) (ival zs[i * m + j]) (by rw [List.getElem?_map, List.getElem?_eq_getElem hx]; rfl)
  rw [add_zero_block] at h1
  simp only [List.getD_eq_getElem?_getD, List.getElem?_eq_getElem hx, Option.getD_some]
  exact ⟨h1, (hb _ (List.getElem_mem hx)).1, (hb _ (List.getElem_mem hx)).2⟩
theorem tab_cut {w : World} {B m n : Nat} {A : Option Addr} {Z : Nat → Nat → Int} (h : Tab w B m A n Z) {k : Nat} {A' : Option Addr} (hA : ∀ ad, A = some ad → A' = some (ad.add (k * m))) : Tab w B m A' (n - k) (fun i j => Z (i + k) j) := fun i hi => by
  obtain ⟨ad, hA0, hB, hc⟩ := h (i + k) (by omega)
  refine ⟨_, hA _ hA0, by rw [block_of_add]; exact hB, fun j hj => ?_⟩
  rw [add_of_add, show k * m + (i * m + j) = (i + k) * m + j by rw [Nat.add_mul]; omega]
  exact hc j hj
theorem elAct : ElemInfo Try.prog 22 33 5 40 := ElemInfo.mk' (z := .agg #[ival 0, ival 0, ival 0, ival 0, ival 0]) Try.underlying22 (by kernel_rfl) rfl (by decide) (by decide)
theorem elBool : ElemInfo Try.prog 39 4 1 1 := ElemInfo.mk' (z := .bool false) Try.underlying39 (by kernel_rfl) rfl (by decide) (by decide)
def NS : Array Value := #[ival (-9223372036854775808), ival (-1), ival 0, ival 1, ival 2, ival 3, ival 63, ival 64, ival 65, ival 9223372036854775807]
theorem wpList_push_at {P : Program} (w : World) {ops : Array Oper} {rest : List Oper} {o : Oper} {a : Act} {Q : Exit → Act → World → Prop} {W : World} {t e : TypeId} {size bytes : Nat} (he : ElemInfo P t e size bytes) (s x : Operand) (hgd : o.guard = none)
    (ho : o.op = .call { callee := .builtin .append, args := #[s, x], argTypes := #[t, t] })
    {base : Nat} {v : Value} {n : Nat} {xs : List Value} (hown : w.ownsRow base e size v n xs) (hs : a.eval s = v)
    (news : List Value) (hW : W = w.alloc (.cells news.toArray e)) {c g : Nat} (hgs : g = w.heap.size) (hx : a.eval x = .slice (some ⟨g, 0, none⟩) 1 c) (hl : news.length = size) (h1 : news.all Value.oneCell' = true)
    (hbytes : (n + 1) * bytes ≤ 140737488355328) (hbase : base ≤ w.heap.size)
    (h : ∀ v' w', w'.ownsRow base e size v' (n + 1) (xs ++ news) → w.grownBy w' v.ownBlock → (v'.ownBlock = v.ownBlock ∨ v'.ownBlock = some (w.heap.size + 1)) → Below base w w' → w.heap.size < w'.heap.size → wpList P ops Q rest (a.put o.dst v') w') :
    wpList P ops Q (o :: rest) a W := by
  subst hgs
  exact wpList_push w he s x hgd ho hown hs news hW hx hl h1 hbytes hbase h
/-- The two lists, kl and kp long, in a world where the numbers stand. -/
structure KN (w wr : World) (vl vp : Value) (kl kp : Nat) : Prop where
  l : ∃ zs : List Int, wr.ownsRow w.heap.size 33 5 vl kl (zs.map ival) ∧ ∀ z ∈ zs, In64 z
  p : ∃ bs : List Bool, wr.ownsRow w.heap.size 4 1 vp kp (bs.map fun b => Value.bool b)
  ns : Blk wr w.heap.size 3 NS
  bel : Below w.heap.size w wr
section
variable {w wr w' : World} {vl vp v' : Value} {kl kp : Nat}
theorem KN.below (h : KN w wr vl vp kl kp) (hb : Below wr.heap.size wr w') : KN w w' vl vp kl kp := by
  obtain ⟨⟨zs, h1, h2⟩, ⟨bs, h3⟩, h4, h5⟩ := h
  exact ⟨⟨zs, own_below h1 hb, h2⟩, ⟨bs, own_below h3 hb⟩, h4.below hb h4.lt, h5.trans (hb.mono h5.size)⟩
theorem KN.pushl {wx : World} (h : KN w wr vl vp kl kp) (hx : Below wr.heap.size wr wx) {zs0 : List Int} (h1 : wr.ownsRow w.heap.size 33 5 vl kl (zs0.map ival)) (h2 : ∀ z ∈ zs0, In64 z) {xs : List Value} (zs : List Int) (hxs : xs = zs.map ival) (hz : ∀ z ∈ zs, In64 z) (hown : w'.ownsRow w.heap.size 33 5 v' (kl + 1) (zs0.map ival ++ xs)) (hg : wx.grownBy w' vl.ownBlock) (hb : Below w.heap.size wx w') : KN w w' v' vp (kl + 1) kp := by
  subst hxs
  obtain ⟨_, ⟨bs, h3⟩, h4, h5⟩ := h.below hx
  have h1' := own_below h1 hx
  exact ⟨⟨zs0 ++ zs, by rw [List.map_append]; exact hown, fun z h => by rcases List.mem_append.1 h with h | h; exact h2 z h; exact hz z h⟩, ⟨bs, h3.kept hg (own_types_ne h3 h1' (by decide))⟩, h4.grown hg (fun e => own_blk_ne h1' h4 (by decide) e.symm), h5.trans hb⟩
theorem KN.pushp (h : KN w wr vl vp kl kp) {bs0 : List Bool} (h3 : wr.ownsRow w.heap.size 4 1 vp kp (bs0.map fun b => Value.bool b)) {b : Bool} (hown : w'.ownsRow w.heap.size 4 1 v' (kp + 1) ((bs0.map fun b => Value.bool b) ++ [.bool b])) (hg : wr.grownBy w' vp.ownBlock) (hb : Below w.heap.size wr w') : KN w w' vl v' kl (kp + 1) := by
  obtain ⟨⟨zs0, h1, h2⟩, _, h4, h5⟩ := h
  exact ⟨⟨zs0, h1.kept hg (own_types_ne h1 h3 (by decide)), h2⟩, ⟨bs0 ++ [b], by rw [List.map_append]; exact hown⟩, h4.grown hg (fun e => own_blk_ne h3 h4 (by decide) e.symm), h5.trans hb⟩
end
set_option maxRecDepth 100000 in
set_option maxHeartbeats 8000000 in
theorem linkKnown_any (w : World) :
    Calls Try.prog 7 #[] w fun e w' => e = .returned (.bool true) ∧ Below w.heap.size w w' := by
  have WK := Lib.hid (fun W : World => works_any W)
  have HM := Lib.hid (fun (a : Nat) (h1 : a ≤ 400) (w : World) => msg_any (a : Int) w (by omega) (by omega))
  go_enter Try.func7, Try.ntmps7
  go_wp2_with fail
  have HS : Hid (Blk (w.alloc (.cells NS 3)) w.heap.size 3 NS) := Blk.new _ _ _
  have HB : Hid (Below w.heap.size w (w.alloc (.cells NS 3))) := (Below.refl w.heap.size w).alloc (Nat.le_refl _) _
  have hns : #[ival (-9223372036854775808), ival (-1), ival 0, ival 1, ival 2, ival 3, ival 63, ival 64, ival 65, ival 9223372036854775807] = NS := rfl
  rw [hns]
  generalize w.alloc (.cells NS 3) = w0 at *
  go_loopw [2] (fun i wr => ∃ k : Nat, k ≤ 10 ∧ i = .int .i64 k ∧ Blk wr w.heap.size 3 NS ∧ Below w.heap.size w wr) (fun i _ => 10 - (intOf i).toNat)
  case atStart => exact ⟨0, by omega, rfl, HS.out, HB.out⟩
  case round =>
    obtain ⟨k, hk, rfl, hs, hbel⟩ := hrel
    by_cases hlt : k < 10
    · have K0 : Hid (KN w wr (.slice none 0 0) (.slice none 0 0) 0 0) := ⟨⟨[], World.ownsRow_nil _ _ _ _, by simp⟩, ⟨[], World.ownsRow_nil _ _ _ _⟩, hs, hbel⟩
      clear HS HB hs hbel
      have hkd : decide ((k : Int) < 10) = true := by simp; omega
      go_wp2_with fail
      go_loopw [3, 4, 5] (fun l p i wx => ∃ j : Nat, j ≤ 140 ∧ i = .int .i64 j ∧ KN w wx l p j j) (fun _ _ i _ => 140 - (intOf i).toNat)
      case atStart => exact ⟨0, by omega, rfl, K0.out⟩
      case round =>
        obtain ⟨j, hj, rfl, hkn⟩ := hrel
        have K1 := Lib.hid hkn
        clear K0 hkn
        by_cases hlj : j < 140
        · have M1 := Lib.hid (fun W => HM.out j (by omega) W)
          go_wp2_with fail
          go_must (refine (M1.out _).mono ?_)
          rintro e w4 ⟨rfl, hb4⟩
          have K2 := Lib.hid (K1.out.below hb4)
          clear hb4 K1 M1
          have hmb : In64 (msgOf (j : Int)).k ∧ In64 (msgOf (j : Int)).n ∧ In64 (msgOf (j : Int)).key ∧ In64 (msgOf (j : Int)).v := by
            simp only [msgOf, In64]; omega
          generalize msgOf (j : Int) = mj at *
          by_cases h70 : j < 70
          · have hq : In64 ((j : Int) % 7 / 4) := by simp only [In64]; omega
            have HX : Hid (Below w4.heap.size w4 (w4.alloc (.cells #[ival (↑j % 7 / 4), ival mj.k, ival mj.n, ival mj.key, ival mj.v] 33))) := (Below.refl _ _).alloc (Nat.le_refl _) _
            obtain ⟨zs0, hl0, hz0⟩ := K2.out.l
            have hsz : Hid (w.heap.size ≤ (w4.alloc (.cells #[ival (↑j % 7 / 4), ival mj.k, ival mj.n, ival mj.key, ival mj.v] 33)).heap.size) := Nat.le_trans K2.out.bel.size HX.out.size
            go_wp2_with (at_builtin; go_must (refine wpList_push_at (w4.alloc (.cells #[ival (↑j % 7 / 4), ival mj.k, ival mj.n, ival mj.key, ival mj.v] 33)) elAct (.tmp 30) (.tmp 32) rfl rfl (own_below hl0 HX.out) rfl [ival ((j : Int) % 7 / 4), ival mj.k, ival mj.n, ival mj.key, ival mj.v] rfl (by simp [World.setCell]) rfl rfl rfl (by omega) hsz.out ?_))
            intro v1 w6 hown1 hg1 hv1 hb1 hs1
            have K4 : Hid (KN w w6 v1 u4 (j + 1) j) := K2.out.pushl HX.out hl0 hz0 [((j : Int) % 7 / 4), mj.k, mj.n, mj.key, mj.v] rfl (by intro z hz; simp only [List.mem_cons, List.mem_nil_iff, or_false] at hz; rcases hz with rfl | rfl | rfl | rfl | rfl <;> first | exact hq | exact hmb.1 | exact hmb.2.1 | exact hmb.2.2.1 | exact hmb.2.2.2) hown1 hg1 hb1
            clear hown1 hg1 hv1 hb1 hs1 hl0 hz0 HX hsz K2
            obtain ⟨bs0, hp0⟩ := K4.out.p
            have hsz : Hid (w.heap.size ≤ w6.heap.size) := K4.out.bel.size
            go_wp2_with (at_builtin; go_must (refine wpList_push w6 elBool (.tmp 34) (.tmp 42) rfl rfl hp0 rfl [.bool _] rfl rfl rfl rfl (by omega) hsz.out ?_))
            intro v2 w7 hown2 hg2 hv2 hb2 hs2
            have K5 : Hid (KN w w7 v1 v2 (j + 1) (j + 1)) := K4.out.pushp hp0 hown2 hg2 hb2
            clear hown2 hg2 hv2 hb2 hs2 hp0 hsz K4
            go_wp2_with fail
            go_roundw
            case rel => exact ⟨j + 1, by omega, by go_num, K5.out⟩
            case measure => simp [intOf]; omega
          · have hq : In64 (1 - (j : Int) % 7 / 4) := by simp only [In64]; omega
            have h70b : decide ((j : Int) < 70) = false := by simp; omega
            have hwr : IntKind.i64.wrap (1 - (j : Int) % 7 / 4) = 1 - (j : Int) % 7 / 4 := IntWalk.i64_in _ (by omega)
            have HX : Hid (Below w4.heap.size w4 (w4.alloc (.cells #[ival (1 - ↑j % 7 / 4), ival mj.k, ival mj.n, ival mj.key, ival mj.v] 33))) := (Below.refl _ _).alloc (Nat.le_refl _) _
            obtain ⟨zs0, hl0, hz0⟩ := K2.out.l
            have hsz : Hid (w.heap.size ≤ (w4.alloc (.cells #[ival (1 - ↑j % 7 / 4), ival mj.k, ival mj.n, ival mj.key, ival mj.v] 33)).heap.size) := Nat.le_trans K2.out.bel.size HX.out.size
            go_wp2_with (at_builtin; go_must (refine wpList_push_at (w4.alloc (.cells #[ival (1 - ↑j % 7 / 4), ival mj.k, ival mj.n, ival mj.key, ival mj.v] 33)) elAct (.tmp 30) (.tmp 32) rfl rfl (own_below hl0 HX.out) rfl [ival (1 - (j : Int) % 7 / 4), ival mj.k, ival mj.n, ival mj.key, ival mj.v] rfl (by simp [World.setCell]) rfl rfl rfl (by omega) hsz.out ?_))
            intro v1 w6 hown1 hg1 hv1 hb1 hs1
            have K4 : Hid (KN w w6 v1 u4 (j + 1) j) := K2.out.pushl HX.out hl0 hz0 [(1 - (j : Int) % 7 / 4), mj.k, mj.n, mj.key, mj.v] rfl (by intro z hz; simp only [List.mem_cons, List.mem_nil_iff, or_false] at hz; rcases hz with rfl | rfl | rfl | rfl | rfl <;> first | exact hq | exact hmb.1 | exact hmb.2.1 | exact hmb.2.2.1 | exact hmb.2.2.2) hown1 hg1 hb1
            clear hown1 hg1 hv1 hb1 hs1 hl0 hz0 HX hsz K2
            obtain ⟨bs0, hp0⟩ := K4.out.p
            have hsz : Hid (w.heap.size ≤ w6.heap.size) := K4.out.bel.size
            go_wp2_with (at_builtin; go_must (refine wpList_push w6 elBool (.tmp 34) (.tmp 42) rfl rfl hp0 rfl [.bool _] rfl rfl rfl rfl (by omega) hsz.out ?_))
            intro v2 w7 hown2 hg2 hv2 hb2 hs2
            have K5 : Hid (KN w w7 v1 v2 (j + 1) (j + 1)) := K4.out.pushp hp0 hown2 hg2 hb2
            clear hown2 hg2 hv2 hb2 hs2 hp0 hsz K4
            go_wp2_with fail
            go_roundw
            case rel => exact ⟨j + 1, by omega, by go_num, K5.out⟩
            case measure => simp [intOf]; omega
        · obtain rfl : j = 140 := by omega
          obtain ⟨⟨zs, hl, hz⟩, ⟨bs, hp⟩, hns2, hbel⟩ := K1.out
          have hln : zs.length = 140 * 5 := by simpa using hl.1
          obtain ⟨gl, cl, rfl, _, hltl⟩ := hl.form (by omega)
          obtain ⟨gp, cp, rfl, _, hltp⟩ := hp.form (by omega)
          obtain ⟨hcl, hclm⟩ : 140 ≤ cl ∧ cl ≤ maxLen := by
            obtain ⟨_, _, e, h1, h2, _⟩ := own_slice hl
            injection e with _ _ e
            exact ⟨by omega, by omega⟩
          obtain ⟨hcp, hcpm⟩ : 140 ≤ cp ∧ cp ≤ maxLen := by
            obtain ⟨_, _, e, h1, h2, _⟩ := own_slice hp
            injection e with _ _ e
            exact ⟨by omega, by omega⟩
          have hkI : (k : Int) < 10 := by omega
          have hks : k < NS.size := hlt
          obtain ⟨z, hNz⟩ : ∃ z : Int, NS[k]? = some (ival z) := by
            rcases (by omega : k = 0 ∨ k = 1 ∨ k = 2 ∨ k = 3 ∨ k = 4 ∨ k = 5 ∨ k = 6 ∨ k = 7 ∨ k = 8 ∨ k = 9) with h | h | h | h | h | h | h | h | h | h <;> subst h <;> exact ⟨_, rfl⟩
          have HC : Hid (∀ w', Below wr.heap.size wr w' → w'.cell? ⟨w.heap.size, k, none⟩ = some (ival z)) := fun w' hb => ((hns2.below hb hns2.lt).cell k).trans hNz
          have C1 : Hid (∀ W, Below wr.heap.size wr W → Calls Try.prog 3 #[ival z, .slice (some ⟨gl, 0, none⟩) 140 cl] W fun e w' => e = .returned (.bool true) ∧ Below W.heap.size W w') := fun W hb => linkRuns_any z _ 140 cl _ W (tab_own (own_below hl hb) (by omega) hz) hcl hclm
          have C2 : Hid (∀ W, Below wr.heap.size wr W → Calls Try.prog 4 #[ival z, .slice (some ⟨gp, 0, none⟩) 140 cp] W fun e w' => e = .returned (.bool true) ∧ Below W.heap.size W w') := fun W hb => linkOrder_any z _ 140 cp bs W (Reads.of_own (own_below hp hb)) hcp hcpm
          have C3 : Hid (∀ W A', Below wr.heap.size wr W → A' = some ((⟨gl, 0, none⟩ : Addr).add (70 * 5)) → Calls Try.prog 3 #[ival z, .slice A' 70 (cl - 70)] W fun e w' => e = .returned (.bool true) ∧ Below W.heap.size W w') := fun W A' hb hA => linkRuns_any z _ 70 (cl - 70) _ W (tab_cut (k := 70) (n := 140) (tab_own (own_below hl hb) (by omega) hz) (fun ad h => by cases h; exact hA)) (by omega) (by omega)
          have C4 : Hid (∀ W, Below wr.heap.size wr W → Calls Try.prog 3 #[ival z, .slice (if cl = 70 then some ⟨gl, 0, none⟩ else some ⟨gl, 350, none⟩) 70 (cl - 70)] W fun e w' => e = .returned (.bool true) ∧ Below W.heap.size W w') := fun W hb => C3.out W _ hb (by rw [if_neg (by omega)]; rfl)
          have HW : Hid (Below w.heap.size w wr) := hbel
          have HNS : Hid (Blk wr w.heap.size 3 NS) := hns2
          have hcz := HC.out wr (Below.refl _ _)
          have h140 : (70 : Nat) ≤ 140 := by omega
          have hc70 : 140 ≤ cl := hcl
          clear C3 hl hp hz hln hltl hltp hns2 hbel hNz hks K1 hcp hcpm
          go_wp2_with fail
          have q4 : Below wr.heap.size wr wr.drew := (Below.refl _ _).drew
          go_region_held3 (fun w' => w'.cell? ⟨w.heap.size, k, none⟩ = some (ival z)) (first | exact HC.out _ q4 | exact HC.out _ q5 | exact HC.out _ q6 | exact HC.out _ q7) ((first | (go_at_call 3; (with_reducible refine (C1.out _ q4).mono ?_); rintro e w5 ⟨rfl, hb5⟩; have q5 : Below wr.heap.size wr w5 := q4.trans hb5) | (go_at_call 4; (with_reducible refine (C2.out _ q5).mono ?_); rintro e w6 ⟨rfl, hb6⟩; have q6 : Below wr.heap.size wr w6 := q5.trans (hb6.mono q5.size)) | (go_at_call 3; (with_reducible refine (C4.out _ q6).mono ?_); rintro e w7 ⟨rfl, hb7⟩; have q7 : Below wr.heap.size wr w7 := q6.trans (hb7.mono q6.size)) | fail))
          have K7 : Hid (Blk w7 w.heap.size 3 NS ∧ Below w.heap.size w w7) := ⟨HNS.out.below q7 HNS.out.lt, HW.out.trans (q7.mono HW.out.size)⟩
          clear q4 q5 q6 q7 hb5 hb6 hb7 HC C1 C2 C4 HW HNS hcz
          go_wp2_with fail
          go_roundw
          case rel => exact ⟨k + 1, by omega, by go_num, K7.out.1, K7.out.2⟩
          case measure => simp [intOf]; omega
    · go_wp2_with fail
      go_must (refine (WK.out _).mono ?_)
      rintro e w3 ⟨rfl, hb3⟩
      go_wp2_with fail
      go_ret
      exact ⟨rfl, hbel.trans (hb3.mono hbel.size)⟩
end Go.Proofs.Ytpnkobdnifopiaa
