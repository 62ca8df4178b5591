/-
  PackAgain: no number has two forms. The walk.
-/
import Derived.Test.YtnknefchpepegaaPackWorks
namespace Go.Proofs.Ytnknefchpepegaa
set_option linter.unusedVariables false
set_option linter.unusedSimpArgs false
open Go.RowKit
def slen : Value → Nat
  | .slice _ n _ => n
  | _ => 0
theorem rd_err : ∀ (l : List UInt8) (i u k : Nat), rd l i u = .inl k → k = 4 ∨ k = 5 := by
  intro l
  induction l with
  | nil => intro i u k h; rw [rd] at h; cases h; exact .inl rfl
  | cons c l ih =>
    intro i u k h
    rw [rd] at h
    split at h
    · cases h; exact .inr rfl
    · split at h
      · cases h
      · exact ih _ _ _ h
theorem rd_long {rest : List UInt8} (h : rd rest 0 0 = .inl 5) : ∃ c l, rest = c :: l ∧ c.toNat ≠ 0 := by
  rcases rest with _ | ⟨c, l⟩
  · rw [rd] at h; cases h
  · refine ⟨c, l, rfl, fun h0 => ?_⟩
    rw [rd, if_neg (by omega), if_pos (by omega)] at h
    cases h
theorem rd_form {rest l : List UInt8} {u : Nat} (h : rd rest 0 0 = .inr (u, l)) : rest = vint u ++ l ∧ u < 18446744073709551616 := by
  obtain ⟨v, h1, h2, h3, _⟩ := vint_rd l rest 0 0 u (by omega) h
  have : top 0 = 18446744073709551615 := by decide
  have : u = v := by omega
  subst this
  exact ⟨h2, by omega⟩
theorem vint_0 : vint (zig 0) = [0] := by
  show vint 0 = _
  rw [vint_small (by omega)]; rfl
theorem doneE_ne' {er : Int} {n : Nat} (h : er ≠ 0) : doneE er n = er := by unfold doneE; rw [if_neg h]
theorem int_failed' (g B : Nat) (bs : List UInt8) (er : Int) (he : er ≠ 0) (C : Nat) (w : World) (h : RdOf w g B bs er) (hC : C ≤ g) :
    Calls Try.prog 10 #[.pointer (some ⟨g, 0, none⟩)] w fun e w' => e = .returned (.int .i64 0) ∧ RdOf w' g B bs er ∧ Below C w w' :=
  (readInt_any g B bs er w h).mono fun e w' ⟨h1, h2, h3⟩ => by
    rw [rdNum_failed he] at h1 h2
    exact ⟨h1, h2, h3.at_ hC h.lt⟩
theorem RdOf.own_ne {W : World} {g B : Nat} {bs : List UInt8} {er : Int} (h : RdOf W g B bs er) {base size n : Nat} {v : Value} {xs : List Value} (ho : W.ownsRow base 5 size v n xs) : ∀ i, v.ownBlock = some i → ¬ (i = g) := by
  obtain ⟨A, m, c, h⟩ := h
  rintro i hi rfl
  exact own_blk_ne ho h.blk (by decide) hi
set_option maxRecDepth 100000 in
set_option maxHeartbeats 4000000 in
theorem packAgain_any (A0 : Option Addr) (n0 c0 : Nat) (bs : List UInt8) (w : World) (hr0 : Reads w w.heap.size 1 A0 n0 (bs.map bval)) (hm : n0 ≤ c0) (hc : c0 ≤ maxLen) :
    Calls Try.prog 4 #[.slice A0 n0 c0] w fun e w' => e = .returned (.bool true) ∧ Below w.heap.size w w' := by
  by_cases hbig : 4096 < n0
  · have hbI : (4096 : Int) < (n0 : Int) := by omega
    have KN := Lib.hid (known_any w)
    clear hr0
    go_enter Try.func4, Try.ntmps4
    go_wp2_with fail
    go_must (refine KN.out.mono ?_)
    rintro e w1 ⟨rfl, hb⟩
    have HB := Lib.hid hb
    clear hb KN
    go_wp2_with fail
    go_ret
    exact ⟨rfl, HB.out⟩
  · have hbI : ¬ (4096 : Int) < (n0 : Int) := by omega
    unfold maxLen at hc
    have HN := Lib.hid hr0.bytes_len
    have HR := Lib.hid hr0
    have C3 := Lib.hid (from_any A0 n0 c0 w.heap.size bs w hr0 (Nat.le_refl _) (by omega))
    clear hr0
    go_enter Try.func4, Try.ntmps4
    go_wp2_with fail
    go_must (refine C3.out.mono ?_)
    rintro e w3 ⟨g, rfl, hrd3, hg3, hb3⟩
    have HR3 := Lib.hid hrd3
    have HB3 := Lib.hid hb3
    clear C3 hrd3 hb3
    go_wp2_with fail
    go_loopw [4] (fun V wr => ∃ (n c : Nat) (A : Option Addr) (dn rest : List UInt8), V = .slice A n c ∧ n ≤ n0 ∧ wr.ownsRow w.heap.size 5 1 (.slice A n c) n (dn.map bval) ∧ bs = dn ++ rest ∧ RdOf wr g g rest 0 ∧ Below w.heap.size w wr) (fun V _ => n0 - slen V)
    case atStart => exact ⟨0, 0, none, [], bs, rfl, by omega, World.ownsRow_nil _ _ _ _, rfl, HR3.out, HB3.out⟩
    case round =>
      obtain ⟨n, c, A, dn, rest, rfl, hn, hown, hbs, hrk, hbk⟩ := hrel
      have hdn : dn.length = n := by have := hown.1; simpa using this
      have HBS := Lib.hid hbs
      have HO := Lib.hid hown
      have HRK := Lib.hid hrk
      have HBK := Lib.hid hbk
      clear hbs hown hrk hbk HR3 HB3
      by_cases hlt : n < n0
      · have hltI : (n : Int) < (n0 : Int) := by omega
        have D1 := readInt_any g g rest 0 wr HRK.out
        have hgs := HRK.out.lt
        rcases hrd : rd rest 0 0 with k | ⟨u, l⟩
        · rw [hrd, rdNum_inl] at D1
          have D1 := Lib.hid D1
          have HRD := Lib.hid hrd
          have hk := rd_err _ _ _ _ hrd
          clear hrd
          go_wp2_with fail
          go_must (refine D1.out.mono ?_)
          rintro e w6 ⟨rfl, hr6, ho6⟩
          have HR6 : Hid (RdOf w6 g g rest (k : Int)) := hr6
          have HB6 : Hid (Below w.heap.size w w6) := HBK.out.trans (ho6.at_ (by omega) hgs)
          have HO6 := Lib.hid (own_only HO.out ho6 (HRK.out.own_ne HO.out))
          clear hr6 ho6 D1 HRK HBK HO
          rcases hk with rfl | rfl
          · have D2 := done_any g g rest 4 w6 HR6.out
            rw [doneE_ne' (by decide)] at D2
            have D2 := Lib.hid D2
            have KN := Lib.hid (known_any w6)
            go_wp2_with fail
            go_must (refine D2.out.mono ?_)
            rintro e w7 ⟨rfl, rfl⟩
            clear D2
            go_wp2_with fail
            go_must (refine KN.out.mono ?_)
            rintro e w8 ⟨rfl, hb8⟩
            have HB8 : Hid (Below w.heap.size w w8) := HB6.out.trans (hb8.mono HB6.out.size)
            clear hb8 KN
            go_wp2_with fail
            go_ret
            exact ⟨rfl, HB8.out⟩
          · obtain ⟨cc, ll, rfl, hcc⟩ := rd_long HRD.out
            have D2 := done_any g g (cc :: ll) 5 w6 HR6.out
            rw [doneE_ne' (by decide)] at D2
            have D2 := Lib.hid D2
            have D3 := packInt_any A n c w6.heap.size dn 0 w6 (Reads.of_own HO6.out) (Nat.le_refl _) (by omega) (by omega) (by omega)
            rw [vint_0] at D3
            have D3 := Lib.hid D3
            go_wp2_with fail
            go_must (refine D2.out.mono ?_)
            rintro e w7 ⟨rfl, rfl⟩
            clear D2
            go_wp2_with fail
            go_must (refine D3.out.mono ?_)
            rintro e w8 ⟨v8, rfl, hown8, hb8⟩
            obtain ⟨A8, c8, rfl, hc8, _, _⟩ := own_slice hown8
            have hown8 : w8.ownsRow _ 5 1 (.slice A8 (n + 1) c8) (n + 1) ((dn ++ [0]).map bval) := hown8
            have hlt1 : n + 1 ≤ n0 := by omega
            have hnI : ¬ (n0 : Int) < (n : Int) + 1 := by omega
            have HB8 : Hid (Below w.heap.size w w8) := HB6.out.trans (hb8.mono HB6.out.size)
            have HR8 : Hid (RdOf w8 g g (cc :: ll) 5) := HR6.out.keep hb8 HR6.out.lt
            have hcut : ∀ W, (Instr.slice 24 (.slice A0 n0 c0) none (some (.int .i64 ((n : Int) + 1))) none).run Try.prog W = .ok (.slice A0 (n + 1) c0) W := fun W => run_cut_h Try.el24 A0 n0 c0 (h := n + 1) (by omega) W
            have R8 := (HR.out.below HB8.out).take hlt1
            rw [Nat.mul_one, ← List.map_take] at R8
            have D4 := sameBytes_any A8 A0 (n + 1) c8 (n + 1) c0 _ _ _ _ w8 (Reads.of_own hown8) R8 (by unfold maxLen; omega) (by unfold maxLen; omega)
            have hne : decide (dn ++ [0] = bs.take (n + 1)) = false := by
              rw [HBS.out, List.take_append, List.take_of_length_le (by omega), hdn, show n + 1 - n = 1 by omega]
              simp
              rintro rfl
              exact hcc rfl
            rw [hne] at D4
            have D4 := Lib.hid D4
            clear hown8 hb8 D3 HR6 HB6 HO6 R8 hne
            go_wp2_with fail
            go_must (refine D4.out.mono ?_)
            rintro e w9 ⟨rfl, q9, rfl⟩
            have HB9 : Hid (Below w.heap.size w (w8.drewN q9)) := below_drewN HB8.out q9
            have HR9 : Hid (RdOf (w8.drewN q9) g g (cc :: ll) 5) := HR8.out.drewN q9
            clear D4 HB8 HR8
            generalize w8.drewN q9 = w9 at *
            have D5 := done_any g g (cc :: ll) 5 w9 HR9.out
            rw [doneE_ne' (by decide)] at D5
            have D5 := Lib.hid D5
            have D6 := Lib.hid (int_failed' g g (cc :: ll) 5 (by decide) w.heap.size w9 HR9.out (by omega))
            go_wp2_with fail
            go_must (refine D5.out.mono ?_)
            rintro e w10 ⟨rfl, rfl⟩
            clear D5
            go_wp2_with fail
            go_must (refine D6.out.mono ?_)
            rintro e w11 ⟨rfl, _, hb11⟩
            have HB11 := Lib.hid (HB9.out.trans hb11)
            have KN := Lib.hid (known_any w11)
            clear hb11 D6
            go_wp2_with fail
            go_must (refine KN.out.mono ?_)
            rintro e w12 ⟨rfl, hb12⟩
            have HB12 : Hid (Below w.heap.size w w12) := HB11.out.trans (hb12.mono HB11.out.size)
            clear hb12 KN
            go_wp2_with fail
            go_ret
            exact ⟨rfl, HB12.out⟩
        · obtain ⟨hform, hu⟩ := rd_form hrd
          rw [hrd, rdNum_inr] at D1
          have D1 := Lib.hid D1
          have HF := Lib.hid hform
          have hz := zag_in u hu
          clear hrd hform
          have hlr : n + (vint u).length ≤ n0 := by
            have h1 := congrArg List.length HBS.out
            have h2 := congrArg List.length HF.out
            have h3 := HN.out
            simp at h1 h2
            omega
          go_wp2_with fail
          go_must (refine D1.out.mono ?_)
          rintro e w6 ⟨rfl, hr6, ho6⟩
          have HR6 : Hid (RdOf w6 g g l 0) := hr6
          have HB6 : Hid (Below w.heap.size w w6) := HBK.out.trans (ho6.at_ (by omega) hgs)
          have HO6 := Lib.hid (own_only HO.out ho6 (HRK.out.own_ne HO.out))
          clear hr6 ho6 D1 HRK HBK HO
          have D2 := Lib.hid (done_any g g l 0 w6 HR6.out)
          have D3 := packInt_any A n c w6.heap.size dn (zag u) w6 (Reads.of_own HO6.out) (Nat.le_refl _) (by omega) hz.1 hz.2
          rw [zig_zag] at D3
          have D3 := Lib.hid D3
          have hde : doneE 0 l.length = 0 ∨ doneE 0 l.length = 5 := by unfold doneE; rw [if_pos rfl]; split <;> simp
          generalize zag u = z at *
          have hvp := vint_length_pos u
          generalize hvl : (vint u).length = q at *
          have HVL := Lib.hid hvl
          clear hvl
          generalize doneE 0 l.length = de at *
          have hnI : ¬ (n0 : Int) < (n : Int) + (q : Int) := by omega
          have hcut : ∀ W, (Instr.slice 24 (.slice A0 n0 c0) none (some (.int .i64 ((n : Int) + (q : Int)))) none).run Try.prog W = .ok (.slice A0 (n + q) c0) W := fun W => run_cut_h Try.el24 A0 n0 c0 (h := n + q) (by omega) W
          rcases hde with rfl | rfl
          all_goals
            go_wp2_with fail
            go_must (refine D2.out.mono ?_)
            rintro e w7 ⟨rfl, rfl⟩
            clear D2
            go_wp2_with fail
            go_must (refine D3.out.mono ?_)
            rintro e w8 ⟨v8, rfl, hown8, hb8⟩
            obtain ⟨A8, c8, rfl, hc8, _, _⟩ := own_slice hown8
            have HB8 : Hid (Below w.heap.size w w8) := HB6.out.trans (hb8.mono HB6.out.size)
            have HR8 : Hid (RdOf w8 g g l 0) := HR6.out.keep hb8 HR6.out.lt
            have R8 := (HR.out.below HB8.out).take hlr
            rw [Nat.mul_one, ← List.map_take] at R8
            have D4 := sameBytes_any A8 A0 (n + q) c8 (n + q) c0 _ _ _ _ w8 (Reads.of_own hown8) R8 (by unfold maxLen; omega) (by unfold maxLen; omega)
            have hsame : decide (dn ++ vint u = bs.take (n + q)) = true := by
              rw [HBS.out, HF.out, ← List.append_assoc, List.take_left' (by rw [List.length_append, HVL.out, hdn])]
              simp
            rw [hsame] at D4
            have D4 := Lib.hid D4
            have HO8 : Hid (w8.ownsRow w.heap.size 5 1 (.slice A8 (n + q) c8) (n + q) ((dn ++ vint u).map bval)) := own_base hown8 (fun i hi => Nat.le_trans HB6.out.size (hown8.lt i hi).1)
            clear hown8 hb8 D3 HR6 HB6 HO6 R8 hsame
            go_wp2_with fail
            go_must (refine D4.out.mono ?_)
            rintro e w9 ⟨rfl, q9, rfl⟩
            have HB9 : Hid (Below w.heap.size w (w8.drewN q9)) := below_drewN HB8.out q9
            have HR9 : Hid (RdOf (w8.drewN q9) g g l 0) := HR8.out.drewN q9
            have HO9 : Hid ((w8.drewN q9).ownsRow w.heap.size 5 1 (.slice A8 (n + q) c8) (n + q) ((dn ++ vint u).map bval)) := own_below HO8.out (below_drewN (Below.refl w8.heap.size w8) q9)
            clear D4 HB8 HR8 HO8
            generalize w8.drewN q9 = w9 at *
            go_wp2_with fail
            go_roundw
            case rel => exact ⟨n + q, c8, A8, dn ++ vint u, l, rfl, hlr, HO9.out, by rw [HBS.out, HF.out, List.append_assoc], HR9.out, HB9.out⟩
            case measure => simp [slen]; omega
      · obtain rfl : n = n0 := by omega
        have hrest : rest = [] := by
          have h1 := congrArg List.length HBS.out
          have h3 := HN.out
          simp at h1
          exact List.eq_nil_of_length_eq_zero (by omega)
        subst hrest
        have D2 := done_any g g [] 0 wr HRK.out
        rw [show doneE 0 ([] : List UInt8).length = 0 from rfl] at D2
        have D2 := Lib.hid D2
        have KN := Lib.hid (known_any wr)
        go_wp2_with fail
        go_must (refine D2.out.mono ?_)
        rintro e w7 ⟨rfl, rfl⟩
        clear D2
        go_wp2_with fail
        go_must (refine KN.out.mono ?_)
        rintro e w8 ⟨rfl, hb8⟩
        have HB8 : Hid (Below w.heap.size w w8) := HBK.out.trans (hb8.mono HBK.out.size)
        clear hb8 KN
        go_wp2_with fail
        go_ret
        exact ⟨rfl, HB8.out⟩
end Go.Proofs.Ytnknefchpepegaa
