/-
  Bytes written over; both areas alike; the chapter's example.
-/
import Derived.Test.YtaccefkjdggcaaaDiskKit
namespace Go.Proofs.Ytaccefkjdggcaaa
set_option linter.unusedVariables false
set_option linter.unusedSimpArgs false
open Go.RowKit
def mk8 (k : Nat) : Int := IntKind.u8.wrap (201 + 7 * (k : Int))
set_option maxRecDepth 100000 in
set_option maxHeartbeats 400000 in
theorem markBytes_all (k : Nat) (hk : k ≤ 400000) (w : World) :
    Calls Try.prog 31 #[.int .i64 k] w fun e w' => e = .returned (.int .u8 (mk8 k)) ∧ w = w' := by
  have HM : Hid (IntKind.u8.wrap (201 + 7 * (k : Int)) = mk8 k) := rfl
  go_enter Try.func31, Try.ntmps31
  go_wp2
  go_ret
  exact ⟨ret_int HM.out, rfl⟩
set_option maxRecDepth 100000 in
set_option maxHeartbeats 400000 in
theorem spoilBytes_any (A : Option Addr) (n c base : Nat) (xs : List Value) (w : World) (hown : w.ownsRow base 5 1 (.slice A n c) n xs) (hn : n ≤ 262144) :
    Calls Try.prog 21 #[.slice A n c] w fun e w' => e = .returned (.tuple #[]) ∧ Below base w w' ∧ w.grownBy w' (Value.slice A n c).ownBlock := by
  go_enter Try.func21, Try.ntmps21
  go_wp2
  go_loopw [2] (fun i wr => ∃ k : Nat, k ≤ n ∧ i = .int .i64 k ∧ (∃ ys : List Value, wr.ownsRow base 5 1 (.slice A n c) n ys) ∧ Below base w wr ∧ w.grownBy wr (Value.slice A n c).ownBlock) (fun i _ => n - (intOf i).toNat)
  case atStart => exact ⟨0, by omega, rfl, ⟨_, hown⟩, Below.refl _ _, World.grownBy.refl _ _⟩
  case round =>
    obtain ⟨k, hk, rfl, ⟨ys, ho⟩, hbel, hgr⟩ := hrel
    by_cases hlt : k < n
    · obtain ⟨g, cap, hv, hg1, hg2⟩ := ho.form (by omega)
      obtain ⟨rfl, rfl⟩ : A = some ⟨g, 0, none⟩ ∧ c = cap := by injection hv with h1 _ h2; exact ⟨h1, h2⟩
      clear hv
      have hly : ys.length = n := by have := ho.1; omega
      have hca : wr.cell? ⟨g, k, none⟩ = some ys[k] := by
        rw [ho.cellAt k (by omega)]; exact List.getElem?_eq_getElem (by omega)
      have hfa : wr.frozen? ⟨g, k, none⟩ = false := ho.frozenAt k
      have hM := markBytes_all (k + 7) (by omega) wr
      have HM := Lib.hid hM
      have HO := Lib.hid ho
      clear hM ho hown
      go_wp2_with fail
      go_must (refine HM.out.mono ?_)
      rintro e w2 ⟨rfl, rfl⟩
      go_wp2
      go_roundw
      case rel => exact ⟨k + 1, by omega, by go_num, ⟨_, (HO.out.stored k _).1⟩, hbel.setCell hg1 _, only_setCell (p := ⟨g, k, none⟩) hgr (.inl rfl) _⟩
      case measure => simp [intOf]; omega
    · go_wp2
      go_end0
      exact ⟨rfl, hbel, hgr⟩
theorem bytesI_le {N : Nat} {st : DSt} (h : st.Ok N) (n : Int) : (st.bytesI n).length ≤ 262144 := by
  unfold DSt.bytesI onArea
  split
  · exact Nat.le_trans (h.2 false).1 h.1
  · split
    · exact Nat.le_trans (h.2 true).1 h.1
    · simp
set_option maxRecDepth 100000 in
set_option maxHeartbeats 2000000 in
theorem same_any (base g base' g' N : Nat) (S S' : Nat → Prop) (st : DSt) (w : World) (h1 : DAt false w base g N S st) (h2 : DAt true w base' g' N S' st) :
    Calls Try.prog 22 #[.pointer (some ⟨g, 0, none⟩), .pointer (some ⟨g', 0, none⟩)] w fun e w' => e = .returned (.bool true) ∧ Below w.heap.size w w' := by
  have HD := Lib.hid h1
  have HM := Lib.hid h2
  have HLe := Lib.hid (bytesI_le h1.ok)
  clear h1 h2
  go_enter Try.func22, Try.ntmps22
  go_wp2_with fail
  go_loopw [5] (fun i wr => ∃ k : Nat, k ≤ 4 ∧ i = .int .i64 ((k : Int) - 1) ∧ Below w.heap.size w wr) (fun i _ => 5 - ((intOf i) + 1).toNat)
  case atStart => exact ⟨0, by omega, rfl, Below.refl _ _⟩
  case round =>
    obtain ⟨k, hk, rfl, hbel⟩ := hrel
    by_cases hlt : k < 4
    · have hd := HD.out.below hbel
      have hm := HM.out.below hbel
      have HB := Lib.hid hbel
      have hsz := hbel.size
      have C1 := Lib.hid (bytesI base g N S st ((k : Int) - 1) wr hd)
      have HD2 := Lib.hid hd
      have HM2 := Lib.hid hm
      clear hd hm hbel
      have hlt' : (k : Int) - 1 < 3 := by omega
      have hL := HLe.out ((k : Int) - 1)
      have hrr : (roomI N st ((k : Int) - 1) != roomI N st ((k : Int) - 1)) = false := by simp
      generalize hLL : st.bytesI ((k : Int) - 1) = L at *
      generalize hRR : roomI N st ((k : Int) - 1) = R at *
      have HLL := Lib.hid hLL
      have HRR := Lib.hid hRR
      clear hLL hRR
      go_wp2_with fail
      go_must (refine C1.out.mono ?_)
      rintro e w1 ⟨v1, rfl, hown1, hb1⟩
      obtain ⟨A1, c1, rfl, hc1, hc1', _⟩ := own_slice hown1
      have C2 := Lib.hid (rbytesI base' g' N S' st ((k : Int) - 1) w1 (HM2.out.below hb1))
      rw [HLL.out] at C2
      have H1 := Lib.hid hown1
      have HB1 := Lib.hid hb1
      clear hown1 hb1
      go_wp2_with fail
      go_must (refine C2.out.mono ?_)
      rintro e w2 ⟨v2, rfl, hown2, hb2⟩
      obtain ⟨A2, c2, rfl, hc2, hc2', _⟩ := own_slice hown2
      have C3 := sameBytes_any A1 A2 _ c1 _ c2 _ _ L L w2 ((Reads.of_own H1.out).below hb2) (Reads.of_own hown2) (by unfold maxLen; omega) (by unfold maxLen; omega)
      rw [show decide (L = L) = true by simp] at C3
      have HC3 := Lib.hid C3
      have HB2 := Lib.hid hb2
      have HO1 := Lib.hid (own_below H1.out hb2)
      clear hown2 hb2 C3
      go_wp2_with fail
      go_must (refine HC3.out.mono ?_)
      rintro e w3 ⟨rfl, q, rfl⟩
      have C4 := roomI_any base g N S st ((k : Int) - 1) (w2.drewN q) (((HD2.out.below HB1.out).below HB2.out).drewN q)
      rw [HRR.out] at C4
      have HC4 := Lib.hid C4
      clear C4
      go_wp2_with fail
      go_must (refine HC4.out.mono ?_)
      rintro e w3 ⟨rfl, q2, rfl⟩
      have C5 := rroomI_any base' g' N S' st ((k : Int) - 1) (w2.drewN (q + q2)) (((HM2.out.below HB1.out).below HB2.out).drewN (q + q2))
      rw [HRR.out] at C5
      have HC5 := Lib.hid C5
      clear C5
      go_wp2_with fail
      go_must (refine HC5.out.mono ?_)
      rintro e w3 ⟨rfl, q3, rfl⟩
      have HO2 : Hid ((w2.drewN (q + q2 + q3)).ownsRow wr.heap.size 5 1 (.slice A1 L.length c1) L.length (L.map bval)) := HO1.out
      have C6 := Lib.hid (spoilBytes_any A1 _ c1 wr.heap.size _ _ HO2.out hL)
      go_wp2_with fail
      go_must (refine C6.out.mono ?_)
      rintro e w4 ⟨rfl, hb4, _⟩
      have HB4 : Hid (Below w.heap.size w w4) := HB.out.trans ((HB1.out.mono hsz).trans ((HB2.out.mono (Nat.le_trans hsz HB1.out.size)).trans ((below_drewN (Below.refl w.heap.size w2) (q + q2 + q3)).trans (hb4.mono hsz))))
      clear hb4
      go_wp2_with fail
      go_roundw
      case rel => exact ⟨k + 1, by omega, by go_num, HB4.out⟩
      case measure => simp [intOf]; omega
    · obtain rfl : k = 4 := by omega
      have HB := Lib.hid hbel
      clear hbel
      go_wp2_with fail
      go_ret
      exact ⟨rfl, HB.out⟩
end Go.Proofs.Ytaccefkjdggcaaa
