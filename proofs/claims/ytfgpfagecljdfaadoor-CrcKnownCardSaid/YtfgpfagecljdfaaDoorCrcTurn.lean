/-
  Bytes turned by others, and a row of bytes: what the law text makes of them.
-/
import Derived.Test.YtfgpfagecljdfaaDoorCrcWalk
import Derived.Test.YtfgpfagecljdfaaDoorPick
namespace Go.Proofs.YtfgpfagecljdfaaDoor
set_option linter.unusedVariables false
set_option linter.unusedSimpArgs false
open Go.RowKit
/-- One cell of an owned row is written. -/
theorem own_set {w : World} {base : Nat} {e : TypeId} {g n c : Nat} {xs : List Value} (h : w.ownsRow base e 1 (.slice (some ⟨g, 0, none⟩) n c) n xs) {j : Nat} (u : Value) :
    (w.setCell ⟨g, j, none⟩ u).ownsRow base e 1 (.slice (some ⟨g, 0, none⟩) n c) n (xs.set j u) := (h.stored j u).1
set_option maxRecDepth 100000 in
set_option maxHeartbeats 1000000 in
theorem turned_any (A A' : Option Addr) (n c c' B : Nat) (a b : List UInt8) (w : World) (hx : Reads w B 1 A n (a.map bval)) (hy : Reads w B 1 A' n (b.map bval)) (hB : B ≤ w.heap.size) (hn : n ≤ 65536) :
    Calls Tryd.prog 16 #[.slice A n c, .slice A' n c'] w fun e w' => ∃ v, e = .returned v ∧ w'.ownsRow w.heap.size 5 1 v n ((xorB a b).map bval) ∧ Below w.heap.size w w' := by
  have HC := Lib.hid (copyBytes_any A n c B a w hx hB (by omega))
  have HLa := Lib.hid hx.bytes_len
  have HLb := Lib.hid hy.bytes_len
  clear hx
  go_enter Tryd.func16, Tryd.ntmps16
  go_wp2_with (go_at_call 18; refine HC.out.mono ?_; rintro e w1 ⟨v1, rfl, hown1, hbel1⟩)
  obtain ⟨A1, c1, rfl, hc1, hc2, hA1⟩ := own_slice hown1
  clear HC
  by_cases h0 : n = 0
  · subst h0
    have ha : a = [] := List.eq_nil_of_length_eq_zero HLa.out
    subst ha
    clear hy
    refine wp_loop_rounds 1 ?_
    rw [rounds_succ]
    go_wp2
    go_ret
    exact ⟨_, rfl, hown1, hbel1⟩
  · obtain ⟨g, cap, hv, hg1, hg2⟩ := hown1.form (by omega)
    obtain ⟨rfl, rfl⟩ : A1 = some ⟨g, 0, none⟩ ∧ c1 = cap := by injection hv with h1 _ h2; exact ⟨h1, h2⟩
    clear hv
    go_loopw [6] (fun i wr => ∃ k : Nat, k ≤ n ∧ i = .int .i64 k ∧ wr.ownsRow w.heap.size 5 1 (.slice (some ⟨g, 0, none⟩) n c1) n ((xorB (a.take k) (b.take k) ++ a.drop k).map bval) ∧ Below w.heap.size w wr) (fun i _ => n - (intOf i).toNat)
    case atStart => exact ⟨0, by omega, rfl, by simpa [xorB] using hown1, hbel1⟩
    case round =>
      obtain ⟨k, hk, rfl, hown, hbel⟩ := hrel
      clear hown1 hbel1
      by_cases hlt : k < n
      · have hka : k < a.length := by have := HLa.out; omega
        have hkb : k < b.length := by have := HLb.out; omega
        have hlx : (xorB (a.take k) (b.take k)).length = k := by simp [xorB]; omega
        obtain ⟨ad, rfl, hadB, hc0⟩ := hy.byte hkb
        have hc := (hbel.cell (p := ad.add k) (by rw [block_of_add]; omega)).trans hc0
        have hl : (xorB (a.take k) (b.take k) ++ a.drop k).length = n := by rw [List.length_append, hlx, List.length_drop]; have := HLa.out; omega
        have hca : wr.cell? ⟨g, k, none⟩ = some (.int .u8 ((a[k]).toNat : Int)) := by
          rw [hown.cellAt k (by omega), List.getElem?_map, List.getElem?_append_right (by omega), hlx]
          simp [hka]
        have hfa : wr.frozen? ⟨g, k, none⟩ = false := hown.frozenAt k
        have hx : bits .xor .u8 ((a[k]).toNat : Int) ((b[k]).toNat : Int) = ((a[k] ^^^ b[k]).toNat : Int) := by
          rw [u8_xor_nat _ _ (a[k]).toNat_lt (b[k]).toNat_lt, UInt8.toNat_xor]
        have HS : Hid (((xorB (a.take k) (b.take k) ++ a.drop k).map bval).set k (bval (a[k] ^^^ b[k])) = (xorB (a.take (k + 1)) (b.take (k + 1)) ++ a.drop (k + 1)).map bval) := by
          show _ = _
          have hsn : xorB (a.take (k + 1)) (b.take (k + 1)) = xorB (a.take k) (b.take k) ++ [a[k] ^^^ b[k]] := by
            unfold xorB
            rw [List.take_succ_eq_append_getElem hka, List.take_succ_eq_append_getElem hkb, List.zipWith_append (by simp; omega)]
            rfl
          rw [hsn, List.drop_eq_getElem_cons hka, List.map_append, List.set_append_right _ _ (by rw [List.length_map, hlx]; omega), List.length_map, hlx, Nat.sub_self]
          simp only [List.map_cons, List.set_cons_zero, List.map_append, List.map_nil, List.append_assoc, List.cons_append, List.nil_append]
        clear hy hl hc0
        go_wp2
        go_region
        have hbel1 := (hbel.setCell (p := ⟨g, k, none⟩) hg1 (.int .u8 (((a[k]).toNat ^^^ (b[k]).toNat : Nat) : Int))).drew
        have hown1 := (own_set hown (j := k) (.int .u8 (((a[k]).toNat ^^^ (b[k]).toNat : Nat) : Int))).drew
        have HS2 : Hid (((xorB (a.take k) (b.take k) ++ a.drop k).map bval).set k (.int .u8 (((a[k]).toNat ^^^ (b[k]).toNat : Nat) : Int)) = (xorB (a.take (k + 1)) (b.take (k + 1)) ++ a.drop (k + 1)).map bval) := by
          show _ = _; rw [← HS.out]; rfl
        rw [HS2.out] at hown1
        clear hx hc hca hfa hown hbel HS HS2
        generalize (wr.setCell ⟨g, k, none⟩ (.int .u8 (((a[k]).toNat ^^^ (b[k]).toNat : Nat) : Int))).drew = w2 at *
        go_wp2
        go_roundw
        case rel => exact ⟨k + 1, by omega, by go_num, hown1, hbel1⟩
        case measure => simp [intOf]; omega
      · obtain rfl : k = n := by omega
        have HT : Hid (xorB (a.take k) (b.take k) ++ a.drop k = xorB a b) := by
          show _ = _
          rw [List.take_of_length_le (by have := HLa.out; omega), List.take_of_length_le (by have := HLb.out; omega), List.drop_eq_nil_of_le (by have := HLa.out; omega), List.append_nil]
        rw [HT.out] at hown
        clear hy
        go_wp2
        go_ret
        exact ⟨_, rfl, hown, hbel⟩
end Go.Proofs.YtfgpfagecljdfaaDoor
