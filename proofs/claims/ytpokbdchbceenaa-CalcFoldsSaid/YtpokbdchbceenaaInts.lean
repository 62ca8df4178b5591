/-
  The kit of ints: SameInts, SpoilInts; a slice of ints that came in.
-/
import Derived.Test.YtpokbdchbceenaaMem
import Derived.Test.YtpokbdchbceenaaFrame
import Derived.Deep.QuietTactic
import Derived.BigQuiet
namespace Go.Proofs.Ytpokbdchbceenaa
set_option linter.unusedVariables false
set_option linter.unusedSimpArgs false
open Go.RowKit
theorem Try.elInts : ElemInfo Try.prog 28 3 1 8 := .mk' Try.underlying28 (z := .int .i64 0) (by kernel_rfl) rfl (by decide) (by decide)
theorem Try.mkInts : MakeInfo Try.prog 28 3 (.int .i64 0) 1 8 := .mk' Try.underlying28 (by kernel_rfl)

set_option maxRecDepth 100000 in
set_option maxHeartbeats 400000 in
theorem sameInts_any (A A' : Option Addr) (n c n' c' B B' : Nat) (xs ys : List Int) (w : World) (hx : Reads w B 1 A n (xs.map ival)) (hy : Reads w B' 1 A' n' (ys.map ival)) (hm : n ≤ maxLen) (hm' : n' ≤ maxLen) :
    Calls Try.prog 18 #[.slice A n c, .slice A' n' c'] w fun e w' => e = .returned (.bool (decide (xs = ys))) ∧ ∃ m, w' = w.drewN m := by
  have hl := hx.ints_len
  have hl' := hy.ints_len
  unfold maxLen at hm hm'
  by_cases hne : n = n'
  · subst hne
    have HL := Lib.hid hl
    have HL' := Lib.hid hl'
    clear hl hl'
    go_enter Try.func18, Try.ntmps18
    go_wp2
    go_loopw [5] (fun i wr => ∃ k m : Nat, k ≤ n ∧ i = .int .i64 k ∧ xs.take k = ys.take k ∧ wr = w.drewN m) (fun i _ => n - (intOf i).toNat)
    case atStart => exact ⟨0, 0, by omega, rfl, rfl, rfl⟩
    case round =>
      obtain ⟨k, m, hk, rfl, hkk, rfl⟩ := hrel
      have HK := Lib.hid hkk
      clear hkk
      by_cases hlt : k < n
      · have hk1 : k < xs.length := by have := HL.out; omega
        have hk2 : k < ys.length := by have := HL'.out; omega
        obtain ⟨ad, rfl, _, hc⟩ := hx.int hk1
        obtain ⟨ad', rfl, _, hc'⟩ := hy.int hk2
        clear hx hy
        have hlt' : ((k : Int) < (n : Int)) := by omega
        by_cases he : xs[k] = ys[k]
        · have hb : (xs[k] != ys[k]) = false := by rw [he]; simp
          have HE : Hid (xs.take (k + 1) = ys.take (k + 1)) := by
            show _ = _
            rw [List.take_succ_eq_append_getElem hk1, List.take_succ_eq_append_getElem hk2, HK.out, he]
          clear HK he
          go_wp2
          go_quiet (fail)
          go_wp2
          go_roundw
          case rel => exact ⟨k + 1, _, by omega, by go_num, HE.out, rfl⟩
          case measure => simp [intOf]; omega
        · have hb : (xs[k] != ys[k]) = true := by
            rw [bne_iff_ne]; exact he
          have hq : decide (xs = ys) = false := by simp; rintro rfl; exact he rfl
          have HQ := Lib.hid hq
          clear HK he hq
          go_wp2
          go_quiet (fail)
          go_wp2
          go_ret
          exact ⟨ret_bool HQ.out.symm, _, World.drewN_drewN _ _ _⟩
      · have hq : decide (xs = ys) = true := by
          have := HL.out; have := HL'.out; have h3 := HK.out
          rw [List.take_of_length_le (by omega), List.take_of_length_le (by omega)] at h3
          simp [h3]
        have HQ := Lib.hid hq
        clear hx hy hq
        go_wp2
        go_ret
        exact ⟨ret_bool HQ.out.symm, _, rfl⟩
  · have he : ((n : Int) != (n' : Int)) = true := by simp; omega
    have hq : decide (xs = ys) = false := by simp; rintro rfl; omega
    rw [hq]
    clear hl hl' hq
    go_enter Try.func18, Try.ntmps18
    go_wp2
    go_ret
    exact ⟨rfl, 0, rfl⟩


section
variable {H : Type} {enc : TypeId × Value → H} {P : Program} {W : World}
open Go.ChangeShapes Go.WideShapes Go.ChangeAt
/-- A slice of ints that came in: its elements, each within its kind. -/
theorem open_ints64 {t e : TypeId} {v : Value} {d : DataW H} {p : List MemPlace} {b0 : Nat} (ht : P.underlying t = some (.slice e)) (he : P.underlying e = some (.int .i64)) (hc : P.cellsOf e = 1)
    (hok : Value.okWide P W .any b0 t v) (h : DataW.Trod enc P W 0 (fun _ => true) true t v d p) :
    ∃ (A : Option Addr) (n c : Nat) (zs : List Int), v = .slice A n c ∧ n ≤ c ∧ c ≤ maxLen ∧ Reads W W.heap.size 1 A n (zs.map ival) ∧ ∀ z ∈ zs, -9223372036854775808 ≤ z ∧ z ≤ 9223372036854775807 := by
  obtain ⟨a, n, c, rfl⟩ := okWide_slice ht hok
  obtain ⟨fuel, hf⟩ := h
  rcases open_ints ht he hc hf with ⟨hcs, _⟩ | ⟨x, l, c', zs, hcs, _, hl, hm, hz, _, hcell, hwz⟩
  · simp [Value.cells] at hcs
    obtain ⟨rfl, rfl, rfl⟩ := hcs
    exact ⟨none, 0, 0, [], rfl, Nat.le_refl _, by simp [maxLen], Reads.none_, by simp⟩
  · simp [Value.cells] at hcs
    obtain ⟨rfl, rfl, rfl⟩ := hcs
    have hz' : zs.length = c := by simpa using hz
    refine ⟨some x, n, c, zs.take n, rfl, hl, hm, ⟨by simp; omega, fun hn => ?_⟩, fun z hz => bounds_i64 (hwz z (List.mem_of_mem_take hz))⟩
    refine ⟨x, rfl, ?_, fun j u hu => ?_⟩
    · have h0 := hcell 0 (by omega)
      have := World.block_lt_of_cell? W _ h0
      rw [block_of_add] at this
      exact this
    · have hj : j < n := by
        rcases Nat.lt_or_ge j n with h | h
        · exact h
        · rw [List.getElem?_eq_none (by simp; omega)] at hu; cases hu
      have hjz : j < zs.length := by omega
      rw [hcell j hjz]
      simp only [List.getElem?_map, List.getElem?_take, hj, if_true, List.getElem?_eq_getElem hjz, Option.map_some, Option.some.injEq] at hu
      rw [← hu]
      simp [List.getD_eq_getElem?_getD, hjz]
end
end Go.Proofs.Ytpokbdchbceenaa
