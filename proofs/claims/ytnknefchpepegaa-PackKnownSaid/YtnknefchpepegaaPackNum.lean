/-
  (*pack.Reader).number. It reads, or it panics; the walk.
-/
import Derived.Test.YtnknefchpepegaaPackDone
import Derived.Test.YtnknefchpepegaaPackBits2
namespace Go.Proofs.Ytnknefchpepegaa
set_option linter.unusedVariables false
set_option linter.unusedSimpArgs false
open Go.RowKit
/-- The panic of a reading that fails. -/
def stopP (er : Int) : List PanicEntry := [{ v := .iface 46 (.agg #[.int .i64 er]), recovered := false }]
def NumPost (g B : Nat) (er : Int) (w : World) (r : Nat ⊕ (Nat × List UInt8)) (e : Ending) (w' : World) : Prop :=
  (∃ k : Nat, r = .inl k ∧ e = .panicked (stopP (k : Int)) ∧ w' = w) ∨
  ∃ u l A' c', r = .inr (u, l) ∧ u < 18446744073709551616 ∧ e = .returned (.int .i64 (zag u)) ∧ RdAt w' g B l er A' l.length c' ∧ w' = w.setCell ⟨g, 0, none⟩ (.slice A' l.length c')
set_option maxRecDepth 100000 in
set_option maxHeartbeats 1000000 in
theorem number_any (g B : Nat) (bs : List UInt8) (er : Int) (A : Option Addr) (m c : Nat) (w : World) (h : RdAt w g B bs er A m c) :
    Calls Try.prog 19 #[.pointer (some ⟨g, 0, none⟩)] w (NumPost g B er w (rd bs 0 0)) := by
  have y0 : w.cell? ⟨g, 0, none⟩ = some (.slice A m c) := h.blk.cell 0
  have z0 : w.frozen? ⟨g, 0, none⟩ = false := h.blk.frozen 0
  have hl : bs.length = m := h.rd.bytes_len
  have hmc := h.mc
  have hcm := h.cm
  unfold maxLen at hcm
  have H := Lib.hid h
  clear h
  generalize hr : rd bs 0 0 = r
  have HR := Lib.hid hr
  clear hr
  go_enter Try.func19, Try.ntmps19
  go_wp2_with fail
  go_loopw [3, 11] (fun U I wr => ∃ i u : Nat, wr = w ∧ U = .int .u64 u ∧ I = .int .i64 i ∧ i ≤ m ∧ i ≤ 9 ∧ u < 128 ^ i ∧ rd (bs.drop i) i u = r) (fun _ I _ => m - (intOf I).toNat)
  case atStart => exact ⟨0, 0, rfl, rfl, rfl, by omega, by omega, by simp, by simpa using HR.out⟩
  case round =>
    obtain ⟨i, u, rfl, rfl, rfl, him, hi9, hu, hrd⟩ := hrel
    by_cases hlt : i < m
    · have hk : i < bs.length := by omega
      obtain ⟨ad, rfl, hadB, hc⟩ := H.out.rd.byte hk
      rw [List.drop_eq_getElem_cons hk, rd] at hrd
      generalize hb : (bs[i]).toNat = b at *
      have hb256 : b < 256 := by rw [← hb]; exact (bs[i]).toNat_lt
      have hltI : (i : Int) < (m : Int) := by omega
      by_cases hbad : (i = 9 ∧ 1 < b) ∨ (b = 0 ∧ 0 < i)
      · rw [if_pos hbad] at hrd
        have HQ := Lib.hid hrd
        clear hrd hu
        by_cases hbad1 : i = 9 ∧ 1 < b
        · have hbI : (1 : Int) < (b : Int) := by omega
          have hi9 : ((i : Int) == 9) = true := by simp; omega
          clear hbad hbad1
          go_wp2_with fail
          exact ⟨rfl, .inl ⟨5, HQ.out.symm, rfl, rfl⟩⟩
        · have hb2 : b = 0 ∧ 0 < i := by omega
          obtain ⟨rfl, hi0⟩ := hb2
          have hi0I : (0 : Int) < (i : Int) := by omega
          clear hbad hbad1
          by_cases hi9' : i = 9
          · have hi9 : ((i : Int) == 9) = true := by simp; omega
            clear hi9'
            go_wp2_with fail
            exact ⟨rfl, .inl ⟨5, HQ.out.symm, rfl, rfl⟩⟩
          · have hi9 : ((i : Int) == 9) = false := by simp; omega
            clear hi9'
            go_wp2_with fail
            exact ⟨rfl, .inl ⟨5, HQ.out.symm, rfl, rfl⟩⟩
      · rw [if_neg hbad] at hrd
        have hrd' := hrd
        have HU := Lib.hid hu
        clear hrd hu
        obtain ⟨hB, hV⟩ := step_bits u b i HU.out hb256 hi9 (by omega)
        have HB := Lib.hid hB
        clear hB
        by_cases hb128 : b < 128
        · have hbI : (b : Int) < 128 := by omega
          rw [if_pos hb128] at hrd'
          rw [Nat.mod_eq_of_lt hb128] at HB hV
          generalize hv : u + b * 128 ^ i = v at *
          have HV := Lib.hid hV
          have HZ := Lib.hid (zag_bits v hV)
          have HQ := Lib.hid hrd'
          have hcut : ∀ W, (Instr.slice 24 (.slice (some ad) m c) (some (.int .i64 ((i : Int) + 1))) none none).run Try.prog W = .ok (.slice (cutA (some ad) c (i + 1) 1) (m - (i + 1)) (c - (i + 1))) W := fun W => run_cut_l Try.el24 (some ad) m c (l := i + 1) (by omega) W
          have HL2 : Hid ((bs.drop (i + 1)).length = m - (i + 1)) := by show _ = _; rw [List.length_drop, hl]
          generalize hA2 : cutA (some ad) c (i + 1) 1 = A2 at *
          have HR2 : Hid (RdAt (wr.setCell ⟨g, 0, none⟩ (.slice A2 (m - (i + 1)) (c - (i + 1)))) g B (bs.drop (i + 1)) er A2 (bs.drop (i + 1)).length (c - (i + 1))) := by
            have hh := H.out
            refine ⟨?_, ?_, by rw [HL2.out]; omega, by unfold maxLen; omega, hh.bp⟩
            · have := hh.blk.set_ 0 (.slice A2 (m - (i + 1)) (c - (i + 1)))
              rw [HL2.out]
              simpa using this
            · have := hh.rd.cutA (k := i + 1) (cap := c) (by omega) hmc
              rw [hA2, Nat.mul_one] at this
              rw [HL2.out, List.map_drop]
              exact this.setCell hh.bp _
          clear hA2 hV hrd' hv
          by_cases hi9' : i = 9
          · have hi9 : ((i : Int) == 9) = true := by simp; omega
            have hb1 : ¬ (1 : Int) < (b : Int) := by omega
            have hb0 : ((b : Int) == 0) = false := by simp; omega
            clear hbad hi9' hb128
            go_wp2_with fail
            rw [HB.out, HZ.out]
            go_ret
            exact .inr ⟨_, _, A2, c - (i + 1), HQ.out.symm, HV.out, rfl, HR2.out, by rw [HL2.out]⟩
          · have hi9 : ((i : Int) == 9) = false := by simp; omega
            by_cases hb0' : b = 0
            · have hb0 : ((b : Int) == 0) = true := by simp; omega
              have hi0 : ¬ (0 : Int) < (i : Int) := by omega
              clear hb0'
              clear hbad hi9' hb128
              go_wp2_with fail
              rw [HB.out, HZ.out]
              go_ret
              exact .inr ⟨_, _, A2, c - (i + 1), HQ.out.symm, HV.out, rfl, HR2.out, by rw [HL2.out]⟩
            · have hb0 : ((b : Int) == 0) = false := by simp; omega
              clear hb0'
              clear hbad hi9' hb128
              go_wp2_with fail
              rw [HB.out, HZ.out]
              go_ret
              exact .inr ⟨_, _, A2, c - (i + 1), HQ.out.symm, HV.out, rfl, HR2.out, by rw [HL2.out]⟩
        · have hbI : ¬ (b : Int) < 128 := by omega
          rw [if_neg hb128] at hrd'
          have h9 : ¬ i = 9 := by omega
          have hi9 : ((i : Int) == 9) = false := by simp; omega
          have hb0 : ((b : Int) == 0) = false := by simp; omega
          have hmod : b % 128 = b - 128 := by omega
          have HM := Lib.hid hmod
          have HQ := Lib.hid hrd'
          have hi8 : i ≤ 8 := by omega
          clear hrd' hbad hb128 h9 hmod
          go_wp2_with fail
          rw [HB.out]
          go_roundw
          case rel =>
            refine ⟨i + 1, u + b % 128 * 128 ^ i, by trivial, by first | trivial | rfl | go_num, by first | trivial | go_num, by omega, by omega, ?_, ?_⟩
            · have h1 : (b % 128 + 1) * 128 ^ i ≤ 128 * 128 ^ i := Nat.mul_le_mul_right _ (by omega)
              have := HU.out
              rw [Nat.add_mul] at h1
              rw [Nat.pow_succ]
              omega
            · rw [HM.out]; exact HQ.out
          case measure => simp [intOf]; omega
    · obtain rfl : i = m := by omega
      have hnil : rd (bs.drop i) i u = .inl 4 := by rw [List.drop_eq_nil_of_le (by omega), rd]
      rw [hnil] at hrd
      have HQ := Lib.hid hrd
      clear hrd hnil hu hi9
      go_wp2_with fail
      exact ⟨rfl, .inl ⟨4, HQ.out.symm, rfl, rfl⟩⟩
end Go.Proofs.Ytnknefchpepegaa
