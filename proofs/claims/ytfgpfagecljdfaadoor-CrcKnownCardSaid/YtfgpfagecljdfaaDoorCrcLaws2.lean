/-
  The walk of CrcPieces.
-/
import Derived.Test.YtfgpfagecljdfaaDoorCrcLaws1
import Derived.Deep.RegionHeld3
namespace Go.Proofs.YtfgpfagecljdfaaDoor
set_option linter.unusedVariables false
set_option linter.unusedSimpArgs false
open Go.RowKit

theorem quiet_l {P : Program} {f : FuncId} {args : Array Value} {w : World} {n : Nat} {v : Value}
    (h : Calls P f args (w.drewN n) fun e w' => e = .returned v ∧ w.drewN n = w') : Calls P f args (w.drewN n) fun e w'' => e = .returned v ∧ ∃ m, w'' = w.drewN m :=
  h.mono fun _ _ ⟨he, hm⟩ => ⟨he, n, hm.symm⟩
set_option maxRecDepth 100000 in
set_option maxHeartbeats 1000000 in
theorem crcPieces_any (A : Option Addr) (n c B : Nat) (bs : List UInt8) (one two : Int) (w : World) (hT : TabOk w) (hr : Reads w B 1 A n (bs.map bval)) (hB : B ≤ w.heap.size) (hm : n ≤ maxLen) (hc : n ≤ c)
    (h1 : -9223372036854775808 ≤ one) (h2 : one ≤ 9223372036854775807) (h3 : -9223372036854775808 ≤ two) (h4 : two ≤ 9223372036854775807) :
    Calls Tryd.prog 4 #[.slice A n c, .int .i64 one, .int .i64 two] w fun e w' => e = .returned (.bool true) ∧ Below w.heap.size w w' := by
  by_cases hbig : 65536 < n
  · have HW := Lib.hid (works_any w hT)
    have hgt : (65536 : Int) < (n : Int) := by omega
    unfold maxLen at hm
    clear hT hr h1 h2 h3 h4
    go_enter Tryd.func4, Tryd.ntmps4
    go_wp2_with fail
    go_must (refine HW.out.mono ?_)
    rintro e w1 ⟨rfl, hb1⟩
    go_wp2
    go_ret
    exact ⟨rfl, hb1⟩
  · have hgt : ¬ (65536 : Int) < (n : Int) := by omega
    have P1 := pick_any one ((n : Int) + 1) w (by omega) (by omega) h1 h2
    have hp0 := Int.emod_nonneg one (show (n : Int) + 1 ≠ 0 by omega)
    have hp1 := Int.emod_lt_of_pos one (show 0 < (n : Int) + 1 by omega)
    obtain ⟨p, hp⟩ := Int.eq_ofNat_of_zero_le hp0
    rw [hp] at P1 hp1
    have hpn : p ≤ n := by omega
    have P2 := pick_any two ((n : Int) + 1 - (p : Int)) w (by omega) (by omega) h3 h4
    have hq0 := Int.emod_nonneg two (show (n : Int) + 1 - (p : Int) ≠ 0 by omega)
    have hq1 := Int.emod_lt_of_pos two (show 0 < (n : Int) + 1 - (p : Int) by omega)
    obtain ⟨q', hq⟩ := Int.eq_ofNat_of_zero_le hq0
    rw [hq] at P2 hq1
    obtain ⟨q, hqq⟩ : ∃ q, q = p + q' := ⟨_, rfl⟩
    have HQ := Lib.hid hqq
    have hpq : p ≤ q := by omega
    have hqn : q ≤ n := by omega
    have HP1 := Lib.hid P1
    have HP2 := Lib.hid P2
    have hR1 : Reads w B 1 A p ((bs.take p).map bval) := by simpa using hr.take hpn
    have hR3 : Reads w B 1 (cutA A c q 1) (n - q) ((bs.drop q).map bval) := by simpa using hr.cutA (k := q) (cap := c) hqn hc
    have hR2 : Reads w B 1 (cutA A c p 1) (q - p) (((bs.drop p).take (q - p)).map bval) := by
      have := (hr.cutA (k := p) (cap := c) hpn hc).take (k := q - p) (by omega)
      simpa [List.map_take, List.map_drop] using this
    have hT' := hT
    have HC1 : Hid (∀ k, Calls Tryd.prog 10 #[.slice A p c] (w.drewN k) fun e w' => e = .returned (.int .u32 (crcMore 0 (bs.take p))) ∧ w.drewN k = w') := fun k => sum_any A p c B _ _ (hT.drewN k) (hR1.drewN k) (by unfold maxLen; omega)
    have HC2 : Hid (∀ k, Calls Tryd.prog 12 #[.int .u32 (crcMore 0 (bs.take p)), .slice (cutA A c p 1) (q - p) (c - p)] (w.drewN k) fun e w' => e = .returned (.int .u32 (crcMore 0 (bs.take q))) ∧ w.drewN k = w') := fun k => by
      have e : crcMore (crcMore 0 (bs.take p)) ((bs.drop p).take (q - p)) = crcMore 0 (bs.take q) := by
        rw [crcMore_append]; congr 1
        rw [← List.take_add, show p + (q - p) = q by omega]
      exact e ▸ more_any _ _ _ B _ _ _ (crcMore_lt _ _) (hT.drewN k) (hR2.drewN k) (by unfold maxLen; omega)
    have HC3 : Hid (∀ k, Calls Tryd.prog 12 #[.int .u32 (crcMore 0 (bs.take q)), .slice (cutA A c q 1) (n - q) (c - q)] (w.drewN k) fun e w' => e = .returned (.int .u32 (crcMore 0 bs)) ∧ w.drewN k = w') := fun k => by
      have e : crcMore (crcMore 0 (bs.take q)) (bs.drop q) = crcMore 0 bs := by
        rw [crcMore_append, List.take_append_drop]
      exact e ▸ more_any _ _ _ B _ _ _ (crcMore_lt _ _) (hT.drewN k) (hR3.drewN k) (by unfold maxLen; omega)
    have HC4 : Hid (∀ k, Calls Tryd.prog 10 #[.slice A n c] (w.drewN k) fun e w' => e = .returned (.int .u32 (crcMore 0 bs)) ∧ w.drewN k = w') := fun k => sum_any A n c B _ _ (hT.drewN k) (hr.drewN k) (by unfold maxLen; omega)
    have HC5 : Hid (∀ k, Calls Tryd.prog 12 #[.int .u32 0, .slice A n c] (w.drewN k) fun e w' => e = .returned (.int .u32 (crcMore 0 bs)) ∧ w.drewN k = w') := fun k => more_any A n c B 0 _ _ (by omega) (hT.drewN k) (hr.drewN k) (by unfold maxLen; omega)
    have HC6 : Hid (∀ k, Calls Tryd.prog 12 #[.int .u32 (crcMore 0 bs), .slice none 0 0] (w.drewN k) fun e w' => e = .returned (.int .u32 (crcMore 0 bs)) ∧ w.drewN k = w') := fun k => by
      have e := crcMore_nil (crcMore 0 bs) (crcMore_lt _ _)
      exact (Eq.mp (congrArg (fun z => Calls Tryd.prog 12 #[.int .u32 (crcMore 0 bs), .slice none 0 0] (w.drewN k) fun e w' => e = .returned (.int .u32 (z : Nat)) ∧ w.drewN k = w') e) (more_any none 0 0 0 _ [] _ (crcMore_lt _ _) (hT.drewN k) Reads.none_ (by decide)))
    have HW : Hid (∀ k, Calls Tryd.prog 8 #[] (w.drewN k) fun e w' => e = .returned (.bool true) ∧ Below w.heap.size (w.drewN k) w') := fun k => works_any _ (hT.drewN k)
    have hs2 := fun W => run_cut_lh Tryd.el23 A n c hpq (show q ≤ c by omega) W
    have hs3 := fun W => run_cut_l Tryd.el23 A n c hqn W
    generalize cutA A c p 1 = A2 at *
    generalize cutA A c q 1 = A3 at *
    generalize crcMore 0 (bs.take p) = x1 at *
    generalize crcMore 0 (bs.take q) = x2 at *
    generalize crcMore 0 bs = x3 at *
    have hpc : p ≤ c := by omega
    clear hT hT' hr hR1 hR2 hR3 hp hq P1 P2 hp0 hq0 hqq h1 h2 h3 h4
    go_enter Tryd.func4, Tryd.ntmps4
    go_wp2_with fail
    go_must (refine HP1.out.mono ?_)
    rintro e w1 ⟨rfl, rfl⟩
    go_wp2_with fail
    go_must (refine HP2.out.mono ?_)
    rintro e w1 ⟨rfl, rfl⟩
    have hsum : IntKind.i64.wrap ((p : Int) + (q' : Int)) = (q : Int) := by rw [HQ.out, IntWalk.i64_in _ (by omega)]; omega
    have hsum3 : ((p : Int) + (q' : Int)) = (q : Int) := by rw [HQ.out]; omega
    go_wp2_with fail
    go_quiet ((first | (go_at_call 10; exact quiet_l (HC1.out _)) | (go_at_call 12; first | ((with_reducible refine quiet_l (HC2.out _))) | ((with_reducible refine quiet_l (HC3.out _))))))
    go_wp2_with fail
    go_must (refine (HC4.out _).mono ?_)
    rintro e w1 ⟨rfl, rfl⟩
    go_wp2_with fail
    go_must (refine (HC5.out _).mono ?_)
    rintro e w1 ⟨rfl, rfl⟩
    go_wp2_with fail
    go_must (refine (HC6.out _).mono ?_)
    rintro e w1 ⟨rfl, rfl⟩
    go_wp2_with fail
    go_must (refine (HW.out _).mono ?_)
    rintro e w1 ⟨rfl, hb1⟩
    go_wp2
    go_ret
    exact ⟨rfl, (below_drewN (Below.refl _ _) _).trans hb1⟩
end Go.Proofs.YtfgpfagecljdfaaDoor
