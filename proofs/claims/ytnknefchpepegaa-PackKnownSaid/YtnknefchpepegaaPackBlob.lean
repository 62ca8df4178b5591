/-
  pack.Blob: bytes laid with their length behind bytes. pack.From: a reader of some bytes.
-/
import Derived.Test.YtnknefchpepegaaPackInt
namespace Go.Proofs.Ytnknefchpepegaa
set_option linter.unusedVariables false
set_option linter.unusedSimpArgs false
open Go.RowKit
theorem vint_le (v : Nat) (h : v < 18446744073709551616) : (vint v).length ≤ 10 := by
  have : ∀ (k v : Nat), v < 128 ^ k → 0 < k → (vint v).length ≤ k := by
    intro k
    induction k with
    | zero => intro v _ h; omega
    | succ k ih =>
      intro v hv _
      by_cases hs : v ≤ 127
      · rw [vint_small hs]; simp
      · rw [vint_big (by omega)]
        have hk : 0 < k := by
          rcases Nat.eq_zero_or_pos k with rfl | h
          · simp at hv; omega
          · exact h
        have := ih (v / 128) (by rw [Nat.pow_succ] at hv; omega) hk
        simp; omega
  exact this 10 v (Nat.lt_of_lt_of_le h (by decide)) (by omega)
set_option maxRecDepth 100000 in
set_option maxHeartbeats 1000000 in
theorem packBlob_any (A : Option Addr) (n c B : Nat) (bs : List UInt8) (A2 : Option Addr) (m c2 B2 : Nat) (xs : List UInt8) (w : World) (hr : Reads w B 1 A n (bs.map bval)) (hB : B ≤ w.heap.size) (hr2 : Reads w B2 1 A2 m (xs.map bval)) (hB2 : B2 ≤ w.heap.size) (hn : n ≤ 17592186044416) (hm : m ≤ 17592186044416) :
    Calls Try.prog 8 #[.slice A n c, .slice A2 m c2] w fun e w' => ∃ v, e = .returned v ∧ w'.ownsRow w.heap.size 5 1 v (n + (vint (zig (m : Int))).length + m) ((bs ++ vint (zig (m : Int)) ++ xs).map bval) ∧ Below w.heap.size w w' := by
  have C1 := Lib.hid (packInt_any A n c B bs (m : Int) w hr hB (by omega) (by omega) (by omega))
  have hvl := vint_le (zig (m : Int)) (zig_lt _ (by omega) (by omega))
  obtain ⟨i0, hi, hz, hs, hb⟩ := info_parts (show (Try.prog.info? 5).map (fun i => (i.zero, i.size, i.bytes)) = some (some (.int .u8 0), 1, 1) by kernel_rfl)
  have HR2 := Lib.hid (hr2.more hB2)
  have h1c : ∀ u ∈ xs.map bval, u.oneCell' = true := fun u hu => by obtain ⟨b, _, rfl⟩ := List.mem_map.1 hu; rfl
  clear hr hr2
  generalize zig (m : Int) = z at *
  go_enter Try.func8, Try.ntmps8
  go_wp2_with fail
  go_must (refine C1.out.mono ?_)
  rintro e w1 ⟨v1, rfl, hown1, hb1⟩
  have HR := Lib.hid (HR2.out.below hb1)
  have h2c : n + (vint z).length + m ≤ maxLen := by unfold maxLen; omega
  have h3c : (n + (vint z).length + m) * 1 ≤ 140737488355328 := by omega
  have h4c := hb1.size
  have HO := Lib.hid hown1
  clear C1 HR2 hown1
  go_wp2_with (at_builtin; go_must (refine wpList_append_any _ rfl (.tmp 8) (.tmp 9) 24 rfl w.heap.size 5 i0 (.int .u8 0) 1 1 Try.underlying24 hi hz hs hb rfl (by decide) _ (n + (vint z).length) _ rfl HO.out w.heap.size A2 m c2 (xs.map bval) rfl HR.out h1c h2c h3c h4c ?_); intro v' w2 hown2 hg1 hv1)
  have hb2 : Below w.heap.size w w2 := hb1.grown hg1 h4c (fun k hk => (HO.out.lt k hk).1)
  clear hg1 hv1 HR
  go_ret
  refine ⟨_, rfl, ?_, hb2⟩
  rw [List.map_append]
  exact hown2
/-- A reader: the block p holds what is left and the errno; what is left reads. -/
structure RdAt (W : World) (p : Nat) (B : Nat) (bs : List UInt8) (er : Int) (A : Option Addr) (m c : Nat) : Prop where
  blk : Blk W p 43 #[.slice A m c, .int .i64 er]
  rd : Reads W B 1 A m (bs.map bval)
  mc : m ≤ c
  cm : c ≤ maxLen
  bp : B ≤ p
set_option maxRecDepth 100000 in
set_option maxHeartbeats 1000000 in
theorem packFrom_any (A : Option Addr) (n c B : Nat) (bs : List UInt8) (w : World) (hr : Reads w B 1 A n (bs.map bval)) (hB : B ≤ w.heap.size) (hn : n ≤ 17592186044416) :
    Calls Try.prog 9 #[.slice A n c] w fun e w' => ∃ g A1 c1, e = .returned (.pointer (some ⟨g, 0, none⟩)) ∧ RdAt w' g g bs 0 A1 n c1 ∧ w.heap.size ≤ g ∧ Below w.heap.size w w' := by
  have C1 := Lib.hid (clone_any A n c B bs w hr hB (by omega))
  clear hr
  go_enter Try.func9, Try.ntmps9
  go_wp2_with fail
  go_must (refine C1.out.mono ?_)
  rintro e w1 ⟨v1, rfl, hown1, hb1⟩
  obtain ⟨A1, c1, rfl, hc1, hc2, _⟩ := own_slice hown1
  have HO := Lib.hid hown1
  have HB := Lib.hid hb1
  clear C1 hown1 hb1
  go_wp2_with fail
  go_ret
  exact ⟨_, A1, c1, rfl, ⟨Blk.new _ _ _, (Reads.of_own HO.out).below ((Below.refl _ _).alloc (Nat.le_refl _) _), hc1, hc2, Nat.le_refl _⟩, HB.out.size, HB.out.alloc HB.out.size _⟩
end Go.Proofs.Ytnknefchpepegaa
