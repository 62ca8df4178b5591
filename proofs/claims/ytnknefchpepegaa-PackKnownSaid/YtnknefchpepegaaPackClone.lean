/-
  slices.Clone of bytes.
-/
import Derived.Test.YtnknefchpepegaaBytes
import Derived.Lib.SliceRun
namespace Go.Proofs.Ytnknefchpepegaa
set_option linter.unusedVariables false
set_option linter.unusedSimpArgs false
open Go.RowKit
set_option maxRecDepth 100000 in
set_option maxHeartbeats 1000000 in
theorem clone_any (A : Option Addr) (n c B : Nat) (L : List UInt8) (w : World) (hr : Reads w B 1 A n (L.map bval)) (hB : B ≤ w.heap.size) (hn : n ≤ 140737488351232) :
    Calls Try.prog 16 #[.slice A n c] w fun e w' => ∃ v, e = .returned v ∧ w'.ownsRow w.heap.size 5 1 v n (L.map bval) ∧ Below w.heap.size w w' := by
  have hN := fun W => Lib.run_eql_slice_nil (P := Try.prog) W 24 5 A n c 0 0 Try.underlying24
  rcases A with _ | ad
  · have hl := hr.bytes_len
    obtain rfl : n = 0 := by
      rcases Nat.eq_zero_or_pos n with h | h
      · exact h
      · obtain ⟨ad, h1, _⟩ := hr.2 h; cases h1
    obtain rfl : L = [] := List.eq_nil_of_length_eq_zero hl
    clear hr hl
    go_enter Try.func16, Try.ntmps16
    go_wp2_with fail
    go_ret
    exact ⟨_, rfl, World.ownsRow_nil _ _ _ _, Below.refl _ _⟩
  · obtain ⟨i0, hi, hz, hs, hb⟩ := info_parts (show (Try.prog.info? 5).map (fun i => (i.zero, i.size, i.bytes)) = some (some (.int .u8 0), 1, 1) by kernel_rfl)
    have hown : (w.alloc (.cells #[] 5)).ownsRow w.heap.size 5 1 (.slice (some ⟨w.heap.size, 0, none⟩) 0 0) 0 [] := World.ownsRow_lit w #[] 0 (Nat.le_refl _) (by simp [maxLen]) rfl
    have hr2 := hr.alloc hB (.cells #[] 5)
    have HO := Lib.hid hown
    have HR := Lib.hid hr2
    have h1c : ∀ u ∈ L.map bval, u.oneCell' = true := fun u hu => by obtain ⟨b, _, rfl⟩ := List.mem_map.1 hu; rfl
    have h2c : 0 + n ≤ maxLen := by unfold maxLen; omega
    have h3c : (0 + n) * 1 ≤ 140737488355328 := by omega
    have h4c : w.heap.size ≤ (w.alloc (.cells #[] 5)).heap.size := by simp
    clear hown hr2 hr
    go_enter Try.func16, Try.ntmps16
    go_wp2_with (at_builtin; go_must (refine wpList_append_any _ rfl (.tmp 5) (.tmp 6) 24 rfl w.heap.size 5 i0 (.int .u8 0) 1 1 Try.underlying24 hi hz hs hb rfl (by decide) _ 0 [] rfl HO.out B (some ad) n c (L.map bval) rfl HR.out h1c h2c h3c h4c ?_); intro v' w1 hown1 hg1 hv1)
    have hb1 : Below w.heap.size w w1 := ((Below.refl _ _).alloc (Nat.le_refl _) _).grown hg1 (by simp) (fun k hk => Nat.le_of_eq (Option.some.inj hk))
    simp only [Nat.zero_add, List.nil_append] at hown1
    clear hg1 hv1
    go_wp2_with fail
    go_ret
    exact ⟨_, rfl, hown1, hb1⟩
end Go.Proofs.Ytnknefchpepegaa
