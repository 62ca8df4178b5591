/-
  A new link; the messages of a number.
-/
import Derived.Test.YtpnkobdnifopiaaLinkPop
import Derived.Conc.SmallLaws
namespace Go.Proofs.Ytpnkobdnifopiaa
set_option linter.unusedVariables false
set_option linter.unusedSimpArgs false
open Go.RowKit Go.Conc
def mostI (n : Int) : Int := if n < 1 then 1 else if 64 < n then 64 else n
def mostOf (n : Int) : Nat := (mostI n).toNat
theorem mostI_lo (n : Int) : 1 ≤ mostI n ∧ mostI n ≤ 64 := by unfold mostI; split <;> (try split) <;> omega
theorem mostOf_cast (n : Int) : ((mostOf n : Nat) : Int) = mostI n := by have := mostI_lo n; unfold mostOf; omega
theorem chan_bytes : ∃ i, Try.prog.info? 31 = some i ∧ i.bytes = 32 := by
  have h : (Try.prog.info? 31).map (·.bytes) = some 32 := by kernel_rfl
  obtain ⟨i, hi, hb⟩ := Option.map_eq_some_iff.1 h
  exact ⟨i, hi, hb⟩
theorem run_mc (k : Nat) (hk : k ≤ 64) (W : World) : (Instr.makeChan 46 (.int .i64 k)).run Try.prog W = .ok (.chan (some W.heap.size)) (W.alloc (.chan k #[] false 0 0 false)) := by
  obtain ⟨i, hi, hb⟩ := chan_bytes
  exact run_makeChan Try.underlying46 hi .i64 k (by omega) (by rw [hb]; omega)
theorem new_world (k : Nat) (hk : 1 ≤ k ∧ k ≤ 64) (w : World) : LAt ((w.alloc (.chan k #[] false 0 0 false)).alloc (.cells #[ival k, .chan (some w.heap.size), ival 0, ival 0, ival 0, ival 0, .bool false] 48)) w.heap.size (w.heap.size + 1) w.heap.size k [] ∧
    Below w.heap.size w ((w.alloc (.chan k #[] false 0 0 false)).alloc (.cells #[ival k, .chan (some w.heap.size), ival 0, ival 0, ival 0, ival 0, .bool false] 48)) := by
  refine ⟨⟨?_, ⟨0, 0, ?_⟩, Nat.zero_le _, hk.1, hk.2, by omega, Nat.le_refl _⟩, ((Below.refl _ _).alloc (Nat.le_refl _) _).alloc (by simp) _⟩
  · have := Blk.new (w.alloc (.chan k #[] false 0 0 false)) 48 #[ival k, .chan (some w.heap.size), ival 0, ival 0, ival 0, ival 0, .bool false]
    rwa [show (w.alloc (.chan k #[] false 0 0 false)).heap.size = w.heap.size + 1 by simp] at this
  · have hb : Below (w.heap.size + 1) (w.alloc (.chan k #[] false 0 0 false)) ((w.alloc (.chan k #[] false 0 0 false)).alloc (.cells #[ival k, .chan (some w.heap.size), ival 0, ival 0, ival 0, ival 0, .bool false] 48)) := (Below.refl _ _).alloc (by simp) _
    exact (hb.block _ (by omega)).trans (heap_alloc_new w _)
set_option maxRecDepth 100000 in
set_option maxHeartbeats 4000000 in
theorem new_any (n : Int) (w : World) :
    Calls Try.prog 9 #[ival n] w fun e w' => ∃ gl gc, e = .returned (.pointer (some ⟨gl, 0, none⟩)) ∧ LAt w' w.heap.size gl gc (mostOf n) [] ∧ Below w.heap.size w w' := by
  by_cases h1 : n < 1
  · have hm : mostOf n = 1 := by unfold mostOf mostI; rw [if_pos h1]; rfl
    have hmc := run_mc 1 (by omega)
    simp only [Int.natCast_one] at hmc
    rw [hm]
    clear hm
    go_enter Try.func9, Try.ntmps9
    go_wp2_with fail
    all_goals first | (exfalso; omega) | skip
    go_ret
    exact ⟨_, _, rfl, new_world 1 (by omega) w⟩
  · by_cases h2 : 64 < n
    · have hm : mostOf n = 64 := by unfold mostOf mostI; rw [if_neg h1, if_pos h2]; rfl
      have hmc := run_mc 64 (by omega)
      simp only [show ((64 : Nat) : Int) = 64 from rfl] at hmc
      rw [hm]
      clear hm
      go_enter Try.func9, Try.ntmps9
      go_wp2_with fail
      all_goals first | (exfalso; omega) | skip
      go_ret
      exact ⟨_, rfl, ⟨_, (new_world 64 (by omega) w).1⟩, (new_world 64 (by omega) w).2⟩
    · obtain ⟨k, rfl⟩ : ∃ k : Nat, n = k := ⟨n.toNat, by omega⟩
      have hm : mostOf k = k := by unfold mostOf mostI; rw [if_neg h1, if_neg h2]; rfl
      have hmc := run_mc k (by omega)
      rw [hm]
      clear hm
      go_enter Try.func9, Try.ntmps9
      go_wp2_with fail
      all_goals first | (exfalso; omega) | skip
      go_ret
      exact ⟨_, rfl, ⟨_, (new_world k (by omega) w).1⟩, (new_world k (by omega) w).2⟩
end Go.Proofs.Ytpnkobdnifopiaa
