/-
  A new one of the document's; the messages of a number.
-/
import Derived.Test.YtpnkobdnifopiaaLinkRefPop
namespace Go.Proofs.Ytpnkobdnifopiaa
set_option linter.unusedVariables false
set_option linter.unusedSimpArgs false
open Go.RowKit
theorem rnew_world (k : Nat) (w : World) : RAt (w.alloc (.cells #[.slice none 0 0, ival k] 50)) w.heap.size w.heap.size k (.slice none 0 0) [] ∧ Below w.heap.size w (w.alloc (.cells #[.slice none 0 0, ival k] 50)) :=
  ⟨⟨Blk.new _ _ _, World.ownsRow_nil _ _ _ _, Nat.le_refl _⟩, (Below.refl _ _).alloc (Nat.le_refl _) _⟩
set_option maxRecDepth 100000 in
set_option maxHeartbeats 4000000 in
theorem rnew_any (n : Int) (w : World) :
    Calls Try.prog 10 #[ival n] w fun e w' => ∃ g v, e = .returned (.pointer (some ⟨g, 0, none⟩)) ∧ RAt w' w.heap.size g (mostOf n) v [] ∧ Below w.heap.size w w' := by
  have hc := mostOf_cast n
  by_cases h1 : n < 1
  · have hm : mostOf n = 1 := by unfold mostOf mostI; rw [if_pos h1]; rfl
    rw [hm]
    clear hm hc
    go_enter Try.func10, Try.ntmps10
    go_wp2_with fail
    go_ret
    exact ⟨_, _, rfl, rnew_world 1 w⟩
  · by_cases h2 : 64 < n
    · have hm : mostOf n = 64 := by unfold mostOf mostI; rw [if_neg h1, if_pos h2]; rfl
      rw [hm]
      clear hm hc
      go_enter Try.func10, Try.ntmps10
      go_wp2_with fail
      go_ret
      exact ⟨_, rfl, ⟨_, (rnew_world 64 w).1⟩, (rnew_world 64 w).2⟩
    · obtain ⟨k, rfl⟩ : ∃ k : Nat, n = k := ⟨n.toNat, by omega⟩
      have hm : mostOf k = k := by unfold mostOf mostI; rw [if_neg h1, if_neg h2]; rfl
      rw [hm]
      clear hm hc
      go_enter Try.func10, Try.ntmps10
      go_wp2_with fail
      go_ret
      exact ⟨_, rfl, ⟨_, (rnew_world k w).1⟩, (rnew_world k w).2⟩
theorem end_msg1 {fn : Func} {R : Ending → World → Prop} {a : Act} {W : World} {g : Nat} {cs : Array Value} (hf : fn.results = #[.cell 2 31]) (hd : a.defers = []) (hp : a.tmps.getD 2 undef = .pointer (some ⟨g, 0, none⟩))
    (hg : W.heap[g]? = some (.cells cs 31 (0, 0))) (hs : cs.size = 4) (hR : R (.returned (.agg cs)) W) : bodyPost Try.prog fn R .ret a W := by
  refine bodyPost_ret_by ?_ hd hR
  have h2 : (Try.prog.info? 31).map (·.size) = some 4 := by kernel_rfl
  have hr := run_loadVar_row (P := Try.prog) W g 31 31 cs (0, 0) _ hg Try.underlying31 rfl (by rw [h2, hs])
  have hp' : a.tmps[2]?.getD undef = .pointer (some ⟨g, 0, none⟩) := by simpa using hp
  simp [results, hf, hp', asAddr, hr, Sem.run_bind, Result.andThen]
def msgOf (n : Int) : Msg := ⟨1, 0, n, -n⟩
set_option maxRecDepth 100000 in
set_option maxHeartbeats 4000000 in
theorem msg_any (n : Int) (w : World) (h0 : 0 ≤ n) (h1 : n ≤ 9223372036854775807) :
    Calls Try.prog 21 #[ival n] w fun e w' => e = .returned (msgV (msgOf n)) ∧ Below w.heap.size w w' := by
  have hq : IntKind.i64.wrap (-n) = -n := IntWalk.i64_in _ (by omega)
  go_enter Try.func21, Try.ntmps21
  go_wp2_with fail
  refine end_msg1 rfl rfl rfl (heap_alloc_new w _) rfl ?_
  exact ⟨rfl, (Below.refl _ _).alloc (Nat.le_refl _) _⟩
end Go.Proofs.Ytpnkobdnifopiaa
