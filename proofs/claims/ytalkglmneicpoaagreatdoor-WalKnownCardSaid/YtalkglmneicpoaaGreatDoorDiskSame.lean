/-
  Bytes written over; both areas alike; the chapter's example.
-/
import Derived.Test.YtalkglmneicpoaaGreatDoorDiskKit
namespace Go.Proofs.YtalkglmneicpoaaGreatDoor
set_option linter.unusedVariables false
set_option linter.unusedSimpArgs false
open Go.RowKit
def mk8 (k : Nat) : Int := IntKind.u8.wrap (201 + 7 * (k : Int))
set_option maxRecDepth 100000 in
set_option maxHeartbeats 400000 in
theorem markBytes_all (k : Nat) (hk : k ≤ 400000) (w : World) :
    Calls Tryz.prog 57 #[.int .i64 k] w fun e w' => e = .returned (.int .u8 (mk8 k)) ∧ w = w' := by
  have HM : Hid (IntKind.u8.wrap (201 + 7 * (k : Int)) = mk8 k) := rfl
  go_enter Tryz.func57, Tryz.ntmps57
  go_wp2
  go_ret
  exact ⟨ret_int HM.out, rfl⟩
set_option maxRecDepth 100000 in
set_option maxHeartbeats 400000 in
theorem spoilBytes_any (A : Option Addr) (n c base : Nat) (xs : List Value) (w : World) (hown : w.ownsRow base 5 1 (.slice A n c) n xs) (hn : n ≤ 262144) :
    Calls Tryz.prog 39 #[.slice A n c] w fun e w' => e = .returned (.tuple #[]) ∧ Below base w w' ∧ w.grownBy w' (Value.slice A n c).ownBlock := by
  go_enter Tryz.func39, Tryz.ntmps39
  go_wp2
  go_loopw [2] (fun i wr => ∃ k : Nat, k ≤ n ∧ i = .int .i64 k ∧ (∃ ys : List Value, wr.ownsRow base 5 1 (.slice A n c) n ys) ∧ Below base w wr ∧ w.grownBy wr (Value.slice A n c).ownBlock) (fun i _ => n - (intOf i).toNat)
  case atStart => exact ⟨0, by omega, rfl, ⟨_, hown⟩, Below.refl _ _, World.grownBy.refl _ _⟩
  case round =>
    obtain ⟨k, hk, rfl, ⟨ys, ho⟩, hbel, hgr⟩ := hrel
    by_cases hlt : k < n
    · obtain ⟨g, cap, hv, hg1, hg2⟩ := ho.form (by omega)
      obtain ⟨rfl, rfl⟩ : A = some ⟨g, 0, none⟩ ∧ c = cap := by injection hv with h1 _ h2; exact ⟨h1, h2⟩
      clear hv
      have hly : ys.length = n := by have := ho.1; omega
      have hca : wr.cell? ⟨g, k, none⟩ = some ys[k] := by
        rw [ho.cellAt k (by omega)]; exact List.getElem?_eq_getElem (by omega)
      have hfa : wr.frozen? ⟨g, k, none⟩ = false := ho.frozenAt k
      have hM := markBytes_all (k + 7) (by omega) wr
      have HM := Lib.hid hM
      have HO := Lib.hid ho
      clear hM ho hown
      go_wp2_with fail
      go_must (refine HM.out.mono ?_)
      rintro e w2 ⟨rfl, rfl⟩
      go_wp2
      go_roundw
      case rel => exact ⟨k + 1, by omega, by go_num, ⟨_, (HO.out.stored k _).1⟩, hbel.setCell hg1 _, only_setCell (p := ⟨g, k, none⟩) hgr (.inl rfl) _⟩
      case measure => simp [intOf]; omega
    · go_wp2
      go_end0
      exact ⟨rfl, hbel, hgr⟩
theorem bytesI_le {N : Nat} {st : DSt} (h : st.Ok N) (n : Int) : (st.bytesI n).length ≤ 262144 := by
  unfold DSt.bytesI onArea
  split
  · exact Nat.le_trans (h.2 false).1 h.1
  · split
    · exact Nat.le_trans (h.2 true).1 h.1
    · simp
end Go.Proofs.YtalkglmneicpoaaGreatDoor
