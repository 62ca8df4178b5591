/-
  The program's disk: cut.
-/
import Derived.Test.YtalkglmneicpoaaGreatDoorDiskProg
import Derived.BigRegion
namespace Go.Proofs.YtalkglmneicpoaaGreatDoor
set_option linter.unusedVariables false
set_option linter.unusedSimpArgs false
open Go.RowKit
theorem cut_cases (n : Int) (L : List UInt8) : (n ≤ 0 ∧ cutK n L = 0) ∨ (0 < n ∧ n ≤ (L.length : Int) ∧ n = (cutK n L : Int)) ∨ ((L.length : Int) < n ∧ 0 < L.length ∧ cutK n L = L.length) ∨ ((L.length : Int) < n ∧ L.length = 0 ∧ cutK n L = 0) := by
  unfold cutK; omega
/-- What cut leaves of an area that lies at o. -/
def CutPost (w : World) (g o : Nat) (T : TypeId) (cs : Array Value) (k : Nat) (L1 : List UInt8) (e : Ending) (w' : World) : Prop :=
  ∃ v, e = .returned (.tuple #[]) ∧ Blk w' g T ((cs.setIfInBounds o v).setIfInBounds (o + 1) (ival k)) ∧ w'.ownsRow w.heap.size 5 1 v k (L1.map bval) ∧ Only (fun i => i = g) w w'
theorem cut_end {w w1 : World} {g o : Nat} {T : TypeId} {cs : Array Value} {k k' : Nat} {L1 : List UInt8} {v : Value} (hT : T ≠ 5) (hb : Blk w1 g T cs) (ho : Below w.heap.size w w1) (hg : g < w.heap.size) (hv : w1.ownsRow w.heap.size 5 1 v k (L1.map bval)) (hk : k' = k) :
    CutPost w g o T cs k L1 (.returned (.tuple #[])) ((w1.setCell ⟨g, o, none⟩ v).setCell ⟨g, o + 1, none⟩ (ival k')) := by
  subst hk
  refine ⟨v, rfl, (hb.set_ o v).set_ (o + 1) _, ?_, ?_⟩
  · have hne : ∀ i, v.ownBlock = some i → ¬ (i = g) := fun i hi h => by have := (hv.lt i hi).1; omega
    exact own_only hv (((Only.refl (fun i => i = g) w1).setCell (.inl rfl) o v).setCell (.inl rfl) (o + 1) _) hne
  · exact ((Only.of_below (S := fun i => i = g) ho).setCell (.inl rfl) o v).setCell (.inl rfl) (o + 1) _

set_option maxRecDepth 100000 in
set_option maxHeartbeats 4000000 in
theorem cut_raw (g o : Nat) (T : TypeId) (cs : Array Value) (A : Option Addr) (len c s k : Nat) (n m : Int) (L1 : List UInt8) (w : World) (hT : T ≠ 5) (hk : Blk w g T cs) (h1 : cs[o]? = some (.slice A len c)) (h2 : cs[o + 1]? = some (ival s))
    (hrd : Hid (Reads w w.heap.size 1 A k (L1.map bval))) (hkl : k ≤ len) (hlc : len ≤ c) (hlm : len ≤ 262144)
    (hm1 : (if (len : Int) < n then (len : Int) else n) = m) (hm2 : (if (0 : Int) < m then m else 0) = (k : Int)) :
    Calls Tryz.prog 32 #[.pointer (some ⟨g, o, none⟩), .int .i64 n] w (CutPost w g o T cs k L1) := by
  have HC1 := Lib.hid h1
  have HC2 := Lib.hid h2
  have HK := Lib.hid hk
  have HT := Lib.hid hT
  have c1 : w.cell? ⟨g, o, none⟩ = some (.slice A len c) := (hk.cell o).trans h1
  clear h1 h2 hk
  have hkc : k ≤ c := by omega
  go_enter Tryz.func32, Tryz.ntmps32
  go_wp2_with fail
  go_region_with ((go_at_call 37; refine (clone_any A k c w.heap.size L1 w.drew hrd.out.drew (Nat.le_refl _) (by omega)).mono ?_; rintro e w1 ⟨v, rfl, hown, hb⟩; obtain ⟨A1, cc1, rfl, hd1, hd2, _⟩ := own_slice hown; have kk := HK.out.drew.below hb HK.out.lt; have y1 : w1.cell? ⟨g, o, none⟩ = some (.slice A len c) := (kk.cell o).trans HC1.out; have y2 : w1.frozen? ⟨g, o, none⟩ = false := kk.frozen o; have y3 : w1.cell? ⟨g, o + 1, none⟩ = some (ival s) := (kk.cell (o + 1)).trans HC2.out; have y4 : w1.frozen? ⟨g, o + 1, none⟩ = false := kk.frozen (o + 1)))
  all_goals
    clear hm1 hm2
    go_wp2_with fail
    go_end0
    exact cut_end HT.out kk (((Below.refl _ _).drew).trans hb) HK.out.lt hown rfl

end Go.Proofs.YtalkglmneicpoaaGreatDoor
