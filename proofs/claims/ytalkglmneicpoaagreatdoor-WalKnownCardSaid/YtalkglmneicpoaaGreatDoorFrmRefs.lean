/-
  The document's parts of a frame (oxbowref04): four, number.
-/
import Derived.Test.YtalkglmneicpoaaGreatDoorFrmLay
import Derived.Deep.QuietTactic
import Derived.BigQuiet
namespace Go.Proofs.YtalkglmneicpoaaGreatDoor
set_option linter.unusedVariables false
set_option linter.unusedSimpArgs false
open Go.RowKit
theorem four_any (n base : Nat) (w : World) (hn : n < 4294967296) (hb : base ≤ w.heap.size) :
    Calls Tryz.prog 71 #[.int .u32 (n : Int)] w fun e w' => ∃ v, e = .returned v ∧ w'.ownsRow base 5 1 v 4 ((le4 n).map bval) ∧ w.grownBy w' none ∧ v.ownBlock = some w.heap.size ∧ Below base w w' := by
  have h0 := Lib.hid (u8_of n)
  have h1 : Hid (((n : Int) / 256) % 256 = ((UInt8.ofNat (n / 256)).toNat : Int)) := by have := u8_of (n / 256); show _ = _; rw [← this]; simp
  have h2 : Hid (((n : Int) / 65536) % 256 = ((UInt8.ofNat (n / 65536)).toNat : Int)) := by have := u8_of (n / 65536); show _ = _; rw [← this]; simp
  have h3 : Hid ((n : Int) / 16777216 = ((UInt8.ofNat (n / 16777216)).toNat : Int)) := by have := u8_of (n / 16777216); show _ = _; rw [← this]; simp; omega
  have g0 : (0 : Int) ≤ n := by omega
  have g1 : (n : Int) < 4294967296 := by omega
  go_enter Tryz.func71, Tryz.ntmps71
  go_wp2_with fail
  go_ret
  refine ⟨_, rfl, ⟨by simp [le4], .inr ⟨w.heap.size, 4, _, rfl, hb, heap_alloc_new w _, by omega, by simp [maxLen], rfl, ?_⟩⟩, ⟨rfl, rfl, rfl, by simp, fun k hk _ => heap_alloc_old w _ hk⟩, rfl, (Below.refl _ _).alloc hb _⟩
  simp [le4, bval]
  omega
set_option maxRecDepth 100000 in
set_option maxHeartbeats 2000000 in
theorem refNumber_any (A : Option Addr) (n c B : Nat) (L : List UInt8) (w : World) (hr : Reads w B 1 A n (L.map bval)) (h4 : 4 ≤ n) :
    Calls Tryz.prog 77 #[.slice A n c] w fun e w' => e = .returned (.int .u32 (be4 L : Nat)) ∧ ∃ q, w' = w.drewN q := by
  have hl := hr.bytes_len
  obtain ⟨ad, u0, rfl, _, _, _⟩ := hr.at_ (k := 0) (by omega)
  have hc : ∀ k (h : k < n), w.cell? (ad.add k) = some (.int .u8 ((L.getD k 0).toNat : Int)) := fun k hk => by
    obtain ⟨ad', u, e, _, hu, hcell⟩ := hr.at_ hk
    obtain rfl : ad = ad' := Option.some.inj e
    rw [hcell, ← hu, List.getElem?_map, List.getD_eq_getElem?_getD, List.getElem?_eq_getElem (by omega)]; rfl
  have c0 := hc 0 (by omega)
  have c1 : w.cell? { block := ad.block, off := ad.off + 1 } = some (.int .u8 ((L.getD 1 0).toNat : Int)) := hc 1 (by omega)
  have c2 : w.cell? { block := ad.block, off := ad.off + 2 } = some (.int .u8 ((L.getD 2 0).toNat : Int)) := hc 2 (by omega)
  have c3 : w.cell? { block := ad.block, off := ad.off + 3 } = some (.int .u8 ((L.getD 3 0).toNat : Int)) := hc 3 (by omega)
  have hb : be4 L = (L.getD 0 0).toNat + 256 * (L.getD 1 0).toNat + 65536 * (L.getD 2 0).toNat + 16777216 * (L.getD 3 0).toNat := by
    rcases L with _ | ⟨a, _ | ⟨b, _ | ⟨c, _ | ⟨d, L⟩⟩⟩⟩ <;> simp at hl <;> first | omega | skip
    simp [be4]
  rw [hb]
  have l0 : (L.getD 0 0).toNat < 256 := (L.getD 0 0).toNat_lt
  have l1 : (L.getD 1 0).toNat < 256 := (L.getD 1 0).toNat_lt
  have l2 : (L.getD 2 0).toNat < 256 := (L.getD 2 0).toNat_lt
  have l3 : (L.getD 3 0).toNat < 256 := (L.getD 3 0).toNat_lt
  clear hb hc hr hl
  generalize (L.getD 0 0).toNat = b0 at *
  generalize (L.getD 1 0).toNat = b1 at *
  generalize (L.getD 2 0).toNat = b2 at *
  generalize (L.getD 3 0).toNat = b3 at *
  have hn0 : 0 < n := by omega
  have e0 : w.cell? ad = some (.int .u8 (b0 : Int)) := by have := c0; rwa [show ad.add 0 = ad by cases ad; simp [Addr.add]] at this
  have hn1 : (1 : Int) < (n : Int) := by omega
  have hn2 : (2 : Int) < (n : Int) := by omega
  have hn3 : (3 : Int) < (n : Int) := by omega
  go_enter Tryz.func77, Tryz.ntmps77
  go_wp2_with fail
  go_quiet (fail)
  all_goals
    go_wp2_with fail
    go_ret
    exact ⟨by go_num, _, rfl⟩
end Go.Proofs.YtalkglmneicpoaaGreatDoor
