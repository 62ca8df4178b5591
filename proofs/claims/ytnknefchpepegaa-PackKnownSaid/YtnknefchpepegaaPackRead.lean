/-
  (*pack.Reader).read over whatever closure: it goes well, it fails, it has failed before.
-/
import Derived.Test.YtnknefchpepegaaPackCatch
import Derived.Test.YtnknefchpepegaaOnly
namespace Go.Proofs.Ytnknefchpepegaa
set_option linter.unusedVariables false
set_option linter.unusedSimpArgs false
open Go.RowKit
theorem RdAt.below {W W' : World} {p B : Nat} {bs : List UInt8} {er : Int} {A : Option Addr} {m c : Nat} (h : RdAt W p B bs er A m c) (hb : Below W.heap.size W W') : RdAt W' p B bs er A m c :=
  ⟨h.blk.below hb h.blk.lt, h.rd.below (hb.mono (Nat.le_trans h.bp (Nat.le_of_lt h.blk.lt))), h.mc, h.cm, h.bp⟩
theorem res_bool {w : World} {g : Nat} {v : Value} (hc : w.cell? ⟨g, 0, none⟩ = some v) : (loadVar 4 ⟨g, 0, none⟩).run Try.prog w = .ok v w := by simp [go_sem, hc]
theorem res_int {w : World} {g : Nat} {v : Value} (hc : w.cell? ⟨g, 0, none⟩ = some v) : (loadVar 3 ⟨g, 0, none⟩).run Try.prog w = .ok v w := by simp [go_sem, hc]
theorem res_slice {w : World} {g : Nat} {v : Value} (hc : w.cell? ⟨g, 0, none⟩ = some v) : (loadVar 24 ⟨g, 0, none⟩).run Try.prog w = .ok v w := by simp [go_sem, hc]
theorem results_at {fn : Func} {p : Tmp} {ty : TypeId} {tmps : Array Value} {w : World} {g : Nat} {v : Value} (h : fn.results = #[.cell p ty]) (hp : tmps.getD p undef = .pointer (some ⟨g, 0, none⟩)) (hv : (loadVar ty ⟨g, 0, none⟩).run Try.prog w = .ok v w) : (results fn tmps).run Try.prog w = .ok v w := by
  have hp' : tmps[p]?.getD undef = .pointer (some ⟨g, 0, none⟩) := by simpa using hp
  simp [results, h, hp', asAddr, hv]
theorem cell_at (w : World) (C : Array Value) (e : TypeId) (m : Nat × Nat) (g j : Nat) (h : g = w.heap.size) : (w.alloc (.cells C e m)).cell? ⟨g, j, none⟩ = C[j]? := by subst h; exact cell_new w C e m j
theorem Blk.new_at (w : World) (C : Array Value) (e : TypeId) (g : Nat) (h : g = w.heap.size) : Blk (w.alloc (.cells C e)) g e C := by subst h; exact Blk.new w e C
set_option maxRecDepth 100000 in
set_option maxHeartbeats 1000000 in
theorem read_failed (g B : Nat) (bs : List UInt8) (er : Int) (he : er ≠ 0) (A : Option Addr) (m c : Nat) (f : Value) (w : World) (h : RdAt w g B bs er A m c) :
    Calls Try.prog 17 #[.pointer (some ⟨g, 0, none⟩), f] w fun e w' => e = .returned (.bool false) ∧ Below w.heap.size w w' := by
  have y1 : w.cell? ⟨g, 1, none⟩ = some (.int .i64 er) := h.blk.cell 1
  have hlt := h.blk.lt
  have hb : (er != 0) = true := by simpa using he
  clear h he
  go_enter_defers Try.func17, Try.ntmps17
  go_wp2
  exact ⟨_, results_at rfl rfl (res_bool (cell_at _ _ _ _ _ 0 (by simp))), rfl, ((Below.refl _ _).alloc (Nat.le_refl _) _).alloc (by simp) _⟩
set_option maxRecDepth 100000 in
set_option maxHeartbeats 1000000 in
theorem read_ok (g B : Nat) (bs : List UInt8) (A : Option Addr) (m c : Nat) (F : Nat) (caps : Array Value) (S : Nat → Prop) (Q : World → World → Prop) (w : World) (h : RdAt w g B bs 0 A m c) (hS : ∀ i, S i → i < w.heap.size)
    (hF : ∀ (args : Array Value) (w : World), (callFunc F args).run Try.prog w = .ok (.enter F args) w)
    (hf : ∀ w1, Below w.heap.size w w1 → Calls Try.prog F caps w1 fun e w2 => e = .returned (.tuple #[]) ∧ Only S w1 w2 ∧ Q w1 w2) :
    Calls Try.prog 17 #[.pointer (some ⟨g, 0, none⟩), .func (.func F) #[] caps] w fun e w' => e = .returned (.bool true) ∧ ∃ w1 w2, Below w.heap.size w w1 ∧ Only S w1 w2 ∧ Q w1 w2 ∧ Below w.heap.size w2 w' ∧ ∃ b, b < w1.heap.size ∧ w.heap.size ≤ b ∧ Only (fun i => i = b) w2 w' := by
  have y0 : w.cell? ⟨g, 0, none⟩ = some (.slice A m c) := h.blk.cell 0
  have y1 : w.cell? ⟨g, 1, none⟩ = some (.int .i64 0) := h.blk.cell 1
  have hlt := h.blk.lt
  have hmf : ∀ (fn : Fn) (first cap : Array Value) (w : World), (Instr.makeFunc fn first cap).run Try.prog w = .ok (.func fn first cap) w := fun _ _ _ _ => rfl
  have HF := Lib.hid hf
  have HS := Lib.hid hS
  clear h hf hS
  go_enter_defers Try.func17, Try.ntmps17
  go_wp2_with fail
  generalize hO1 : Obj.cells #[.pointer (some ⟨g, 0, none⟩)] 27 = O1
  generalize hO3 : Obj.cells #[.slice A m c] 24 = O3
  have HB : Hid (Below w.heap.size w (((w.alloc O1).alloc (.cells #[.bool false] 4)).alloc O3)) := (((Below.refl _ _).alloc (Nat.le_refl _) _).alloc (by simp) _).alloc (by simp; omega) _
  have HK : Hid (Blk (((w.alloc O1).alloc (.cells #[.bool false] 4)).alloc O3) (w.heap.size + 1) 4 #[.bool false]) := (Blk.new_at _ _ _ _ (by simp)).alloc _
  generalize ((w.alloc O1).alloc (.cells #[.bool false] 4)).alloc O3 = W1 at *
  go_must (refine (HF.out W1 HB.out).mono ?_)
  rintro e w2 ⟨rfl, ho, hq⟩
  have HK2 : Hid (Blk w2 (w.heap.size + 1) 4 #[.bool false]) := HK.out.only ho (fun hs => by have := HS.out _ hs; omega)
  have x1 : w2.cell? ⟨w.heap.size + 1, 0, none⟩ = some (.bool false) := HK2.out.cell 0
  have z1 : w2.frozen? ⟨w.heap.size + 1, 0, none⟩ = false := HK2.out.frozen 0
  have HO := Lib.hid ho
  have HQ := Lib.hid hq
  clear ho hq y0 y1
  go_wp2_with fail
  refine leaves_cons (f := 23) (args := #[.pointer (some ⟨w.heap.size + 1 + 1, 0, none⟩), .pointer (some ⟨w.heap.size, 0, none⟩), .pointer (some ⟨w.heap.size + 1, 0, none⟩)]) (by simp) (by simp [go_sem]) ?_
  refine (catch_idle _ _ _ _).mono ?_
  rintro e u' w3 ⟨rfl, rfl, rfl⟩
  have hlt2 : w.heap.size < w2.heap.size := by have := HK2.out.lt; omega
  refine ⟨_, results_at rfl rfl (res_bool (((HK2.out.set_ 0 (.bool true)).alloc _).cell 0)), rfl, W1, w2, HB.out, HO.out, HQ.out, ?_⟩
  exact ⟨((Below.refl _ _).setCell (by simp) _).alloc (by simp [World.setCell]; omega) _, w.heap.size + 1, HK.out.lt, by omega, ((Only.refl (fun i => i = w.heap.size + 1) w2).setCell (.inl rfl) 0 _).alloc _⟩
set_option maxRecDepth 100000 in
set_option maxHeartbeats 1000000 in
theorem read_fail (g B : Nat) (bs : List UInt8) (A : Option Addr) (m c : Nat) (F : Nat) (caps : Array Value) (S : Nat → Prop) (k : Nat) (w : World) (h : RdAt w g B bs 0 A m c) (hS : ∀ i, S i → i < w.heap.size ∧ B ≤ i) (hg : S g)
    (hF : ∀ (args : Array Value) (w : World), (callFunc F args).run Try.prog w = .ok (.enter F args) w)
    (hf : ∀ w1, Below w.heap.size w w1 → Calls Try.prog F caps w1 fun e w2 => e = .panicked (stopP (k : Int)) ∧ Only S w1 w2 ∧ ∃ A2 m2 c2, Blk w2 g 43 #[.slice A2 m2 c2, .int .i64 0]) :
    Calls Try.prog 17 #[.pointer (some ⟨g, 0, none⟩), .func (.func F) #[] caps] w fun e w' => e = .returned (.bool false) ∧ RdAt w' g B bs k A m c ∧ Only S w w' := by
  have y0 : w.cell? ⟨g, 0, none⟩ = some (.slice A m c) := h.blk.cell 0
  have y1 : w.cell? ⟨g, 1, none⟩ = some (.int .i64 0) := h.blk.cell 1
  have hlt := h.blk.lt
  have hmf : ∀ (fn : Fn) (first cap : Array Value) (w : World), (Instr.makeFunc fn first cap).run Try.prog w = .ok (.func fn first cap) w := fun _ _ _ _ => rfl
  have HF := Lib.hid hf
  have HS := Lib.hid hS
  have HR := Lib.hid h
  have HG := Lib.hid hg
  clear h hf hS hg
  go_enter_defers Try.func17, Try.ntmps17
  go_wp2_with fail
  have HB : Hid (Below w.heap.size w (((w.alloc (.cells #[.pointer (some ⟨g, 0, none⟩)] 27)).alloc (.cells #[.bool false] 4)).alloc (.cells #[.slice A m c] 24))) := (((Below.refl _ _).alloc (Nat.le_refl _) _).alloc (by simp) _).alloc (by simp; omega) _
  have HK0 : Hid (Blk (((w.alloc (.cells #[.pointer (some ⟨g, 0, none⟩)] 27)).alloc (.cells #[.bool false] 4)).alloc (.cells #[.slice A m c] 24)) w.heap.size 27 #[.pointer (some ⟨g, 0, none⟩)]) := ((Blk.new _ _ _).alloc _).alloc _
  have HK1 : Hid (Blk (((w.alloc (.cells #[.pointer (some ⟨g, 0, none⟩)] 27)).alloc (.cells #[.bool false] 4)).alloc (.cells #[.slice A m c] 24)) (w.heap.size + 1) 4 #[.bool false]) := (Blk.new_at _ _ _ _ (by simp)).alloc _
  have HK2 : Hid (Blk (((w.alloc (.cells #[.pointer (some ⟨g, 0, none⟩)] 27)).alloc (.cells #[.bool false] 4)).alloc (.cells #[.slice A m c] 24)) (w.heap.size + 1 + 1) 24 #[.slice A m c]) := Blk.new_at _ _ _ _ (by simp)
  generalize ((w.alloc (.cells #[.pointer (some ⟨g, 0, none⟩)] 27)).alloc (.cells #[.bool false] 4)).alloc (.cells #[.slice A m c] 24) = W1 at *
  go_must (refine (HF.out W1 HB.out).mono ?_)
  rintro e w2 ⟨rfl, ho, A2, m2, c2, hblk⟩
  have HO := Lib.hid ho
  have HL0 := Lib.hid (HK0.out.only ho (fun hs => by have := HS.out _ hs; omega))
  have HL1 := Lib.hid (HK1.out.only ho (fun hs => by have := HS.out _ hs; omega))
  have HL2 := Lib.hid (HK2.out.only ho (fun hs => by have := HS.out _ hs; omega))
  have HBL := Lib.hid hblk
  clear ho hblk y0 y1
  go_wp2_with fail
  refine leaves_cons (f := 23) (args := #[.pointer (some ⟨w.heap.size + 1 + 1, 0, none⟩), .pointer (some ⟨w.heap.size, 0, none⟩), .pointer (some ⟨w.heap.size + 1, 0, none⟩)]) (by simp) (by simp [go_sem]) ?_
  refine (catch_panicking (w.heap.size + 1 + 1) w.heap.size (w.heap.size + 1) g A m c k 0 false A2 m2 c2 [] w2 (HL2.out.cell 0) (HL0.out.cell 0) (HL1.out.cell 0) (HL1.out.frozen 0) (HBL.out.cell 0) (HBL.out.cell 1) (HBL.out.frozen 0) (HBL.out.frozen 1) (by omega)).mono ?_
  rintro e u' w3 ⟨rfl, rfl, rfl⟩
  generalize Obj.cells #[.int .i64 (k : Int)] 46 = O
  have h0 : Only S w w2 := (Only.of_below HB.out).trans HO.out (fun i hi => .inl hi)
  have h1 : Only S w (((((w2.alloc O).setCell ⟨g, 0, none⟩ (.slice A m c)).setCell ⟨g, 1, none⟩ (.int .i64 k)).setCell ⟨w.heap.size + 1, 0, none⟩ (.bool false)).drew) :=
    ((((h0.alloc O).setCell (.inl HG.out) 0 _).setCell (.inl HG.out) 1 _).setCell (.inr (by omega)) 0 _).drew
  have h2 : Blk (((((w2.alloc O).setCell ⟨g, 0, none⟩ (.slice A m c)).setCell ⟨g, 1, none⟩ (.int .i64 k)).setCell ⟨w.heap.size + 1, 0, none⟩ (.bool false)).drew) (w.heap.size + 1) 4 #[.bool false] :=
    ((((HL1.out.alloc O).far (by show _ ≠ g; omega) _).far (by show _ ≠ g; omega) _).set_ 0 (.bool false))
  have h3 : Blk (((((w2.alloc O).setCell ⟨g, 0, none⟩ (.slice A m c)).setCell ⟨g, 1, none⟩ (.int .i64 k)).setCell ⟨w.heap.size + 1, 0, none⟩ (.bool false)).drew) g 43 #[.slice A m c, .int .i64 k] :=
    ((((HBL.out.alloc O).set_ 0 (.slice A m c)).set_ 1 (.int .i64 k)).far (by show g ≠ w.heap.size + 1; omega) _)
  have hr := HR.out
  refine ⟨_, results_at rfl rfl (res_bool (h2.cell 0)), rfl, ⟨h3, hr.rd.below (h1.to (fun i hi => (HS.out i hi).2) (by have := hr.bp; omega)), hr.mc, hr.cm, hr.bp⟩, h1⟩
end Go.Proofs.Ytnknefchpepegaa
