/-
  A link: its messages, and how it holds them; Len, Room.
-/
import Derived.Test.YtpnkobdnifopiaaComm
import Derived.Test.YtpnkobdnifopiaaOnly
import Derived.Deep.QuietTactic
import Derived.BigQuiet
import Derived.IntWalk
import Derived.BigRegion
namespace Go.Proofs.Ytpnkobdnifopiaa
set_option linter.unusedVariables false
set_option linter.unusedSimpArgs false
open Go.RowKit Go.Conc
structure Msg where
  k : Int
  n : Int
  key : Int
  v : Int
  deriving DecidableEq
def Msg.zero : Msg := ⟨0, 0, 0, 0⟩
abbrev msgV (m : Msg) : Value := .agg #[ival m.k, ival m.n, ival m.key, ival m.v]
def bufV (L : List Msg) : Array Value := (L.map msgV).toArray
def lCells (gc most : Nat) (h : Msg) (has : Bool) : Array Value := #[ival most, .chan (some gc), ival h.k, ival h.n, ival h.key, ival h.v, .bool has]
structure LAt (w : World) (base gl gc most : Nat) (L : List Msg) : Prop where
  blk : Blk w gl 48 (lCells gc most (L.headD Msg.zero) (!L.isEmpty))
  chan : ∃ s r, w.heap[gc]? = some (.chan most (bufV L.tail) false s r false)
  len : L.length ≤ most
  lo : 1 ≤ most
  hi : most ≤ 64
  bl : base ≤ gl
  bc : base ≤ gc
theorem LAt.ne {w : World} {base gl gc most : Nat} {L : List Msg} (h : LAt w base gl gc most L) : gl ≠ gc := by
  obtain ⟨s, r, hc⟩ := h.chan
  rintro rfl
  have := h.blk
  unfold Blk at this
  rw [this] at hc
  cases hc
theorem bufV_size (L : List Msg) : (bufV L).size = L.length := by simp [bufV]
set_option maxRecDepth 100000 in
set_option maxHeartbeats 1000000 in
theorem len_any (base gl gc most : Nat) (L : List Msg) (w : World) (h : LAt w base gl gc most L) :
    Calls Try.prog 17 #[.pointer (some ⟨gl, 0, none⟩)] w fun e w' => e = .returned (.int .i64 (L.length : Int)) ∧ w = w' := by
  have c6 : w.cell? ⟨gl, 6, none⟩ = some (.bool (!L.isEmpty)) := h.blk.cell 6
  have c1 : w.cell? ⟨gl, 1, none⟩ = some (.chan (some gc)) := h.blk.cell 1
  obtain ⟨s, r, hc⟩ := h.chan
  have hlen := h.len
  have hhi := h.hi
  rcases L with _ | ⟨m, L⟩
  · simp only [List.isEmpty_nil, Bool.not_true] at c6
    clear h hc hlen hhi
    go_enter Try.func17, Try.ntmps17
    go_wp2_with fail
    go_ret
    exact ⟨rfl, rfl⟩
  · simp only [List.isEmpty_cons, Bool.not_false] at c6
    have hl := fun ty => run_len_chan (P := Try.prog) (w := w) 46 ty Try.underlying46 hc
    rw [bufV_size] at hl
    simp only [List.tail_cons] at hl
    simp only [List.length_cons] at hlen
    have hL : L.length ≤ 64 := by omega
    generalize hn : L.length = n at *
    clear h hc hlen hhi
    go_enter Try.func17, Try.ntmps17
    go_wp2_with fail
    go_ret
    exact ⟨ret_int (by rw [hn]; omega), rfl⟩
theorem quiet_same {P : Program} {f : FuncId} {args : Array Value} {w : World} {n : Nat} {v : Value} (h : Calls P f args (w.drewN n) fun e w' => e = .returned v ∧ w.drewN n = w') :
    Calls P f args (w.drewN n) fun e w'' => e = .returned v ∧ ∃ m, w'' = w.drewN m := h.mono fun _ _ ⟨he, hm⟩ => ⟨he, n, hm.symm⟩
theorem LAt.drewN {w : World} {base gl gc most : Nat} {L : List Msg} (h : LAt w base gl gc most L) (n : Nat) : LAt (w.drewN n) base gl gc most L :=
  ⟨h.blk, h.chan, h.len, h.lo, h.hi, h.bl, h.bc⟩
set_option maxRecDepth 100000 in
set_option maxHeartbeats 1000000 in
theorem room_any (base gl gc most : Nat) (L : List Msg) (w : World) (h : LAt w base gl gc most L) :
    Calls Try.prog 19 #[.pointer (some ⟨gl, 0, none⟩)] w fun e w' => e = .returned (.int .i64 ((most : Int) - (L.length : Int))) ∧ ∃ m, w' = w.drewN m := by
  have c0 : w.cell? ⟨gl, 0, none⟩ = some (ival most) := h.blk.cell 0
  have C := Lib.hid (fun q => len_any base gl gc most L (w.drewN q) (h.drewN q))
  have hlen := h.len
  have hhi := h.hi
  clear h
  generalize L.length = n at *
  have hq : IntKind.i64.wrap ((most : Int) - (n : Int)) = (most : Int) - (n : Int) := IntWalk.i64_in _ (by omega)
  go_enter Try.func19, Try.ntmps19
  go_wp2_with fail
  go_quiet ((go_at_call 17; exact quiet_same (C.out _)))
  go_wp2_with fail
  go_ret
  exact ⟨rfl, _, rfl⟩
theorem end_msg2 {fn : Func} {R : Ending → World → Prop} {a : Act} {W : World} {g : Nat} {cs : Array Value} {p : Value} (hf : fn.results = #[.cell 2 31, .tmp 3]) (hd : a.defers = []) (hp : a.tmps.getD 2 undef = .pointer (some ⟨g, 0, none⟩))
    (hg : W.heap[g]? = some (.cells cs 31 (0, 0))) (hs : cs.size = 4) (h3 : a.tmps.getD 3 undef = p) (hR : R (.returned (.tuple #[.agg cs, p])) W) : bodyPost Try.prog fn R .ret a W := by
  refine bodyPost_ret_by ?_ hd hR
  have h2 : (Try.prog.info? 31).map (·.size) = some 4 := by kernel_rfl
  have hr := run_loadVar_row (P := Try.prog) W g 31 31 cs (0, 0) _ hg Try.underlying31 rfl (by rw [h2, hs])
  have hp' : a.tmps[2]?.getD undef = .pointer (some ⟨g, 0, none⟩) := by simpa using hp
  have h3' : a.tmps[3]?.getD undef = p := by simpa using h3
  simp [results, hf, hp', h3', asAddr, hr, Sem.run_bind, Result.andThen]
set_option maxRecDepth 100000 in
set_option maxHeartbeats 4000000 in
theorem peek_any (base gl gc most : Nat) (L : List Msg) (w : World) (h : LAt w base gl gc most L) :
    Calls Try.prog 15 #[.pointer (some ⟨gl, 0, none⟩)] w fun e w' => e = .returned (.tuple #[msgV (L.headD Msg.zero), .bool (!L.isEmpty)]) ∧ Below w.heap.size w w' := by
  have c2 : w.cell? ⟨gl, 2, none⟩ = some (ival (L.headD Msg.zero).k) := h.blk.cell 2
  have c3 : w.cell? ⟨gl, 3, none⟩ = some (ival (L.headD Msg.zero).n) := h.blk.cell 3
  have c4 : w.cell? ⟨gl, 4, none⟩ = some (ival (L.headD Msg.zero).key) := h.blk.cell 4
  have c5 : w.cell? ⟨gl, 5, none⟩ = some (ival (L.headD Msg.zero).v) := h.blk.cell 5
  have c6 : w.cell? ⟨gl, 6, none⟩ = some (.bool (!L.isEmpty)) := h.blk.cell 6
  have hlt := h.blk.lt
  have hne : w.heap.size ≠ gl := by omega
  clear h
  generalize L.headD Msg.zero = m at *
  generalize (!L.isEmpty) = b at *
  go_enter Try.func15, Try.ntmps15
  go_wp2_with fail
  go_region
  all_goals
    go_wp2_with fail
    refine end_msg2 rfl rfl rfl (heap_alloc_new w _) rfl rfl ?_
    exact ⟨rfl, ((Below.refl _ _).alloc (Nat.le_refl _) _).drew⟩
end Go.Proofs.Ytpnkobdnifopiaa
