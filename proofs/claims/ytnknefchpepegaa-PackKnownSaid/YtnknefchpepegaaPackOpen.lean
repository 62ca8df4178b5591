/-
  A slice of slices of bytes that came in. Numbers and bytes laid one behind the other, in plain Lean.
-/
import Derived.Test.YtnknefchpepegaaActs
import Derived.Test.YtnknefchpepegaaPackWorks
namespace Go.Proofs.Ytnknefchpepegaa
set_option linter.unusedVariables false
set_option linter.unusedSimpArgs false
open Go.ChangeShapes Go.WideShapes Go.Deep Go.RowKit
def Blobs (W : World) (B : Nat) (A : Option Addr) (n : Nat) (Q : Nat → ActB) : Prop :=
  ∀ i, i < n → ∃ ad, A = some ad ∧ ad.block < B ∧ W.cell? (ad.add i) = some (Q i).val ∧ (Q i).m ≤ (Q i).c ∧ (Q i).c ≤ maxLen ∧ Reads W B 1 (Q i).A (Q i).m ((Q i).bs.map bval)
theorem Blobs.below {W W' : World} {B n : Nat} {A : Option Addr} {Q : Nat → ActB} (h : Blobs W B A n Q) (hb : Below B W W') : Blobs W' B A n Q := fun i hi => by
  obtain ⟨ad, hA, hB, hv, h1, h2, hr⟩ := h i hi
  exact ⟨ad, hA, hB, (hb.cell (p := ad.add i) (by rw [block_of_add]; exact hB)).trans hv, h1, h2, hr.below hb⟩
section
variable {H : Type} {enc : TypeId × Value → H} {P : Program} {W : World}
theorem open_blobs {t tb te : TypeId} {v : Value} {d : DataW H} {p : List MemPlace} {b0 : Nat} (ht : P.underlying t = some (.slice tb)) (hC : P.cellsOf tb = 1) (hb : P.underlying tb = some (.slice te)) (hte : P.underlying te = some (.int .u8)) (hc1 : P.cellsOf te = 1)
    (hok : Value.okWide P W .any b0 t v) (h : DataW.Trod enc P W 0 (fun _ => true) true t v d p) :
    ∃ (A : Option Addr) (n c : Nat) (Q : Nat → ActB), v = .slice A n c ∧ n ≤ c ∧ c ≤ maxLen ∧ Blobs W W.heap.size A n Q := by
  obtain ⟨a, n, c, rfl⟩ := okWide_slice ht hok
  obtain ⟨fuel, hf⟩ := h
  rcases open_slice ht hf with ⟨hcs, _⟩ | ⟨x, len, cap, mm, k, D, Pl, hcs, _, hl, hmx, hmm, _, hi⟩
  · simp [Value.cells] at hcs
    obtain ⟨rfl, rfl, rfl⟩ := hcs
    exact ⟨none, 0, 0, fun _ => ⟨none, 0, 0, []⟩, rfl, Nat.le_refl _, by simp [maxLen], fun i hi => absurd hi (by omega)⟩
  · simp [Value.cells] at hcs
    obtain ⟨rfl, rfl, rfl⟩ := hcs
    have hcell : ∀ i, i < n → ∃ q : ActB, W.cell? (x.add i) = some q.val ∧ q.m ≤ q.c ∧ q.c ≤ maxLen ∧ Reads W W.heap.size 1 q.A q.m (q.bs.map bval) := by
      intro i hin
      obtain ⟨cs, hc, ht'⟩ := hi i (by simp at hmm; omega)
      rw [hC] at hc
      obtain ⟨_, _, hat⟩ := World.cells?_some hc
      have hv1 : ∃ v, cs = [v] := by
        rcases open_ints hb hte hc1 ht' with ⟨hcs, _⟩ | ⟨x, l, c', zs, hcs, _⟩
        · exact ⟨_, hcs⟩
        · exact ⟨_, hcs⟩
      obtain ⟨v, rfl⟩ := hv1
      obtain ⟨q, rfl, h1, h2, h3⟩ := bytes_trod hb hte hc1 ht'
      have h0 := hat 0 (by omega)
      rw [Go.Deep.add_add, Nat.mul_one, Nat.add_zero] at h0
      exact ⟨q, h0, h1, h2, h3⟩
    have hcell' : ∀ i, ∃ q : ActB, i < n → W.cell? (x.add i) = some q.val ∧ q.m ≤ q.c ∧ q.c ≤ maxLen ∧ Reads W W.heap.size 1 q.A q.m (q.bs.map bval) := fun i => by
      by_cases h : i < n
      · obtain ⟨q, hq⟩ := hcell i h
        exact ⟨q, fun _ => hq⟩
      · exact ⟨⟨none, 0, 0, []⟩, fun h' => absurd h' h⟩
    obtain ⟨Q, hQ⟩ := Classical.axiomOfChoice hcell'
    refine ⟨some x, n, c, Q, rfl, hl, hmx, fun i hin => ⟨x, rfl, ?_, hQ i hin⟩⟩
    have := World.block_lt_of_cell? W _ (hQ i hin).1
    rw [block_of_add] at this
    exact this
end
/-- Items one behind the other: so many from number s on. -/
def many (f : Nat → List UInt8) (s : Nat) : Nat → List UInt8
  | 0 => []
  | n + 1 => f s ++ many f (s + 1) n
theorem many_end (f : Nat → List UInt8) : ∀ (n s : Nat), many f s (n + 1) = many f s n ++ f (s + n) := by
  intro n
  induction n with
  | zero => intro s; simp [many]
  | succ n ih =>
    intro s
    rw [many, ih (s + 1), many, List.append_assoc, show s + 1 + n = s + (n + 1) by omega]
theorem many_le (f : Nat → List UInt8) (c : Nat) : ∀ (n s : Nat), (∀ i, s ≤ i → i < s + n → (f i).length ≤ c) → (many f s n).length ≤ n * c := by
  intro n
  induction n with
  | zero => intro s _; simp [many]
  | succ n ih =>
    intro s h
    have h1 := ih (s + 1) (fun i h1 h2 => h i (by omega) (by omega))
    have h2 := h s (Nat.le_refl _) (by omega)
    rw [many, List.length_append, Nat.succ_mul]
    omega
/-- What is laid of a number and, if there are any that are short enough, of bytes. -/
def blobItem (ok : Bool) (x : List UInt8) : List UInt8 := if ok then vint (zig (x.length : Int)) ++ x else []
theorem rd_lay (v : Nat) (hv : v < 18446744073709551616) (l : List UInt8) : rd (vint v ++ l) 0 0 = .inr (v, l) := by
  have h := rd_vint l v 0 0 (by show v ≤ 18446744073709551615; omega) (.inl rfl)
  simpa using h
theorem rd_int (z : Int) (h1 : -9223372036854775808 ≤ z) (h2 : z ≤ 9223372036854775807) (l : List UInt8) : rdNum (rd (vint (zig z) ++ l) 0 0) (vint (zig z) ++ l) 0 = (z, l, 0) := by
  rw [rd_lay _ (zig_lt z h1 h2), rdNum_inr, zag_zig]
theorem rd_blob (x l : List UInt8) (hx : x.length ≤ 2147483647) : rdBytes (blb (vint (zig (x.length : Int)) ++ x ++ l)) (vint (zig (x.length : Int)) ++ x ++ l) 0 = (x, l, 0) := by
  have h : blb (vint (zig (x.length : Int)) ++ x ++ l) = .inr (x, l) := by
    unfold blb cnt
    rw [List.append_assoc, rd_lay _ (zig_lt _ (by omega) (by omega))]
    simp only [zag_zig]
    rw [if_neg (by omega)]
    simp only [Int.toNat_natCast, zag_zig]
    rw [if_neg (by rw [List.length_append]; omega), List.take_left, List.drop_left]
  rw [h, rdBytes_inr]
end Go.Proofs.Ytnknefchpepegaa
