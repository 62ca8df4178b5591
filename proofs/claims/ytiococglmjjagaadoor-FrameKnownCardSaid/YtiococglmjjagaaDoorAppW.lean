/-
  'append(s, x...)' onto a row of the call's own, up to sums a little above 2^47 bytes.
-/
import Derived.Test.YtiococglmjjagaaDoorApp
import Derived.Deep.DeepAppendWide
namespace Go.Proofs.YtiococglmjjagaaDoor
set_option linter.unusedVariables false
set_option linter.unusedSimpArgs false
open Go.RowKit
section
variable {P : Program} {w : World} {t e : TypeId} {size bytes : Nat}
theorem wpList_app_w {ops : Array Oper} {rest : List Oper} {o : Oper} {a : Act} {Q : Exit → Act → World → Prop} (he : ElemInfo P t e size bytes) (s x : Operand) (hgd : o.guard = none)
    (ho : o.op = .call { callee := .builtin .append, args := #[s, x], argTypes := #[t, t] })
    {base : Nat} {v : Value} {n : Nat} {xs : List Value} (hown : w.ownsRow base e size v n xs) (hs : a.eval s = v)
    {B : Nat} {A : Option Addr} {m c : Nat} {news : List Value} (hx : a.eval x = .slice A m c) (hr : Reads w B size A m news) (h1 : ∀ u ∈ news, u.oneCell' = true)
    (hbytes : ((n + m) + (n + m) / 4 + 192) * bytes ≤ 281474976710656) (hn : n * bytes ≤ 140737488355328) (hbase : base ≤ w.heap.size)
    (h : ∀ v' w', w'.ownsRow base e size v' (n + m) (xs ++ news) → w.grownBy w' v.ownBlock → Below base w w' → wpList P ops Q rest (a.put o.dst v') w') : wpList P ops Q (o :: rest) a w := by
  by_cases hsm : (n + m) * bytes ≤ 140737488355328
  · exact wpList_app he s x hgd ho hown hs hx hr h1 hsm hbase fun v' w' h2 h3 _ h5 => h v' w' h2 h3 h5
  by_cases hm : m = 0
  · subst hm
    exact absurd (by simpa using hn) hsm
  obtain ⟨ht, hsz, hb, i, z, hi, hz, hsize, hby, hzs⟩ := he
  have h63 : n + m ≤ maxLen := by
    have := Nat.le_mul_of_pos_right ((n + m) + (n + m) / 4 + 192) hb
    unfold maxLen
    omega
  obtain ⟨hl, hc⟩ := hr
  obtain ⟨ad, rfl, _, hcell⟩ := hc (by omega)
  exact wpList_append_own_wide w hgd s x t ho base e i z size bytes ht hi hz hsize hby hzs hsz v n xs hs hown ad m c news hx hl hcell h1 h63 hbytes hbase fun v' w' h2 h3 _ => h v' w' h2 h3 ((Below.refl base w).grown h3 hbase (fun k hk => (hown.lt k hk).1))
end
end Go.Proofs.YtiococglmjjagaaDoor
