/-
  No cell of these rows narrows 'for every input' (looked for: loops, veiled, ifaces, maps, wideKeys, modest, calm, conditions, laid).
  DERIVED. THE GIVEN ROWS OF THIS SEAT. 5 by the template 'for every input the law returns true; each argument reads behind the call as it read before'; 0 by the template 'total and deterministic' (their statements: YtpnkobdnifopiaaTotals.lean).
  GIVEN WITH THE SEED: the statements are not yours to turn. If you find one false, say at which input.
  Laid BY PROGRAM, IN A SANDBOX (cutbox-rows.mjs): the forced cells as the released guide's own fill.sh prints them over the translation dacca26c7ac8d2ce… (all of the seat's roots in one cut). By AI agents, Wed Nov 11 2026. No macro, syntax, notation, axiom, sorry.
-/
import Derived.Test.YtpnkobdnifopiaaChecked
import GoSem.Claim
import GoSem.ClaimJoined
import GoSem.ClaimMapViews
import Derived.JoinedTies
import Derived.KernelRfl
namespace Go.Proofs.Ytpnkobdnifopiaa
/- THE CELL 'sum', in the pinned program and in every row, IS THE sha256 OF THE DUMP (.gsa) THAT YtpnkobdnifopiaaProg.lean LOADS. Nothing in Lean hashes anything: it is a label: what it is worth is what the hold of that sum in a sandbox is worth. -/
noncomputable def Try.pinned : Pinned := { name := "ytpnkobdnifopiaa", sum := "dacca26c7ac8d2ced3c30118f036a9ed98fad75e59f2149f7883044a8ba7367a", checked := Try.checked }
namespace Rows
def none {H : Type} : Left H := { results := [], args := [] }

/-- 'oxbowlaw14.LinkRuns': WHATEVER THE INPUT: true; the input reads as it did. -/
def linkRunsSpec : ChangeSpec := { name := "linkRuns", fn := fun _ => fun
  | [d1, d2] => { results := [.lit (.bool true)], args := [d1, d2] }
  | _ => none }
def linkRunsRow : OpenClaim := { program := "ytpnkobdnifopiaa", sum := "dacca26c7ac8d2ced3c30118f036a9ed98fad75e59f2149f7883044a8ba7367a", func := "oxbow/oxbowlaw14.LinkRuns", spec := "linkRuns", apart := false }
def LinkRunsSaid : Prop := linkRunsRow.holds Try.pinned (OpenSpec.ofChange linkRunsSpec)

/-- ITS FALSE NEIGHBOUR: 'it returns false'. Refute it at one input. -/
def linkRunsWrong : ChangeSpec := { name := "linkRuns", fn := fun _ => fun
  | [d1, d2] => { results := [.lit (.bool false)], args := [d1, d2] }
  | _ => none }
def LinkRunsWrongFalsely : Prop := linkRunsRow.holds Try.pinned (OpenSpec.ofChange linkRunsWrong)

/-- 'oxbowlaw14.LinkOrder': WHATEVER THE INPUT: true; the input reads as it did. -/
def linkOrderSpec : ChangeSpec := { name := "linkOrder", fn := fun _ => fun
  | [d1, d2] => { results := [.lit (.bool true)], args := [d1, d2] }
  | _ => none }
def linkOrderRow : OpenClaim := { program := "ytpnkobdnifopiaa", sum := "dacca26c7ac8d2ced3c30118f036a9ed98fad75e59f2149f7883044a8ba7367a", func := "oxbow/oxbowlaw14.LinkOrder", spec := "linkOrder", apart := false }
def LinkOrderSaid : Prop := linkOrderRow.holds Try.pinned (OpenSpec.ofChange linkOrderSpec)

/-- ITS FALSE NEIGHBOUR: 'it returns false'. Refute it at one input. -/
def linkOrderWrong : ChangeSpec := { name := "linkOrder", fn := fun _ => fun
  | [d1, d2] => { results := [.lit (.bool false)], args := [d1, d2] }
  | _ => none }
def LinkOrderWrongFalsely : Prop := linkOrderRow.holds Try.pinned (OpenSpec.ofChange linkOrderWrong)

/-- 'oxbowlaw14.LinkPeeks': WHATEVER THE INPUT: true; the input reads as it did. -/
def linkPeeksSpec : ChangeSpec := { name := "linkPeeks", fn := fun _ => fun
  | [d] => { results := [.lit (.bool true)], args := [d] }
  | _ => none }
def linkPeeksRow : OpenClaim := { program := "ytpnkobdnifopiaa", sum := "dacca26c7ac8d2ced3c30118f036a9ed98fad75e59f2149f7883044a8ba7367a", func := "oxbow/oxbowlaw14.LinkPeeks", spec := "linkPeeks", apart := false }
def LinkPeeksSaid : Prop := linkPeeksRow.holds Try.pinned (OpenSpec.ofChange linkPeeksSpec)

/-- ITS FALSE NEIGHBOUR: 'it returns false'. Refute it at one input. -/
def linkPeeksWrong : ChangeSpec := { name := "linkPeeks", fn := fun _ => fun
  | [d] => { results := [.lit (.bool false)], args := [d] }
  | _ => none }
def LinkPeeksWrongFalsely : Prop := linkPeeksRow.holds Try.pinned (OpenSpec.ofChange linkPeeksWrong)

/-- 'oxbowlaw14.LinkForgets': WHATEVER THE INPUT: true; the input reads as it did. -/
def linkForgetsSpec : ChangeSpec := { name := "linkForgets", fn := fun _ => fun
  | [d1, d2, d3, d4] => { results := [.lit (.bool true)], args := [d1, d2, d3, d4] }
  | _ => none }
def linkForgetsRow : OpenClaim := { program := "ytpnkobdnifopiaa", sum := "dacca26c7ac8d2ced3c30118f036a9ed98fad75e59f2149f7883044a8ba7367a", func := "oxbow/oxbowlaw14.LinkForgets", spec := "linkForgets", apart := false }
def LinkForgetsSaid : Prop := linkForgetsRow.holds Try.pinned (OpenSpec.ofChange linkForgetsSpec)

/-- ITS FALSE NEIGHBOUR: 'it returns false'. Refute it at one input. -/
def linkForgetsWrong : ChangeSpec := { name := "linkForgets", fn := fun _ => fun
  | [d1, d2, d3, d4] => { results := [.lit (.bool false)], args := [d1, d2, d3, d4] }
  | _ => none }
def LinkForgetsWrongFalsely : Prop := linkForgetsRow.holds Try.pinned (OpenSpec.ofChange linkForgetsWrong)

/-- 'oxbowlaw14.LinkKnown': WHATEVER THE INPUT: true; the input reads as it did. -/
def linkKnownSpec : ChangeSpec := { name := "linkKnown", fn := fun _ => fun
  | [] => { results := [.lit (.bool true)], args := [] }
  | _ => none }
def linkKnownRow : OpenClaim := { program := "ytpnkobdnifopiaa", sum := "dacca26c7ac8d2ced3c30118f036a9ed98fad75e59f2149f7883044a8ba7367a", func := "oxbow/oxbowlaw14.LinkKnown", spec := "linkKnown", apart := false }
def LinkKnownSaid : Prop := linkKnownRow.holds Try.pinned (OpenSpec.ofChange linkKnownSpec)

/-- ITS FALSE NEIGHBOUR: 'it returns false'. Refute it at one input. -/
def linkKnownWrong : ChangeSpec := { name := "linkKnown", fn := fun _ => fun
  | [] => { results := [.lit (.bool false)], args := [] }
  | _ => none }
def LinkKnownWrongFalsely : Prop := linkKnownRow.holds Try.pinned (OpenSpec.ofChange linkKnownWrong)

/- THE SECOND FORM. 'bulk': how many values and letters a reading holds, each counted each time it is reached (what is shared counts as often as it is met; a slice's spare places count too). A statement '..UptoSaid' is the law's where the arguments, and the package variables that the reading takes, are together of bulk at most 1048576: NARROWER than '..Said'. Prove '..Said' where nothing that the law and all that it calls make is longer than what came in: it says more and counts as full. Else prove '..UptoSaid'. A law counts once. -/
mutual
def uptoBulk {H : Type} : DataW H → Nat
  | .lit (.string bytes) => bytes.length + 1
  | .lit _ => 1
  | .nil => 1
  | .ptr d => uptoBulk d + 1
  | .slice elems spare => uptoBulkAll elems + uptoBulkAll spare + 1
  | .agg parts => uptoBulkAll parts + 1
  | .iface _ d => uptoBulk d + 1
  | .map entries => uptoBulkEntries entries + 1
  | .held _ => 1
def uptoBulkAll {H : Type} : List (DataW H) → Nat
  | [] => 0
  | d :: r => uptoBulk d + uptoBulkAll r
def uptoBulkEntries {H : Type} : List (Lit × DataW H) → Nat
  | [] => 0
  | x :: r => uptoBulkEntry x + uptoBulkEntries r
def uptoBulkEntry {H : Type} : Lit × DataW H → Nat
  | (.string bytes, d) => bytes.length + uptoBulk d + 1
  | (_, d) => uptoBulk d + 1
 end
def uptoSmall : (H : Type) → List (DataW H) → Bool := fun _ ds => decide (uptoBulkAll ds ≤ 1048576)
def OpenSpec.upto (s : _root_.Go.ChangeSpec) : _root_.Go.OpenSpec := { _root_.Go.OpenSpec.ofChange s with cond := some uptoSmall }

/-- 'oxbowlaw14.LinkRuns', WHERE WHAT IT READS IS OF BULK AT MOST 1048576: true; the input reads as it did. -/
def linkRunsUptoRow : OpenClaim := { program := "ytpnkobdnifopiaa", sum := "dacca26c7ac8d2ced3c30118f036a9ed98fad75e59f2149f7883044a8ba7367a", func := "oxbow/oxbowlaw14.LinkRuns", spec := "linkRuns", apart := false, narrowed := true }
def LinkRunsUptoSaid : Prop := linkRunsUptoRow.holds Try.pinned (OpenSpec.upto linkRunsSpec)

/-- 'oxbowlaw14.LinkOrder', WHERE WHAT IT READS IS OF BULK AT MOST 1048576: true; the input reads as it did. -/
def linkOrderUptoRow : OpenClaim := { program := "ytpnkobdnifopiaa", sum := "dacca26c7ac8d2ced3c30118f036a9ed98fad75e59f2149f7883044a8ba7367a", func := "oxbow/oxbowlaw14.LinkOrder", spec := "linkOrder", apart := false, narrowed := true }
def LinkOrderUptoSaid : Prop := linkOrderUptoRow.holds Try.pinned (OpenSpec.upto linkOrderSpec)

/-- 'oxbowlaw14.LinkPeeks', WHERE WHAT IT READS IS OF BULK AT MOST 1048576: true; the input reads as it did. -/
def linkPeeksUptoRow : OpenClaim := { program := "ytpnkobdnifopiaa", sum := "dacca26c7ac8d2ced3c30118f036a9ed98fad75e59f2149f7883044a8ba7367a", func := "oxbow/oxbowlaw14.LinkPeeks", spec := "linkPeeks", apart := false, narrowed := true }
def LinkPeeksUptoSaid : Prop := linkPeeksUptoRow.holds Try.pinned (OpenSpec.upto linkPeeksSpec)

/-- 'oxbowlaw14.LinkForgets', WHERE WHAT IT READS IS OF BULK AT MOST 1048576: true; the input reads as it did. -/
def linkForgetsUptoRow : OpenClaim := { program := "ytpnkobdnifopiaa", sum := "dacca26c7ac8d2ced3c30118f036a9ed98fad75e59f2149f7883044a8ba7367a", func := "oxbow/oxbowlaw14.LinkForgets", spec := "linkForgets", apart := false, narrowed := true }
def LinkForgetsUptoSaid : Prop := linkForgetsUptoRow.holds Try.pinned (OpenSpec.upto linkForgetsSpec)

/-- 'oxbowlaw14.LinkKnown', WHERE WHAT IT READS IS OF BULK AT MOST 1048576: true; the input reads as it did. -/
def linkKnownUptoRow : OpenClaim := { program := "ytpnkobdnifopiaa", sum := "dacca26c7ac8d2ced3c30118f036a9ed98fad75e59f2149f7883044a8ba7367a", func := "oxbow/oxbowlaw14.LinkKnown", spec := "linkKnown", apart := false, narrowed := true }
def LinkKnownUptoSaid : Prop := linkKnownUptoRow.holds Try.pinned (OpenSpec.upto linkKnownSpec)

end Rows
end Go.Proofs.Ytpnkobdnifopiaa
