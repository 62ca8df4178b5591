/-
  No cell of these rows narrows 'for every input' (looked for: loops, veiled, ifaces, maps, wideKeys, modest, calm, conditions, laid).
  DERIVED. THE GIVEN ROWS OF THIS SEAT. 4 by the template 'for every input the law returns true; each argument reads behind the call as it read before'; 0 by the template 'total and deterministic' (their statements: YtpokbdchbceenaaTotals.lean).
  GIVEN WITH THE SEED: the statements are not yours to turn. If you find one false, say at which input.
  Laid BY PROGRAM, IN A SANDBOX (cutbox-rows.mjs): the forced cells as the released guide's own fill.sh prints them over the translation eeeb47c6ff874314… (all of the seat's roots in one cut). By AI agents, Wed Nov 11 2026. No macro, syntax, notation, axiom, sorry.
-/
import Derived.Test.YtpokbdchbceenaaChecked
import GoSem.Claim
import GoSem.ClaimJoined
import GoSem.ClaimMapViews
import Derived.JoinedTies
import Derived.KernelRfl
namespace Go.Proofs.Ytpokbdchbceenaa
/- THE CELL 'sum', in the pinned program and in every row, IS THE sha256 OF THE DUMP (.gsa) THAT YtpokbdchbceenaaProg.lean LOADS. Nothing in Lean hashes anything: it is a label: what it is worth is what the hold of that sum in a sandbox is worth. -/
noncomputable def Try.pinned : Pinned := { name := "ytpokbdchbceenaa", sum := "eeeb47c6ff874314e02f5179c0b3f0eb7f8d9f618afabbe19fd5b806a46e1a32", checked := Try.checked }
namespace Rows
def none {H : Type} : Left H := { results := [], args := [] }

/-- 'oxbowlaw10.CalcChecks': WHATEVER THE INPUT: true; the input reads as it did. -/
def calcChecksSpec : ChangeSpec := { name := "calcChecks", fn := fun _ => fun
  | [d1, d2] => { results := [.lit (.bool true)], args := [d1, d2] }
  | _ => none }
def calcChecksRow : OpenClaim := { program := "ytpokbdchbceenaa", sum := "eeeb47c6ff874314e02f5179c0b3f0eb7f8d9f618afabbe19fd5b806a46e1a32", func := "oxbow/oxbowlaw10.CalcChecks", spec := "calcChecks", apart := false }
def CalcChecksSaid : Prop := calcChecksRow.holds Try.pinned (OpenSpec.ofChange calcChecksSpec)

/-- ITS FALSE NEIGHBOUR: 'it returns false'. Refute it at one input. -/
def calcChecksWrong : ChangeSpec := { name := "calcChecks", fn := fun _ => fun
  | [d1, d2] => { results := [.lit (.bool false)], args := [d1, d2] }
  | _ => none }
def CalcChecksWrongFalsely : Prop := calcChecksRow.holds Try.pinned (OpenSpec.ofChange calcChecksWrong)

/-- 'oxbowlaw10.CalcFolds': WHATEVER THE INPUT: true; the input reads as it did. -/
def calcFoldsSpec : ChangeSpec := { name := "calcFolds", fn := fun _ => fun
  | [d1, d2, d3] => { results := [.lit (.bool true)], args := [d1, d2, d3] }
  | _ => none }
def calcFoldsRow : OpenClaim := { program := "ytpokbdchbceenaa", sum := "eeeb47c6ff874314e02f5179c0b3f0eb7f8d9f618afabbe19fd5b806a46e1a32", func := "oxbow/oxbowlaw10.CalcFolds", spec := "calcFolds", apart := false }
def CalcFoldsSaid : Prop := calcFoldsRow.holds Try.pinned (OpenSpec.ofChange calcFoldsSpec)

/-- ITS FALSE NEIGHBOUR: 'it returns false'. Refute it at one input. -/
def calcFoldsWrong : ChangeSpec := { name := "calcFolds", fn := fun _ => fun
  | [d1, d2, d3] => { results := [.lit (.bool false)], args := [d1, d2, d3] }
  | _ => none }
def CalcFoldsWrongFalsely : Prop := calcFoldsRow.holds Try.pinned (OpenSpec.ofChange calcFoldsWrong)

/-- 'oxbowlaw10.CalcMaps': WHATEVER THE INPUT: true; the input reads as it did. -/
def calcMapsSpec : ChangeSpec := { name := "calcMaps", fn := fun _ => fun
  | [d1, d2] => { results := [.lit (.bool true)], args := [d1, d2] }
  | _ => none }
def calcMapsRow : OpenClaim := { program := "ytpokbdchbceenaa", sum := "eeeb47c6ff874314e02f5179c0b3f0eb7f8d9f618afabbe19fd5b806a46e1a32", func := "oxbow/oxbowlaw10.CalcMaps", spec := "calcMaps", apart := false }
def CalcMapsSaid : Prop := calcMapsRow.holds Try.pinned (OpenSpec.ofChange calcMapsSpec)

/-- ITS FALSE NEIGHBOUR: 'it returns false'. Refute it at one input. -/
def calcMapsWrong : ChangeSpec := { name := "calcMaps", fn := fun _ => fun
  | [d1, d2] => { results := [.lit (.bool false)], args := [d1, d2] }
  | _ => none }
def CalcMapsWrongFalsely : Prop := calcMapsRow.holds Try.pinned (OpenSpec.ofChange calcMapsWrong)

/-- 'oxbowlaw10.CalcFans': WHATEVER THE INPUT: true; the input reads as it did. -/
def calcFansSpec : ChangeSpec := { name := "calcFans", fn := fun _ => fun
  | [d1, d2, d3] => { results := [.lit (.bool true)], args := [d1, d2, d3] }
  | _ => none }
def calcFansRow : OpenClaim := { program := "ytpokbdchbceenaa", sum := "eeeb47c6ff874314e02f5179c0b3f0eb7f8d9f618afabbe19fd5b806a46e1a32", func := "oxbow/oxbowlaw10.CalcFans", spec := "calcFans", apart := false }
def CalcFansSaid : Prop := calcFansRow.holds Try.pinned (OpenSpec.ofChange calcFansSpec)

/-- ITS FALSE NEIGHBOUR: 'it returns false'. Refute it at one input. -/
def calcFansWrong : ChangeSpec := { name := "calcFans", fn := fun _ => fun
  | [d1, d2, d3] => { results := [.lit (.bool false)], args := [d1, d2, d3] }
  | _ => none }
def CalcFansWrongFalsely : Prop := calcFansRow.holds Try.pinned (OpenSpec.ofChange calcFansWrong)

/- THE SECOND FORM. 'bulk': how many values and letters a reading holds, each counted each time it is reached (what is shared counts as often as it is met; a slice's spare places count too). A statement '..UptoSaid' is the law's where the arguments, and the package variables that the reading takes, are together of bulk at most 1048576: NARROWER than '..Said'. Prove '..Said' where nothing that the law and all that it calls make is longer than what came in: it says more and counts as full. Else prove '..UptoSaid'. A law counts once. -/
mutual
def uptoBulk {H : Type} : DataW H → Nat
  | .lit (.string bytes) => bytes.length + 1
  | .lit _ => 1
  | .nil => 1
  | .ptr d => uptoBulk d + 1
  | .slice elems spare => uptoBulkAll elems + uptoBulkAll spare + 1
  | .agg parts => uptoBulkAll parts + 1
  | .iface _ d => uptoBulk d + 1
  | .map entries => uptoBulkEntries entries + 1
  | .held _ => 1
def uptoBulkAll {H : Type} : List (DataW H) → Nat
  | [] => 0
  | d :: r => uptoBulk d + uptoBulkAll r
def uptoBulkEntries {H : Type} : List (Lit × DataW H) → Nat
  | [] => 0
  | x :: r => uptoBulkEntry x + uptoBulkEntries r
def uptoBulkEntry {H : Type} : Lit × DataW H → Nat
  | (.string bytes, d) => bytes.length + uptoBulk d + 1
  | (_, d) => uptoBulk d + 1
 end
def uptoSmall : (H : Type) → List (DataW H) → Bool := fun _ ds => decide (uptoBulkAll ds ≤ 1048576)
def OpenSpec.upto (s : _root_.Go.ChangeSpec) : _root_.Go.OpenSpec := { _root_.Go.OpenSpec.ofChange s with cond := some uptoSmall }

/-- 'oxbowlaw10.CalcChecks', WHERE WHAT IT READS IS OF BULK AT MOST 1048576: true; the input reads as it did. -/
def calcChecksUptoRow : OpenClaim := { program := "ytpokbdchbceenaa", sum := "eeeb47c6ff874314e02f5179c0b3f0eb7f8d9f618afabbe19fd5b806a46e1a32", func := "oxbow/oxbowlaw10.CalcChecks", spec := "calcChecks", apart := false, narrowed := true }
def CalcChecksUptoSaid : Prop := calcChecksUptoRow.holds Try.pinned (OpenSpec.upto calcChecksSpec)

/-- 'oxbowlaw10.CalcFolds', WHERE WHAT IT READS IS OF BULK AT MOST 1048576: true; the input reads as it did. -/
def calcFoldsUptoRow : OpenClaim := { program := "ytpokbdchbceenaa", sum := "eeeb47c6ff874314e02f5179c0b3f0eb7f8d9f618afabbe19fd5b806a46e1a32", func := "oxbow/oxbowlaw10.CalcFolds", spec := "calcFolds", apart := false, narrowed := true }
def CalcFoldsUptoSaid : Prop := calcFoldsUptoRow.holds Try.pinned (OpenSpec.upto calcFoldsSpec)

/-- 'oxbowlaw10.CalcMaps', WHERE WHAT IT READS IS OF BULK AT MOST 1048576: true; the input reads as it did. -/
def calcMapsUptoRow : OpenClaim := { program := "ytpokbdchbceenaa", sum := "eeeb47c6ff874314e02f5179c0b3f0eb7f8d9f618afabbe19fd5b806a46e1a32", func := "oxbow/oxbowlaw10.CalcMaps", spec := "calcMaps", apart := false, narrowed := true }
def CalcMapsUptoSaid : Prop := calcMapsUptoRow.holds Try.pinned (OpenSpec.upto calcMapsSpec)

/-- 'oxbowlaw10.CalcFans', WHERE WHAT IT READS IS OF BULK AT MOST 1048576: true; the input reads as it did. -/
def calcFansUptoRow : OpenClaim := { program := "ytpokbdchbceenaa", sum := "eeeb47c6ff874314e02f5179c0b3f0eb7f8d9f618afabbe19fd5b806a46e1a32", func := "oxbow/oxbowlaw10.CalcFans", spec := "calcFans", apart := false, narrowed := true }
def CalcFansUptoSaid : Prop := calcFansUptoRow.holds Try.pinned (OpenSpec.upto calcFansSpec)

end Rows
end Go.Proofs.Ytpokbdchbceenaa
