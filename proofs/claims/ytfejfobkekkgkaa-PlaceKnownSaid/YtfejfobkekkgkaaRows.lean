/-
  No cell of these rows narrows 'for every input' (looked for: loops, veiled, ifaces, maps, wideKeys, modest, calm, conditions, laid).
  DERIVED. THE GIVEN ROWS OF THIS SEAT. 3 by the template 'for every input the law returns true; each argument reads behind the call as it read before'; 0 by the template 'total and deterministic' (their statements: YtfejfobkekkgkaaTotals.lean).
  GIVEN WITH THE SEED: the statements are not yours to turn. If you find one false, say at which input.
  Laid BY PROGRAM, IN A SANDBOX (cutbox-rows.mjs): the forced cells as the released guide's own fill.sh prints them over the translation fda4faafeb213075… (all of the seat's roots in one cut). By AI agents, Wed Nov 11 2026. No macro, syntax, notation, axiom, sorry.
-/
import Derived.Test.YtfejfobkekkgkaaChecked
import GoSem.Claim
import GoSem.ClaimJoined
import GoSem.ClaimMapViews
import Derived.JoinedTies
import Derived.KernelRfl
namespace Go.Proofs.Ytfejfobkekkgkaa
/- THE CELL 'sum', in the pinned program and in every row, IS THE sha256 OF THE DUMP (.gsa) THAT YtfejfobkekkgkaaProg.lean LOADS. Nothing in Lean hashes anything: it is a label: what it is worth is what the hold of that sum in a sandbox is worth. -/
noncomputable def Try.pinned : Pinned := { name := "ytfejfobkekkgkaa", sum := "fda4faafeb213075f1dd0cf37e6588b02d2ffcadb04c79084eceee4892484886", checked := Try.checked }
namespace Rows
def none {H : Type} : Left H := { results := [], args := [] }

/-- 'oxbowlaw23.PlacePuts': WHATEVER THE INPUT: true; the input reads as it did. -/
def placePutsSpec : ChangeSpec := { name := "placePuts", fn := fun _ => fun
  | [d1, d2, d3] => { results := [.lit (.bool true)], args := [d1, d2, d3] }
  | _ => none }
def placePutsRow : OpenClaim := { program := "ytfejfobkekkgkaa", sum := "fda4faafeb213075f1dd0cf37e6588b02d2ffcadb04c79084eceee4892484886", func := "oxbow/oxbowlaw23.PlacePuts", spec := "placePuts", apart := false }
def PlacePutsSaid : Prop := placePutsRow.holds Try.pinned (OpenSpec.ofChange placePutsSpec)

/-- ITS FALSE NEIGHBOUR: 'it returns false'. Refute it at one input. -/
def placePutsWrong : ChangeSpec := { name := "placePuts", fn := fun _ => fun
  | [d1, d2, d3] => { results := [.lit (.bool false)], args := [d1, d2, d3] }
  | _ => none }
def PlacePutsWrongFalsely : Prop := placePutsRow.holds Try.pinned (OpenSpec.ofChange placePutsWrong)

/-- 'oxbowlaw23.PlaceEven': WHATEVER THE INPUT: true; the input reads as it did. -/
def placeEvenSpec : ChangeSpec := { name := "placeEven", fn := fun _ => fun
  | [d1, d2, d3] => { results := [.lit (.bool true)], args := [d1, d2, d3] }
  | _ => none }
def placeEvenRow : OpenClaim := { program := "ytfejfobkekkgkaa", sum := "fda4faafeb213075f1dd0cf37e6588b02d2ffcadb04c79084eceee4892484886", func := "oxbow/oxbowlaw23.PlaceEven", spec := "placeEven", apart := false }
def PlaceEvenSaid : Prop := placeEvenRow.holds Try.pinned (OpenSpec.ofChange placeEvenSpec)

/-- ITS FALSE NEIGHBOUR: 'it returns false'. Refute it at one input. -/
def placeEvenWrong : ChangeSpec := { name := "placeEven", fn := fun _ => fun
  | [d1, d2, d3] => { results := [.lit (.bool false)], args := [d1, d2, d3] }
  | _ => none }
def PlaceEvenWrongFalsely : Prop := placeEvenRow.holds Try.pinned (OpenSpec.ofChange placeEvenWrong)

/-- 'oxbowlaw23.PlaceKnown': WHATEVER THE INPUT: true; the input reads as it did. -/
def placeKnownSpec : ChangeSpec := { name := "placeKnown", fn := fun _ => fun
  | [] => { results := [.lit (.bool true)], args := [] }
  | _ => none }
def placeKnownRow : OpenClaim := { program := "ytfejfobkekkgkaa", sum := "fda4faafeb213075f1dd0cf37e6588b02d2ffcadb04c79084eceee4892484886", func := "oxbow/oxbowlaw23.PlaceKnown", spec := "placeKnown", apart := false }
def PlaceKnownSaid : Prop := placeKnownRow.holds Try.pinned (OpenSpec.ofChange placeKnownSpec)

/-- ITS FALSE NEIGHBOUR: 'it returns false'. Refute it at one input. -/
def placeKnownWrong : ChangeSpec := { name := "placeKnown", fn := fun _ => fun
  | [] => { results := [.lit (.bool false)], args := [] }
  | _ => none }
def PlaceKnownWrongFalsely : Prop := placeKnownRow.holds Try.pinned (OpenSpec.ofChange placeKnownWrong)

/- THE SECOND FORM. 'bulk': how many values and letters a reading holds, each counted each time it is reached (what is shared counts as often as it is met; a slice's spare places count too). A statement '..UptoSaid' is the law's where the arguments, and the package variables that the reading takes, are together of bulk at most 1048576: NARROWER than '..Said'. Prove '..Said' where nothing that the law and all that it calls make is longer than what came in: it says more and counts as full. Else prove '..UptoSaid'. A law counts once. -/
mutual
def uptoBulk {H : Type} : DataW H → Nat
  | .lit (.string bytes) => bytes.length + 1
  | .lit _ => 1
  | .nil => 1
  | .ptr d => uptoBulk d + 1
  | .slice elems spare => uptoBulkAll elems + uptoBulkAll spare + 1
  | .agg parts => uptoBulkAll parts + 1
  | .iface _ d => uptoBulk d + 1
  | .map entries => uptoBulkEntries entries + 1
  | .held _ => 1
def uptoBulkAll {H : Type} : List (DataW H) → Nat
  | [] => 0
  | d :: r => uptoBulk d + uptoBulkAll r
def uptoBulkEntries {H : Type} : List (Lit × DataW H) → Nat
  | [] => 0
  | x :: r => uptoBulkEntry x + uptoBulkEntries r
def uptoBulkEntry {H : Type} : Lit × DataW H → Nat
  | (.string bytes, d) => bytes.length + uptoBulk d + 1
  | (_, d) => uptoBulk d + 1
 end
def uptoSmall : (H : Type) → List (DataW H) → Bool := fun _ ds => decide (uptoBulkAll ds ≤ 1048576)
def OpenSpec.upto (s : _root_.Go.ChangeSpec) : _root_.Go.OpenSpec := { _root_.Go.OpenSpec.ofChange s with cond := some uptoSmall }

/-- 'oxbowlaw23.PlacePuts', WHERE WHAT IT READS IS OF BULK AT MOST 1048576: true; the input reads as it did. -/
def placePutsUptoRow : OpenClaim := { program := "ytfejfobkekkgkaa", sum := "fda4faafeb213075f1dd0cf37e6588b02d2ffcadb04c79084eceee4892484886", func := "oxbow/oxbowlaw23.PlacePuts", spec := "placePuts", apart := false, narrowed := true }
def PlacePutsUptoSaid : Prop := placePutsUptoRow.holds Try.pinned (OpenSpec.upto placePutsSpec)

/-- 'oxbowlaw23.PlaceEven', WHERE WHAT IT READS IS OF BULK AT MOST 1048576: true; the input reads as it did. -/
def placeEvenUptoRow : OpenClaim := { program := "ytfejfobkekkgkaa", sum := "fda4faafeb213075f1dd0cf37e6588b02d2ffcadb04c79084eceee4892484886", func := "oxbow/oxbowlaw23.PlaceEven", spec := "placeEven", apart := false, narrowed := true }
def PlaceEvenUptoSaid : Prop := placeEvenUptoRow.holds Try.pinned (OpenSpec.upto placeEvenSpec)

/-- 'oxbowlaw23.PlaceKnown', WHERE WHAT IT READS IS OF BULK AT MOST 1048576: true; the input reads as it did. -/
def placeKnownUptoRow : OpenClaim := { program := "ytfejfobkekkgkaa", sum := "fda4faafeb213075f1dd0cf37e6588b02d2ffcadb04c79084eceee4892484886", func := "oxbow/oxbowlaw23.PlaceKnown", spec := "placeKnown", apart := false, narrowed := true }
def PlaceKnownUptoSaid : Prop := placeKnownUptoRow.holds Try.pinned (OpenSpec.upto placeKnownSpec)

end Rows
end Go.Proofs.Ytfejfobkekkgkaa
