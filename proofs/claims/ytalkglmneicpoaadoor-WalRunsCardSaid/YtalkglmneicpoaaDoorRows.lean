/-
  NARROWER THAN 'FOR EVERY INPUT', by the rows' own cells (each row's printed sentence says how): WalLasts: laid · WalRuns: laid · WalRoom: laid · WalApart: laid.
  DERIVED. THE GIVEN ROWS OF THIS SEAT. 4 by the template 'for every input the law returns true; each argument reads behind the call as it read before'; 0 by the template 'total and deterministic' (their statements: YtalkglmneicpoaaDoorTotals.lean).
  GIVEN WITH THE SEED: the statements are not yours to turn. If you find one false, say at which input.
  Laid BY PROGRAM, IN A SANDBOX (cutbox-rows.mjs): the forced cells as the released guide's own fill.sh prints them over the translation 4d1f69c979d74f35… (all of the seat's roots in one cut). By AI agents, Wed Nov 11 2026. No macro, syntax, notation, axiom, sorry.
-/
import Derived.Test.YtalkglmneicpoaaDoorChecked
import GoSem.Claim
import GoSem.ClaimJoined
import GoSem.ClaimMapViews
import Derived.JoinedTies
import Derived.KernelRfl
namespace Go.Proofs.YtalkglmneicpoaaDoor
/- THE CELL 'sum', in the pinned program and in every row, IS THE sha256 OF THE DUMP (.gsa) THAT YtalkglmneicpoaaDoorProg.lean LOADS. Nothing in Lean hashes anything: it is a label: what it is worth is what the hold of that sum in a sandbox is worth. -/
noncomputable def Tryd.pinned : Pinned := { name := "ytalkglmneicpoaadoor", sum := "4d1f69c979d74f35f86e0528a7a7cee13200e21cdbad52be17e581c4cdc445a5", checked := Tryd.checked }
namespace Rows
def none {H : Type} : Left H := { results := [], args := [] }

/- WHAT THE LISTED PACKAGE-LEVEL VARIABLES READ AS WHEN THE CALL BEGINS. Each datum BY PROGRAM (the guide's laid-datum.mjs) off the statement by which the dump's own 'gosem.cut.vars' lays the variable. In a bare row this is a premise. The card (YtalkglmneicpoaaDoorCards.lean) ties it to the program's text. -/
def laid_oxbow_crc_table {H : Type} : DataW H := .agg [.lit (.int .u32 0), .lit (.int .u32 498536548), .lit (.int .u32 997073096), .lit (.int .u32 651767980), .lit (.int .u32 1994146192), .lit (.int .u32 1802195444), .lit (.int .u32 1303535960), .lit (.int .u32 1342533948), .lit (.int .u32 3988292384), .lit (.int .u32 4027552580), .lit (.int .u32 3604390888), .lit (.int .u32 3412177804), .lit (.int .u32 2607071920), .lit (.int .u32 2262029012), .lit (.int .u32 2685067896), .lit (.int .u32 3183342108)]
def laid_errors_errorType {H : Type} : DataW H := .iface "internal/reflectlite.rtype" (.agg [.ptr (.lit (.string [101, 114, 114, 111, 114]))])
def laid_oxbow_frame_errShort {H : Type} : DataW H := .iface "*errors.errorString" (.ptr (.agg [.lit (.string [98, 121, 116, 101, 115, 32, 101, 110, 100, 32, 116, 111, 111, 32, 101, 97, 114, 108, 121])]))

/-- 'oxbowlaw16.WalLasts': WHATEVER THE INPUT: true; the input reads as it did. -/
def walLastsSpec : ChangeSpec := { name := "walLasts", fn := fun _ => fun
  | [d1, d2, d3, d4, d5] => { results := [.lit (.bool true)], args := [d1, d2, d3, d4, d5] }
  | _ => none }
def walLastsRow : OpenClaim := { program := "ytalkglmneicpoaadoor", sum := "4d1f69c979d74f35f86e0528a7a7cee13200e21cdbad52be17e581c4cdc445a5", func := "oxbow/oxbowlaw16.WalLasts", spec := "walLasts", inPlace := ["internal/reflectlite.TypeOf", "internal/reflectlite.ValueOf", "(internal/reflectlite.Value).Type", "(internal/reflectlite.Value).IsNil", "(internal/reflectlite.Value).Elem", "(internal/reflectlite.Value).Set"], unfollowed := true, recurses := true, named := ["oxbow/frame.errShort", "oxbow/crc.table", "errors.errorType"], apart := false, laid := [("oxbow/crc.table", laid_oxbow_crc_table), ("errors.errorType", laid_errors_errorType), ("oxbow/frame.errShort", laid_oxbow_frame_errShort)] }
def WalLastsSaid : Prop := walLastsRow.holds Tryd.pinned (OpenSpec.ofChange walLastsSpec)

/-- ITS FALSE NEIGHBOUR: 'it returns false'. Refute it at one input. -/
def walLastsWrong : ChangeSpec := { name := "walLasts", fn := fun _ => fun
  | [d1, d2, d3, d4, d5] => { results := [.lit (.bool false)], args := [d1, d2, d3, d4, d5] }
  | _ => none }
def WalLastsWrongFalsely : Prop := walLastsRow.holds Tryd.pinned (OpenSpec.ofChange walLastsWrong)

/-- 'oxbowlaw16.WalRuns': WHATEVER THE INPUT: true; the input reads as it did. -/
def walRunsSpec : ChangeSpec := { name := "walRuns", fn := fun _ => fun
  | [d1, d2] => { results := [.lit (.bool true)], args := [d1, d2] }
  | _ => none }
def walRunsRow : OpenClaim := { program := "ytalkglmneicpoaadoor", sum := "4d1f69c979d74f35f86e0528a7a7cee13200e21cdbad52be17e581c4cdc445a5", func := "oxbow/oxbowlaw16.WalRuns", spec := "walRuns", inPlace := ["internal/reflectlite.TypeOf", "internal/reflectlite.ValueOf", "(internal/reflectlite.Value).Type", "(internal/reflectlite.Value).IsNil", "(internal/reflectlite.Value).Elem", "(internal/reflectlite.Value).Set"], unfollowed := true, recurses := true, named := ["oxbow/frame.errShort", "oxbow/crc.table", "errors.errorType"], apart := false, laid := [("oxbow/crc.table", laid_oxbow_crc_table), ("errors.errorType", laid_errors_errorType), ("oxbow/frame.errShort", laid_oxbow_frame_errShort)] }
def WalRunsSaid : Prop := walRunsRow.holds Tryd.pinned (OpenSpec.ofChange walRunsSpec)

/-- ITS FALSE NEIGHBOUR: 'it returns false'. Refute it at one input. -/
def walRunsWrong : ChangeSpec := { name := "walRuns", fn := fun _ => fun
  | [d1, d2] => { results := [.lit (.bool false)], args := [d1, d2] }
  | _ => none }
def WalRunsWrongFalsely : Prop := walRunsRow.holds Tryd.pinned (OpenSpec.ofChange walRunsWrong)

/-- 'oxbowlaw16.WalRoom': WHATEVER THE INPUT: true; the input reads as it did. -/
def walRoomSpec : ChangeSpec := { name := "walRoom", fn := fun _ => fun
  | [d1, d2, d3] => { results := [.lit (.bool true)], args := [d1, d2, d3] }
  | _ => none }
def walRoomRow : OpenClaim := { program := "ytalkglmneicpoaadoor", sum := "4d1f69c979d74f35f86e0528a7a7cee13200e21cdbad52be17e581c4cdc445a5", func := "oxbow/oxbowlaw16.WalRoom", spec := "walRoom", inPlace := ["internal/reflectlite.TypeOf", "internal/reflectlite.ValueOf", "(internal/reflectlite.Value).Type", "(internal/reflectlite.Value).IsNil", "(internal/reflectlite.Value).Elem", "(internal/reflectlite.Value).Set"], unfollowed := true, recurses := true, named := ["oxbow/frame.errShort", "oxbow/crc.table", "errors.errorType"], apart := false, laid := [("oxbow/crc.table", laid_oxbow_crc_table), ("errors.errorType", laid_errors_errorType), ("oxbow/frame.errShort", laid_oxbow_frame_errShort)] }
def WalRoomSaid : Prop := walRoomRow.holds Tryd.pinned (OpenSpec.ofChange walRoomSpec)

/-- ITS FALSE NEIGHBOUR: 'it returns false'. Refute it at one input. -/
def walRoomWrong : ChangeSpec := { name := "walRoom", fn := fun _ => fun
  | [d1, d2, d3] => { results := [.lit (.bool false)], args := [d1, d2, d3] }
  | _ => none }
def WalRoomWrongFalsely : Prop := walRoomRow.holds Tryd.pinned (OpenSpec.ofChange walRoomWrong)

/-- 'oxbowlaw16.WalApart': WHATEVER THE INPUT: true; the input reads as it did. -/
def walApartSpec : ChangeSpec := { name := "walApart", fn := fun _ => fun
  | [d1, d2, d3, d4] => { results := [.lit (.bool true)], args := [d1, d2, d3, d4] }
  | _ => none }
def walApartRow : OpenClaim := { program := "ytalkglmneicpoaadoor", sum := "4d1f69c979d74f35f86e0528a7a7cee13200e21cdbad52be17e581c4cdc445a5", func := "oxbow/oxbowlaw16.WalApart", spec := "walApart", inPlace := ["internal/reflectlite.TypeOf", "internal/reflectlite.ValueOf", "(internal/reflectlite.Value).Type", "(internal/reflectlite.Value).IsNil", "(internal/reflectlite.Value).Elem", "(internal/reflectlite.Value).Set"], unfollowed := true, recurses := true, named := ["oxbow/frame.errShort", "oxbow/crc.table", "errors.errorType"], apart := false, laid := [("oxbow/crc.table", laid_oxbow_crc_table), ("errors.errorType", laid_errors_errorType), ("oxbow/frame.errShort", laid_oxbow_frame_errShort)] }
def WalApartSaid : Prop := walApartRow.holds Tryd.pinned (OpenSpec.ofChange walApartSpec)

/-- ITS FALSE NEIGHBOUR: 'it returns false'. Refute it at one input. -/
def walApartWrong : ChangeSpec := { name := "walApart", fn := fun _ => fun
  | [d1, d2, d3, d4] => { results := [.lit (.bool false)], args := [d1, d2, d3, d4] }
  | _ => none }
def WalApartWrongFalsely : Prop := walApartRow.holds Tryd.pinned (OpenSpec.ofChange walApartWrong)

/- THE SECOND FORM. 'bulk': how many values and letters a reading holds, each counted each time it is reached (what is shared counts as often as it is met; a slice's spare places count too). A statement '..UptoSaid' is the law's where the arguments, and the package variables that the reading takes, are together of bulk at most 1048576: NARROWER than '..Said'. Prove '..Said' where nothing that the law and all that it calls make is longer than what came in: it says more and counts as full. Else prove '..UptoSaid'. A law counts once. -/
mutual
def uptoBulk {H : Type} : DataW H → Nat
  | .lit (.string bytes) => bytes.length + 1
  | .lit _ => 1
  | .nil => 1
  | .ptr d => uptoBulk d + 1
  | .slice elems spare => uptoBulkAll elems + uptoBulkAll spare + 1
  | .agg parts => uptoBulkAll parts + 1
  | .iface _ d => uptoBulk d + 1
  | .map entries => uptoBulkEntries entries + 1
  | .held _ => 1
def uptoBulkAll {H : Type} : List (DataW H) → Nat
  | [] => 0
  | d :: r => uptoBulk d + uptoBulkAll r
def uptoBulkEntries {H : Type} : List (Lit × DataW H) → Nat
  | [] => 0
  | x :: r => uptoBulkEntry x + uptoBulkEntries r
def uptoBulkEntry {H : Type} : Lit × DataW H → Nat
  | (.string bytes, d) => bytes.length + uptoBulk d + 1
  | (_, d) => uptoBulk d + 1
 end
def uptoSmall : (H : Type) → List (DataW H) → Bool := fun _ ds => decide (uptoBulkAll ds ≤ 1048576)
def OpenSpec.upto (s : _root_.Go.ChangeSpec) : _root_.Go.OpenSpec := { _root_.Go.OpenSpec.ofChange s with cond := some uptoSmall }

/-- 'oxbowlaw16.WalLasts', WHERE WHAT IT READS IS OF BULK AT MOST 1048576: true; the input reads as it did. -/
def walLastsUptoRow : OpenClaim := { program := "ytalkglmneicpoaadoor", sum := "4d1f69c979d74f35f86e0528a7a7cee13200e21cdbad52be17e581c4cdc445a5", func := "oxbow/oxbowlaw16.WalLasts", spec := "walLasts", inPlace := ["internal/reflectlite.TypeOf", "internal/reflectlite.ValueOf", "(internal/reflectlite.Value).Type", "(internal/reflectlite.Value).IsNil", "(internal/reflectlite.Value).Elem", "(internal/reflectlite.Value).Set"], unfollowed := true, recurses := true, named := ["oxbow/frame.errShort", "oxbow/crc.table", "errors.errorType"], apart := false, laid := [("oxbow/crc.table", laid_oxbow_crc_table), ("errors.errorType", laid_errors_errorType), ("oxbow/frame.errShort", laid_oxbow_frame_errShort)], narrowed := true }
def WalLastsUptoSaid : Prop := walLastsUptoRow.holds Tryd.pinned (OpenSpec.upto walLastsSpec)

/-- 'oxbowlaw16.WalRuns', WHERE WHAT IT READS IS OF BULK AT MOST 1048576: true; the input reads as it did. -/
def walRunsUptoRow : OpenClaim := { program := "ytalkglmneicpoaadoor", sum := "4d1f69c979d74f35f86e0528a7a7cee13200e21cdbad52be17e581c4cdc445a5", func := "oxbow/oxbowlaw16.WalRuns", spec := "walRuns", inPlace := ["internal/reflectlite.TypeOf", "internal/reflectlite.ValueOf", "(internal/reflectlite.Value).Type", "(internal/reflectlite.Value).IsNil", "(internal/reflectlite.Value).Elem", "(internal/reflectlite.Value).Set"], unfollowed := true, recurses := true, named := ["oxbow/frame.errShort", "oxbow/crc.table", "errors.errorType"], apart := false, laid := [("oxbow/crc.table", laid_oxbow_crc_table), ("errors.errorType", laid_errors_errorType), ("oxbow/frame.errShort", laid_oxbow_frame_errShort)], narrowed := true }
def WalRunsUptoSaid : Prop := walRunsUptoRow.holds Tryd.pinned (OpenSpec.upto walRunsSpec)

/-- 'oxbowlaw16.WalRoom', WHERE WHAT IT READS IS OF BULK AT MOST 1048576: true; the input reads as it did. -/
def walRoomUptoRow : OpenClaim := { program := "ytalkglmneicpoaadoor", sum := "4d1f69c979d74f35f86e0528a7a7cee13200e21cdbad52be17e581c4cdc445a5", func := "oxbow/oxbowlaw16.WalRoom", spec := "walRoom", inPlace := ["internal/reflectlite.TypeOf", "internal/reflectlite.ValueOf", "(internal/reflectlite.Value).Type", "(internal/reflectlite.Value).IsNil", "(internal/reflectlite.Value).Elem", "(internal/reflectlite.Value).Set"], unfollowed := true, recurses := true, named := ["oxbow/frame.errShort", "oxbow/crc.table", "errors.errorType"], apart := false, laid := [("oxbow/crc.table", laid_oxbow_crc_table), ("errors.errorType", laid_errors_errorType), ("oxbow/frame.errShort", laid_oxbow_frame_errShort)], narrowed := true }
def WalRoomUptoSaid : Prop := walRoomUptoRow.holds Tryd.pinned (OpenSpec.upto walRoomSpec)

/-- 'oxbowlaw16.WalApart', WHERE WHAT IT READS IS OF BULK AT MOST 1048576: true; the input reads as it did. -/
def walApartUptoRow : OpenClaim := { program := "ytalkglmneicpoaadoor", sum := "4d1f69c979d74f35f86e0528a7a7cee13200e21cdbad52be17e581c4cdc445a5", func := "oxbow/oxbowlaw16.WalApart", spec := "walApart", inPlace := ["internal/reflectlite.TypeOf", "internal/reflectlite.ValueOf", "(internal/reflectlite.Value).Type", "(internal/reflectlite.Value).IsNil", "(internal/reflectlite.Value).Elem", "(internal/reflectlite.Value).Set"], unfollowed := true, recurses := true, named := ["oxbow/frame.errShort", "oxbow/crc.table", "errors.errorType"], apart := false, laid := [("oxbow/crc.table", laid_oxbow_crc_table), ("errors.errorType", laid_errors_errorType), ("oxbow/frame.errShort", laid_oxbow_frame_errShort)], narrowed := true }
def WalApartUptoSaid : Prop := walApartUptoRow.holds Tryd.pinned (OpenSpec.upto walApartSpec)

end Rows
end Go.Proofs.YtalkglmneicpoaaDoor
