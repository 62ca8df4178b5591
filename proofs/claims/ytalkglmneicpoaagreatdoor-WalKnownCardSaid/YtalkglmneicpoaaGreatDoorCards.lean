/-
  DERIVED. GIVEN WITH THE SEED: THE CARDS: each row of YtalkglmneicpoaaGreatDoorRows.lean that lists a variable, with what it lists TIED to the program's text (the seventh form; the later family's looks); each row that meets fmt, with fmt's text TOLD by the authors' own Lean function (tested against real Go, not proved from fmt's source: count such statements apart). THE CARD IS WHAT COUNTS. Prove the row's statement (the work); the ties are given (YtalkglmneicpoaaGreatDoorTie.lean); close each card by the builder's one call (the guide's Derived/Test/ToyasCard.lean, 'card_holds'). Laid BY PROGRAM, IN A SANDBOX (cutbox-door.mjs). By AI agents, Wed Nov 11 2026. No macro, syntax, notation, axiom, sorry.
-/
import Derived.Test.YtalkglmneicpoaaGreatDoorRows
import GoSem.ClaimSeven
namespace Go.Proofs.YtalkglmneicpoaaGreatDoor
namespace Rows

/-- THE TIED CARD OF 'oxbowlaw16.WalKnown'. -/
def walKnownCard : Claim7 := { stood := { row := walKnownRow, standIns := [], harness := (true, "7e90a92d51f03b3727ac00af14cd96562587d5e9e887fc33f0f7b66abfe7ffe8"), looks := true }, kinds := [], alts := [], laidByText := true, laidKinds := [.data, .handle, .sentinel], laidTests := true, laidLooks := .later }
def WalKnownCardSaid : Prop := Claim7.holds Tryz.pinned (.plain (OpenSpec.ofChange walKnownSpec)) walKnownCard

/-- THE SECOND FORM's CARD OF 'oxbowlaw16.WalKnown'. -/
def walKnownUptoCard : Claim7 := { stood := { row := walKnownUptoRow, standIns := [], harness := (true, "7e90a92d51f03b3727ac00af14cd96562587d5e9e887fc33f0f7b66abfe7ffe8"), looks := true }, kinds := [], alts := [], laidByText := true, laidKinds := [.data, .handle, .sentinel], laidTests := true, laidLooks := .later }
def WalKnownUptoCardSaid : Prop := Claim7.holds Tryz.pinned (.plain (OpenSpec.upto walKnownSpec)) walKnownUptoCard
end Rows
end Go.Proofs.YtalkglmneicpoaaGreatDoor
