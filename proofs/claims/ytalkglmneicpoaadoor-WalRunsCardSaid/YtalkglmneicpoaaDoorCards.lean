/-
  DERIVED. GIVEN WITH THE SEED: THE CARDS: each row of YtalkglmneicpoaaDoorRows.lean that lists a variable, with what it lists TIED to the program's text (the seventh form; the later family's looks); each row that meets fmt, with fmt's text TOLD by the authors' own Lean function (tested against real Go, not proved from fmt's source: count such statements apart). THE CARD IS WHAT COUNTS. Prove the row's statement (the work); the ties are given (YtalkglmneicpoaaDoorTie.lean); close each card by the builder's one call (the guide's Derived/Test/ToyasCard.lean, 'card_holds'). Laid BY PROGRAM, IN A SANDBOX (cutbox-door.mjs). By AI agents, Wed Nov 11 2026. No macro, syntax, notation, axiom, sorry.
-/
import Derived.Test.YtalkglmneicpoaaDoorRows
import GoSem.ClaimSeven
namespace Go.Proofs.YtalkglmneicpoaaDoor
namespace Rows

/-- THE TIED CARD OF 'oxbowlaw16.WalLasts'. -/
def walLastsCard : Claim7 := { stood := { row := walLastsRow, standIns := [], harness := (true, "8e6441515d1cfbedf3220abbba5c262f56d02f3a8ecdb2191a07cffe9ace60ed"), looks := true }, kinds := [], alts := [], laidByText := true, laidKinds := [.data, .handle, .sentinel], laidTests := true, laidLooks := .later }
def WalLastsCardSaid : Prop := Claim7.holds Tryd.pinned (.plain (OpenSpec.ofChange walLastsSpec)) walLastsCard

/-- THE TIED CARD OF 'oxbowlaw16.WalRuns'. -/
def walRunsCard : Claim7 := { stood := { row := walRunsRow, standIns := [], harness := (true, "8e6441515d1cfbedf3220abbba5c262f56d02f3a8ecdb2191a07cffe9ace60ed"), looks := true }, kinds := [], alts := [], laidByText := true, laidKinds := [.data, .handle, .sentinel], laidTests := true, laidLooks := .later }
def WalRunsCardSaid : Prop := Claim7.holds Tryd.pinned (.plain (OpenSpec.ofChange walRunsSpec)) walRunsCard

/-- THE TIED CARD OF 'oxbowlaw16.WalRoom'. -/
def walRoomCard : Claim7 := { stood := { row := walRoomRow, standIns := [], harness := (true, "8e6441515d1cfbedf3220abbba5c262f56d02f3a8ecdb2191a07cffe9ace60ed"), looks := true }, kinds := [], alts := [], laidByText := true, laidKinds := [.data, .handle, .sentinel], laidTests := true, laidLooks := .later }
def WalRoomCardSaid : Prop := Claim7.holds Tryd.pinned (.plain (OpenSpec.ofChange walRoomSpec)) walRoomCard

/-- THE TIED CARD OF 'oxbowlaw16.WalApart'. -/
def walApartCard : Claim7 := { stood := { row := walApartRow, standIns := [], harness := (true, "8e6441515d1cfbedf3220abbba5c262f56d02f3a8ecdb2191a07cffe9ace60ed"), looks := true }, kinds := [], alts := [], laidByText := true, laidKinds := [.data, .handle, .sentinel], laidTests := true, laidLooks := .later }
def WalApartCardSaid : Prop := Claim7.holds Tryd.pinned (.plain (OpenSpec.ofChange walApartSpec)) walApartCard

/-- THE SECOND FORM's CARD OF 'oxbowlaw16.WalLasts'. -/
def walLastsUptoCard : Claim7 := { stood := { row := walLastsUptoRow, standIns := [], harness := (true, "8e6441515d1cfbedf3220abbba5c262f56d02f3a8ecdb2191a07cffe9ace60ed"), looks := true }, kinds := [], alts := [], laidByText := true, laidKinds := [.data, .handle, .sentinel], laidTests := true, laidLooks := .later }
def WalLastsUptoCardSaid : Prop := Claim7.holds Tryd.pinned (.plain (OpenSpec.upto walLastsSpec)) walLastsUptoCard

/-- THE SECOND FORM's CARD OF 'oxbowlaw16.WalRuns'. -/
def walRunsUptoCard : Claim7 := { stood := { row := walRunsUptoRow, standIns := [], harness := (true, "8e6441515d1cfbedf3220abbba5c262f56d02f3a8ecdb2191a07cffe9ace60ed"), looks := true }, kinds := [], alts := [], laidByText := true, laidKinds := [.data, .handle, .sentinel], laidTests := true, laidLooks := .later }
def WalRunsUptoCardSaid : Prop := Claim7.holds Tryd.pinned (.plain (OpenSpec.upto walRunsSpec)) walRunsUptoCard

/-- THE SECOND FORM's CARD OF 'oxbowlaw16.WalRoom'. -/
def walRoomUptoCard : Claim7 := { stood := { row := walRoomUptoRow, standIns := [], harness := (true, "8e6441515d1cfbedf3220abbba5c262f56d02f3a8ecdb2191a07cffe9ace60ed"), looks := true }, kinds := [], alts := [], laidByText := true, laidKinds := [.data, .handle, .sentinel], laidTests := true, laidLooks := .later }
def WalRoomUptoCardSaid : Prop := Claim7.holds Tryd.pinned (.plain (OpenSpec.upto walRoomSpec)) walRoomUptoCard

/-- THE SECOND FORM's CARD OF 'oxbowlaw16.WalApart'. -/
def walApartUptoCard : Claim7 := { stood := { row := walApartUptoRow, standIns := [], harness := (true, "8e6441515d1cfbedf3220abbba5c262f56d02f3a8ecdb2191a07cffe9ace60ed"), looks := true }, kinds := [], alts := [], laidByText := true, laidKinds := [.data, .handle, .sentinel], laidTests := true, laidLooks := .later }
def WalApartUptoCardSaid : Prop := Claim7.holds Tryd.pinned (.plain (OpenSpec.upto walApartSpec)) walApartUptoCard
end Rows
end Go.Proofs.YtalkglmneicpoaaDoor
