/-
  DERIVED. GIVEN WITH THE SEED: THE PROGRAM's TIES (one call each: nine closed facts by the kernel) AND EACH ROW's TIE, after the 31st guide's Derived/Test/Toyas{Tie, Card}.lean. No idea stands in it: it is a product of the set-up. Laid BY PROGRAM, IN A SANDBOX (cutbox-door.mjs). By AI agents, Wed Nov 11 2026. No macro, syntax, notation, axiom, sorry.
-/
import Derived.Test.YtalkglmneicpoaaGreatDoorRows
import Derived.LaidByTextLater
import Derived.SevenTiedAt
import Derived.LaidSub
import Derived.LaidOnce
namespace Go.Proofs.YtalkglmneicpoaaGreatDoor
open Go
set_option maxRecDepth 100000
theorem seatTie1 : Tryz.prog.laidByTextLater [("oxbow/crc.table", Rows.laid_oxbow_crc_table), ("errors.errorType", Rows.laid_errors_errorType), ("oxbow/frame.errShort", Rows.laid_oxbow_frame_errShort)] [.data, .handle, .sentinel] true :=
  Program.laidByTextLater_by_one 40 8 17 (by kernel_rfl) (by kernel_rfl) (by kernel_rfl) (by kernel_rfl) (by kernel_rfl) (by kernel_rfl) (fun _ _ => by kernel_rfl)
theorem noOwnUnsafe : Tryz.pinned.checked.prog.headLifts.contains "ownunsafe" = false := by kernel_rfl
theorem tie : Tryz.prog.laidByTextLater [("oxbow/crc.table", Rows.laid_oxbow_crc_table), ("errors.errorType", Rows.laid_errors_errorType), ("oxbow/frame.errShort", Rows.laid_oxbow_frame_errShort)] [.data, .handle, .sentinel] true :=
  Program.laidByTextLater.sub seatTie1 ["oxbow/crc.table", "errors.errorType", "oxbow/frame.errShort"] (by kernel_rfl) (by kernel_rfl)
theorem walKnown_row_tie : Rows.walKnownRow.laidByTextAt .later Tryz.pinned [.data, .handle, .sentinel] true :=
  OpenClaim.laidByTextAt_later rfl rfl tie noOwnUnsafe
theorem walKnownUpto_row_tie : Rows.walKnownUptoRow.laidByTextAt .later Tryz.pinned [.data, .handle, .sentinel] true :=
  OpenClaim.laidByTextAt_later rfl rfl tie noOwnUnsafe
end Go.Proofs.YtalkglmneicpoaaGreatDoor
