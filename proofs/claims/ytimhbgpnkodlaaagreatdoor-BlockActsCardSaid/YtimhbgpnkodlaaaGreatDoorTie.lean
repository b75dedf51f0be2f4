/-
  DERIVED. GIVEN WITH THE SEED: THE PROGRAM's TIES (one call each: nine closed facts by the kernel) AND EACH ROW's TIE, after the 31st guide's Derived/Test/Toyas{Tie, Card}.lean. No idea stands in it: it is a product of the set-up. Laid BY PROGRAM, IN A SANDBOX (cutbox-door.mjs). By AI agents, Wed Nov 11 2026. No macro, syntax, notation, axiom, sorry.
-/
import Derived.Test.YtimhbgpnkodlaaaGreatDoorRows
import Derived.LaidByTextLater
import Derived.SevenTiedAt
import Derived.LaidSub
import Derived.LaidOnce
namespace Go.Proofs.YtimhbgpnkodlaaaGreatDoor
open Go
set_option maxRecDepth 100000
theorem seatTie1 : Tryz.prog.laidByTextLater [("errors.errorType", Rows.laid_errors_errorType), ("herepath/api.ErrText", Rows.laid_herepath_api_ErrText), ("herepath/api.ErrBound", Rows.laid_herepath_api_ErrBound), ("herepath/api.ErrShape", Rows.laid_herepath_api_ErrShape), ("herepath/api.ErrKind", Rows.laid_herepath_api_ErrKind), ("herepath/api.ErrNone", Rows.laid_herepath_api_ErrNone), ("herepath/api.ErrExist", Rows.laid_herepath_api_ErrExist), ("herepath/api.ErrFull", Rows.laid_herepath_api_ErrFull), ("herepath/api.ErrOrder", Rows.laid_herepath_api_ErrOrder), ("herepath/api.ErrLoop", Rows.laid_herepath_api_ErrLoop)] [.handle, .sentinel, .sentinel, .sentinel, .sentinel, .sentinel, .sentinel, .sentinel, .sentinel, .sentinel] true :=
  Program.laidByTextLater_by_one 187 8 2 (by kernel_rfl) (by kernel_rfl) (by kernel_rfl) (by kernel_rfl) (by kernel_rfl) (by kernel_rfl) (fun _ _ => by kernel_rfl)
theorem noOwnUnsafe : Tryz.pinned.checked.prog.headLifts.contains "ownunsafe" = false := by kernel_rfl
theorem tie : Tryz.prog.laidByTextLater [("errors.errorType", Rows.laid_errors_errorType), ("herepath/api.ErrText", Rows.laid_herepath_api_ErrText), ("herepath/api.ErrBound", Rows.laid_herepath_api_ErrBound), ("herepath/api.ErrShape", Rows.laid_herepath_api_ErrShape), ("herepath/api.ErrKind", Rows.laid_herepath_api_ErrKind), ("herepath/api.ErrNone", Rows.laid_herepath_api_ErrNone), ("herepath/api.ErrExist", Rows.laid_herepath_api_ErrExist), ("herepath/api.ErrFull", Rows.laid_herepath_api_ErrFull), ("herepath/api.ErrOrder", Rows.laid_herepath_api_ErrOrder), ("herepath/api.ErrLoop", Rows.laid_herepath_api_ErrLoop)] [.handle, .sentinel, .sentinel, .sentinel, .sentinel, .sentinel, .sentinel, .sentinel, .sentinel, .sentinel] true :=
  Program.laidByTextLater.sub seatTie1 ["errors.errorType", "herepath/api.ErrText", "herepath/api.ErrBound", "herepath/api.ErrShape", "herepath/api.ErrKind", "herepath/api.ErrNone", "herepath/api.ErrExist", "herepath/api.ErrFull", "herepath/api.ErrOrder", "herepath/api.ErrLoop"] (by kernel_rfl) (by kernel_rfl)
theorem blockActs_row_tie : Rows.blockActsRow.laidByTextAt .later Tryz.pinned [.handle, .sentinel, .sentinel, .sentinel, .sentinel, .sentinel, .sentinel, .sentinel, .sentinel, .sentinel] true :=
  OpenClaim.laidByTextAt_later rfl rfl tie noOwnUnsafe
theorem blockActsUpto_row_tie : Rows.blockActsUptoRow.laidByTextAt .later Tryz.pinned [.handle, .sentinel, .sentinel, .sentinel, .sentinel, .sentinel, .sentinel, .sentinel, .sentinel, .sentinel] true :=
  OpenClaim.laidByTextAt_later rfl rfl tie noOwnUnsafe
end Go.Proofs.YtimhbgpnkodlaaaGreatDoor
