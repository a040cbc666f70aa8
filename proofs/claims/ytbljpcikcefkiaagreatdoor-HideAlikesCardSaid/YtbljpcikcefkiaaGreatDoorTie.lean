/-
  DERIVED. GIVEN WITH THE SEED: THE PROGRAM's TIES (one call each: nine closed facts by the kernel) AND EACH ROW's TIE, after the 31st guide's Derived/Test/Toyas{Tie, Card}.lean. No idea stands in it: it is a product of the set-up. Laid BY PROGRAM, IN A SANDBOX (cutbox-door.mjs). By AI agents, Wed Nov 11 2026. No macro, syntax, notation, axiom, sorry.
-/
import Derived.Test.YtbljpcikcefkiaaGreatDoorRows
import Derived.LaidByTextLater
import Derived.SevenTiedAt
import Derived.LaidSub
import Derived.LaidOnce
namespace Go.Proofs.YtbljpcikcefkiaaGreatDoor
open Go
set_option maxRecDepth 100000
theorem seatTie1 : Tryz.prog.laidByTextLater [("rampart/wire.handlePart", Rows.laid_rampart_wire_handlePart), ("rampart/wire.payloadPart", Rows.laid_rampart_wire_payloadPart)] [.wider, .wider] true :=
  Program.laidByTextLater_by_one 19 8 3 (by kernel_rfl) (by kernel_rfl) (by kernel_rfl) (by kernel_rfl) (by kernel_rfl) (by kernel_rfl) (fun _ _ => by kernel_rfl)
theorem noOwnUnsafe : Tryz.pinned.checked.prog.headLifts.contains "ownunsafe" = false := by kernel_rfl
theorem tie : Tryz.prog.laidByTextLater [("rampart/wire.handlePart", Rows.laid_rampart_wire_handlePart), ("rampart/wire.payloadPart", Rows.laid_rampart_wire_payloadPart)] [.wider, .wider] true :=
  Program.laidByTextLater.sub seatTie1 ["rampart/wire.handlePart", "rampart/wire.payloadPart"] (by kernel_rfl) (by kernel_rfl)
theorem hideAlikes_row_tie : Rows.hideAlikesRow.laidByTextAt .later Tryz.pinned [.wider, .wider] true :=
  OpenClaim.laidByTextAt_later rfl rfl tie noOwnUnsafe
theorem hideAlikesUpto_row_tie : Rows.hideAlikesUptoRow.laidByTextAt .later Tryz.pinned [.wider, .wider] true :=
  OpenClaim.laidByTextAt_later rfl rfl tie noOwnUnsafe
end Go.Proofs.YtbljpcikcefkiaaGreatDoor
