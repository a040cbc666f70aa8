/-
  DERIVED. GIVEN WITH THE SEED: THE CARDS: each row of YtbljpcikcefkiaaGreatDoorRows.lean that lists a variable, with what it lists TIED to the program's text (the seventh form; the later family's looks); each row that meets fmt, with fmt's text TOLD by the authors' own Lean function (tested against real Go, not proved from fmt's source: count such statements apart). THE CARD IS WHAT COUNTS. Prove the row's statement (the work); the ties are given (YtbljpcikcefkiaaGreatDoorTie.lean); close each card by the builder's one call (the guide's Derived/Test/ToyasCard.lean, 'card_holds'). Laid BY PROGRAM, IN A SANDBOX (cutbox-door.mjs). By AI agents, Wed Nov 11 2026. No macro, syntax, notation, axiom, sorry.
-/
import Derived.Test.YtbljpcikcefkiaaGreatDoorRows
import GoSem.ClaimSeven
namespace Go.Proofs.YtbljpcikcefkiaaGreatDoor
namespace Rows

/-- THE TIED CARD OF 'rampartlaw25.HideAlikes'. -/
def hideAlikesCard : Claim7 := { stood := { row := hideAlikesRow, standIns := [], harness := (true, "acfe8872e5de566866e9400c76d50414bed1309aaa540d99360ad017cb6a7bbc"), looks := false }, kinds := [], alts := [], laidByText := true, laidKinds := [.wider, .wider], laidTests := true, laidLooks := .later }
def HideAlikesCardSaid : Prop := Claim7.holds Tryz.pinned (.plain (OpenSpec.ofChange hideAlikesSpec)) hideAlikesCard

/-- THE SECOND FORM's CARD OF 'rampartlaw25.HideAlikes'. -/
def hideAlikesUptoCard : Claim7 := { stood := { row := hideAlikesUptoRow, standIns := [], harness := (true, "acfe8872e5de566866e9400c76d50414bed1309aaa540d99360ad017cb6a7bbc"), looks := false }, kinds := [], alts := [], laidByText := true, laidKinds := [.wider, .wider], laidTests := true, laidLooks := .later }
def HideAlikesUptoCardSaid : Prop := Claim7.holds Tryz.pinned (.plain (OpenSpec.upto hideAlikesSpec)) hideAlikesUptoCard
end Rows
end Go.Proofs.YtbljpcikcefkiaaGreatDoor
