/-
  DERIVED. GIVEN WITH THE SEED: THE CARDS: each row of YtbljpcikcefkiaaDoorRows.lean that lists a variable, with what it lists TIED to the program's text (the seventh form; the later family's looks); each row that meets fmt, with fmt's text TOLD by the authors' own Lean function (tested against real Go, not proved from fmt's source: count such statements apart). THE CARD IS WHAT COUNTS. Prove the row's statement (the work); the ties are given (YtbljpcikcefkiaaDoorTie.lean); close each card by the builder's one call (the guide's Derived/Test/ToyasCard.lean, 'card_holds'). Laid BY PROGRAM, IN A SANDBOX (cutbox-door.mjs). By AI agents, Wed Nov 11 2026. No macro, syntax, notation, axiom, sorry.
-/
import Derived.Test.YtbljpcikcefkiaaDoorRows
import GoSem.ClaimSeven
namespace Go.Proofs.YtbljpcikcefkiaaDoor
namespace Rows

/-- THE TIED CARD OF 'rampartlaw25.HideMasked'. -/
def hideMaskedCard : Claim7 := { stood := { row := hideMaskedRow, standIns := [], harness := (true, "0d3bfc157036c159c8289eab86b041ebc38e2f3f3432690da340b7c7eed3024c"), looks := false }, kinds := [], alts := [], laidByText := true, laidKinds := [.wider, .wider], laidTests := true, laidLooks := .later }
def HideMaskedCardSaid : Prop := Claim7.holds Tryd.pinned (.plain (OpenSpec.ofChange hideMaskedSpec)) hideMaskedCard

/-- THE TIED CARD OF 'rampartlaw25.HideSwapped'. -/
def hideSwappedCard : Claim7 := { stood := { row := hideSwappedRow, standIns := [], harness := (true, "0d3bfc157036c159c8289eab86b041ebc38e2f3f3432690da340b7c7eed3024c"), looks := false }, kinds := [], alts := [], laidByText := true, laidKinds := [.wider, .wider], laidTests := true, laidLooks := .later }
def HideSwappedCardSaid : Prop := Claim7.holds Tryd.pinned (.plain (OpenSpec.ofChange hideSwappedSpec)) hideSwappedCard

/-- THE SECOND FORM's CARD OF 'rampartlaw25.HideMasked'. -/
def hideMaskedUptoCard : Claim7 := { stood := { row := hideMaskedUptoRow, standIns := [], harness := (true, "0d3bfc157036c159c8289eab86b041ebc38e2f3f3432690da340b7c7eed3024c"), looks := false }, kinds := [], alts := [], laidByText := true, laidKinds := [.wider, .wider], laidTests := true, laidLooks := .later }
def HideMaskedUptoCardSaid : Prop := Claim7.holds Tryd.pinned (.plain (OpenSpec.upto hideMaskedSpec)) hideMaskedUptoCard

/-- THE SECOND FORM's CARD OF 'rampartlaw25.HideSwapped'. -/
def hideSwappedUptoCard : Claim7 := { stood := { row := hideSwappedUptoRow, standIns := [], harness := (true, "0d3bfc157036c159c8289eab86b041ebc38e2f3f3432690da340b7c7eed3024c"), looks := false }, kinds := [], alts := [], laidByText := true, laidKinds := [.wider, .wider], laidTests := true, laidLooks := .later }
def HideSwappedUptoCardSaid : Prop := Claim7.holds Tryd.pinned (.plain (OpenSpec.upto hideSwappedSpec)) hideSwappedUptoCard
end Rows
end Go.Proofs.YtbljpcikcefkiaaDoor
