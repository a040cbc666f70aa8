/-
  DERIVED. GIVEN WITH THE SEED: THE CARDS: each row of YtdjljgfffcjfmaaGreatDoorRows.lean that lists a variable, with what it lists TIED to the program's text (the seventh form; the later family's looks); each row that meets fmt, with fmt's text TOLD by the authors' own Lean function (tested against real Go, not proved from fmt's source: count such statements apart). THE CARD IS WHAT COUNTS. Prove the row's statement (the work); the ties are given (YtdjljgfffcjfmaaGreatDoorTie.lean); close each card by the builder's one call (the guide's Derived/Test/ToyasCard.lean, 'card_holds'). Laid BY PROGRAM, IN A SANDBOX (cutbox-door.mjs). By AI agents, Wed Nov 11 2026. No macro, syntax, notation, axiom, sorry.
-/
import Derived.Test.YtdjljgfffcjfmaaGreatDoorRows
import GoSem.ClaimSeven
namespace Go.Proofs.YtdjljgfffcjfmaaGreatDoor
namespace Rows

/-- THE TIED CARD OF 'rampartlaw04.ConfChecks'. -/
def confChecksCard : Claim7 := { stood := { row := confChecksRow, standIns := [], harness := (true, "91330a35b727af2660581cfc22acd823a4b8bcb205bed154e96fb807a2608668"), looks := true }, kinds := [], alts := [], laidByText := true, laidKinds := [.data, .data, .data, .data, .sentinel, .sentinel, .pinned], laidTests := true, laidLooks := .later }
def ConfChecksCardSaid : Prop := Claim7.holds Tryz.pinned (.plain (OpenSpec.ofChange confChecksSpec)) confChecksCard

/-- THE TIED CARD OF 'rampartlaw04.ConfReads'. -/
def confReadsCard : Claim7 := { stood := { row := confReadsRow, standIns := [], harness := (true, "91330a35b727af2660581cfc22acd823a4b8bcb205bed154e96fb807a2608668"), looks := true }, kinds := [], alts := [], laidByText := true, laidKinds := [.data, .data, .data, .data, .sentinel, .sentinel, .pinned], laidTests := true, laidLooks := .later }
def ConfReadsCardSaid : Prop := Claim7.holds Tryz.pinned (.plain (OpenSpec.ofChange confReadsSpec)) confReadsCard

/-- THE TIED CARD OF 'rampartlaw04.ConfBack'. -/
def confBackCard : Claim7 := { stood := { row := confBackRow, standIns := [], harness := (true, "91330a35b727af2660581cfc22acd823a4b8bcb205bed154e96fb807a2608668"), looks := true }, kinds := [], alts := [], laidByText := true, laidKinds := [.data, .data, .data, .data, .sentinel, .sentinel, .pinned], laidTests := true, laidLooks := .later }
def ConfBackCardSaid : Prop := Claim7.holds Tryz.pinned (.plain (OpenSpec.ofChange confBackSpec)) confBackCard

/-- THE TIED CARD OF 'rampartlaw04.ConfAsks'. -/
def confAsksCard : Claim7 := { stood := { row := confAsksRow, standIns := [], harness := (true, "91330a35b727af2660581cfc22acd823a4b8bcb205bed154e96fb807a2608668"), looks := true }, kinds := [], alts := [], laidByText := true, laidKinds := [.data, .data, .data, .data, .sentinel, .sentinel, .pinned], laidTests := true, laidLooks := .later }
def ConfAsksCardSaid : Prop := Claim7.holds Tryz.pinned (.plain (OpenSpec.ofChange confAsksSpec)) confAsksCard

/-- THE TIED CARD OF 'rampartlaw04.ConfFlows'. -/
def confFlowsCard : Claim7 := { stood := { row := confFlowsRow, standIns := [], harness := (true, "91330a35b727af2660581cfc22acd823a4b8bcb205bed154e96fb807a2608668"), looks := true }, kinds := [], alts := [], laidByText := true, laidKinds := [.data, .data, .data, .data, .sentinel, .sentinel, .pinned], laidTests := true, laidLooks := .later }
def ConfFlowsCardSaid : Prop := Claim7.holds Tryz.pinned (.plain (OpenSpec.ofChange confFlowsSpec)) confFlowsCard

/-- THE TIED CARD OF 'rampartlaw04.ConfEnough'. -/
def confEnoughCard : Claim7 := { stood := { row := confEnoughRow, standIns := [], harness := (true, "91330a35b727af2660581cfc22acd823a4b8bcb205bed154e96fb807a2608668"), looks := true }, kinds := [], alts := [], laidByText := true, laidKinds := [.data, .data, .data, .data, .sentinel, .sentinel, .pinned], laidTests := true, laidLooks := .later }
def ConfEnoughCardSaid : Prop := Claim7.holds Tryz.pinned (.plain (OpenSpec.ofChange confEnoughSpec)) confEnoughCard

/-- THE TIED CARD OF 'rampartlaw04.ConfOne'. -/
def confOneCard : Claim7 := { stood := { row := confOneRow, standIns := [], harness := (true, "91330a35b727af2660581cfc22acd823a4b8bcb205bed154e96fb807a2608668"), looks := true }, kinds := [], alts := [], laidByText := true, laidKinds := [.data, .data, .data, .data, .sentinel, .sentinel, .pinned], laidTests := true, laidLooks := .later }
def ConfOneCardSaid : Prop := Claim7.holds Tryz.pinned (.plain (OpenSpec.ofChange confOneSpec)) confOneCard

/-- THE TIED CARD OF 'rampartlaw04.ConfTexts'. -/
def confTextsCard : Claim7 := { stood := { row := confTextsRow, standIns := [], harness := (true, "91330a35b727af2660581cfc22acd823a4b8bcb205bed154e96fb807a2608668"), looks := true }, kinds := [], alts := [], laidByText := true, laidKinds := [.data, .data, .data, .data, .sentinel, .sentinel, .pinned], laidTests := true, laidLooks := .later }
def ConfTextsCardSaid : Prop := Claim7.holds Tryz.pinned (.plain (OpenSpec.ofChange confTextsSpec)) confTextsCard

/-- THE SECOND FORM's CARD OF 'rampartlaw04.ConfChecks'. -/
def confChecksUptoCard : Claim7 := { stood := { row := confChecksUptoRow, standIns := [], harness := (true, "91330a35b727af2660581cfc22acd823a4b8bcb205bed154e96fb807a2608668"), looks := true }, kinds := [], alts := [], laidByText := true, laidKinds := [.data, .data, .data, .data, .sentinel, .sentinel, .pinned], laidTests := true, laidLooks := .later }
def ConfChecksUptoCardSaid : Prop := Claim7.holds Tryz.pinned (.plain (OpenSpec.upto confChecksSpec)) confChecksUptoCard

/-- THE SECOND FORM's CARD OF 'rampartlaw04.ConfReads'. -/
def confReadsUptoCard : Claim7 := { stood := { row := confReadsUptoRow, standIns := [], harness := (true, "91330a35b727af2660581cfc22acd823a4b8bcb205bed154e96fb807a2608668"), looks := true }, kinds := [], alts := [], laidByText := true, laidKinds := [.data, .data, .data, .data, .sentinel, .sentinel, .pinned], laidTests := true, laidLooks := .later }
def ConfReadsUptoCardSaid : Prop := Claim7.holds Tryz.pinned (.plain (OpenSpec.upto confReadsSpec)) confReadsUptoCard

/-- THE SECOND FORM's CARD OF 'rampartlaw04.ConfBack'. -/
def confBackUptoCard : Claim7 := { stood := { row := confBackUptoRow, standIns := [], harness := (true, "91330a35b727af2660581cfc22acd823a4b8bcb205bed154e96fb807a2608668"), looks := true }, kinds := [], alts := [], laidByText := true, laidKinds := [.data, .data, .data, .data, .sentinel, .sentinel, .pinned], laidTests := true, laidLooks := .later }
def ConfBackUptoCardSaid : Prop := Claim7.holds Tryz.pinned (.plain (OpenSpec.upto confBackSpec)) confBackUptoCard

/-- THE SECOND FORM's CARD OF 'rampartlaw04.ConfAsks'. -/
def confAsksUptoCard : Claim7 := { stood := { row := confAsksUptoRow, standIns := [], harness := (true, "91330a35b727af2660581cfc22acd823a4b8bcb205bed154e96fb807a2608668"), looks := true }, kinds := [], alts := [], laidByText := true, laidKinds := [.data, .data, .data, .data, .sentinel, .sentinel, .pinned], laidTests := true, laidLooks := .later }
def ConfAsksUptoCardSaid : Prop := Claim7.holds Tryz.pinned (.plain (OpenSpec.upto confAsksSpec)) confAsksUptoCard

/-- THE SECOND FORM's CARD OF 'rampartlaw04.ConfFlows'. -/
def confFlowsUptoCard : Claim7 := { stood := { row := confFlowsUptoRow, standIns := [], harness := (true, "91330a35b727af2660581cfc22acd823a4b8bcb205bed154e96fb807a2608668"), looks := true }, kinds := [], alts := [], laidByText := true, laidKinds := [.data, .data, .data, .data, .sentinel, .sentinel, .pinned], laidTests := true, laidLooks := .later }
def ConfFlowsUptoCardSaid : Prop := Claim7.holds Tryz.pinned (.plain (OpenSpec.upto confFlowsSpec)) confFlowsUptoCard

/-- THE SECOND FORM's CARD OF 'rampartlaw04.ConfEnough'. -/
def confEnoughUptoCard : Claim7 := { stood := { row := confEnoughUptoRow, standIns := [], harness := (true, "91330a35b727af2660581cfc22acd823a4b8bcb205bed154e96fb807a2608668"), looks := true }, kinds := [], alts := [], laidByText := true, laidKinds := [.data, .data, .data, .data, .sentinel, .sentinel, .pinned], laidTests := true, laidLooks := .later }
def ConfEnoughUptoCardSaid : Prop := Claim7.holds Tryz.pinned (.plain (OpenSpec.upto confEnoughSpec)) confEnoughUptoCard

/-- THE SECOND FORM's CARD OF 'rampartlaw04.ConfOne'. -/
def confOneUptoCard : Claim7 := { stood := { row := confOneUptoRow, standIns := [], harness := (true, "91330a35b727af2660581cfc22acd823a4b8bcb205bed154e96fb807a2608668"), looks := true }, kinds := [], alts := [], laidByText := true, laidKinds := [.data, .data, .data, .data, .sentinel, .sentinel, .pinned], laidTests := true, laidLooks := .later }
def ConfOneUptoCardSaid : Prop := Claim7.holds Tryz.pinned (.plain (OpenSpec.upto confOneSpec)) confOneUptoCard

/-- THE SECOND FORM's CARD OF 'rampartlaw04.ConfTexts'. -/
def confTextsUptoCard : Claim7 := { stood := { row := confTextsUptoRow, standIns := [], harness := (true, "91330a35b727af2660581cfc22acd823a4b8bcb205bed154e96fb807a2608668"), looks := true }, kinds := [], alts := [], laidByText := true, laidKinds := [.data, .data, .data, .data, .sentinel, .sentinel, .pinned], laidTests := true, laidLooks := .later }
def ConfTextsUptoCardSaid : Prop := Claim7.holds Tryz.pinned (.plain (OpenSpec.upto confTextsSpec)) confTextsUptoCard
end Rows
end Go.Proofs.YtdjljgfffcjfmaaGreatDoor
