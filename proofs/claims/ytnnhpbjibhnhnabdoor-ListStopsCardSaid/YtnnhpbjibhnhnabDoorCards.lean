/-
  DERIVED. GIVEN WITH THE SEED: THE CARDS: each row of YtnnhpbjibhnhnabDoorRows.lean that lists a variable, with what it lists TIED to the program's text (the seventh form; the later family's looks); each row that meets fmt, with fmt's text TOLD by the authors' own Lean function (tested against real Go, not proved from fmt's source: count such statements apart). THE CARD IS WHAT COUNTS. Prove the row's statement (the work); the ties are given (YtnnhpbjibhnhnabDoorTie.lean); close each card by the builder's one call (the guide's Derived/Test/ToyasCard.lean, 'card_holds'). Laid BY PROGRAM, IN A SANDBOX (cutbox-door.mjs). By AI agents, Wed Nov 11 2026. No macro, syntax, notation, axiom, sorry.
-/
import Derived.Test.YtnnhpbjibhnhnabDoorRows
import GoSem.ClaimSeven
namespace Go.Proofs.YtnnhpbjibhnhnabDoor
namespace Rows

/-- THE TIED CARD OF 'rampartlaw05.ListQueues'. -/
def listQueuesCard : Claim7 := { stood := { row := listQueuesRow, standIns := [], harness := (true, "d277ec113b5609989ec09556932521c1427e08f59e1bf828ba97a329ea4738dc"), looks := false }, kinds := [], alts := [], laidByText := true, laidKinds := [.data], laidTests := true, laidLooks := .later }
def ListQueuesCardSaid : Prop := Claim7.holds Tryd.pinned (.plain (OpenSpec.ofChange listQueuesSpec)) listQueuesCard

/-- THE TIED CARD OF 'rampartlaw05.ListStops'. -/
def listStopsCard : Claim7 := { stood := { row := listStopsRow, standIns := [], harness := (true, "d277ec113b5609989ec09556932521c1427e08f59e1bf828ba97a329ea4738dc"), looks := false }, kinds := [], alts := [], laidByText := true, laidKinds := [.data], laidTests := true, laidLooks := .later }
def ListStopsCardSaid : Prop := Claim7.holds Tryd.pinned (.plain (OpenSpec.ofChange listStopsSpec)) listStopsCard

/-- THE TIED CARD OF 'rampartlaw05.ListOnce'. -/
def listOnceCard : Claim7 := { stood := { row := listOnceRow, standIns := [], harness := (true, "d277ec113b5609989ec09556932521c1427e08f59e1bf828ba97a329ea4738dc"), looks := false }, kinds := [], alts := [], laidByText := true, laidKinds := [.data], laidTests := true, laidLooks := .later }
def ListOnceCardSaid : Prop := Claim7.holds Tryd.pinned (.plain (OpenSpec.ofChange listOnceSpec)) listOnceCard

/-- THE TIED CARD OF 'rampartlaw05.ListRuns'. -/
def listRunsCard : Claim7 := { stood := { row := listRunsRow, standIns := [], harness := (true, "d277ec113b5609989ec09556932521c1427e08f59e1bf828ba97a329ea4738dc"), looks := false }, kinds := [], alts := [], laidByText := true, laidKinds := [.data], laidTests := true, laidLooks := .later }
def ListRunsCardSaid : Prop := Claim7.holds Tryd.pinned (.plain (OpenSpec.ofChange listRunsSpec)) listRunsCard

/-- THE TIED CARD OF 'rampartlaw05.ListNobody'. -/
def listNobodyCard : Claim7 := { stood := { row := listNobodyRow, standIns := [], harness := (true, "d277ec113b5609989ec09556932521c1427e08f59e1bf828ba97a329ea4738dc"), looks := false }, kinds := [], alts := [], laidByText := true, laidKinds := [.data], laidTests := true, laidLooks := .later }
def ListNobodyCardSaid : Prop := Claim7.holds Tryd.pinned (.plain (OpenSpec.ofChange listNobodySpec)) listNobodyCard

/-- THE SECOND FORM's CARD OF 'rampartlaw05.ListQueues'. -/
def listQueuesUptoCard : Claim7 := { stood := { row := listQueuesUptoRow, standIns := [], harness := (true, "d277ec113b5609989ec09556932521c1427e08f59e1bf828ba97a329ea4738dc"), looks := false }, kinds := [], alts := [], laidByText := true, laidKinds := [.data], laidTests := true, laidLooks := .later }
def ListQueuesUptoCardSaid : Prop := Claim7.holds Tryd.pinned (.plain (OpenSpec.upto listQueuesSpec)) listQueuesUptoCard

/-- THE SECOND FORM's CARD OF 'rampartlaw05.ListStops'. -/
def listStopsUptoCard : Claim7 := { stood := { row := listStopsUptoRow, standIns := [], harness := (true, "d277ec113b5609989ec09556932521c1427e08f59e1bf828ba97a329ea4738dc"), looks := false }, kinds := [], alts := [], laidByText := true, laidKinds := [.data], laidTests := true, laidLooks := .later }
def ListStopsUptoCardSaid : Prop := Claim7.holds Tryd.pinned (.plain (OpenSpec.upto listStopsSpec)) listStopsUptoCard

/-- THE SECOND FORM's CARD OF 'rampartlaw05.ListOnce'. -/
def listOnceUptoCard : Claim7 := { stood := { row := listOnceUptoRow, standIns := [], harness := (true, "d277ec113b5609989ec09556932521c1427e08f59e1bf828ba97a329ea4738dc"), looks := false }, kinds := [], alts := [], laidByText := true, laidKinds := [.data], laidTests := true, laidLooks := .later }
def ListOnceUptoCardSaid : Prop := Claim7.holds Tryd.pinned (.plain (OpenSpec.upto listOnceSpec)) listOnceUptoCard

/-- THE SECOND FORM's CARD OF 'rampartlaw05.ListRuns'. -/
def listRunsUptoCard : Claim7 := { stood := { row := listRunsUptoRow, standIns := [], harness := (true, "d277ec113b5609989ec09556932521c1427e08f59e1bf828ba97a329ea4738dc"), looks := false }, kinds := [], alts := [], laidByText := true, laidKinds := [.data], laidTests := true, laidLooks := .later }
def ListRunsUptoCardSaid : Prop := Claim7.holds Tryd.pinned (.plain (OpenSpec.upto listRunsSpec)) listRunsUptoCard

/-- THE SECOND FORM's CARD OF 'rampartlaw05.ListNobody'. -/
def listNobodyUptoCard : Claim7 := { stood := { row := listNobodyUptoRow, standIns := [], harness := (true, "d277ec113b5609989ec09556932521c1427e08f59e1bf828ba97a329ea4738dc"), looks := false }, kinds := [], alts := [], laidByText := true, laidKinds := [.data], laidTests := true, laidLooks := .later }
def ListNobodyUptoCardSaid : Prop := Claim7.holds Tryd.pinned (.plain (OpenSpec.upto listNobodySpec)) listNobodyUptoCard
end Rows
end Go.Proofs.YtnnhpbjibhnhnabDoor
