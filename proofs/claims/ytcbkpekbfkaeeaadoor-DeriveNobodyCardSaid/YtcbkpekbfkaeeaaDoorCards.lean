/-
  DERIVED. GIVEN WITH THE SEED: THE CARDS: each row of YtcbkpekbfkaeeaaDoorRows.lean that lists a variable, with what it lists TIED to the program's text (the seventh form; the later family's looks); each row that meets fmt, with fmt's text TOLD by the authors' own Lean function (tested against real Go, not proved from fmt's source: count such statements apart). THE CARD IS WHAT COUNTS. Prove the row's statement (the work); the ties are given (YtcbkpekbfkaeeaaDoorTie.lean); close each card by the builder's one call (the guide's Derived/Test/ToyasCard.lean, 'card_holds'). Laid BY PROGRAM, IN A SANDBOX (cutbox-door.mjs). By AI agents, Wed Nov 11 2026. No macro, syntax, notation, axiom, sorry.
-/
import Derived.Test.YtcbkpekbfkaeeaaDoorRows
import GoSem.ClaimSeven
namespace Go.Proofs.YtcbkpekbfkaeeaaDoor
namespace Rows

/-- THE TIED CARD OF 'rampartlaw12.DeriveRuns'. -/
def deriveRunsCard : Claim7 := { stood := { row := deriveRunsRow, standIns := [], harness := (true, "57fce35a1b3d8f0e2fff1dccf777a4ee890b0088b6d792cd6504b7f190512d46"), looks := false }, kinds := [], alts := [], laidByText := true, laidKinds := [.data], laidTests := true, laidLooks := .later }
def DeriveRunsCardSaid : Prop := Claim7.holds Tryd.pinned (.plain (OpenSpec.ofChange deriveRunsSpec)) deriveRunsCard

/-- THE TIED CARD OF 'rampartlaw12.DeriveTrees'. -/
def deriveTreesCard : Claim7 := { stood := { row := deriveTreesRow, standIns := [], harness := (true, "57fce35a1b3d8f0e2fff1dccf777a4ee890b0088b6d792cd6504b7f190512d46"), looks := false }, kinds := [], alts := [], laidByText := true, laidKinds := [.data], laidTests := true, laidLooks := .later }
def DeriveTreesCardSaid : Prop := Claim7.holds Tryd.pinned (.plain (OpenSpec.ofChange deriveTreesSpec)) deriveTreesCard

/-- THE TIED CARD OF 'rampartlaw12.DeriveCuts'. -/
def deriveCutsCard : Claim7 := { stood := { row := deriveCutsRow, standIns := [], harness := (true, "57fce35a1b3d8f0e2fff1dccf777a4ee890b0088b6d792cd6504b7f190512d46"), looks := false }, kinds := [], alts := [], laidByText := true, laidKinds := [.data], laidTests := true, laidLooks := .later }
def DeriveCutsCardSaid : Prop := Claim7.holds Tryd.pinned (.plain (OpenSpec.ofChange deriveCutsSpec)) deriveCutsCard

/-- THE TIED CARD OF 'rampartlaw12.DeriveUpward'. -/
def deriveUpwardCard : Claim7 := { stood := { row := deriveUpwardRow, standIns := [], harness := (true, "57fce35a1b3d8f0e2fff1dccf777a4ee890b0088b6d792cd6504b7f190512d46"), looks := false }, kinds := [], alts := [], laidByText := true, laidKinds := [.data], laidTests := true, laidLooks := .later }
def DeriveUpwardCardSaid : Prop := Claim7.holds Tryd.pinned (.plain (OpenSpec.ofChange deriveUpwardSpec)) deriveUpwardCard

/-- THE TIED CARD OF 'rampartlaw12.DeriveNobody'. -/
def deriveNobodyCard : Claim7 := { stood := { row := deriveNobodyRow, standIns := [], harness := (true, "57fce35a1b3d8f0e2fff1dccf777a4ee890b0088b6d792cd6504b7f190512d46"), looks := false }, kinds := [], alts := [], laidByText := true, laidKinds := [.data], laidTests := true, laidLooks := .later }
def DeriveNobodyCardSaid : Prop := Claim7.holds Tryd.pinned (.plain (OpenSpec.ofChange deriveNobodySpec)) deriveNobodyCard

/-- THE SECOND FORM's CARD OF 'rampartlaw12.DeriveRuns'. -/
def deriveRunsUptoCard : Claim7 := { stood := { row := deriveRunsUptoRow, standIns := [], harness := (true, "57fce35a1b3d8f0e2fff1dccf777a4ee890b0088b6d792cd6504b7f190512d46"), looks := false }, kinds := [], alts := [], laidByText := true, laidKinds := [.data], laidTests := true, laidLooks := .later }
def DeriveRunsUptoCardSaid : Prop := Claim7.holds Tryd.pinned (.plain (OpenSpec.upto deriveRunsSpec)) deriveRunsUptoCard

/-- THE SECOND FORM's CARD OF 'rampartlaw12.DeriveTrees'. -/
def deriveTreesUptoCard : Claim7 := { stood := { row := deriveTreesUptoRow, standIns := [], harness := (true, "57fce35a1b3d8f0e2fff1dccf777a4ee890b0088b6d792cd6504b7f190512d46"), looks := false }, kinds := [], alts := [], laidByText := true, laidKinds := [.data], laidTests := true, laidLooks := .later }
def DeriveTreesUptoCardSaid : Prop := Claim7.holds Tryd.pinned (.plain (OpenSpec.upto deriveTreesSpec)) deriveTreesUptoCard

/-- THE SECOND FORM's CARD OF 'rampartlaw12.DeriveCuts'. -/
def deriveCutsUptoCard : Claim7 := { stood := { row := deriveCutsUptoRow, standIns := [], harness := (true, "57fce35a1b3d8f0e2fff1dccf777a4ee890b0088b6d792cd6504b7f190512d46"), looks := false }, kinds := [], alts := [], laidByText := true, laidKinds := [.data], laidTests := true, laidLooks := .later }
def DeriveCutsUptoCardSaid : Prop := Claim7.holds Tryd.pinned (.plain (OpenSpec.upto deriveCutsSpec)) deriveCutsUptoCard

/-- THE SECOND FORM's CARD OF 'rampartlaw12.DeriveUpward'. -/
def deriveUpwardUptoCard : Claim7 := { stood := { row := deriveUpwardUptoRow, standIns := [], harness := (true, "57fce35a1b3d8f0e2fff1dccf777a4ee890b0088b6d792cd6504b7f190512d46"), looks := false }, kinds := [], alts := [], laidByText := true, laidKinds := [.data], laidTests := true, laidLooks := .later }
def DeriveUpwardUptoCardSaid : Prop := Claim7.holds Tryd.pinned (.plain (OpenSpec.upto deriveUpwardSpec)) deriveUpwardUptoCard

/-- THE SECOND FORM's CARD OF 'rampartlaw12.DeriveNobody'. -/
def deriveNobodyUptoCard : Claim7 := { stood := { row := deriveNobodyUptoRow, standIns := [], harness := (true, "57fce35a1b3d8f0e2fff1dccf777a4ee890b0088b6d792cd6504b7f190512d46"), looks := false }, kinds := [], alts := [], laidByText := true, laidKinds := [.data], laidTests := true, laidLooks := .later }
def DeriveNobodyUptoCardSaid : Prop := Claim7.holds Tryd.pinned (.plain (OpenSpec.upto deriveNobodySpec)) deriveNobodyUptoCard
end Rows
end Go.Proofs.YtcbkpekbfkaeeaaDoor
