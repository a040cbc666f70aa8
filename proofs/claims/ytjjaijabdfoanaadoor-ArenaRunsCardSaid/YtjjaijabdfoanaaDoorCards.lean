/-
  DERIVED. GIVEN WITH THE SEED: THE CARDS: each row of YtjjaijabdfoanaaDoorRows.lean that lists a variable, with what it lists TIED to the program's text (the seventh form; the later family's looks); each row that meets fmt, with fmt's text TOLD by the authors' own Lean function (tested against real Go, not proved from fmt's source: count such statements apart). THE CARD IS WHAT COUNTS. Prove the row's statement (the work); the ties are given (YtjjaijabdfoanaaDoorTie.lean); close each card by the builder's one call (the guide's Derived/Test/ToyasCard.lean, 'card_holds'). Laid BY PROGRAM, IN A SANDBOX (cutbox-door.mjs). By AI agents, Wed Nov 11 2026. No macro, syntax, notation, axiom, sorry.
-/
import Derived.Test.YtjjaijabdfoanaaDoorRows
import GoSem.ClaimSeven
namespace Go.Proofs.YtjjaijabdfoanaaDoor
namespace Rows

/-- THE TIED CARD OF 'rampartlaw06.ArenaDead'. -/
def arenaDeadCard : Claim7 := { stood := { row := arenaDeadRow, standIns := [], harness := (true, "7c91742d016025a560cc2c041f36d705f0868fa45090834f003df341783f232e"), looks := false }, kinds := [], alts := [], laidByText := true, laidKinds := [.data], laidTests := true, laidLooks := .later }
def ArenaDeadCardSaid : Prop := Claim7.holds Tryd.pinned (.plain (OpenSpec.ofChange arenaDeadSpec)) arenaDeadCard

/-- THE TIED CARD OF 'rampartlaw06.ArenaApart'. -/
def arenaApartCard : Claim7 := { stood := { row := arenaApartRow, standIns := [], harness := (true, "7c91742d016025a560cc2c041f36d705f0868fa45090834f003df341783f232e"), looks := false }, kinds := [], alts := [], laidByText := true, laidKinds := [.data], laidTests := true, laidLooks := .later }
def ArenaApartCardSaid : Prop := Claim7.holds Tryd.pinned (.plain (OpenSpec.ofChange arenaApartSpec)) arenaApartCard

/-- THE TIED CARD OF 'rampartlaw06.ArenaRuns'. -/
def arenaRunsCard : Claim7 := { stood := { row := arenaRunsRow, standIns := [], harness := (true, "7c91742d016025a560cc2c041f36d705f0868fa45090834f003df341783f232e"), looks := false }, kinds := [], alts := [], laidByText := true, laidKinds := [.data], laidTests := true, laidLooks := .later }
def ArenaRunsCardSaid : Prop := Claim7.holds Tryd.pinned (.plain (OpenSpec.ofChange arenaRunsSpec)) arenaRunsCard

/-- THE TIED CARD OF 'rampartlaw06.ArenaSums'. -/
def arenaSumsCard : Claim7 := { stood := { row := arenaSumsRow, standIns := [], harness := (true, "7c91742d016025a560cc2c041f36d705f0868fa45090834f003df341783f232e"), looks := false }, kinds := [], alts := [], laidByText := true, laidKinds := [.data], laidTests := true, laidLooks := .later }
def ArenaSumsCardSaid : Prop := Claim7.holds Tryd.pinned (.plain (OpenSpec.ofChange arenaSumsSpec)) arenaSumsCard

/-- THE TIED CARD OF 'rampartlaw06.ArenaNobody'. -/
def arenaNobodyCard : Claim7 := { stood := { row := arenaNobodyRow, standIns := [], harness := (true, "7c91742d016025a560cc2c041f36d705f0868fa45090834f003df341783f232e"), looks := false }, kinds := [], alts := [], laidByText := true, laidKinds := [.data], laidTests := true, laidLooks := .later }
def ArenaNobodyCardSaid : Prop := Claim7.holds Tryd.pinned (.plain (OpenSpec.ofChange arenaNobodySpec)) arenaNobodyCard

/-- THE SECOND FORM's CARD OF 'rampartlaw06.ArenaDead'. -/
def arenaDeadUptoCard : Claim7 := { stood := { row := arenaDeadUptoRow, standIns := [], harness := (true, "7c91742d016025a560cc2c041f36d705f0868fa45090834f003df341783f232e"), looks := false }, kinds := [], alts := [], laidByText := true, laidKinds := [.data], laidTests := true, laidLooks := .later }
def ArenaDeadUptoCardSaid : Prop := Claim7.holds Tryd.pinned (.plain (OpenSpec.upto arenaDeadSpec)) arenaDeadUptoCard

/-- THE SECOND FORM's CARD OF 'rampartlaw06.ArenaApart'. -/
def arenaApartUptoCard : Claim7 := { stood := { row := arenaApartUptoRow, standIns := [], harness := (true, "7c91742d016025a560cc2c041f36d705f0868fa45090834f003df341783f232e"), looks := false }, kinds := [], alts := [], laidByText := true, laidKinds := [.data], laidTests := true, laidLooks := .later }
def ArenaApartUptoCardSaid : Prop := Claim7.holds Tryd.pinned (.plain (OpenSpec.upto arenaApartSpec)) arenaApartUptoCard

/-- THE SECOND FORM's CARD OF 'rampartlaw06.ArenaRuns'. -/
def arenaRunsUptoCard : Claim7 := { stood := { row := arenaRunsUptoRow, standIns := [], harness := (true, "7c91742d016025a560cc2c041f36d705f0868fa45090834f003df341783f232e"), looks := false }, kinds := [], alts := [], laidByText := true, laidKinds := [.data], laidTests := true, laidLooks := .later }
def ArenaRunsUptoCardSaid : Prop := Claim7.holds Tryd.pinned (.plain (OpenSpec.upto arenaRunsSpec)) arenaRunsUptoCard

/-- THE SECOND FORM's CARD OF 'rampartlaw06.ArenaSums'. -/
def arenaSumsUptoCard : Claim7 := { stood := { row := arenaSumsUptoRow, standIns := [], harness := (true, "7c91742d016025a560cc2c041f36d705f0868fa45090834f003df341783f232e"), looks := false }, kinds := [], alts := [], laidByText := true, laidKinds := [.data], laidTests := true, laidLooks := .later }
def ArenaSumsUptoCardSaid : Prop := Claim7.holds Tryd.pinned (.plain (OpenSpec.upto arenaSumsSpec)) arenaSumsUptoCard

/-- THE SECOND FORM's CARD OF 'rampartlaw06.ArenaNobody'. -/
def arenaNobodyUptoCard : Claim7 := { stood := { row := arenaNobodyUptoRow, standIns := [], harness := (true, "7c91742d016025a560cc2c041f36d705f0868fa45090834f003df341783f232e"), looks := false }, kinds := [], alts := [], laidByText := true, laidKinds := [.data], laidTests := true, laidLooks := .later }
def ArenaNobodyUptoCardSaid : Prop := Claim7.holds Tryd.pinned (.plain (OpenSpec.upto arenaNobodySpec)) arenaNobodyUptoCard
end Rows
end Go.Proofs.YtjjaijabdfoanaaDoor
