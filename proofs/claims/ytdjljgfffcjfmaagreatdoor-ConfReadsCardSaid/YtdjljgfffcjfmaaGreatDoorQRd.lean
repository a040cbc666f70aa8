/- How the inputs' types read. -/
import Derived.Test.YtdjljgfffcjfmaaGreatDoorQMd
import Derived.Test.YtdjljgfffcjfmaaGreatDoorProg
set_option linter.unusedVariables false
namespace Go.Proofs.YtdjljgfffcjfmaaGreatDoor.Rd
open Go Go.RowKit Go.Proofs.YtdjljgfffcjfmaaGreatDoor.Sx Go.Proofs.YtdjljgfffcjfmaaGreatDoor
abbrev wf3 (z : Int) : Prop := (Lit.int .i64 z).wf = true
theorem rd3 : Rdr Tryz.prog 3 (rI .i64) wf3 := rd_int Tryz.underlying3
abbrev wf4 (z : Bool) : Prop := True
theorem rd4 : Rdr Tryz.prog 4 rB wf4 := rd_bool Tryz.underlying4
abbrev wf9 (z : ByteArray) : Prop := z.size ≤ reachBytes
theorem rd9 : Rdr Tryz.prog 9 rS wf9 := rd_string Tryz.underlying9
end Go.Proofs.YtdjljgfffcjfmaaGreatDoor.Rd
