import Derived.Test.YtppodgdhdddfkaaGreatDoorQMd
import Derived.Test.YtppodgdhdddfkaaGreatDoorProg
set_option linter.unusedVariables false
namespace Go.Proofs.YtppodgdhdddfkaaGreatDoor.Rd
open Go Go.RowKit Go.Proofs.YtppodgdhdddfkaaGreatDoor.Sx Go.Proofs.YtppodgdhdddfkaaGreatDoor
abbrev wf9 (z:ByteArray):Prop:=z.size≤reachBytes
theorem rd9:Rdr Tryz.prog 9 rS wf9:=rd_string Tryz.underlying9
end Go.Proofs.YtppodgdhdddfkaaGreatDoor.Rd
