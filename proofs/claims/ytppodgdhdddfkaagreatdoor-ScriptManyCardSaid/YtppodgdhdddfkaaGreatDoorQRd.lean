import Derived.Test.YtppodgdhdddfkaaGreatDoorQMd
import Derived.Test.YtppodgdhdddfkaaGreatDoorProg
set_option linter.unusedVariables false
namespace Go.Proofs.YtppodgdhdddfkaaGreatDoor.Rd
open Go Go.RowKit Go.Proofs.YtppodgdhdddfkaaGreatDoor.Sx Go.Proofs.YtppodgdhdddfkaaGreatDoor
end Go.Proofs.YtppodgdhdddfkaaGreatDoor.Rd
