import Derived.Test.YtppodgdhdddfkaaGreatDoorQMd
import Derived.Test.YtppodgdhdddfkaaGreatDoorProg
set_option linter.unusedVariables false
namespace Go.Proofs.YtppodgdhdddfkaaGreatDoor.Rd
open Go Go.RowKit Go.Proofs.YtppodgdhdddfkaaGreatDoor.Sx Go.Proofs.YtppodgdhdddfkaaGreatDoor
abbrev wf5 (z:Int):Prop:=(Lit.int .u8 z).wf=true
theorem rd5:Rdr Tryz.prog 5 (rI .u8) wf5:=rd_int Tryz.underlying5
abbrev wf48 (l:(List Int)):Prop:=∀ a∈l,wf5 a
theorem rd48:Rdr Tryz.prog 48 (rL (rI .u8)) wf48:=rd_slice Tryz.underlying48 (by kernel_rfl) (by rw [show Tryz.prog.bytesOf 5=1 by kernel_rfl];decide) rd5
end Go.Proofs.YtppodgdhdddfkaaGreatDoor.Rd
