import Derived.Test.YtppodgdhdddfkaaGreatDoorQMd
import Derived.Test.YtppodgdhdddfkaaGreatDoorProg
set_option linter.unusedVariables false
namespace Go.Proofs.YtppodgdhdddfkaaGreatDoor.Rd
open Go Go.RowKit Go.Proofs.YtppodgdhdddfkaaGreatDoor.Sx Go.Proofs.YtppodgdhdddfkaaGreatDoor
abbrev wf3 (z:Int):Prop:=(Lit.int .i64 z).wf=true
theorem rd3:Rdr Tryz.prog 3 (rI .i64) wf3:=rd_int Tryz.underlying3
abbrev wf27 (l:(List Int)):Prop:=∀ a∈l,wf3 a
theorem rd27:Rdr Tryz.prog 27 (rL (rI .i64)) wf27:=rd_slice Tryz.underlying27 (by kernel_rfl) (by rw [show Tryz.prog.bytesOf 3=8 by kernel_rfl];decide) rd3
abbrev wf5 (z:Int):Prop:=(Lit.int .u8 z).wf=true
theorem rd5:Rdr Tryz.prog 5 (rI .u8) wf5:=rd_int Tryz.underlying5
abbrev wf48 (l:(List Int)):Prop:=∀ a∈l,wf5 a
theorem rd48:Rdr Tryz.prog 48 (rL (rI .u8)) wf48:=rd_slice Tryz.underlying48 (by kernel_rfl) (by rw [show Tryz.prog.bytesOf 5=1 by kernel_rfl];decide) rd5
abbrev wf74 (l:(List (List Int))):Prop:=∀ a∈l,wf48 a
theorem rd74:Rdr Tryz.prog 74 (rL (rL (rI .u8))) wf74:=rd_slice Tryz.underlying74 (by kernel_rfl) (by rw [show Tryz.prog.bytesOf 48=24 by kernel_rfl];decide) rd48
abbrev wf76 (x:GTick):Prop:=wf74 x.bytes∧wf27 x.picks
theorem rd76:Rdr Tryz.prog 76 rTick wf76:=(rd_struct (ts:=[74,27]) Tryz.underlying76 rfl (by kernel_rfl) (fd_cons rd74 (fd_one rd27))).to (λ p=>(⟨p.1,p.2⟩:GTick)) (λ _ _ _ h=>h) (λ _ h=>h)
abbrev wf30 (l:(List GTick)):Prop:=∀ a∈l,wf76 a
theorem rd30:Rdr Tryz.prog 30 (rL rTick) wf30:=rd_slice Tryz.underlying30 (by kernel_rfl) (by rw [show Tryz.prog.bytesOf 76=48 by kernel_rfl];decide) rd76
end Go.Proofs.YtppodgdhdddfkaaGreatDoor.Rd
