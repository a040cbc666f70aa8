import Derived.Test.YtppodgdhdddfkaaGreatDoorQMd
import Derived.Test.YtppodgdhdddfkaaGreatDoorProg
set_option linter.unusedVariables false
namespace Go.Proofs.YtppodgdhdddfkaaGreatDoor.Rd
open Go Go.RowKit Go.Proofs.YtppodgdhdddfkaaGreatDoor.Sx Go.Proofs.YtppodgdhdddfkaaGreatDoor
abbrev wf40 (z:Int):Prop:=(Lit.int .u64 z).wf=true
theorem rd40:Rdr Tryz.prog 40 (rI .u64) wf40:=rd_int Tryz.underlying40
abbrev wf23 (l:(List Int)):Prop:=∀ a∈l,wf40 a
theorem rd23:Rdr Tryz.prog 23 (rL (rI .u64)) wf23:=rd_slice Tryz.underlying23 (by kernel_rfl) (by rw [show Tryz.prog.bytesOf 40=8 by kernel_rfl];decide) rd40
abbrev wf3 (z:Int):Prop:=(Lit.int .i64 z).wf=true
theorem rd3:Rdr Tryz.prog 3 (rI .i64) wf3:=rd_int Tryz.underlying3
abbrev wf82 (x:GTenant):Prop:=wf3 x.label∧wf3 x.quota
theorem rd82:Rdr Tryz.prog 82 rTenant wf82:=(rd_struct (ts:=[3,3]) Tryz.underlying82 rfl (by kernel_rfl) (fd_cons rd3 (fd_one rd3))).to (λ p=>(⟨p.1,p.2⟩:GTenant)) (λ _ _ _ h=>by
 obtain ⟨_,_,rfl,h0,h1⟩:=h;obtain rfl:=h0;obtain rfl:=h1;rfl) (λ _ h=>h)
abbrev wf24 (l:(List GTenant)):Prop:=∀ a∈l,wf82 a
theorem rd24:Rdr Tryz.prog 24 (rL rTenant) wf24:=rd_slice Tryz.underlying24 (by kernel_rfl) (by rw [show Tryz.prog.bytesOf 82=16 by kernel_rfl];decide) rd82
abbrev wf4 (z:Bool):Prop:=True
theorem rd4:Rdr Tryz.prog 4 rB wf4:=rd_bool Tryz.underlying4
abbrev wf145 (x:GLane):Prop:=wf3 x.tenant∧wf3 x.credit∧wf4 x.opens
theorem rd145:Rdr Tryz.prog 145 rLane wf145:=(rd_struct (ts:=[3,3,4]) Tryz.underlying145 rfl (by kernel_rfl) (fd_cons rd3 (fd_cons rd3 (fd_one rd4)))).to (λ p=>(⟨p.1,p.2.1,p.2.2⟩:GLane)) (λ _ _ _ h=>by
 obtain ⟨_,_,rfl,h0,⟨_,_,rfl,h1,h2⟩⟩:=h;obtain rfl:=h0;obtain rfl:=h1;obtain rfl:=h2;rfl) (λ _ h=>h)
abbrev wf84 (l:(List GLane)):Prop:=∀ a∈l,wf145 a
theorem rd84:Rdr Tryz.prog 84 (rL rLane) wf84:=rd_slice Tryz.underlying84 (by kernel_rfl) (by rw [show Tryz.prog.bytesOf 145=24 by kernel_rfl];decide) rd145
abbrev wf147 (x:GReceiver):Prop:=wf3 x.tenant∧wf4 x.opens
theorem rd147:Rdr Tryz.prog 147 rReceiver wf147:=(rd_struct (ts:=[3,4]) Tryz.underlying147 rfl (by kernel_rfl) (fd_cons rd3 (fd_one rd4))).to (λ p=>(⟨p.1,p.2⟩:GReceiver)) (λ _ _ _ h=>by
 obtain ⟨_,_,rfl,h0,h1⟩:=h;obtain rfl:=h0;obtain rfl:=h1;rfl) (λ _ h=>h)
abbrev wf85 (l:(List GReceiver)):Prop:=∀ a∈l,wf147 a
theorem rd85:Rdr Tryz.prog 85 (rL rReceiver) wf85:=rd_slice Tryz.underlying85 (by kernel_rfl) (by rw [show Tryz.prog.bytesOf 147=16 by kernel_rfl];decide) rd147
abbrev wf87 (x:GChannel):Prop:=wf3 x.label∧wf84 x.lanes∧wf85 x.receivers
theorem rd87:Rdr Tryz.prog 87 rChannel wf87:=(rd_struct (ts:=[3,84,85]) Tryz.underlying87 rfl (by kernel_rfl) (fd_cons rd3 (fd_cons rd84 (fd_one rd85)))).to (λ p=>(⟨p.1,p.2.1,p.2.2⟩:GChannel)) (λ _ _ _ h=>h) (λ _ h=>h)
abbrev wf25 (l:(List GChannel)):Prop:=∀ a∈l,wf87 a
theorem rd25:Rdr Tryz.prog 25 (rL rChannel) wf25:=rd_slice Tryz.underlying25 (by kernel_rfl) (by rw [show Tryz.prog.bytesOf 87=56 by kernel_rfl];decide) rd87
abbrev wf89 (x:GGate):Prop:=wf3 x.frm∧wf3 x.til∧wf3 x.room
theorem rd89:Rdr Tryz.prog 89 rGate wf89:=(rd_struct (ts:=[3,3,3]) Tryz.underlying89 rfl (by kernel_rfl) (fd_cons rd3 (fd_cons rd3 (fd_one rd3)))).to (λ p=>(⟨p.1,p.2.1,p.2.2⟩:GGate)) (λ _ _ _ h=>by
 obtain ⟨_,_,rfl,h0,⟨_,_,rfl,h1,h2⟩⟩:=h;obtain rfl:=h0;obtain rfl:=h1;obtain rfl:=h2;rfl) (λ _ h=>h)
abbrev wf26 (l:(List GGate)):Prop:=∀ a∈l,wf89 a
theorem rd26:Rdr Tryz.prog 26 (rL rGate) wf26:=rd_slice Tryz.underlying26 (by kernel_rfl) (by rw [show Tryz.prog.bytesOf 89=24 by kernel_rfl];decide) rd89
abbrev wf27 (l:(List Int)):Prop:=∀ a∈l,wf3 a
theorem rd27:Rdr Tryz.prog 27 (rL (rI .i64)) wf27:=rd_slice Tryz.underlying27 (by kernel_rfl) (by rw [show Tryz.prog.bytesOf 3=8 by kernel_rfl];decide) rd3
abbrev wf29 (x:GConf):Prop:=wf23 x.flows∧wf24 x.tenants∧wf25 x.channels∧wf26 x.gates∧wf27 x.frame∧wf3 x.budget∧wf3 x.requests∧wf3 x.pending
theorem rd29:Rdr Tryz.prog 29 rConf wf29:=(rd_struct (ts:=[23,24,25,26,27,3,3,3]) Tryz.underlying29 rfl (by kernel_rfl) (fd_cons rd23 (fd_cons rd24 (fd_cons rd25 (fd_cons rd26 (fd_cons rd27 (fd_cons rd3 (fd_cons rd3 (fd_one rd3))))))))).to (λ p=>(⟨p.1,p.2.1,p.2.2.1,p.2.2.2.1,p.2.2.2.2.1,p.2.2.2.2.2.1,p.2.2.2.2.2.2.1,p.2.2.2.2.2.2.2⟩:GConf)) (λ _ _ _ h=>h) (λ _ h=>h)
abbrev wf5 (z:Int):Prop:=(Lit.int .u8 z).wf=true
theorem rd5:Rdr Tryz.prog 5 (rI .u8) wf5:=rd_int Tryz.underlying5
abbrev wf48 (l:(List Int)):Prop:=∀ a∈l,wf5 a
theorem rd48:Rdr Tryz.prog 48 (rL (rI .u8)) wf48:=rd_slice Tryz.underlying48 (by kernel_rfl) (by rw [show Tryz.prog.bytesOf 5=1 by kernel_rfl];decide) rd5
abbrev wf74 (l:(List (List Int))):Prop:=∀ a∈l,wf48 a
theorem rd74:Rdr Tryz.prog 74 (rL (rL (rI .u8))) wf74:=rd_slice Tryz.underlying74 (by kernel_rfl) (by rw [show Tryz.prog.bytesOf 48=24 by kernel_rfl];decide) rd48
abbrev wf76 (x:GTick):Prop:=wf74 x.bytes∧wf27 x.picks
theorem rd76:Rdr Tryz.prog 76 rTick wf76:=(rd_struct (ts:=[74,27]) Tryz.underlying76 rfl (by kernel_rfl) (fd_cons rd74 (fd_one rd27))).to (λ p=>(⟨p.1,p.2⟩:GTick)) (λ _ _ _ h=>h) (λ _ h=>h)
abbrev wf30 (l:(List GTick)):Prop:=∀ a∈l,wf76 a
theorem rd30:Rdr Tryz.prog 30 (rL rTick) wf30:=rd_slice Tryz.underlying30 (by kernel_rfl) (by rw [show Tryz.prog.bytesOf 76=48 by kernel_rfl];decide) rd76
abbrev wf9 (z:ByteArray):Prop:=z.size≤reachBytes
theorem rd9:Rdr Tryz.prog 9 rS wf9:=rd_string Tryz.underlying9
end Go.Proofs.YtppodgdhdddfkaaGreatDoor.Rd
