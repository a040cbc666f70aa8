/- How the inputs' types read. -/
import Derived.Test.YtbljpcikcefkiaaGreatDoorQMd
import Derived.Test.YtbljpcikcefkiaaGreatDoorProg
set_option linter.unusedVariables false
namespace Go.Proofs.YtbljpcikcefkiaaGreatDoor.Rd
open Go Go.RowKit Go.Proofs.YtbljpcikcefkiaaGreatDoor.Sx Go.Proofs.YtbljpcikcefkiaaGreatDoor
abbrev wf58 (z : Int) : Prop := (Lit.int .u64 z).wf = true
theorem rd58 : Rdr Tryz.prog 58 (rI .u64) wf58 := rd_int Tryz.underlying58
abbrev wf22 (l : (List Int)) : Prop := ∀ a ∈ l, wf58 a
theorem rd22 : Rdr Tryz.prog 22 (rL (rI .u64)) wf22 := rd_slice Tryz.underlying22 (by kernel_rfl) (by rw [show Tryz.prog.bytesOf 58 = 8 by kernel_rfl]; decide) rd58
abbrev wf3 (z : Int) : Prop := (Lit.int .i64 z).wf = true
theorem rd3 : Rdr Tryz.prog 3 (rI .i64) wf3 := rd_int Tryz.underlying3
abbrev wf83 (x : GTenant) : Prop := wf3 x.label ∧ wf3 x.quota
theorem rd83 : Rdr Tryz.prog 83 rTenant wf83 := (rd_struct (ts := [3, 3]) Tryz.underlying83 rfl (by kernel_rfl) (fd_cons rd3 (fd_one rd3))).to (fun p => (⟨p.1, p.2⟩ : GTenant)) (fun _ _ _ h => by
  obtain ⟨_, _, rfl, h0, h1⟩ := h; obtain rfl := h0; obtain rfl := h1; rfl) (fun _ h => h)
abbrev wf23 (l : (List GTenant)) : Prop := ∀ a ∈ l, wf83 a
theorem rd23 : Rdr Tryz.prog 23 (rL rTenant) wf23 := rd_slice Tryz.underlying23 (by kernel_rfl) (by rw [show Tryz.prog.bytesOf 83 = 16 by kernel_rfl]; decide) rd83
abbrev wf4 (z : Bool) : Prop := True
theorem rd4 : Rdr Tryz.prog 4 rB wf4 := rd_bool Tryz.underlying4
abbrev wf152 (x : GLane) : Prop := wf3 x.tenant ∧ wf3 x.credit ∧ wf4 x.opens
theorem rd152 : Rdr Tryz.prog 152 rLane wf152 := (rd_struct (ts := [3, 3, 4]) Tryz.underlying152 rfl (by kernel_rfl) (fd_cons rd3 (fd_cons rd3 (fd_one rd4)))).to (fun p => (⟨p.1, p.2.1, p.2.2⟩ : GLane)) (fun _ _ _ h => by
  obtain ⟨_, _, rfl, h0, ⟨_, _, rfl, h1, h2⟩⟩ := h; obtain rfl := h0; obtain rfl := h1; obtain rfl := h2; rfl) (fun _ h => h)
abbrev wf47 (l : (List GLane)) : Prop := ∀ a ∈ l, wf152 a
theorem rd47 : Rdr Tryz.prog 47 (rL rLane) wf47 := rd_slice Tryz.underlying47 (by kernel_rfl) (by rw [show Tryz.prog.bytesOf 152 = 24 by kernel_rfl]; decide) rd152
abbrev wf156 (x : GReceiver) : Prop := wf3 x.tenant ∧ wf4 x.opens
theorem rd156 : Rdr Tryz.prog 156 rReceiver wf156 := (rd_struct (ts := [3, 4]) Tryz.underlying156 rfl (by kernel_rfl) (fd_cons rd3 (fd_one rd4))).to (fun p => (⟨p.1, p.2⟩ : GReceiver)) (fun _ _ _ h => by
  obtain ⟨_, _, rfl, h0, h1⟩ := h; obtain rfl := h0; obtain rfl := h1; rfl) (fun _ h => h)
abbrev wf48 (l : (List GReceiver)) : Prop := ∀ a ∈ l, wf156 a
theorem rd48 : Rdr Tryz.prog 48 (rL rReceiver) wf48 := rd_slice Tryz.underlying48 (by kernel_rfl) (by rw [show Tryz.prog.bytesOf 156 = 16 by kernel_rfl]; decide) rd156
abbrev wf50 (x : GChannel) : Prop := wf3 x.label ∧ wf47 x.lanes ∧ wf48 x.receivers
theorem rd50 : Rdr Tryz.prog 50 rChannel wf50 := (rd_struct (ts := [3, 47, 48]) Tryz.underlying50 rfl (by kernel_rfl) (fd_cons rd3 (fd_cons rd47 (fd_one rd48)))).to (fun p => (⟨p.1, p.2.1, p.2.2⟩ : GChannel)) (fun _ _ _ h => h) (fun _ h => h)
abbrev wf24 (l : (List GChannel)) : Prop := ∀ a ∈ l, wf50 a
theorem rd24 : Rdr Tryz.prog 24 (rL rChannel) wf24 := rd_slice Tryz.underlying24 (by kernel_rfl) (by rw [show Tryz.prog.bytesOf 50 = 56 by kernel_rfl]; decide) rd50
abbrev wf78 (x : GGate) : Prop := wf3 x.frm ∧ wf3 x.til ∧ wf3 x.room
theorem rd78 : Rdr Tryz.prog 78 rGate wf78 := (rd_struct (ts := [3, 3, 3]) Tryz.underlying78 rfl (by kernel_rfl) (fd_cons rd3 (fd_cons rd3 (fd_one rd3)))).to (fun p => (⟨p.1, p.2.1, p.2.2⟩ : GGate)) (fun _ _ _ h => by
  obtain ⟨_, _, rfl, h0, ⟨_, _, rfl, h1, h2⟩⟩ := h; obtain rfl := h0; obtain rfl := h1; obtain rfl := h2; rfl) (fun _ h => h)
abbrev wf25 (l : (List GGate)) : Prop := ∀ a ∈ l, wf78 a
theorem rd25 : Rdr Tryz.prog 25 (rL rGate) wf25 := rd_slice Tryz.underlying25 (by kernel_rfl) (by rw [show Tryz.prog.bytesOf 78 = 24 by kernel_rfl]; decide) rd78
abbrev wf26 (l : (List Int)) : Prop := ∀ a ∈ l, wf3 a
theorem rd26 : Rdr Tryz.prog 26 (rL (rI .i64)) wf26 := rd_slice Tryz.underlying26 (by kernel_rfl) (by rw [show Tryz.prog.bytesOf 3 = 8 by kernel_rfl]; decide) rd3
abbrev wf28 (x : GConf) : Prop := wf22 x.flows ∧ wf23 x.tenants ∧ wf24 x.channels ∧ wf25 x.gates ∧ wf26 x.frame ∧ wf3 x.budget ∧ wf3 x.requests ∧ wf3 x.pending
theorem rd28 : Rdr Tryz.prog 28 rConf wf28 := (rd_struct (ts := [22, 23, 24, 25, 26, 3, 3, 3]) Tryz.underlying28 rfl (by kernel_rfl) (fd_cons rd22 (fd_cons rd23 (fd_cons rd24 (fd_cons rd25 (fd_cons rd26 (fd_cons rd3 (fd_cons rd3 (fd_one rd3))))))))).to (fun p => (⟨p.1, p.2.1, p.2.2.1, p.2.2.2.1, p.2.2.2.2.1, p.2.2.2.2.2.1, p.2.2.2.2.2.2.1, p.2.2.2.2.2.2.2⟩ : GConf)) (fun _ _ _ h => h) (fun _ h => h)
abbrev wf5 (z : Int) : Prop := (Lit.int .u8 z).wf = true
theorem rd5 : Rdr Tryz.prog 5 (rI .u8) wf5 := rd_int Tryz.underlying5
abbrev wf51 (l : (List Int)) : Prop := ∀ a ∈ l, wf5 a
theorem rd51 : Rdr Tryz.prog 51 (rL (rI .u8)) wf51 := rd_slice Tryz.underlying51 (by kernel_rfl) (by rw [show Tryz.prog.bytesOf 5 = 1 by kernel_rfl]; decide) rd5
abbrev wf52 (l : (List (List Int))) : Prop := ∀ a ∈ l, wf51 a
theorem rd52 : Rdr Tryz.prog 52 (rL (rL (rI .u8))) wf52 := rd_slice Tryz.underlying52 (by kernel_rfl) (by rw [show Tryz.prog.bytesOf 51 = 24 by kernel_rfl]; decide) rd51
abbrev wf54 (x : GTick) : Prop := wf52 x.bytes ∧ wf26 x.picks
theorem rd54 : Rdr Tryz.prog 54 rTick wf54 := (rd_struct (ts := [52, 26]) Tryz.underlying54 rfl (by kernel_rfl) (fd_cons rd52 (fd_one rd26))).to (fun p => (⟨p.1, p.2⟩ : GTick)) (fun _ _ _ h => h) (fun _ h => h)
abbrev wf29 (l : (List GTick)) : Prop := ∀ a ∈ l, wf54 a
theorem rd29 : Rdr Tryz.prog 29 (rL rTick) wf29 := rd_slice Tryz.underlying29 (by kernel_rfl) (by rw [show Tryz.prog.bytesOf 54 = 48 by kernel_rfl]; decide) rd54
abbrev wf74 (x : GStamp) : Prop := wf3 x.tick ∧ wf3 x.step
theorem rd74 : Rdr Tryz.prog 74 rStamp wf74 := (rd_struct (ts := [3, 3]) Tryz.underlying74 rfl (by kernel_rfl) (fd_cons rd3 (fd_one rd3))).to (fun p => (⟨p.1, p.2⟩ : GStamp)) (fun _ _ _ h => by
  obtain ⟨_, _, rfl, h0, h1⟩ := h; obtain rfl := h0; obtain rfl := h1; rfl) (fun _ h => h)
abbrev wf76 (x : GRecord) : Prop := wf74 x.stamp ∧ wf3 x.gate ∧ wf58 x.payload
theorem rd76 : Rdr Tryz.prog 76 rRecord wf76 := (rd_struct (ts := [74, 3, 58]) Tryz.underlying76 rfl (by kernel_rfl) (fd_cons rd74 (fd_cons rd3 (fd_one rd58)))).to (fun p => (⟨p.1, p.2.1, p.2.2⟩ : GRecord)) (fun _ _ _ h => by
  obtain ⟨_, _, rfl, h0, ⟨_, _, rfl, h1, h2⟩⟩ := h; obtain rfl := h0; obtain rfl := h1; obtain rfl := h2; rfl) (fun _ h => h)
abbrev wf30 (l : (List GRecord)) : Prop := ∀ a ∈ l, wf76 a
theorem rd30 : Rdr Tryz.prog 30 (rL rRecord) wf30 := rd_slice Tryz.underlying30 (by kernel_rfl) (by rw [show Tryz.prog.bytesOf 76 = 32 by kernel_rfl]; decide) rd76
end Go.Proofs.YtbljpcikcefkiaaGreatDoor.Rd
