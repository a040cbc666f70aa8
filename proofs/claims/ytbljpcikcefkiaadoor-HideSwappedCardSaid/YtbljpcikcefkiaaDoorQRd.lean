/- How the inputs' types read. -/
import Derived.Test.YtbljpcikcefkiaaDoorQMd
import Derived.Test.YtbljpcikcefkiaaDoorProg
set_option linter.unusedVariables false
namespace Go.Proofs.YtbljpcikcefkiaaDoor.Rd
open Go Go.RowKit Go.Proofs.YtbljpcikcefkiaaDoor.Sx Go.Proofs.YtbljpcikcefkiaaDoor
abbrev wf36 (z : Int) : Prop := (Lit.int .u64 z).wf = true
theorem rd36 : Rdr Tryd.prog 36 (rI .u64) wf36 := rd_int Tryd.underlying36
abbrev wf22 (l : (List Int)) : Prop := ∀ a ∈ l, wf36 a
theorem rd22 : Rdr Tryd.prog 22 (rL (rI .u64)) wf22 := rd_slice Tryd.underlying22 (by kernel_rfl) (by rw [show Tryd.prog.bytesOf 36 = 8 by kernel_rfl]; decide) rd36
abbrev wf3 (z : Int) : Prop := (Lit.int .i64 z).wf = true
theorem rd3 : Rdr Tryd.prog 3 (rI .i64) wf3 := rd_int Tryd.underlying3
abbrev wf67 (x : GTenant) : Prop := wf3 x.label ∧ wf3 x.quota
theorem rd67 : Rdr Tryd.prog 67 rTenant wf67 := (rd_struct (ts := [3, 3]) Tryd.underlying67 rfl (by kernel_rfl) (fd_cons rd3 (fd_one rd3))).to (fun p => (⟨p.1, p.2⟩ : GTenant)) (fun _ _ _ h => by
  obtain ⟨_, _, rfl, h0, h1⟩ := h; obtain rfl := h0; obtain rfl := h1; rfl) (fun _ h => h)
abbrev wf23 (l : (List GTenant)) : Prop := ∀ a ∈ l, wf67 a
theorem rd23 : Rdr Tryd.prog 23 (rL rTenant) wf23 := rd_slice Tryd.underlying23 (by kernel_rfl) (by rw [show Tryd.prog.bytesOf 67 = 16 by kernel_rfl]; decide) rd67
abbrev wf4 (z : Bool) : Prop := True
theorem rd4 : Rdr Tryd.prog 4 rB wf4 := rd_bool Tryd.underlying4
abbrev wf123 (x : GLane) : Prop := wf3 x.tenant ∧ wf3 x.credit ∧ wf4 x.opens
theorem rd123 : Rdr Tryd.prog 123 rLane wf123 := (rd_struct (ts := [3, 3, 4]) Tryd.underlying123 rfl (by kernel_rfl) (fd_cons rd3 (fd_cons rd3 (fd_one rd4)))).to (fun p => (⟨p.1, p.2.1, p.2.2⟩ : GLane)) (fun _ _ _ h => by
  obtain ⟨_, _, rfl, h0, ⟨_, _, rfl, h1, h2⟩⟩ := h; obtain rfl := h0; obtain rfl := h1; obtain rfl := h2; rfl) (fun _ h => h)
abbrev wf45 (l : (List GLane)) : Prop := ∀ a ∈ l, wf123 a
theorem rd45 : Rdr Tryd.prog 45 (rL rLane) wf45 := rd_slice Tryd.underlying45 (by kernel_rfl) (by rw [show Tryd.prog.bytesOf 123 = 24 by kernel_rfl]; decide) rd123
abbrev wf125 (x : GReceiver) : Prop := wf3 x.tenant ∧ wf4 x.opens
theorem rd125 : Rdr Tryd.prog 125 rReceiver wf125 := (rd_struct (ts := [3, 4]) Tryd.underlying125 rfl (by kernel_rfl) (fd_cons rd3 (fd_one rd4))).to (fun p => (⟨p.1, p.2⟩ : GReceiver)) (fun _ _ _ h => by
  obtain ⟨_, _, rfl, h0, h1⟩ := h; obtain rfl := h0; obtain rfl := h1; rfl) (fun _ h => h)
abbrev wf46 (l : (List GReceiver)) : Prop := ∀ a ∈ l, wf125 a
theorem rd46 : Rdr Tryd.prog 46 (rL rReceiver) wf46 := rd_slice Tryd.underlying46 (by kernel_rfl) (by rw [show Tryd.prog.bytesOf 125 = 16 by kernel_rfl]; decide) rd125
abbrev wf48 (x : GChannel) : Prop := wf3 x.label ∧ wf45 x.lanes ∧ wf46 x.receivers
theorem rd48 : Rdr Tryd.prog 48 rChannel wf48 := (rd_struct (ts := [3, 45, 46]) Tryd.underlying48 rfl (by kernel_rfl) (fd_cons rd3 (fd_cons rd45 (fd_one rd46)))).to (fun p => (⟨p.1, p.2.1, p.2.2⟩ : GChannel)) (fun _ _ _ h => h) (fun _ h => h)
abbrev wf24 (l : (List GChannel)) : Prop := ∀ a ∈ l, wf48 a
theorem rd24 : Rdr Tryd.prog 24 (rL rChannel) wf24 := rd_slice Tryd.underlying24 (by kernel_rfl) (by rw [show Tryd.prog.bytesOf 48 = 56 by kernel_rfl]; decide) rd48
abbrev wf115 (x : GGate) : Prop := wf3 x.frm ∧ wf3 x.til ∧ wf3 x.room
theorem rd115 : Rdr Tryd.prog 115 rGate wf115 := (rd_struct (ts := [3, 3, 3]) Tryd.underlying115 rfl (by kernel_rfl) (fd_cons rd3 (fd_cons rd3 (fd_one rd3)))).to (fun p => (⟨p.1, p.2.1, p.2.2⟩ : GGate)) (fun _ _ _ h => by
  obtain ⟨_, _, rfl, h0, ⟨_, _, rfl, h1, h2⟩⟩ := h; obtain rfl := h0; obtain rfl := h1; obtain rfl := h2; rfl) (fun _ h => h)
abbrev wf25 (l : (List GGate)) : Prop := ∀ a ∈ l, wf115 a
theorem rd25 : Rdr Tryd.prog 25 (rL rGate) wf25 := rd_slice Tryd.underlying25 (by kernel_rfl) (by rw [show Tryd.prog.bytesOf 115 = 24 by kernel_rfl]; decide) rd115
abbrev wf26 (l : (List Int)) : Prop := ∀ a ∈ l, wf3 a
theorem rd26 : Rdr Tryd.prog 26 (rL (rI .i64)) wf26 := rd_slice Tryd.underlying26 (by kernel_rfl) (by rw [show Tryd.prog.bytesOf 3 = 8 by kernel_rfl]; decide) rd3
abbrev wf28 (x : GConf) : Prop := wf22 x.flows ∧ wf23 x.tenants ∧ wf24 x.channels ∧ wf25 x.gates ∧ wf26 x.frame ∧ wf3 x.budget ∧ wf3 x.requests ∧ wf3 x.pending
theorem rd28 : Rdr Tryd.prog 28 rConf wf28 := (rd_struct (ts := [22, 23, 24, 25, 26, 3, 3, 3]) Tryd.underlying28 rfl (by kernel_rfl) (fd_cons rd22 (fd_cons rd23 (fd_cons rd24 (fd_cons rd25 (fd_cons rd26 (fd_cons rd3 (fd_cons rd3 (fd_one rd3))))))))).to (fun p => (⟨p.1, p.2.1, p.2.2.1, p.2.2.2.1, p.2.2.2.2.1, p.2.2.2.2.2.1, p.2.2.2.2.2.2.1, p.2.2.2.2.2.2.2⟩ : GConf)) (fun _ _ _ h => h) (fun _ h => h)
abbrev wf5 (z : Int) : Prop := (Lit.int .u8 z).wf = true
theorem rd5 : Rdr Tryd.prog 5 (rI .u8) wf5 := rd_int Tryd.underlying5
abbrev wf49 (l : (List Int)) : Prop := ∀ a ∈ l, wf5 a
theorem rd49 : Rdr Tryd.prog 49 (rL (rI .u8)) wf49 := rd_slice Tryd.underlying49 (by kernel_rfl) (by rw [show Tryd.prog.bytesOf 5 = 1 by kernel_rfl]; decide) rd5
abbrev wf50 (l : (List (List Int))) : Prop := ∀ a ∈ l, wf49 a
theorem rd50 : Rdr Tryd.prog 50 (rL (rL (rI .u8))) wf50 := rd_slice Tryd.underlying50 (by kernel_rfl) (by rw [show Tryd.prog.bytesOf 49 = 24 by kernel_rfl]; decide) rd49
abbrev wf52 (x : GTick) : Prop := wf50 x.bytes ∧ wf26 x.picks
theorem rd52 : Rdr Tryd.prog 52 rTick wf52 := (rd_struct (ts := [50, 26]) Tryd.underlying52 rfl (by kernel_rfl) (fd_cons rd50 (fd_one rd26))).to (fun p => (⟨p.1, p.2⟩ : GTick)) (fun _ _ _ h => h) (fun _ h => h)
abbrev wf29 (l : (List GTick)) : Prop := ∀ a ∈ l, wf52 a
theorem rd29 : Rdr Tryd.prog 29 (rL rTick) wf29 := rd_slice Tryd.underlying29 (by kernel_rfl) (by rw [show Tryd.prog.bytesOf 52 = 48 by kernel_rfl]; decide) rd52
end Go.Proofs.YtbljpcikcefkiaaDoor.Rd
