/- How the inputs' types read. -/
import Derived.Test.YtdjljgfffcjfmaaGreatDoorQMd
import Derived.Test.YtdjljgfffcjfmaaGreatDoorProg
set_option linter.unusedVariables false
namespace Go.Proofs.YtdjljgfffcjfmaaGreatDoor.Rd
open Go Go.RowKit Go.Proofs.YtdjljgfffcjfmaaGreatDoor.Sx Go.Proofs.YtdjljgfffcjfmaaGreatDoor
abbrev wf48 (z : Int) : Prop := (Lit.int .u64 z).wf = true
theorem rd48 : Rdr Tryz.prog 48 (rI .u64) wf48 := rd_int Tryz.underlying48
abbrev wf22 (l : (List Int)) : Prop := ∀ a ∈ l, wf48 a
theorem rd22 : Rdr Tryz.prog 22 (rL (rI .u64)) wf22 := rd_slice Tryz.underlying22 (by kernel_rfl) (by rw [show Tryz.prog.bytesOf 48 = 8 by kernel_rfl]; decide) rd48
abbrev wf3 (z : Int) : Prop := (Lit.int .i64 z).wf = true
theorem rd3 : Rdr Tryz.prog 3 (rI .i64) wf3 := rd_int Tryz.underlying3
abbrev wf54 (x : GTenant) : Prop := wf3 x.label ∧ wf3 x.quota
theorem rd54 : Rdr Tryz.prog 54 rTenant wf54 := (rd_struct (ts := [3, 3]) Tryz.underlying54 rfl (by kernel_rfl) (fd_cons rd3 (fd_one rd3))).to (fun p => (⟨p.1, p.2⟩ : GTenant)) (fun _ _ _ h => by
  obtain ⟨_, _, rfl, h0, h1⟩ := h; obtain rfl := h0; obtain rfl := h1; rfl) (fun _ h => h)
abbrev wf23 (l : (List GTenant)) : Prop := ∀ a ∈ l, wf54 a
theorem rd23 : Rdr Tryz.prog 23 (rL rTenant) wf23 := rd_slice Tryz.underlying23 (by kernel_rfl) (by rw [show Tryz.prog.bytesOf 54 = 16 by kernel_rfl]; decide) rd54
abbrev wf4 (z : Bool) : Prop := True
theorem rd4 : Rdr Tryz.prog 4 rB wf4 := rd_bool Tryz.underlying4
abbrev wf63 (x : GLane) : Prop := wf3 x.tenant ∧ wf3 x.credit ∧ wf4 x.opens
theorem rd63 : Rdr Tryz.prog 63 rLane wf63 := (rd_struct (ts := [3, 3, 4]) Tryz.underlying63 rfl (by kernel_rfl) (fd_cons rd3 (fd_cons rd3 (fd_one rd4)))).to (fun p => (⟨p.1, p.2.1, p.2.2⟩ : GLane)) (fun _ _ _ h => by
  obtain ⟨_, _, rfl, h0, ⟨_, _, rfl, h1, h2⟩⟩ := h; obtain rfl := h0; obtain rfl := h1; obtain rfl := h2; rfl) (fun _ h => h)
abbrev wf55 (l : (List GLane)) : Prop := ∀ a ∈ l, wf63 a
theorem rd55 : Rdr Tryz.prog 55 (rL rLane) wf55 := rd_slice Tryz.underlying55 (by kernel_rfl) (by rw [show Tryz.prog.bytesOf 63 = 24 by kernel_rfl]; decide) rd63
abbrev wf60 (x : GReceiver) : Prop := wf3 x.tenant ∧ wf4 x.opens
theorem rd60 : Rdr Tryz.prog 60 rReceiver wf60 := (rd_struct (ts := [3, 4]) Tryz.underlying60 rfl (by kernel_rfl) (fd_cons rd3 (fd_one rd4))).to (fun p => (⟨p.1, p.2⟩ : GReceiver)) (fun _ _ _ h => by
  obtain ⟨_, _, rfl, h0, h1⟩ := h; obtain rfl := h0; obtain rfl := h1; rfl) (fun _ h => h)
abbrev wf56 (l : (List GReceiver)) : Prop := ∀ a ∈ l, wf60 a
theorem rd56 : Rdr Tryz.prog 56 (rL rReceiver) wf56 := rd_slice Tryz.underlying56 (by kernel_rfl) (by rw [show Tryz.prog.bytesOf 60 = 16 by kernel_rfl]; decide) rd60
abbrev wf58 (x : GChannel) : Prop := wf3 x.label ∧ wf55 x.lanes ∧ wf56 x.receivers
theorem rd58 : Rdr Tryz.prog 58 rChannel wf58 := (rd_struct (ts := [3, 55, 56]) Tryz.underlying58 rfl (by kernel_rfl) (fd_cons rd3 (fd_cons rd55 (fd_one rd56)))).to (fun p => (⟨p.1, p.2.1, p.2.2⟩ : GChannel)) (fun _ _ _ h => h) (fun _ h => h)
abbrev wf24 (l : (List GChannel)) : Prop := ∀ a ∈ l, wf58 a
theorem rd24 : Rdr Tryz.prog 24 (rL rChannel) wf24 := rd_slice Tryz.underlying24 (by kernel_rfl) (by rw [show Tryz.prog.bytesOf 58 = 56 by kernel_rfl]; decide) rd58
abbrev wf92 (x : GGate) : Prop := wf3 x.frm ∧ wf3 x.til ∧ wf3 x.room
theorem rd92 : Rdr Tryz.prog 92 rGate wf92 := (rd_struct (ts := [3, 3, 3]) Tryz.underlying92 rfl (by kernel_rfl) (fd_cons rd3 (fd_cons rd3 (fd_one rd3)))).to (fun p => (⟨p.1, p.2.1, p.2.2⟩ : GGate)) (fun _ _ _ h => by
  obtain ⟨_, _, rfl, h0, ⟨_, _, rfl, h1, h2⟩⟩ := h; obtain rfl := h0; obtain rfl := h1; obtain rfl := h2; rfl) (fun _ h => h)
abbrev wf25 (l : (List GGate)) : Prop := ∀ a ∈ l, wf92 a
theorem rd25 : Rdr Tryz.prog 25 (rL rGate) wf25 := rd_slice Tryz.underlying25 (by kernel_rfl) (by rw [show Tryz.prog.bytesOf 92 = 24 by kernel_rfl]; decide) rd92
abbrev wf26 (l : (List Int)) : Prop := ∀ a ∈ l, wf3 a
theorem rd26 : Rdr Tryz.prog 26 (rL (rI .i64)) wf26 := rd_slice Tryz.underlying26 (by kernel_rfl) (by rw [show Tryz.prog.bytesOf 3 = 8 by kernel_rfl]; decide) rd3
abbrev wf28 (x : GConf) : Prop := wf22 x.flows ∧ wf23 x.tenants ∧ wf24 x.channels ∧ wf25 x.gates ∧ wf26 x.frame ∧ wf3 x.budget ∧ wf3 x.requests ∧ wf3 x.pending
theorem rd28 : Rdr Tryz.prog 28 rConf wf28 := (rd_struct (ts := [22, 23, 24, 25, 26, 3, 3, 3]) Tryz.underlying28 rfl (by kernel_rfl) (fd_cons rd22 (fd_cons rd23 (fd_cons rd24 (fd_cons rd25 (fd_cons rd26 (fd_cons rd3 (fd_cons rd3 (fd_one rd3))))))))).to (fun p => (⟨p.1, p.2.1, p.2.2.1, p.2.2.2.1, p.2.2.2.2.1, p.2.2.2.2.2.1, p.2.2.2.2.2.2.1, p.2.2.2.2.2.2.2⟩ : GConf)) (fun _ _ _ h => h) (fun _ h => h)
abbrev wf9 (z : ByteArray) : Prop := z.size ≤ reachBytes
theorem rd9 : Rdr Tryz.prog 9 rS wf9 := rd_string Tryz.underlying9
end Go.Proofs.YtdjljgfffcjfmaaGreatDoor.Rd
