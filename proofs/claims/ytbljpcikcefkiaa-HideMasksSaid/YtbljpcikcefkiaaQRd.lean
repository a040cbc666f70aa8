/- How the inputs' types read. -/
import Derived.Test.YtbljpcikcefkiaaQMd
import Derived.Test.YtbljpcikcefkiaaProg
set_option linter.unusedVariables false
namespace Go.Proofs.Ytbljpcikcefkiaa.Rd
open Go Go.RowKit Go.Proofs.Ytbljpcikcefkiaa.Sx Go.Proofs.Ytbljpcikcefkiaa
abbrev wf33 (z : Int) : Prop := (Lit.int .u64 z).wf = true
theorem rd33 : Rdr Try.prog 33 (rI .u64) wf33 := rd_int Try.underlying33
abbrev wf22 (l : (List Int)) : Prop := ∀ a ∈ l, wf33 a
theorem rd22 : Rdr Try.prog 22 (rL (rI .u64)) wf22 := rd_slice Try.underlying22 (by kernel_rfl) (by rw [show Try.prog.bytesOf 33 = 8 by kernel_rfl]; decide) rd33
abbrev wf3 (z : Int) : Prop := (Lit.int .i64 z).wf = true
theorem rd3 : Rdr Try.prog 3 (rI .i64) wf3 := rd_int Try.underlying3
abbrev wf75 (x : GTenant) : Prop := wf3 x.label ∧ wf3 x.quota
theorem rd75 : Rdr Try.prog 75 rTenant wf75 := (rd_struct (ts := [3, 3]) Try.underlying75 rfl (by kernel_rfl) (fd_cons rd3 (fd_one rd3))).to (fun p => (⟨p.1, p.2⟩ : GTenant)) (fun _ _ _ h => by
  obtain ⟨_, _, rfl, h0, h1⟩ := h; obtain rfl := h0; obtain rfl := h1; rfl) (fun _ h => h)
abbrev wf23 (l : (List GTenant)) : Prop := ∀ a ∈ l, wf75 a
theorem rd23 : Rdr Try.prog 23 (rL rTenant) wf23 := rd_slice Try.underlying23 (by kernel_rfl) (by rw [show Try.prog.bytesOf 75 = 16 by kernel_rfl]; decide) rd75
abbrev wf4 (z : Bool) : Prop := True
theorem rd4 : Rdr Try.prog 4 rB wf4 := rd_bool Try.underlying4
abbrev wf114 (x : GLane) : Prop := wf3 x.tenant ∧ wf3 x.credit ∧ wf4 x.opens
theorem rd114 : Rdr Try.prog 114 rLane wf114 := (rd_struct (ts := [3, 3, 4]) Try.underlying114 rfl (by kernel_rfl) (fd_cons rd3 (fd_cons rd3 (fd_one rd4)))).to (fun p => (⟨p.1, p.2.1, p.2.2⟩ : GLane)) (fun _ _ _ h => by
  obtain ⟨_, _, rfl, h0, ⟨_, _, rfl, h1, h2⟩⟩ := h; obtain rfl := h0; obtain rfl := h1; obtain rfl := h2; rfl) (fun _ h => h)
abbrev wf47 (l : (List GLane)) : Prop := ∀ a ∈ l, wf114 a
theorem rd47 : Rdr Try.prog 47 (rL rLane) wf47 := rd_slice Try.underlying47 (by kernel_rfl) (by rw [show Try.prog.bytesOf 114 = 24 by kernel_rfl]; decide) rd114
abbrev wf118 (x : GReceiver) : Prop := wf3 x.tenant ∧ wf4 x.opens
theorem rd118 : Rdr Try.prog 118 rReceiver wf118 := (rd_struct (ts := [3, 4]) Try.underlying118 rfl (by kernel_rfl) (fd_cons rd3 (fd_one rd4))).to (fun p => (⟨p.1, p.2⟩ : GReceiver)) (fun _ _ _ h => by
  obtain ⟨_, _, rfl, h0, h1⟩ := h; obtain rfl := h0; obtain rfl := h1; rfl) (fun _ h => h)
abbrev wf48 (l : (List GReceiver)) : Prop := ∀ a ∈ l, wf118 a
theorem rd48 : Rdr Try.prog 48 (rL rReceiver) wf48 := rd_slice Try.underlying48 (by kernel_rfl) (by rw [show Try.prog.bytesOf 118 = 16 by kernel_rfl]; decide) rd118
abbrev wf50 (x : GChannel) : Prop := wf3 x.label ∧ wf47 x.lanes ∧ wf48 x.receivers
theorem rd50 : Rdr Try.prog 50 rChannel wf50 := (rd_struct (ts := [3, 47, 48]) Try.underlying50 rfl (by kernel_rfl) (fd_cons rd3 (fd_cons rd47 (fd_one rd48)))).to (fun p => (⟨p.1, p.2.1, p.2.2⟩ : GChannel)) (fun _ _ _ h => h) (fun _ h => h)
abbrev wf24 (l : (List GChannel)) : Prop := ∀ a ∈ l, wf50 a
theorem rd24 : Rdr Try.prog 24 (rL rChannel) wf24 := rd_slice Try.underlying24 (by kernel_rfl) (by rw [show Try.prog.bytesOf 50 = 56 by kernel_rfl]; decide) rd50
abbrev wf107 (x : GGate) : Prop := wf3 x.frm ∧ wf3 x.til ∧ wf3 x.room
theorem rd107 : Rdr Try.prog 107 rGate wf107 := (rd_struct (ts := [3, 3, 3]) Try.underlying107 rfl (by kernel_rfl) (fd_cons rd3 (fd_cons rd3 (fd_one rd3)))).to (fun p => (⟨p.1, p.2.1, p.2.2⟩ : GGate)) (fun _ _ _ h => by
  obtain ⟨_, _, rfl, h0, ⟨_, _, rfl, h1, h2⟩⟩ := h; obtain rfl := h0; obtain rfl := h1; obtain rfl := h2; rfl) (fun _ h => h)
abbrev wf25 (l : (List GGate)) : Prop := ∀ a ∈ l, wf107 a
theorem rd25 : Rdr Try.prog 25 (rL rGate) wf25 := rd_slice Try.underlying25 (by kernel_rfl) (by rw [show Try.prog.bytesOf 107 = 24 by kernel_rfl]; decide) rd107
abbrev wf26 (l : (List Int)) : Prop := ∀ a ∈ l, wf3 a
theorem rd26 : Rdr Try.prog 26 (rL (rI .i64)) wf26 := rd_slice Try.underlying26 (by kernel_rfl) (by rw [show Try.prog.bytesOf 3 = 8 by kernel_rfl]; decide) rd3
abbrev wf28 (x : GConf) : Prop := wf22 x.flows ∧ wf23 x.tenants ∧ wf24 x.channels ∧ wf25 x.gates ∧ wf26 x.frame ∧ wf3 x.budget ∧ wf3 x.requests ∧ wf3 x.pending
theorem rd28 : Rdr Try.prog 28 rConf wf28 := (rd_struct (ts := [22, 23, 24, 25, 26, 3, 3, 3]) Try.underlying28 rfl (by kernel_rfl) (fd_cons rd22 (fd_cons rd23 (fd_cons rd24 (fd_cons rd25 (fd_cons rd26 (fd_cons rd3 (fd_cons rd3 (fd_one rd3))))))))).to (fun p => (⟨p.1, p.2.1, p.2.2.1, p.2.2.2.1, p.2.2.2.2.1, p.2.2.2.2.2.1, p.2.2.2.2.2.2.1, p.2.2.2.2.2.2.2⟩ : GConf)) (fun _ _ _ h => h) (fun _ h => h)
abbrev wf5 (z : Int) : Prop := (Lit.int .u8 z).wf = true
theorem rd5 : Rdr Try.prog 5 (rI .u8) wf5 := rd_int Try.underlying5
abbrev wf51 (l : (List Int)) : Prop := ∀ a ∈ l, wf5 a
theorem rd51 : Rdr Try.prog 51 (rL (rI .u8)) wf51 := rd_slice Try.underlying51 (by kernel_rfl) (by rw [show Try.prog.bytesOf 5 = 1 by kernel_rfl]; decide) rd5
abbrev wf52 (l : (List (List Int))) : Prop := ∀ a ∈ l, wf51 a
theorem rd52 : Rdr Try.prog 52 (rL (rL (rI .u8))) wf52 := rd_slice Try.underlying52 (by kernel_rfl) (by rw [show Try.prog.bytesOf 51 = 24 by kernel_rfl]; decide) rd51
abbrev wf54 (x : GTick) : Prop := wf52 x.bytes ∧ wf26 x.picks
theorem rd54 : Rdr Try.prog 54 rTick wf54 := (rd_struct (ts := [52, 26]) Try.underlying54 rfl (by kernel_rfl) (fd_cons rd52 (fd_one rd26))).to (fun p => (⟨p.1, p.2⟩ : GTick)) (fun _ _ _ h => h) (fun _ h => h)
abbrev wf29 (l : (List GTick)) : Prop := ∀ a ∈ l, wf54 a
theorem rd29 : Rdr Try.prog 29 (rL rTick) wf29 := rd_slice Try.underlying29 (by kernel_rfl) (by rw [show Try.prog.bytesOf 54 = 48 by kernel_rfl]; decide) rd54
end Go.Proofs.Ytbljpcikcefkiaa.Rd
