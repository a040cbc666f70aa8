/- How the inputs' types read. -/
import Derived.Test.YtppodgdhdddfkaaGreatDoorQMd
import Derived.Test.YtppodgdhdddfkaaGreatDoorProg
set_option linter.unusedVariables false
namespace Go.Proofs.YtppodgdhdddfkaaGreatDoor.Rd
open Go Go.RowKit Go.Proofs.YtppodgdhdddfkaaGreatDoor.Sx Go.Proofs.YtppodgdhdddfkaaGreatDoor
abbrev wf40 (z : Int) : Prop := (Lit.int .u64 z).wf = true
theorem rd40 : Rdr Tryz.prog 40 (rI .u64) wf40 := rd_int Tryz.underlying40
abbrev wf5 (z : Int) : Prop := (Lit.int .u8 z).wf = true
theorem rd5 : Rdr Tryz.prog 5 (rI .u8) wf5 := rd_int Tryz.underlying5
abbrev wf38 (z : Int) : Prop := (Lit.int .u8 z).wf = true
theorem rd38 : Rdr Tryz.prog 38 (rI .u8) wf38 := rd_int Tryz.underlying38
abbrev wf39 (z : Int) : Prop := (Lit.int .u32 z).wf = true
theorem rd39 : Rdr Tryz.prog 39 (rI .u32) wf39 := rd_int Tryz.underlying39
abbrev wf42 (x : GRequest) : Prop := wf38 x.kind ∧ wf5 x.a ∧ wf5 x.rights ∧ wf39 x.handle ∧ wf40 x.payload
theorem rd42 : Rdr Tryz.prog 42 rRequest wf42 := (rd_struct (ts := [38, 5, 5, 39, 40]) Tryz.underlying42 rfl (by kernel_rfl) (fd_cons rd38 (fd_cons rd5 (fd_cons rd5 (fd_cons rd39 (fd_one rd40)))))).to (fun p => (⟨p.1, p.2.1, p.2.2.1, p.2.2.2.1, p.2.2.2.2⟩ : GRequest)) (fun _ _ _ h => by
  obtain ⟨_, _, rfl, h0, ⟨_, _, rfl, h1, ⟨_, _, rfl, h2, ⟨_, _, rfl, h3, h4⟩⟩⟩⟩ := h; obtain rfl := h0; obtain rfl := h1; obtain rfl := h2; obtain rfl := h3; obtain rfl := h4; rfl) (fun _ h => h)
abbrev wf9 (z : ByteArray) : Prop := z.size ≤ reachBytes
theorem rd9 : Rdr Tryz.prog 9 rS wf9 := rd_string Tryz.underlying9
end Go.Proofs.YtppodgdhdddfkaaGreatDoor.Rd
