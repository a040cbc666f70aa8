/-
  NARROWER THAN 'FOR EVERY INPUT', by the rows' own cells (each row's printed sentence says how): ArenaDead: laid · ArenaApart: laid · ArenaRuns: laid · ArenaSums: laid · ArenaNobody: laid.
  DERIVED. THE GIVEN ROWS OF THIS SEAT. 5 by the template 'for every input the law returns true; each argument reads behind the call as it read before'; 0 by the template 'total and deterministic' (their statements: YtjjaijabdfoanaaDoorTotals.lean).
  GIVEN WITH THE SEED: the statements are not yours to turn. If you find one false, say at which input.
  Laid BY PROGRAM, IN A SANDBOX (cutbox-rows.mjs): the forced cells as the released guide's own fill.sh prints them over the translation 44af4ce9ce806f0d… (all of the seat's roots in one cut). By AI agents, Wed Nov 11 2026. No macro, syntax, notation, axiom, sorry.
-/
import Derived.Test.YtjjaijabdfoanaaDoorChecked
import GoSem.Claim
import GoSem.ClaimJoined
import GoSem.ClaimMapViews
import Derived.JoinedTies
import Derived.KernelRfl
namespace Go.Proofs.YtjjaijabdfoanaaDoor
/- THE CELL 'sum', in the pinned program and in every row, IS THE sha256 OF THE DUMP (.gsa) THAT YtjjaijabdfoanaaDoorProg.lean LOADS. Nothing in Lean hashes anything: it is a label: what it is worth is what the hold of that sum in a sandbox is worth. -/
noncomputable def Tryd.pinned : Pinned := { name := "ytjjaijabdfoanaadoor", sum := "44af4ce9ce806f0d12e29dce169ea36301bc2a114b631023eb9fc36f8e234c53", checked := Tryd.checked }
namespace Rows
def none {H : Type} : Left H := { results := [], args := [] }

/- WHAT THE LISTED PACKAGE-LEVEL VARIABLES READ AS WHEN THE CALL BEGINS. Each datum BY PROGRAM (the guide's laid-datum.mjs) off the statement by which the dump's own 'gosem.cut.vars' lays the variable. In a bare row this is a premise. The card (YtjjaijabdfoanaaDoorCards.lean) ties it to the program's text. -/
def laid_rampart_slotlist_loose {H : Type} : DataW H := .agg [.lit (.int .i64 (-1)), .lit (.int .i64 (-1)), .lit (.int .i64 (-1))]

/-- 'rampartlaw06.ArenaDead': WHATEVER THE INPUT: true; the input reads as it did. -/
def arenaDeadSpec : ChangeSpec := { name := "arenaDead", fn := fun _ => fun
  | [d1, d2] => { results := [.lit (.bool true)], args := [d1, d2] }
  | _ => none }
def arenaDeadRow : OpenClaim := { program := "ytjjaijabdfoanaadoor", sum := "44af4ce9ce806f0d12e29dce169ea36301bc2a114b631023eb9fc36f8e234c53", func := "rampart/rampartlaw06.ArenaDead", spec := "arenaDead", unfollowed := true, recurses := true, named := ["rampart/slotlist.loose"], apart := false, laid := [("rampart/slotlist.loose", laid_rampart_slotlist_loose)] }
def ArenaDeadSaid : Prop := arenaDeadRow.holds Tryd.pinned (OpenSpec.ofChange arenaDeadSpec)

/-- ITS FALSE NEIGHBOUR: 'it returns false'. Refute it at one input. -/
def arenaDeadWrong : ChangeSpec := { name := "arenaDead", fn := fun _ => fun
  | [d1, d2] => { results := [.lit (.bool false)], args := [d1, d2] }
  | _ => none }
def ArenaDeadWrongFalsely : Prop := arenaDeadRow.holds Tryd.pinned (OpenSpec.ofChange arenaDeadWrong)

/-- 'rampartlaw06.ArenaApart': WHATEVER THE INPUT: true; the input reads as it did. -/
def arenaApartSpec : ChangeSpec := { name := "arenaApart", fn := fun _ => fun
  | [d1, d2, d3] => { results := [.lit (.bool true)], args := [d1, d2, d3] }
  | _ => none }
def arenaApartRow : OpenClaim := { program := "ytjjaijabdfoanaadoor", sum := "44af4ce9ce806f0d12e29dce169ea36301bc2a114b631023eb9fc36f8e234c53", func := "rampart/rampartlaw06.ArenaApart", spec := "arenaApart", unfollowed := true, recurses := true, named := ["rampart/slotlist.loose"], apart := false, laid := [("rampart/slotlist.loose", laid_rampart_slotlist_loose)] }
def ArenaApartSaid : Prop := arenaApartRow.holds Tryd.pinned (OpenSpec.ofChange arenaApartSpec)

/-- ITS FALSE NEIGHBOUR: 'it returns false'. Refute it at one input. -/
def arenaApartWrong : ChangeSpec := { name := "arenaApart", fn := fun _ => fun
  | [d1, d2, d3] => { results := [.lit (.bool false)], args := [d1, d2, d3] }
  | _ => none }
def ArenaApartWrongFalsely : Prop := arenaApartRow.holds Tryd.pinned (OpenSpec.ofChange arenaApartWrong)

/-- 'rampartlaw06.ArenaRuns': WHATEVER THE INPUT: true; the input reads as it did. -/
def arenaRunsSpec : ChangeSpec := { name := "arenaRuns", fn := fun _ => fun
  | [d1, d2, d3, d4, d5] => { results := [.lit (.bool true)], args := [d1, d2, d3, d4, d5] }
  | _ => none }
def arenaRunsRow : OpenClaim := { program := "ytjjaijabdfoanaadoor", sum := "44af4ce9ce806f0d12e29dce169ea36301bc2a114b631023eb9fc36f8e234c53", func := "rampart/rampartlaw06.ArenaRuns", spec := "arenaRuns", unfollowed := true, recurses := true, named := ["rampart/slotlist.loose"], apart := false, laid := [("rampart/slotlist.loose", laid_rampart_slotlist_loose)] }
def ArenaRunsSaid : Prop := arenaRunsRow.holds Tryd.pinned (OpenSpec.ofChange arenaRunsSpec)

/-- ITS FALSE NEIGHBOUR: 'it returns false'. Refute it at one input. -/
def arenaRunsWrong : ChangeSpec := { name := "arenaRuns", fn := fun _ => fun
  | [d1, d2, d3, d4, d5] => { results := [.lit (.bool false)], args := [d1, d2, d3, d4, d5] }
  | _ => none }
def ArenaRunsWrongFalsely : Prop := arenaRunsRow.holds Tryd.pinned (OpenSpec.ofChange arenaRunsWrong)

/-- 'rampartlaw06.ArenaSums': WHATEVER THE INPUT: true; the input reads as it did. -/
def arenaSumsSpec : ChangeSpec := { name := "arenaSums", fn := fun _ => fun
  | [d1, d2] => { results := [.lit (.bool true)], args := [d1, d2] }
  | _ => none }
def arenaSumsRow : OpenClaim := { program := "ytjjaijabdfoanaadoor", sum := "44af4ce9ce806f0d12e29dce169ea36301bc2a114b631023eb9fc36f8e234c53", func := "rampart/rampartlaw06.ArenaSums", spec := "arenaSums", unfollowed := true, recurses := true, named := ["rampart/slotlist.loose"], apart := false, laid := [("rampart/slotlist.loose", laid_rampart_slotlist_loose)] }
def ArenaSumsSaid : Prop := arenaSumsRow.holds Tryd.pinned (OpenSpec.ofChange arenaSumsSpec)

/-- ITS FALSE NEIGHBOUR: 'it returns false'. Refute it at one input. -/
def arenaSumsWrong : ChangeSpec := { name := "arenaSums", fn := fun _ => fun
  | [d1, d2] => { results := [.lit (.bool false)], args := [d1, d2] }
  | _ => none }
def ArenaSumsWrongFalsely : Prop := arenaSumsRow.holds Tryd.pinned (OpenSpec.ofChange arenaSumsWrong)

/-- 'rampartlaw06.ArenaNobody': WHATEVER THE INPUT: true; the input reads as it did. -/
def arenaNobodySpec : ChangeSpec := { name := "arenaNobody", fn := fun _ => fun
  | [d] => { results := [.lit (.bool true)], args := [d] }
  | _ => none }
def arenaNobodyRow : OpenClaim := { program := "ytjjaijabdfoanaadoor", sum := "44af4ce9ce806f0d12e29dce169ea36301bc2a114b631023eb9fc36f8e234c53", func := "rampart/rampartlaw06.ArenaNobody", spec := "arenaNobody", unfollowed := true, recurses := true, named := ["rampart/slotlist.loose"], apart := false, laid := [("rampart/slotlist.loose", laid_rampart_slotlist_loose)] }
def ArenaNobodySaid : Prop := arenaNobodyRow.holds Tryd.pinned (OpenSpec.ofChange arenaNobodySpec)

/-- ITS FALSE NEIGHBOUR: 'it returns false'. Refute it at one input. -/
def arenaNobodyWrong : ChangeSpec := { name := "arenaNobody", fn := fun _ => fun
  | [d] => { results := [.lit (.bool false)], args := [d] }
  | _ => none }
def ArenaNobodyWrongFalsely : Prop := arenaNobodyRow.holds Tryd.pinned (OpenSpec.ofChange arenaNobodyWrong)

/- THE SECOND FORM. 'bulk': how many values and letters a reading holds, each counted each time it is reached (what is shared counts as often as it is met; a slice's spare places count too). A statement '..UptoSaid' is the law's where the arguments, and the package variables that the reading takes, are together of bulk at most 1048576: NARROWER than '..Said'. Prove '..Said' where nothing that the law and all that it calls make is longer than what came in: it says more and counts as full. Else prove '..UptoSaid'. A law counts once. -/
mutual
def uptoBulk {H : Type} : DataW H → Nat
  | .lit (.string bytes) => bytes.length + 1
  | .lit _ => 1
  | .nil => 1
  | .ptr d => uptoBulk d + 1
  | .slice elems spare => uptoBulkAll elems + uptoBulkAll spare + 1
  | .agg parts => uptoBulkAll parts + 1
  | .iface _ d => uptoBulk d + 1
  | .map entries => uptoBulkEntries entries + 1
  | .held _ => 1
def uptoBulkAll {H : Type} : List (DataW H) → Nat
  | [] => 0
  | d :: r => uptoBulk d + uptoBulkAll r
def uptoBulkEntries {H : Type} : List (Lit × DataW H) → Nat
  | [] => 0
  | x :: r => uptoBulkEntry x + uptoBulkEntries r
def uptoBulkEntry {H : Type} : Lit × DataW H → Nat
  | (.string bytes, d) => bytes.length + uptoBulk d + 1
  | (_, d) => uptoBulk d + 1
 end
def uptoSmall : (H : Type) → List (DataW H) → Bool := fun _ ds => decide (uptoBulkAll ds ≤ 1048576)
def OpenSpec.upto (s : _root_.Go.ChangeSpec) : _root_.Go.OpenSpec := { _root_.Go.OpenSpec.ofChange s with cond := some uptoSmall }

/-- 'rampartlaw06.ArenaDead', WHERE WHAT IT READS IS OF BULK AT MOST 1048576: true; the input reads as it did. -/
def arenaDeadUptoRow : OpenClaim := { program := "ytjjaijabdfoanaadoor", sum := "44af4ce9ce806f0d12e29dce169ea36301bc2a114b631023eb9fc36f8e234c53", func := "rampart/rampartlaw06.ArenaDead", spec := "arenaDead", unfollowed := true, recurses := true, named := ["rampart/slotlist.loose"], apart := false, laid := [("rampart/slotlist.loose", laid_rampart_slotlist_loose)], narrowed := true }
def ArenaDeadUptoSaid : Prop := arenaDeadUptoRow.holds Tryd.pinned (OpenSpec.upto arenaDeadSpec)

/-- 'rampartlaw06.ArenaApart', WHERE WHAT IT READS IS OF BULK AT MOST 1048576: true; the input reads as it did. -/
def arenaApartUptoRow : OpenClaim := { program := "ytjjaijabdfoanaadoor", sum := "44af4ce9ce806f0d12e29dce169ea36301bc2a114b631023eb9fc36f8e234c53", func := "rampart/rampartlaw06.ArenaApart", spec := "arenaApart", unfollowed := true, recurses := true, named := ["rampart/slotlist.loose"], apart := false, laid := [("rampart/slotlist.loose", laid_rampart_slotlist_loose)], narrowed := true }
def ArenaApartUptoSaid : Prop := arenaApartUptoRow.holds Tryd.pinned (OpenSpec.upto arenaApartSpec)

/-- 'rampartlaw06.ArenaRuns', WHERE WHAT IT READS IS OF BULK AT MOST 1048576: true; the input reads as it did. -/
def arenaRunsUptoRow : OpenClaim := { program := "ytjjaijabdfoanaadoor", sum := "44af4ce9ce806f0d12e29dce169ea36301bc2a114b631023eb9fc36f8e234c53", func := "rampart/rampartlaw06.ArenaRuns", spec := "arenaRuns", unfollowed := true, recurses := true, named := ["rampart/slotlist.loose"], apart := false, laid := [("rampart/slotlist.loose", laid_rampart_slotlist_loose)], narrowed := true }
def ArenaRunsUptoSaid : Prop := arenaRunsUptoRow.holds Tryd.pinned (OpenSpec.upto arenaRunsSpec)

/-- 'rampartlaw06.ArenaSums', WHERE WHAT IT READS IS OF BULK AT MOST 1048576: true; the input reads as it did. -/
def arenaSumsUptoRow : OpenClaim := { program := "ytjjaijabdfoanaadoor", sum := "44af4ce9ce806f0d12e29dce169ea36301bc2a114b631023eb9fc36f8e234c53", func := "rampart/rampartlaw06.ArenaSums", spec := "arenaSums", unfollowed := true, recurses := true, named := ["rampart/slotlist.loose"], apart := false, laid := [("rampart/slotlist.loose", laid_rampart_slotlist_loose)], narrowed := true }
def ArenaSumsUptoSaid : Prop := arenaSumsUptoRow.holds Tryd.pinned (OpenSpec.upto arenaSumsSpec)

/-- 'rampartlaw06.ArenaNobody', WHERE WHAT IT READS IS OF BULK AT MOST 1048576: true; the input reads as it did. -/
def arenaNobodyUptoRow : OpenClaim := { program := "ytjjaijabdfoanaadoor", sum := "44af4ce9ce806f0d12e29dce169ea36301bc2a114b631023eb9fc36f8e234c53", func := "rampart/rampartlaw06.ArenaNobody", spec := "arenaNobody", unfollowed := true, recurses := true, named := ["rampart/slotlist.loose"], apart := false, laid := [("rampart/slotlist.loose", laid_rampart_slotlist_loose)], narrowed := true }
def ArenaNobodyUptoSaid : Prop := arenaNobodyUptoRow.holds Tryd.pinned (OpenSpec.upto arenaNobodySpec)

end Rows
end Go.Proofs.YtjjaijabdfoanaaDoor
