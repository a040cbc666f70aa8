/-
  NARROWER THAN 'FOR EVERY INPUT', by the rows' own cells (each row's printed sentence says how): ListQueues: laid · ListStops: laid · ListOnce: laid · ListRuns: laid · ListNobody: laid.
  DERIVED. THE GIVEN ROWS OF THIS SEAT. 5 by the template 'for every input the law returns true; each argument reads behind the call as it read before'; 0 by the template 'total and deterministic' (their statements: YtnnhpbjibhnhnabDoorTotals.lean).
  GIVEN WITH THE SEED: the statements are not yours to turn. If you find one false, say at which input.
  Laid BY PROGRAM, IN A SANDBOX (cutbox-rows.mjs): the forced cells as the released guide's own fill.sh prints them over the translation 95510ea05ee4b94d… (all of the seat's roots in one cut). By AI agents, Wed Nov 11 2026. No macro, syntax, notation, axiom, sorry.
-/
import Derived.Test.YtnnhpbjibhnhnabDoorChecked
import GoSem.Claim
import GoSem.ClaimJoined
import GoSem.ClaimMapViews
import Derived.JoinedTies
import Derived.KernelRfl
namespace Go.Proofs.YtnnhpbjibhnhnabDoor
/- THE CELL 'sum', in the pinned program and in every row, IS THE sha256 OF THE DUMP (.gsa) THAT YtnnhpbjibhnhnabDoorProg.lean LOADS. Nothing in Lean hashes anything: it is a label: what it is worth is what the hold of that sum in a sandbox is worth. -/
noncomputable def Tryd.pinned : Pinned := { name := "ytnnhpbjibhnhnabdoor", sum := "95510ea05ee4b94d828e9c17cded324983493fce2ce3ca43f58ce13b1ee0bfa7", checked := Tryd.checked }
namespace Rows
def none {H : Type} : Left H := { results := [], args := [] }

/- WHAT THE LISTED PACKAGE-LEVEL VARIABLES READ AS WHEN THE CALL BEGINS. Each datum BY PROGRAM (the guide's laid-datum.mjs) off the statement by which the dump's own 'gosem.cut.vars' lays the variable. In a bare row this is a premise. The card (YtnnhpbjibhnhnabDoorCards.lean) ties it to the program's text. -/
def laid_rampart_slotlist_loose {H : Type} : DataW H := .agg [.lit (.int .i64 (-1)), .lit (.int .i64 (-1)), .lit (.int .i64 (-1))]

/-- 'rampartlaw05.ListQueues': WHATEVER THE INPUT: true; the input reads as it did. -/
def listQueuesSpec : ChangeSpec := { name := "listQueues", fn := fun _ => fun
  | [d] => { results := [.lit (.bool true)], args := [d] }
  | _ => none }
def listQueuesRow : OpenClaim := { program := "ytnnhpbjibhnhnabdoor", sum := "95510ea05ee4b94d828e9c17cded324983493fce2ce3ca43f58ce13b1ee0bfa7", func := "rampart/rampartlaw05.ListQueues", spec := "listQueues", unfollowed := true, recurses := true, named := ["rampart/slotlist.loose"], apart := false, laid := [("rampart/slotlist.loose", laid_rampart_slotlist_loose)] }
def ListQueuesSaid : Prop := listQueuesRow.holds Tryd.pinned (OpenSpec.ofChange listQueuesSpec)

/-- ITS FALSE NEIGHBOUR: 'it returns false'. Refute it at one input. -/
def listQueuesWrong : ChangeSpec := { name := "listQueues", fn := fun _ => fun
  | [d] => { results := [.lit (.bool false)], args := [d] }
  | _ => none }
def ListQueuesWrongFalsely : Prop := listQueuesRow.holds Tryd.pinned (OpenSpec.ofChange listQueuesWrong)

/-- 'rampartlaw05.ListStops': WHATEVER THE INPUT: true; the input reads as it did. -/
def listStopsSpec : ChangeSpec := { name := "listStops", fn := fun _ => fun
  | [d1, d2, d3] => { results := [.lit (.bool true)], args := [d1, d2, d3] }
  | _ => none }
def listStopsRow : OpenClaim := { program := "ytnnhpbjibhnhnabdoor", sum := "95510ea05ee4b94d828e9c17cded324983493fce2ce3ca43f58ce13b1ee0bfa7", func := "rampart/rampartlaw05.ListStops", spec := "listStops", unfollowed := true, recurses := true, named := ["rampart/slotlist.loose"], apart := false, laid := [("rampart/slotlist.loose", laid_rampart_slotlist_loose)] }
def ListStopsSaid : Prop := listStopsRow.holds Tryd.pinned (OpenSpec.ofChange listStopsSpec)

/-- ITS FALSE NEIGHBOUR: 'it returns false'. Refute it at one input. -/
def listStopsWrong : ChangeSpec := { name := "listStops", fn := fun _ => fun
  | [d1, d2, d3] => { results := [.lit (.bool false)], args := [d1, d2, d3] }
  | _ => none }
def ListStopsWrongFalsely : Prop := listStopsRow.holds Tryd.pinned (OpenSpec.ofChange listStopsWrong)

/-- 'rampartlaw05.ListOnce': WHATEVER THE INPUT: true; the input reads as it did. -/
def listOnceSpec : ChangeSpec := { name := "listOnce", fn := fun _ => fun
  | [d] => { results := [.lit (.bool true)], args := [d] }
  | _ => none }
def listOnceRow : OpenClaim := { program := "ytnnhpbjibhnhnabdoor", sum := "95510ea05ee4b94d828e9c17cded324983493fce2ce3ca43f58ce13b1ee0bfa7", func := "rampart/rampartlaw05.ListOnce", spec := "listOnce", unfollowed := true, recurses := true, named := ["rampart/slotlist.loose"], apart := false, laid := [("rampart/slotlist.loose", laid_rampart_slotlist_loose)] }
def ListOnceSaid : Prop := listOnceRow.holds Tryd.pinned (OpenSpec.ofChange listOnceSpec)

/-- ITS FALSE NEIGHBOUR: 'it returns false'. Refute it at one input. -/
def listOnceWrong : ChangeSpec := { name := "listOnce", fn := fun _ => fun
  | [d] => { results := [.lit (.bool false)], args := [d] }
  | _ => none }
def ListOnceWrongFalsely : Prop := listOnceRow.holds Tryd.pinned (OpenSpec.ofChange listOnceWrong)

/-- 'rampartlaw05.ListRuns': WHATEVER THE INPUT: true; the input reads as it did. -/
def listRunsSpec : ChangeSpec := { name := "listRuns", fn := fun _ => fun
  | [d1, d2, d3] => { results := [.lit (.bool true)], args := [d1, d2, d3] }
  | _ => none }
def listRunsRow : OpenClaim := { program := "ytnnhpbjibhnhnabdoor", sum := "95510ea05ee4b94d828e9c17cded324983493fce2ce3ca43f58ce13b1ee0bfa7", func := "rampart/rampartlaw05.ListRuns", spec := "listRuns", unfollowed := true, recurses := true, named := ["rampart/slotlist.loose"], apart := false, laid := [("rampart/slotlist.loose", laid_rampart_slotlist_loose)] }
def ListRunsSaid : Prop := listRunsRow.holds Tryd.pinned (OpenSpec.ofChange listRunsSpec)

/-- ITS FALSE NEIGHBOUR: 'it returns false'. Refute it at one input. -/
def listRunsWrong : ChangeSpec := { name := "listRuns", fn := fun _ => fun
  | [d1, d2, d3] => { results := [.lit (.bool false)], args := [d1, d2, d3] }
  | _ => none }
def ListRunsWrongFalsely : Prop := listRunsRow.holds Tryd.pinned (OpenSpec.ofChange listRunsWrong)

/-- 'rampartlaw05.ListNobody': WHATEVER THE INPUT: true; the input reads as it did. -/
def listNobodySpec : ChangeSpec := { name := "listNobody", fn := fun _ => fun
  | [d] => { results := [.lit (.bool true)], args := [d] }
  | _ => none }
def listNobodyRow : OpenClaim := { program := "ytnnhpbjibhnhnabdoor", sum := "95510ea05ee4b94d828e9c17cded324983493fce2ce3ca43f58ce13b1ee0bfa7", func := "rampart/rampartlaw05.ListNobody", spec := "listNobody", unfollowed := true, recurses := true, named := ["rampart/slotlist.loose"], apart := false, laid := [("rampart/slotlist.loose", laid_rampart_slotlist_loose)] }
def ListNobodySaid : Prop := listNobodyRow.holds Tryd.pinned (OpenSpec.ofChange listNobodySpec)

/-- ITS FALSE NEIGHBOUR: 'it returns false'. Refute it at one input. -/
def listNobodyWrong : ChangeSpec := { name := "listNobody", fn := fun _ => fun
  | [d] => { results := [.lit (.bool false)], args := [d] }
  | _ => none }
def ListNobodyWrongFalsely : Prop := listNobodyRow.holds Tryd.pinned (OpenSpec.ofChange listNobodyWrong)

/- THE SECOND FORM. 'bulk': how many values and letters a reading holds, each counted each time it is reached (what is shared counts as often as it is met; a slice's spare places count too). A statement '..UptoSaid' is the law's where the arguments, and the package variables that the reading takes, are together of bulk at most 1048576: NARROWER than '..Said'. Prove '..Said' where nothing that the law and all that it calls make is longer than what came in: it says more and counts as full. Else prove '..UptoSaid'. A law counts once. -/
mutual
def uptoBulk {H : Type} : DataW H → Nat
  | .lit (.string bytes) => bytes.length + 1
  | .lit _ => 1
  | .nil => 1
  | .ptr d => uptoBulk d + 1
  | .slice elems spare => uptoBulkAll elems + uptoBulkAll spare + 1
  | .agg parts => uptoBulkAll parts + 1
  | .iface _ d => uptoBulk d + 1
  | .map entries => uptoBulkEntries entries + 1
  | .held _ => 1
def uptoBulkAll {H : Type} : List (DataW H) → Nat
  | [] => 0
  | d :: r => uptoBulk d + uptoBulkAll r
def uptoBulkEntries {H : Type} : List (Lit × DataW H) → Nat
  | [] => 0
  | x :: r => uptoBulkEntry x + uptoBulkEntries r
def uptoBulkEntry {H : Type} : Lit × DataW H → Nat
  | (.string bytes, d) => bytes.length + uptoBulk d + 1
  | (_, d) => uptoBulk d + 1
 end
def uptoSmall : (H : Type) → List (DataW H) → Bool := fun _ ds => decide (uptoBulkAll ds ≤ 1048576)
def OpenSpec.upto (s : _root_.Go.ChangeSpec) : _root_.Go.OpenSpec := { _root_.Go.OpenSpec.ofChange s with cond := some uptoSmall }

/-- 'rampartlaw05.ListQueues', WHERE WHAT IT READS IS OF BULK AT MOST 1048576: true; the input reads as it did. -/
def listQueuesUptoRow : OpenClaim := { program := "ytnnhpbjibhnhnabdoor", sum := "95510ea05ee4b94d828e9c17cded324983493fce2ce3ca43f58ce13b1ee0bfa7", func := "rampart/rampartlaw05.ListQueues", spec := "listQueues", unfollowed := true, recurses := true, named := ["rampart/slotlist.loose"], apart := false, laid := [("rampart/slotlist.loose", laid_rampart_slotlist_loose)], narrowed := true }
def ListQueuesUptoSaid : Prop := listQueuesUptoRow.holds Tryd.pinned (OpenSpec.upto listQueuesSpec)

/-- 'rampartlaw05.ListStops', WHERE WHAT IT READS IS OF BULK AT MOST 1048576: true; the input reads as it did. -/
def listStopsUptoRow : OpenClaim := { program := "ytnnhpbjibhnhnabdoor", sum := "95510ea05ee4b94d828e9c17cded324983493fce2ce3ca43f58ce13b1ee0bfa7", func := "rampart/rampartlaw05.ListStops", spec := "listStops", unfollowed := true, recurses := true, named := ["rampart/slotlist.loose"], apart := false, laid := [("rampart/slotlist.loose", laid_rampart_slotlist_loose)], narrowed := true }
def ListStopsUptoSaid : Prop := listStopsUptoRow.holds Tryd.pinned (OpenSpec.upto listStopsSpec)

/-- 'rampartlaw05.ListOnce', WHERE WHAT IT READS IS OF BULK AT MOST 1048576: true; the input reads as it did. -/
def listOnceUptoRow : OpenClaim := { program := "ytnnhpbjibhnhnabdoor", sum := "95510ea05ee4b94d828e9c17cded324983493fce2ce3ca43f58ce13b1ee0bfa7", func := "rampart/rampartlaw05.ListOnce", spec := "listOnce", unfollowed := true, recurses := true, named := ["rampart/slotlist.loose"], apart := false, laid := [("rampart/slotlist.loose", laid_rampart_slotlist_loose)], narrowed := true }
def ListOnceUptoSaid : Prop := listOnceUptoRow.holds Tryd.pinned (OpenSpec.upto listOnceSpec)

/-- 'rampartlaw05.ListRuns', WHERE WHAT IT READS IS OF BULK AT MOST 1048576: true; the input reads as it did. -/
def listRunsUptoRow : OpenClaim := { program := "ytnnhpbjibhnhnabdoor", sum := "95510ea05ee4b94d828e9c17cded324983493fce2ce3ca43f58ce13b1ee0bfa7", func := "rampart/rampartlaw05.ListRuns", spec := "listRuns", unfollowed := true, recurses := true, named := ["rampart/slotlist.loose"], apart := false, laid := [("rampart/slotlist.loose", laid_rampart_slotlist_loose)], narrowed := true }
def ListRunsUptoSaid : Prop := listRunsUptoRow.holds Tryd.pinned (OpenSpec.upto listRunsSpec)

/-- 'rampartlaw05.ListNobody', WHERE WHAT IT READS IS OF BULK AT MOST 1048576: true; the input reads as it did. -/
def listNobodyUptoRow : OpenClaim := { program := "ytnnhpbjibhnhnabdoor", sum := "95510ea05ee4b94d828e9c17cded324983493fce2ce3ca43f58ce13b1ee0bfa7", func := "rampart/rampartlaw05.ListNobody", spec := "listNobody", unfollowed := true, recurses := true, named := ["rampart/slotlist.loose"], apart := false, laid := [("rampart/slotlist.loose", laid_rampart_slotlist_loose)], narrowed := true }
def ListNobodyUptoSaid : Prop := listNobodyUptoRow.holds Tryd.pinned (OpenSpec.upto listNobodySpec)

end Rows
end Go.Proofs.YtnnhpbjibhnhnabDoor
