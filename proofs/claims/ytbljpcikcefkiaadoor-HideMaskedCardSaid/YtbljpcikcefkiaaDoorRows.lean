/-
  NARROWER THAN 'FOR EVERY INPUT', by the rows' own cells (each row's printed sentence says how): HideMasked: laid · HideSwapped: laid.
  DERIVED. THE GIVEN ROWS OF THIS SEAT. 2 by the template 'for every input the law returns true; each argument reads behind the call as it read before'; 0 by the template 'total and deterministic' (their statements: YtbljpcikcefkiaaDoorTotals.lean).
  GIVEN WITH THE SEED: the statements are not yours to turn. If you find one false, say at which input.
  Laid BY PROGRAM, IN A SANDBOX (cutbox-rows.mjs): the forced cells as the released guide's own fill.sh prints them over the translation 90f27a96b733dbaa… (all of the seat's roots in one cut). By AI agents, Wed Nov 11 2026. No macro, syntax, notation, axiom, sorry.
-/
import Derived.Test.YtbljpcikcefkiaaDoorChecked
import GoSem.Claim
import GoSem.ClaimJoined
import GoSem.ClaimMapViews
import Derived.JoinedTies
import Derived.KernelRfl
namespace Go.Proofs.YtbljpcikcefkiaaDoor
/- THE CELL 'sum', in the pinned program and in every row, IS THE sha256 OF THE DUMP (.gsa) THAT YtbljpcikcefkiaaDoorProg.lean LOADS. Nothing in Lean hashes anything: it is a label: what it is worth is what the hold of that sum in a sandbox is worth. -/
noncomputable def Tryd.pinned : Pinned := { name := "ytbljpcikcefkiaadoor", sum := "90f27a96b733dbaa5cabfff5f7d51511adc6f1be3eea7f371e71094a4e13aa8e", checked := Tryd.checked }
namespace Rows
def none {H : Type} : Left H := { results := [], args := [] }

/- WHAT THE LISTED PACKAGE-LEVEL VARIABLES READ AS WHEN THE CALL BEGINS. Each datum BY PROGRAM (the guide's laid-datum.mjs) off the statement by which the dump's own 'gosem.cut.vars' lays the variable. In a bare row this is a premise. The card (YtbljpcikcefkiaaDoorCards.lean) ties it to the program's text. -/
def laid_rampart_wire_handlePart {H : Type} : DataW H := .agg [.lit (.int .i64 4), .lit (.int .i64 4)]
def laid_rampart_wire_payloadPart {H : Type} : DataW H := .agg [.lit (.int .i64 8), .lit (.int .i64 8)]

/-- 'rampartlaw25.HideMasked': WHATEVER THE INPUT: true; the input reads as it did. -/
def hideMaskedSpec : ChangeSpec := { name := "hideMasked", fn := fun _ => fun
  | [d1, d2, d3, d4] => { results := [.lit (.bool true)], args := [d1, d2, d3, d4] }
  | _ => none }
def hideMaskedRow : OpenClaim := { program := "ytbljpcikcefkiaadoor", sum := "90f27a96b733dbaa5cabfff5f7d51511adc6f1be3eea7f371e71094a4e13aa8e", func := "rampart/rampartlaw25.HideMasked", spec := "hideMasked", unfollowed := true, recurses := true, named := ["rampart/wire.handlePart", "rampart/wire.payloadPart"], apart := false, laid := [("rampart/wire.handlePart", laid_rampart_wire_handlePart), ("rampart/wire.payloadPart", laid_rampart_wire_payloadPart)] }
def HideMaskedSaid : Prop := hideMaskedRow.holds Tryd.pinned (OpenSpec.ofChange hideMaskedSpec)

/-- ITS FALSE NEIGHBOUR: 'it returns false'. Refute it at one input. -/
def hideMaskedWrong : ChangeSpec := { name := "hideMasked", fn := fun _ => fun
  | [d1, d2, d3, d4] => { results := [.lit (.bool false)], args := [d1, d2, d3, d4] }
  | _ => none }
def HideMaskedWrongFalsely : Prop := hideMaskedRow.holds Tryd.pinned (OpenSpec.ofChange hideMaskedWrong)

/-- 'rampartlaw25.HideSwapped': WHATEVER THE INPUT: true; the input reads as it did. -/
def hideSwappedSpec : ChangeSpec := { name := "hideSwapped", fn := fun _ => fun
  | [d1, d2, d3, d4, d5] => { results := [.lit (.bool true)], args := [d1, d2, d3, d4, d5] }
  | _ => none }
def hideSwappedRow : OpenClaim := { program := "ytbljpcikcefkiaadoor", sum := "90f27a96b733dbaa5cabfff5f7d51511adc6f1be3eea7f371e71094a4e13aa8e", func := "rampart/rampartlaw25.HideSwapped", spec := "hideSwapped", unfollowed := true, recurses := true, named := ["rampart/wire.handlePart", "rampart/wire.payloadPart"], apart := false, laid := [("rampart/wire.handlePart", laid_rampart_wire_handlePart), ("rampart/wire.payloadPart", laid_rampart_wire_payloadPart)] }
def HideSwappedSaid : Prop := hideSwappedRow.holds Tryd.pinned (OpenSpec.ofChange hideSwappedSpec)

/-- ITS FALSE NEIGHBOUR: 'it returns false'. Refute it at one input. -/
def hideSwappedWrong : ChangeSpec := { name := "hideSwapped", fn := fun _ => fun
  | [d1, d2, d3, d4, d5] => { results := [.lit (.bool false)], args := [d1, d2, d3, d4, d5] }
  | _ => none }
def HideSwappedWrongFalsely : Prop := hideSwappedRow.holds Tryd.pinned (OpenSpec.ofChange hideSwappedWrong)

/- THE SECOND FORM. 'bulk': how many values and letters a reading holds, each counted each time it is reached (what is shared counts as often as it is met; a slice's spare places count too). A statement '..UptoSaid' is the law's where the arguments, and the package variables that the reading takes, are together of bulk at most 1048576: NARROWER than '..Said'. Prove '..Said' where nothing that the law and all that it calls make is longer than what came in: it says more and counts as full. Else prove '..UptoSaid'. A law counts once. -/
mutual
def uptoBulk {H : Type} : DataW H → Nat
  | .lit (.string bytes) => bytes.length + 1
  | .lit _ => 1
  | .nil => 1
  | .ptr d => uptoBulk d + 1
  | .slice elems spare => uptoBulkAll elems + uptoBulkAll spare + 1
  | .agg parts => uptoBulkAll parts + 1
  | .iface _ d => uptoBulk d + 1
  | .map entries => uptoBulkEntries entries + 1
  | .held _ => 1
def uptoBulkAll {H : Type} : List (DataW H) → Nat
  | [] => 0
  | d :: r => uptoBulk d + uptoBulkAll r
def uptoBulkEntries {H : Type} : List (Lit × DataW H) → Nat
  | [] => 0
  | x :: r => uptoBulkEntry x + uptoBulkEntries r
def uptoBulkEntry {H : Type} : Lit × DataW H → Nat
  | (.string bytes, d) => bytes.length + uptoBulk d + 1
  | (_, d) => uptoBulk d + 1
 end
def uptoSmall : (H : Type) → List (DataW H) → Bool := fun _ ds => decide (uptoBulkAll ds ≤ 1048576)
def OpenSpec.upto (s : _root_.Go.ChangeSpec) : _root_.Go.OpenSpec := { _root_.Go.OpenSpec.ofChange s with cond := some uptoSmall }

/-- 'rampartlaw25.HideMasked', WHERE WHAT IT READS IS OF BULK AT MOST 1048576: true; the input reads as it did. -/
def hideMaskedUptoRow : OpenClaim := { program := "ytbljpcikcefkiaadoor", sum := "90f27a96b733dbaa5cabfff5f7d51511adc6f1be3eea7f371e71094a4e13aa8e", func := "rampart/rampartlaw25.HideMasked", spec := "hideMasked", unfollowed := true, recurses := true, named := ["rampart/wire.handlePart", "rampart/wire.payloadPart"], apart := false, laid := [("rampart/wire.handlePart", laid_rampart_wire_handlePart), ("rampart/wire.payloadPart", laid_rampart_wire_payloadPart)], narrowed := true }
def HideMaskedUptoSaid : Prop := hideMaskedUptoRow.holds Tryd.pinned (OpenSpec.upto hideMaskedSpec)

/-- 'rampartlaw25.HideSwapped', WHERE WHAT IT READS IS OF BULK AT MOST 1048576: true; the input reads as it did. -/
def hideSwappedUptoRow : OpenClaim := { program := "ytbljpcikcefkiaadoor", sum := "90f27a96b733dbaa5cabfff5f7d51511adc6f1be3eea7f371e71094a4e13aa8e", func := "rampart/rampartlaw25.HideSwapped", spec := "hideSwapped", unfollowed := true, recurses := true, named := ["rampart/wire.handlePart", "rampart/wire.payloadPart"], apart := false, laid := [("rampart/wire.handlePart", laid_rampart_wire_handlePart), ("rampart/wire.payloadPart", laid_rampart_wire_payloadPart)], narrowed := true }
def HideSwappedUptoSaid : Prop := hideSwappedUptoRow.holds Tryd.pinned (OpenSpec.upto hideSwappedSpec)

end Rows
end Go.Proofs.YtbljpcikcefkiaaDoor
