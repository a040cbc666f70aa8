/-
  NARROWER THAN 'FOR EVERY INPUT', by the rows' own cells (each row's printed sentence says how): DeriveRuns: laid · DeriveTrees: laid · DeriveCuts: laid · DeriveUpward: laid · DeriveNobody: laid.
  DERIVED. THE GIVEN ROWS OF THIS SEAT. 5 by the template 'for every input the law returns true; each argument reads behind the call as it read before'; 0 by the template 'total and deterministic' (their statements: YtcbkpekbfkaeeaaDoorTotals.lean).
  GIVEN WITH THE SEED: the statements are not yours to turn. If you find one false, say at which input.
  Laid BY PROGRAM, IN A SANDBOX (cutbox-rows.mjs): the forced cells as the released guide's own fill.sh prints them over the translation ee02bac1547e00b5… (all of the seat's roots in one cut). By AI agents, Wed Nov 11 2026. No macro, syntax, notation, axiom, sorry.
-/
import Derived.Test.YtcbkpekbfkaeeaaDoorChecked
import GoSem.Claim
import GoSem.ClaimJoined
import GoSem.ClaimMapViews
import Derived.JoinedTies
import Derived.KernelRfl
namespace Go.Proofs.YtcbkpekbfkaeeaaDoor
/- THE CELL 'sum', in the pinned program and in every row, IS THE sha256 OF THE DUMP (.gsa) THAT YtcbkpekbfkaeeaaDoorProg.lean LOADS. Nothing in Lean hashes anything: it is a label: what it is worth is what the hold of that sum in a sandbox is worth. -/
noncomputable def Tryd.pinned : Pinned := { name := "ytcbkpekbfkaeeaadoor", sum := "ee02bac1547e00b5fc89067b4cbc64afe025a7f93ddfbd079f9572155c46db33", checked := Tryd.checked }
namespace Rows
def none {H : Type} : Left H := { results := [], args := [] }

/- WHAT THE LISTED PACKAGE-LEVEL VARIABLES READ AS WHEN THE CALL BEGINS. Each datum BY PROGRAM (the guide's laid-datum.mjs) off the statement by which the dump's own 'gosem.cut.vars' lays the variable. In a bare row this is a premise. The card (YtcbkpekbfkaeeaaDoorCards.lean) ties it to the program's text. -/
def laid_rampart_slotlist_loose {H : Type} : DataW H := .agg [.lit (.int .i64 (-1)), .lit (.int .i64 (-1)), .lit (.int .i64 (-1))]

/-- 'rampartlaw12.DeriveRuns': WHATEVER THE INPUT: true; the input reads as it did. -/
def deriveRunsSpec : ChangeSpec := { name := "deriveRuns", fn := fun _ => fun
  | [d1, d2, d3, d4, d5] => { results := [.lit (.bool true)], args := [d1, d2, d3, d4, d5] }
  | _ => none }
def deriveRunsRow : OpenClaim := { program := "ytcbkpekbfkaeeaadoor", sum := "ee02bac1547e00b5fc89067b4cbc64afe025a7f93ddfbd079f9572155c46db33", func := "rampart/rampartlaw12.DeriveRuns", spec := "deriveRuns", unfollowed := true, recurses := true, named := ["rampart/slotlist.loose"], apart := false, laid := [("rampart/slotlist.loose", laid_rampart_slotlist_loose)] }
def DeriveRunsSaid : Prop := deriveRunsRow.holds Tryd.pinned (OpenSpec.ofChange deriveRunsSpec)

/-- ITS FALSE NEIGHBOUR: 'it returns false'. Refute it at one input. -/
def deriveRunsWrong : ChangeSpec := { name := "deriveRuns", fn := fun _ => fun
  | [d1, d2, d3, d4, d5] => { results := [.lit (.bool false)], args := [d1, d2, d3, d4, d5] }
  | _ => none }
def DeriveRunsWrongFalsely : Prop := deriveRunsRow.holds Tryd.pinned (OpenSpec.ofChange deriveRunsWrong)

/-- 'rampartlaw12.DeriveTrees': WHATEVER THE INPUT: true; the input reads as it did. -/
def deriveTreesSpec : ChangeSpec := { name := "deriveTrees", fn := fun _ => fun
  | [d] => { results := [.lit (.bool true)], args := [d] }
  | _ => none }
def deriveTreesRow : OpenClaim := { program := "ytcbkpekbfkaeeaadoor", sum := "ee02bac1547e00b5fc89067b4cbc64afe025a7f93ddfbd079f9572155c46db33", func := "rampart/rampartlaw12.DeriveTrees", spec := "deriveTrees", unfollowed := true, recurses := true, named := ["rampart/slotlist.loose"], apart := false, laid := [("rampart/slotlist.loose", laid_rampart_slotlist_loose)] }
def DeriveTreesSaid : Prop := deriveTreesRow.holds Tryd.pinned (OpenSpec.ofChange deriveTreesSpec)

/-- ITS FALSE NEIGHBOUR: 'it returns false'. Refute it at one input. -/
def deriveTreesWrong : ChangeSpec := { name := "deriveTrees", fn := fun _ => fun
  | [d] => { results := [.lit (.bool false)], args := [d] }
  | _ => none }
def DeriveTreesWrongFalsely : Prop := deriveTreesRow.holds Tryd.pinned (OpenSpec.ofChange deriveTreesWrong)

/-- 'rampartlaw12.DeriveCuts': WHATEVER THE INPUT: true; the input reads as it did. -/
def deriveCutsSpec : ChangeSpec := { name := "deriveCuts", fn := fun _ => fun
  | [d1, d2, d3] => { results := [.lit (.bool true)], args := [d1, d2, d3] }
  | _ => none }
def deriveCutsRow : OpenClaim := { program := "ytcbkpekbfkaeeaadoor", sum := "ee02bac1547e00b5fc89067b4cbc64afe025a7f93ddfbd079f9572155c46db33", func := "rampart/rampartlaw12.DeriveCuts", spec := "deriveCuts", unfollowed := true, recurses := true, named := ["rampart/slotlist.loose"], apart := false, laid := [("rampart/slotlist.loose", laid_rampart_slotlist_loose)] }
def DeriveCutsSaid : Prop := deriveCutsRow.holds Tryd.pinned (OpenSpec.ofChange deriveCutsSpec)

/-- ITS FALSE NEIGHBOUR: 'it returns false'. Refute it at one input. -/
def deriveCutsWrong : ChangeSpec := { name := "deriveCuts", fn := fun _ => fun
  | [d1, d2, d3] => { results := [.lit (.bool false)], args := [d1, d2, d3] }
  | _ => none }
def DeriveCutsWrongFalsely : Prop := deriveCutsRow.holds Tryd.pinned (OpenSpec.ofChange deriveCutsWrong)

/-- 'rampartlaw12.DeriveUpward': WHATEVER THE INPUT: true; the input reads as it did. -/
def deriveUpwardSpec : ChangeSpec := { name := "deriveUpward", fn := fun _ => fun
  | [d1, d2, d3] => { results := [.lit (.bool true)], args := [d1, d2, d3] }
  | _ => none }
def deriveUpwardRow : OpenClaim := { program := "ytcbkpekbfkaeeaadoor", sum := "ee02bac1547e00b5fc89067b4cbc64afe025a7f93ddfbd079f9572155c46db33", func := "rampart/rampartlaw12.DeriveUpward", spec := "deriveUpward", unfollowed := true, recurses := true, named := ["rampart/slotlist.loose"], apart := false, laid := [("rampart/slotlist.loose", laid_rampart_slotlist_loose)] }
def DeriveUpwardSaid : Prop := deriveUpwardRow.holds Tryd.pinned (OpenSpec.ofChange deriveUpwardSpec)

/-- ITS FALSE NEIGHBOUR: 'it returns false'. Refute it at one input. -/
def deriveUpwardWrong : ChangeSpec := { name := "deriveUpward", fn := fun _ => fun
  | [d1, d2, d3] => { results := [.lit (.bool false)], args := [d1, d2, d3] }
  | _ => none }
def DeriveUpwardWrongFalsely : Prop := deriveUpwardRow.holds Tryd.pinned (OpenSpec.ofChange deriveUpwardWrong)

/-- 'rampartlaw12.DeriveNobody': WHATEVER THE INPUT: true; the input reads as it did. -/
def deriveNobodySpec : ChangeSpec := { name := "deriveNobody", fn := fun _ => fun
  | [d] => { results := [.lit (.bool true)], args := [d] }
  | _ => none }
def deriveNobodyRow : OpenClaim := { program := "ytcbkpekbfkaeeaadoor", sum := "ee02bac1547e00b5fc89067b4cbc64afe025a7f93ddfbd079f9572155c46db33", func := "rampart/rampartlaw12.DeriveNobody", spec := "deriveNobody", unfollowed := true, recurses := true, named := ["rampart/slotlist.loose"], apart := false, laid := [("rampart/slotlist.loose", laid_rampart_slotlist_loose)] }
def DeriveNobodySaid : Prop := deriveNobodyRow.holds Tryd.pinned (OpenSpec.ofChange deriveNobodySpec)

/-- ITS FALSE NEIGHBOUR: 'it returns false'. Refute it at one input. -/
def deriveNobodyWrong : ChangeSpec := { name := "deriveNobody", fn := fun _ => fun
  | [d] => { results := [.lit (.bool false)], args := [d] }
  | _ => none }
def DeriveNobodyWrongFalsely : Prop := deriveNobodyRow.holds Tryd.pinned (OpenSpec.ofChange deriveNobodyWrong)

/- THE SECOND FORM. 'bulk': how many values and letters a reading holds, each counted each time it is reached (what is shared counts as often as it is met; a slice's spare places count too). A statement '..UptoSaid' is the law's where the arguments, and the package variables that the reading takes, are together of bulk at most 1048576: NARROWER than '..Said'. Prove '..Said' where nothing that the law and all that it calls make is longer than what came in: it says more and counts as full. Else prove '..UptoSaid'. A law counts once. -/
mutual
def uptoBulk {H : Type} : DataW H → Nat
  | .lit (.string bytes) => bytes.length + 1
  | .lit _ => 1
  | .nil => 1
  | .ptr d => uptoBulk d + 1
  | .slice elems spare => uptoBulkAll elems + uptoBulkAll spare + 1
  | .agg parts => uptoBulkAll parts + 1
  | .iface _ d => uptoBulk d + 1
  | .map entries => uptoBulkEntries entries + 1
  | .held _ => 1
def uptoBulkAll {H : Type} : List (DataW H) → Nat
  | [] => 0
  | d :: r => uptoBulk d + uptoBulkAll r
def uptoBulkEntries {H : Type} : List (Lit × DataW H) → Nat
  | [] => 0
  | x :: r => uptoBulkEntry x + uptoBulkEntries r
def uptoBulkEntry {H : Type} : Lit × DataW H → Nat
  | (.string bytes, d) => bytes.length + uptoBulk d + 1
  | (_, d) => uptoBulk d + 1
 end
def uptoSmall : (H : Type) → List (DataW H) → Bool := fun _ ds => decide (uptoBulkAll ds ≤ 1048576)
def OpenSpec.upto (s : _root_.Go.ChangeSpec) : _root_.Go.OpenSpec := { _root_.Go.OpenSpec.ofChange s with cond := some uptoSmall }

/-- 'rampartlaw12.DeriveRuns', WHERE WHAT IT READS IS OF BULK AT MOST 1048576: true; the input reads as it did. -/
def deriveRunsUptoRow : OpenClaim := { program := "ytcbkpekbfkaeeaadoor", sum := "ee02bac1547e00b5fc89067b4cbc64afe025a7f93ddfbd079f9572155c46db33", func := "rampart/rampartlaw12.DeriveRuns", spec := "deriveRuns", unfollowed := true, recurses := true, named := ["rampart/slotlist.loose"], apart := false, laid := [("rampart/slotlist.loose", laid_rampart_slotlist_loose)], narrowed := true }
def DeriveRunsUptoSaid : Prop := deriveRunsUptoRow.holds Tryd.pinned (OpenSpec.upto deriveRunsSpec)

/-- 'rampartlaw12.DeriveTrees', WHERE WHAT IT READS IS OF BULK AT MOST 1048576: true; the input reads as it did. -/
def deriveTreesUptoRow : OpenClaim := { program := "ytcbkpekbfkaeeaadoor", sum := "ee02bac1547e00b5fc89067b4cbc64afe025a7f93ddfbd079f9572155c46db33", func := "rampart/rampartlaw12.DeriveTrees", spec := "deriveTrees", unfollowed := true, recurses := true, named := ["rampart/slotlist.loose"], apart := false, laid := [("rampart/slotlist.loose", laid_rampart_slotlist_loose)], narrowed := true }
def DeriveTreesUptoSaid : Prop := deriveTreesUptoRow.holds Tryd.pinned (OpenSpec.upto deriveTreesSpec)

/-- 'rampartlaw12.DeriveCuts', WHERE WHAT IT READS IS OF BULK AT MOST 1048576: true; the input reads as it did. -/
def deriveCutsUptoRow : OpenClaim := { program := "ytcbkpekbfkaeeaadoor", sum := "ee02bac1547e00b5fc89067b4cbc64afe025a7f93ddfbd079f9572155c46db33", func := "rampart/rampartlaw12.DeriveCuts", spec := "deriveCuts", unfollowed := true, recurses := true, named := ["rampart/slotlist.loose"], apart := false, laid := [("rampart/slotlist.loose", laid_rampart_slotlist_loose)], narrowed := true }
def DeriveCutsUptoSaid : Prop := deriveCutsUptoRow.holds Tryd.pinned (OpenSpec.upto deriveCutsSpec)

/-- 'rampartlaw12.DeriveUpward', WHERE WHAT IT READS IS OF BULK AT MOST 1048576: true; the input reads as it did. -/
def deriveUpwardUptoRow : OpenClaim := { program := "ytcbkpekbfkaeeaadoor", sum := "ee02bac1547e00b5fc89067b4cbc64afe025a7f93ddfbd079f9572155c46db33", func := "rampart/rampartlaw12.DeriveUpward", spec := "deriveUpward", unfollowed := true, recurses := true, named := ["rampart/slotlist.loose"], apart := false, laid := [("rampart/slotlist.loose", laid_rampart_slotlist_loose)], narrowed := true }
def DeriveUpwardUptoSaid : Prop := deriveUpwardUptoRow.holds Tryd.pinned (OpenSpec.upto deriveUpwardSpec)

/-- 'rampartlaw12.DeriveNobody', WHERE WHAT IT READS IS OF BULK AT MOST 1048576: true; the input reads as it did. -/
def deriveNobodyUptoRow : OpenClaim := { program := "ytcbkpekbfkaeeaadoor", sum := "ee02bac1547e00b5fc89067b4cbc64afe025a7f93ddfbd079f9572155c46db33", func := "rampart/rampartlaw12.DeriveNobody", spec := "deriveNobody", unfollowed := true, recurses := true, named := ["rampart/slotlist.loose"], apart := false, laid := [("rampart/slotlist.loose", laid_rampart_slotlist_loose)], narrowed := true }
def DeriveNobodyUptoSaid : Prop := deriveNobodyUptoRow.holds Tryd.pinned (OpenSpec.upto deriveNobodySpec)

end Rows
end Go.Proofs.YtcbkpekbfkaeeaaDoor
