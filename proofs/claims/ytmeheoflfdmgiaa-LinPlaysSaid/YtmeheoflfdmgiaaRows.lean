/-
  No cell of these rows narrows 'for every input' (looked for: loops, veiled, ifaces, maps, wideKeys, modest, calm, conditions, laid).
  DERIVED. THE GIVEN ROWS OF THIS SEAT. 5 by the template 'for every input the law returns true; each argument reads behind the call as it read before'; 0 by the template 'total and deterministic' (their statements: YtmeheoflfdmgiaaTotals.lean).
  GIVEN WITH THE SEED: the statements are not yours to turn. If you find one false, say at which input.
  Laid BY PROGRAM, IN A SANDBOX (cutbox-rows.mjs): the forced cells as the released guide's own fill.sh prints them over the translation f03ba7b8f500a694… (all of the seat's roots in one cut). By AI agents, Wed Nov 11 2026. No macro, syntax, notation, axiom, sorry.
-/
import Derived.Test.YtmeheoflfdmgiaaChecked
import GoSem.Claim
import GoSem.ClaimJoined
import GoSem.ClaimMapViews
import Derived.JoinedTies
import Derived.KernelRfl
namespace Go.Proofs.Ytmeheoflfdmgiaa
/- THE CELL 'sum', in the pinned program and in every row, IS THE sha256 OF THE DUMP (.gsa) THAT YtmeheoflfdmgiaaProg.lean LOADS. Nothing in Lean hashes anything: it is a label: what it is worth is what the hold of that sum in a sandbox is worth. -/
noncomputable def Try.pinned : Pinned := { name := "ytmeheoflfdmgiaa", sum := "f03ba7b8f500a694ffe019125ae76444d24b59d1ffe9b0bcca1685c20119b93b", checked := Try.checked }
namespace Rows
def none {H : Type} : Left H := { results := [], args := [] }

/-- 'rampartlaw27.LinOrders': WHATEVER THE INPUT: true; the input reads as it did. -/
def linOrdersSpec : ChangeSpec := { name := "linOrders", fn := fun _ => fun
  | [d] => { results := [.lit (.bool true)], args := [d] }
  | _ => none }
def linOrdersRow : OpenClaim := { program := "ytmeheoflfdmgiaa", sum := "f03ba7b8f500a694ffe019125ae76444d24b59d1ffe9b0bcca1685c20119b93b", func := "rampart/rampartlaw27.LinOrders", spec := "linOrders", unfollowed := true, recurses := true, plainKeys := false, apart := false }
def LinOrdersSaid : Prop := linOrdersRow.holds Try.pinned (OpenSpec.ofChange linOrdersSpec)

/-- ITS FALSE NEIGHBOUR: 'it returns false'. Refute it at one input. -/
def linOrdersWrong : ChangeSpec := { name := "linOrders", fn := fun _ => fun
  | [d] => { results := [.lit (.bool false)], args := [d] }
  | _ => none }
def LinOrdersWrongFalsely : Prop := linOrdersRow.holds Try.pinned (OpenSpec.ofChange linOrdersWrong)

/-- 'rampartlaw27.LinFinds': WHATEVER THE INPUT: true; the input reads as it did. -/
def linFindsSpec : ChangeSpec := { name := "linFinds", fn := fun _ => fun
  | [d1, d2] => { results := [.lit (.bool true)], args := [d1, d2] }
  | _ => none }
def linFindsRow : OpenClaim := { program := "ytmeheoflfdmgiaa", sum := "f03ba7b8f500a694ffe019125ae76444d24b59d1ffe9b0bcca1685c20119b93b", func := "rampart/rampartlaw27.LinFinds", spec := "linFinds", unfollowed := true, recurses := true, plainKeys := false, apart := false }
def LinFindsSaid : Prop := linFindsRow.holds Try.pinned (OpenSpec.ofChange linFindsSpec)

/-- ITS FALSE NEIGHBOUR: 'it returns false'. Refute it at one input. -/
def linFindsWrong : ChangeSpec := { name := "linFinds", fn := fun _ => fun
  | [d1, d2] => { results := [.lit (.bool false)], args := [d1, d2] }
  | _ => none }
def LinFindsWrongFalsely : Prop := linFindsRow.holds Try.pinned (OpenSpec.ofChange linFindsWrong)

/-- 'rampartlaw27.LinSingle': WHATEVER THE INPUT: true; the input reads as it did. -/
def linSingleSpec : ChangeSpec := { name := "linSingle", fn := fun _ => fun
  | [d] => { results := [.lit (.bool true)], args := [d] }
  | _ => none }
def linSingleRow : OpenClaim := { program := "ytmeheoflfdmgiaa", sum := "f03ba7b8f500a694ffe019125ae76444d24b59d1ffe9b0bcca1685c20119b93b", func := "rampart/rampartlaw27.LinSingle", spec := "linSingle", unfollowed := true, recurses := true, plainKeys := false, apart := false }
def LinSingleSaid : Prop := linSingleRow.holds Try.pinned (OpenSpec.ofChange linSingleSpec)

/-- ITS FALSE NEIGHBOUR: 'it returns false'. Refute it at one input. -/
def linSingleWrong : ChangeSpec := { name := "linSingle", fn := fun _ => fun
  | [d] => { results := [.lit (.bool false)], args := [d] }
  | _ => none }
def LinSingleWrongFalsely : Prop := linSingleRow.holds Try.pinned (OpenSpec.ofChange linSingleWrong)

/-- 'rampartlaw27.LinWider': WHATEVER THE INPUT: true; the input reads as it did. -/
def linWiderSpec : ChangeSpec := { name := "linWider", fn := fun _ => fun
  | [d1, d2, d3, d4] => { results := [.lit (.bool true)], args := [d1, d2, d3, d4] }
  | _ => none }
def linWiderRow : OpenClaim := { program := "ytmeheoflfdmgiaa", sum := "f03ba7b8f500a694ffe019125ae76444d24b59d1ffe9b0bcca1685c20119b93b", func := "rampart/rampartlaw27.LinWider", spec := "linWider", unfollowed := true, recurses := true, plainKeys := false, apart := false }
def LinWiderSaid : Prop := linWiderRow.holds Try.pinned (OpenSpec.ofChange linWiderSpec)

/-- ITS FALSE NEIGHBOUR: 'it returns false'. Refute it at one input. -/
def linWiderWrong : ChangeSpec := { name := "linWider", fn := fun _ => fun
  | [d1, d2, d3, d4] => { results := [.lit (.bool false)], args := [d1, d2, d3, d4] }
  | _ => none }
def LinWiderWrongFalsely : Prop := linWiderRow.holds Try.pinned (OpenSpec.ofChange linWiderWrong)

/-- 'rampartlaw27.LinPlays': WHATEVER THE INPUT: true; the input reads as it did. -/
def linPlaysSpec : ChangeSpec := { name := "linPlays", fn := fun _ => fun
  | [d1, d2, d3, d4] => { results := [.lit (.bool true)], args := [d1, d2, d3, d4] }
  | _ => none }
def linPlaysRow : OpenClaim := { program := "ytmeheoflfdmgiaa", sum := "f03ba7b8f500a694ffe019125ae76444d24b59d1ffe9b0bcca1685c20119b93b", func := "rampart/rampartlaw27.LinPlays", spec := "linPlays", unfollowed := true, recurses := true, plainKeys := false, apart := false }
def LinPlaysSaid : Prop := linPlaysRow.holds Try.pinned (OpenSpec.ofChange linPlaysSpec)

/-- ITS FALSE NEIGHBOUR: 'it returns false'. Refute it at one input. -/
def linPlaysWrong : ChangeSpec := { name := "linPlays", fn := fun _ => fun
  | [d1, d2, d3, d4] => { results := [.lit (.bool false)], args := [d1, d2, d3, d4] }
  | _ => none }
def LinPlaysWrongFalsely : Prop := linPlaysRow.holds Try.pinned (OpenSpec.ofChange linPlaysWrong)

/- THE SECOND FORM. 'bulk': how many values and letters a reading holds, each counted each time it is reached (what is shared counts as often as it is met; a slice's spare places count too). A statement '..UptoSaid' is the law's where the arguments, and the package variables that the reading takes, are together of bulk at most 1048576: NARROWER than '..Said'. Prove '..Said' where nothing that the law and all that it calls make is longer than what came in: it says more and counts as full. Else prove '..UptoSaid'. A law counts once. -/
mutual
def uptoBulk {H : Type} : DataW H → Nat
  | .lit (.string bytes) => bytes.length + 1
  | .lit _ => 1
  | .nil => 1
  | .ptr d => uptoBulk d + 1
  | .slice elems spare => uptoBulkAll elems + uptoBulkAll spare + 1
  | .agg parts => uptoBulkAll parts + 1
  | .iface _ d => uptoBulk d + 1
  | .map entries => uptoBulkEntries entries + 1
  | .held _ => 1
def uptoBulkAll {H : Type} : List (DataW H) → Nat
  | [] => 0
  | d :: r => uptoBulk d + uptoBulkAll r
def uptoBulkEntries {H : Type} : List (Lit × DataW H) → Nat
  | [] => 0
  | x :: r => uptoBulkEntry x + uptoBulkEntries r
def uptoBulkEntry {H : Type} : Lit × DataW H → Nat
  | (.string bytes, d) => bytes.length + uptoBulk d + 1
  | (_, d) => uptoBulk d + 1
 end
def uptoSmall : (H : Type) → List (DataW H) → Bool := fun _ ds => decide (uptoBulkAll ds ≤ 1048576)
def OpenSpec.upto (s : _root_.Go.ChangeSpec) : _root_.Go.OpenSpec := { _root_.Go.OpenSpec.ofChange s with cond := some uptoSmall }

/-- 'rampartlaw27.LinOrders', WHERE WHAT IT READS IS OF BULK AT MOST 1048576: true; the input reads as it did. -/
def linOrdersUptoRow : OpenClaim := { program := "ytmeheoflfdmgiaa", sum := "f03ba7b8f500a694ffe019125ae76444d24b59d1ffe9b0bcca1685c20119b93b", func := "rampart/rampartlaw27.LinOrders", spec := "linOrders", unfollowed := true, recurses := true, plainKeys := false, apart := false, narrowed := true }
def LinOrdersUptoSaid : Prop := linOrdersUptoRow.holds Try.pinned (OpenSpec.upto linOrdersSpec)

/-- 'rampartlaw27.LinFinds', WHERE WHAT IT READS IS OF BULK AT MOST 1048576: true; the input reads as it did. -/
def linFindsUptoRow : OpenClaim := { program := "ytmeheoflfdmgiaa", sum := "f03ba7b8f500a694ffe019125ae76444d24b59d1ffe9b0bcca1685c20119b93b", func := "rampart/rampartlaw27.LinFinds", spec := "linFinds", unfollowed := true, recurses := true, plainKeys := false, apart := false, narrowed := true }
def LinFindsUptoSaid : Prop := linFindsUptoRow.holds Try.pinned (OpenSpec.upto linFindsSpec)

/-- 'rampartlaw27.LinSingle', WHERE WHAT IT READS IS OF BULK AT MOST 1048576: true; the input reads as it did. -/
def linSingleUptoRow : OpenClaim := { program := "ytmeheoflfdmgiaa", sum := "f03ba7b8f500a694ffe019125ae76444d24b59d1ffe9b0bcca1685c20119b93b", func := "rampart/rampartlaw27.LinSingle", spec := "linSingle", unfollowed := true, recurses := true, plainKeys := false, apart := false, narrowed := true }
def LinSingleUptoSaid : Prop := linSingleUptoRow.holds Try.pinned (OpenSpec.upto linSingleSpec)

/-- 'rampartlaw27.LinWider', WHERE WHAT IT READS IS OF BULK AT MOST 1048576: true; the input reads as it did. -/
def linWiderUptoRow : OpenClaim := { program := "ytmeheoflfdmgiaa", sum := "f03ba7b8f500a694ffe019125ae76444d24b59d1ffe9b0bcca1685c20119b93b", func := "rampart/rampartlaw27.LinWider", spec := "linWider", unfollowed := true, recurses := true, plainKeys := false, apart := false, narrowed := true }
def LinWiderUptoSaid : Prop := linWiderUptoRow.holds Try.pinned (OpenSpec.upto linWiderSpec)

/-- 'rampartlaw27.LinPlays', WHERE WHAT IT READS IS OF BULK AT MOST 1048576: true; the input reads as it did. -/
def linPlaysUptoRow : OpenClaim := { program := "ytmeheoflfdmgiaa", sum := "f03ba7b8f500a694ffe019125ae76444d24b59d1ffe9b0bcca1685c20119b93b", func := "rampart/rampartlaw27.LinPlays", spec := "linPlays", unfollowed := true, recurses := true, plainKeys := false, apart := false, narrowed := true }
def LinPlaysUptoSaid : Prop := linPlaysUptoRow.holds Try.pinned (OpenSpec.upto linPlaysSpec)

end Rows
end Go.Proofs.Ytmeheoflfdmgiaa
