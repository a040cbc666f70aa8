/- What a law's inputs are, read out of the memory that holds them. -/
import Derived.Test.YtcbkpekbfkaeeaaDoorSxC
import Derived.ChangeSame
import Derived.WideShapes
import Derived.Deep.Slices
import Derived.DataReads
set_option linter.unusedVariables false
namespace Go.Proofs.YtcbkpekbfkaeeaaDoor.Sx
open Go Go.RowKit Go.ChangeShapes Go.WideShapes Go.Deep
section
variable {H : Type} {enc : TypeId × Value → H} {P : Program} {w : World} {base n : Nat} {spare : Nat → Bool} {held : Bool} {xs : List (DataW H × List MemPlace)} {i : Nat}
theorem take1 {cs : List Value} {o : Nat} {c : Value} (hc : cs[o]? = some c) : (cs.drop o).take 1 = [c] := by
  obtain ⟨h, e⟩ := List.getElem?_eq_some_iff.1 hc
  rw [List.take_one]
  simp [hc]
theorem tr_int {t : TypeId} {k : IntKind} (hu : P.underlying t = some (.int k)) (h1 : P.cellsOf t = 1) {cs : List Value} {o : Nat} {c : Value} (hc : cs[o]? = some c) (hi : i < xs.length) (h : DataW.trod enc P w base spare held n t ((cs.drop o).take (P.cellsOf t)) = xs[i]?) :
    ∃ z, c = .int k z ∧ (Lit.int k z).wf = true := by
  rw [h1, take1 hc, List.getElem?_eq_getElem hi] at h
  obtain ⟨z, e, _, wf⟩ := DataW.trod_int hu h
  exact ⟨z, by simpa using e, wf⟩
theorem tr_bool {t : TypeId} (hu : P.underlying t = some .bool) (h1 : P.cellsOf t = 1) {cs : List Value} {o : Nat} {c : Value} (hc : cs[o]? = some c) (hi : i < xs.length) (h : DataW.trod enc P w base spare held n t ((cs.drop o).take (P.cellsOf t)) = xs[i]?) :
    ∃ z, c = .bool z := by
  rw [h1, take1 hc, List.getElem?_eq_getElem hi] at h
  obtain ⟨z, e, _⟩ := DataW.trod_bool hu h
  exact ⟨z, by simpa using e⟩
theorem tr_struct {t : TypeId} {fs : Array Field} (hu : P.underlying t = some (.struct fs)) {cs : List Value} {o : Nat} (hi : i < xs.length) (h : DataW.trod enc P w base spare held n t ((cs.drop o).take (P.cellsOf t)) = xs[i]?) :
    ∃ (ys : List (DataW H × List MemPlace)) (m : Nat), ys.length = fs.size ∧ ∀ (j : Nat) (f : Field), fs[j]? = some f → DataW.trod enc P w base spare held m f.type ((((cs.drop o).take (P.cellsOf t)).drop f.offset).take (P.cellsOf f.type)) = ys[j]? := by
  rw [List.getElem?_eq_getElem hi] at h
  obtain ⟨ys, m, _, _, _, hl, hf⟩ := DataW.trod_struct hu h
  exact ⟨ys, m, hl, hf⟩
theorem cells_of {a : Addr} {m : Nat} {cs : List Value} (h : w.cells? base a m = some cs) : ∀ i v, cs[i]? = some v → w.cell? (a.add i) = some v := by
  intro i v hv
  obtain ⟨_, hl, hc⟩ := World.cells?_some h
  have hi : i < cs.length := (List.getElem?_eq_some_iff.1 hv).1
  rw [hc i (by omega)]
  exact hv
end
end Go.Proofs.YtcbkpekbfkaeeaaDoor.Sx
