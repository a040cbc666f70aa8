import Derived.Test.YtppodgdhdddfkaaGreatDoorQNa
set_option linter.unusedVariables false
set_option linter.unusedSimpArgs false
namespace Go.Proofs.YtppodgdhdddfkaaGreatDoor.Sc
set_option maxRecDepth 100000
open Go Go.RowKit Go.Proofs.YtppodgdhdddfkaaGreatDoor.Sx
open Go.Proofs.YtppodgdhdddfkaaGreatDoor.Sg
open Go.Proofs.YtppodgdhdddfkaaGreatDoor.Bi (mixed take_s)
open Go.Proofs.YtppodgdhdddfkaaGreatDoor.Hd (WfB Ebyte)
open Go.Proofs.YtppodgdhdddfkaaGreatDoor.Cg (mn toI textP)
section
variable {Z:ZP} {w w0:World} {R:Value→World→Prop} {A:List Nat→List Value→World→Prop} {B:List Nat→Nat→List Value→World→Prop} {ds:List Nat} {k:Value→T}
theorem rwBlk {α:Type} {e:Rl α} {w:World} {b:Nat} {T:TypeId} {cells:List Value} {xs:List α} (hB:Blk w b T cells) (h:∀ (j:Nat) x,xs[j]? = some x→e.r w ((cells.drop (j * e.n)).take e.n) x):Rw e w (some ⟨b,0,none⟩) xs:=by
 intro j x hj
 have hr:=h j x hj
 refine ⟨_,_,rfl,⟨e.len hr,λ i u hi=>?_⟩,hr⟩
 have hi2:cells[j * e.n+i]? = some u:=by
  rw [List.getElem?_take] at hi
  split at hi
  ·rw [List.getElem?_drop] at hi;exact hi
  ·cases hi
 show w.cell? ⟨b,0+j * e.n+i,none⟩=some u
 rw [Nat.zero_add]
 exact hB.cell hi2
end
end Go.Proofs.YtppodgdhdddfkaaGreatDoor.Sc
