import Derived.Test.YtppodgdhdddfkaaGreatDoorQMe
import Derived.Test.YtppodgdhdddfkaaGreatDoorQMd
set_option linter.unusedVariables false
set_option linter.unusedSimpArgs false
namespace Go.Proofs.YtppodgdhdddfkaaGreatDoor.Cf
open Go Go.RowKit Go.Proofs.YtppodgdhdddfkaaGreatDoor.Sx
open Go.Proofs.YtppodgdhdddfkaaGreatDoor.Bi (mixed RU Rs at_ at_some has_nat Has_t rHas_t)
def fl (c:GConf):Rs:=c.flows.map (BitVec.ofInt 64)
def Wf (c:GConf):Prop:=∀ z∈c.flows,0≤z∧z < 18446744073709551616
def isL (c:GConf) (n:Int):Bool:=decide (0≤n∧n < c.flows.length)
def fw (c:GConf) (x y:Int):Bool:=(at_ (fl c) x.toNat).getLsbD y.toNat
section
variable {Z:ZP} {w:World}
end
end Go.Proofs.YtppodgdhdddfkaaGreatDoor.Cf
set_option linter.unusedVariables false
set_option linter.unusedSimpArgs false
namespace Go.Proofs.YtppodgdhdddfkaaGreatDoor.Cf
open Go Go.RowKit Go.Proofs.YtppodgdhdddfkaaGreatDoor.Sx
open Go.Proofs.YtppodgdhdddfkaaGreatDoor.Bi (mixed RU Rs at_ at_some has_nat Has_t rHas_t)
abbrev Told:=Int × Int
def first (e:Int) (bad:Nat→Bool):Nat→Told
 | 0=>(0,0)
 | n+1=>if (first e bad n).2=0 then (if bad n=true then ((n:Int),e) else (0,0)) else first e bad n
section
variable {Z:ZP} {w:World}
end
end Go.Proofs.YtppodgdhdddfkaaGreatDoor.Cf
set_option linter.unusedVariables false
set_option linter.unusedSimpArgs false
namespace Go.Proofs.YtppodgdhdddfkaaGreatDoor.Cf
open Go Go.RowKit Go.Proofs.YtppodgdhdddfkaaGreatDoor.Sx
open Go.Proofs.YtppodgdhdddfkaaGreatDoor.Bi (mixed RU Rs at_ at_some has_nat Has_t rHas_t)
section
variable {Z:ZP} {w:World}
end
end Go.Proofs.YtppodgdhdddfkaaGreatDoor.Cf
set_option linter.unusedVariables false
set_option linter.unusedSimpArgs false
namespace Go.Proofs.YtppodgdhdddfkaaGreatDoor.Cf
open Go Go.RowKit Go.Proofs.YtppodgdhdddfkaaGreatDoor.Sx
open Go.Proofs.YtppodgdhdddfkaaGreatDoor.Bi (mixed RU Rs at_ at_some has_nat Has_t rHas_t take_s)
section
variable {Z:ZP} {w:World}
end
end Go.Proofs.YtppodgdhdddfkaaGreatDoor.Cf
set_option linter.unusedVariables false
set_option linter.unusedSimpArgs false
namespace Go.Proofs.YtppodgdhdddfkaaGreatDoor.Cf
open Go Go.RowKit Go.Proofs.YtppodgdhdddfkaaGreatDoor.Sx
open Go.Proofs.YtppodgdhdddfkaaGreatDoor.Bi (mixed RU Rs at_ at_some has_nat Has_t rHas_t)
section
variable {Z:ZP} {w:World}
end
end Go.Proofs.YtppodgdhdddfkaaGreatDoor.Cf
set_option linter.unusedVariables false
set_option linter.unusedSimpArgs false
namespace Go.Proofs.YtppodgdhdddfkaaGreatDoor.Cf
open Go Go.RowKit Go.Proofs.YtppodgdhdddfkaaGreatDoor.Sx
open Go.Proofs.YtppodgdhdddfkaaGreatDoor.Bi (mixed RU Rs at_ at_some has_nat Has_t rHas_t)
section
variable {Z:ZP} {w:World}
theorem cell_int {w:World} {a:Addr} {m:Nat} {z:Int} (h:Rd w 1 (addA a m) [.int .i64 z]):w.cell? (addA a m)=some (I z):=by
 have:=h.2 0 _ rfl
 have e0:∀ a:Addr,addA a 0=a:=λ a=>by rw [addA_eq];unfold Addr.add;simp
 rwa [e0] at this
end
end Go.Proofs.YtppodgdhdddfkaaGreatDoor.Cf
set_option linter.unusedVariables false
set_option linter.unusedSimpArgs false
namespace Go.Proofs.YtppodgdhdddfkaaGreatDoor.Cf
open Go Go.RowKit Go.Proofs.YtppodgdhdddfkaaGreatDoor.Sx
open Go.Proofs.YtppodgdhdddfkaaGreatDoor.Bi (mixed RU Rs at_ at_some has_nat Has_t rHas_t take_s)
section
variable {Z:ZP} {w:World}
end
end Go.Proofs.YtppodgdhdddfkaaGreatDoor.Cf
set_option linter.unusedVariables false
set_option linter.unusedSimpArgs false
namespace Go.Proofs.YtppodgdhdddfkaaGreatDoor.Cf
open Go Go.RowKit Go.Proofs.YtppodgdhdddfkaaGreatDoor.Sx
open Go.Proofs.YtppodgdhdddfkaaGreatDoor.Bi (mixed RU Rs at_ at_some has_nat Has_t rHas_t take_s)
section
variable {Z:ZP} {w:World}
end
end Go.Proofs.YtppodgdhdddfkaaGreatDoor.Cf
set_option linter.unusedVariables false
set_option linter.unusedSimpArgs false
namespace Go.Proofs.YtppodgdhdddfkaaGreatDoor.Cf
open Go Go.RowKit Go.Proofs.YtppodgdhdddfkaaGreatDoor.Sx
open Go.Proofs.YtppodgdhdddfkaaGreatDoor.Bi (mixed RU Rs at_ at_some has_nat Has_t rHas_t take_s)
section
variable {Z:ZP} {w:World}
end
end Go.Proofs.YtppodgdhdddfkaaGreatDoor.Cf
