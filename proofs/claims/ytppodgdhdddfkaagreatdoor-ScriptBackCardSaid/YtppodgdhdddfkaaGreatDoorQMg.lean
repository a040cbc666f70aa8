import Derived.Test.YtppodgdhdddfkaaGreatDoorQMf
set_option linter.unusedVariables false
set_option linter.unusedSimpArgs false
namespace Go.Proofs.YtppodgdhdddfkaaGreatDoor.Cf
open Go Go.RowKit Go.Proofs.YtppodgdhdddfkaaGreatDoor.Sx
open Go.Proofs.YtppodgdhdddfkaaGreatDoor.Bi (mixed RU Rs at_ at_some has_nat Has_t rHas_t take_s)
def tl (c:GConf) (t:Int):Int:=match c.tenants[t.toNat]? with | some x=>x.label | none=>0
structure Ok2 (c:GConf):Prop where
 wf:Wf c
 l64:c.flows.length≤64
 ten:∀ t∈c.tenants,isL c t.label=true
section
variable {Z:ZP} {w:World}
end
end Go.Proofs.YtppodgdhdddfkaaGreatDoor.Cf
set_option linter.unusedVariables false
set_option linter.unusedSimpArgs false
namespace Go.Proofs.YtppodgdhdddfkaaGreatDoor.Cf
open Go Go.RowKit Go.Proofs.YtppodgdhdddfkaaGreatDoor.Sx
open Go.Proofs.YtppodgdhdddfkaaGreatDoor.Bi (mixed RU Rs at_ at_some has_nat Has_t rHas_t take_s)
section
variable {Z:ZP} {w:World}
end
end Go.Proofs.YtppodgdhdddfkaaGreatDoor.Cf
set_option linter.unusedVariables false
set_option linter.unusedSimpArgs false
namespace Go.Proofs.YtppodgdhdddfkaaGreatDoor.Cf
open Go Go.RowKit Go.Proofs.YtppodgdhdddfkaaGreatDoor.Sx
open Go.Proofs.YtppodgdhdddfkaaGreatDoor.Bi (mixed RU Rs at_ at_some has_nat Has_t rHas_t take_s)
section
variable {Z:ZP} {w:World}
end
def both (c:GConf) (a b:Int):Bool:=fw c (tl c a) (tl c b) && fw c (tl c b) (tl c a)
end Go.Proofs.YtppodgdhdddfkaaGreatDoor.Cf
set_option linter.unusedVariables false
set_option linter.unusedSimpArgs false
namespace Go.Proofs.YtppodgdhdddfkaaGreatDoor.Cf
open Go Go.RowKit Go.Proofs.YtppodgdhdddfkaaGreatDoor.Sx
open Go.Proofs.YtppodgdhdddfkaaGreatDoor.Bi (mixed RU Rs at_ at_some has_nat Has_t rHas_t take_s)
section
variable {Z:ZP} {w:World}
end
end Go.Proofs.YtppodgdhdddfkaaGreatDoor.Cf
set_option linter.unusedVariables false
set_option linter.unusedSimpArgs false
namespace Go.Proofs.YtppodgdhdddfkaaGreatDoor.Cf
open Go Go.RowKit Go.Proofs.YtppodgdhdddfkaaGreatDoor.Sx
open Go.Proofs.YtppodgdhdddfkaaGreatDoor.Bi (mixed RU Rs at_ at_some has_nat Has_t rHas_t take_s)
section
variable {Z:ZP} {w:World}
end
end Go.Proofs.YtppodgdhdddfkaaGreatDoor.Cf
set_option linter.unusedVariables false
set_option linter.unusedSimpArgs false
namespace Go.Proofs.YtppodgdhdddfkaaGreatDoor.Cf
open Go Go.RowKit Go.Proofs.YtppodgdhdddfkaaGreatDoor.Sx
open Go.Proofs.YtppodgdhdddfkaaGreatDoor.Bi (mixed RU Rs at_ at_some has_nat Has_t rHas_t take_s)
section
variable {Z:ZP} {w:World}
end
end Go.Proofs.YtppodgdhdddfkaaGreatDoor.Cf
set_option linter.unusedVariables false
set_option linter.unusedSimpArgs false
namespace Go.Proofs.YtppodgdhdddfkaaGreatDoor.Cf
open Go Go.RowKit Go.Proofs.YtppodgdhdddfkaaGreatDoor.Sx
open Go.Proofs.YtppodgdhdddfkaaGreatDoor.Bi (mixed RU Rs at_ at_some has_nat Has_t rHas_t take_s polE shp chk_le)
section
variable {Z:ZP} {w:World}
end
end Go.Proofs.YtppodgdhdddfkaaGreatDoor.Cf
set_option linter.unusedVariables false
set_option linter.unusedSimpArgs false
namespace Go.Proofs.YtppodgdhdddfkaaGreatDoor.Cf
open Go Go.RowKit Go.Proofs.YtppodgdhdddfkaaGreatDoor.Sx
open Go.Proofs.YtppodgdhdddfkaaGreatDoor.Bi (mixed RU Rs at_ at_some has_nat Has_t rHas_t take_s polE shp chk_le)
section
variable {Z:ZP} {w:World}
end
end Go.Proofs.YtppodgdhdddfkaaGreatDoor.Cf
