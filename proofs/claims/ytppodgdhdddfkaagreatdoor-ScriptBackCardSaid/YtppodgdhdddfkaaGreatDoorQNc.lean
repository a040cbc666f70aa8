import Derived.Test.YtppodgdhdddfkaaGreatDoorQNb
import Derived.Test.YtppodgdhdddfkaaGreatDoorQMs
set_option linter.unusedVariables false
set_option linter.unusedSimpArgs false
namespace Go.Proofs.YtppodgdhdddfkaaGreatDoor.Sc
set_option maxRecDepth 100000
open Go Go.RowKit Go.Proofs.YtppodgdhdddfkaaGreatDoor.Sx
open Go.Proofs.YtppodgdhdddfkaaGreatDoor.Sg
open Go.Proofs.YtppodgdhdddfkaaGreatDoor.Bi (mixed take_s)
open Go.Proofs.YtppodgdhdddfkaaGreatDoor.Hd (WfB Ebyte Erow)
open Go.Proofs.YtppodgdhdddfkaaGreatDoor.Cg (mn toI r_callZ)
section
variable {Z:ZP} {w w0:World} {R:Value→World→Prop} {A:List Nat→List Value→World→Prop} {B:List Nat→Nat→List Value→World→Prop}
end
end Go.Proofs.YtppodgdhdddfkaaGreatDoor.Sc
set_option linter.unusedVariables false
set_option linter.unusedSimpArgs false
namespace Go.Proofs.YtppodgdhdddfkaaGreatDoor.Sc
set_option maxRecDepth 100000
open Go Go.RowKit Go.Proofs.YtppodgdhdddfkaaGreatDoor.Sx
open Go.Proofs.YtppodgdhdddfkaaGreatDoor.Sg
open Go.Proofs.YtppodgdhdddfkaaGreatDoor.Bi (mixed take_s Eint)
open Go.Proofs.YtppodgdhdddfkaaGreatDoor.Hd (WfB Ebyte Erow)
open Go.Proofs.YtppodgdhdddfkaaGreatDoor.Cg (mn toI r_callZ plainT splitP splitP_len splitP_ne r_tne)
section
variable {Z:ZP} {w w0:World} {R:Value→World→Prop} {A:List Nat→List Value→World→Prop} {B:List Nat→Nat→List Value→World→Prop}
end
end Go.Proofs.YtppodgdhdddfkaaGreatDoor.Sc
set_option linter.unusedVariables false
set_option linter.unusedSimpArgs false
namespace Go.Proofs.YtppodgdhdddfkaaGreatDoor.Sc
set_option maxRecDepth 100000
open Go Go.RowKit Go.Proofs.YtppodgdhdddfkaaGreatDoor.Sx
open Go.Proofs.YtppodgdhdddfkaaGreatDoor.Sg
open Go.Proofs.YtppodgdhdddfkaaGreatDoor.Bi (mixed take_s Eint)
open Go.Proofs.YtppodgdhdddfkaaGreatDoor.Hd (WfB Ebyte Erow)
open Go.Proofs.YtppodgdhdddfkaaGreatDoor.Cg (mn toI r_callZ plainT splitP splitP_len splitP_ne r_tne RwO.go)
section
variable {Z:ZP} {w w0:World} {R:Value→World→Prop} {A:List Nat→List Value→World→Prop} {B:List Nat→Nat→List Value→World→Prop}
end
end Go.Proofs.YtppodgdhdddfkaaGreatDoor.Sc
set_option linter.unusedVariables false
set_option linter.unusedSimpArgs false
namespace Go.Proofs.YtppodgdhdddfkaaGreatDoor.Sc
set_option maxRecDepth 100000
open Go Go.RowKit Go.Proofs.YtppodgdhdddfkaaGreatDoor.Sx
open Go.Proofs.YtppodgdhdddfkaaGreatDoor.Sg
open Go.Proofs.YtppodgdhdddfkaaGreatDoor.Bi (mixed take_s Eint)
open Go.Proofs.YtppodgdhdddfkaaGreatDoor.Cg (splitP splitP_len splitP_ne linesOf lines_split lines_back)
def nlW (l:Bs):Bs:=l++[10]
theorem addP_nl (l:List GTick) (p:Bs):addP l (nlW p)=if (splitP 32 p).headD []=kTick then (if l.length < 4096 then (picksP p).map (λ t=>l++[t]) else none)
  else match l.getLast? with
   | none=>none
   | some t=>(moreP t p).map (λ x=>l.dropLast++[x]):=by
 have h1:Lib.hasSuffix (nlW p) [10]=true:=by
  unfold Lib.hasSuffix
  exact List.isSuffixOf_iff_suffix.2 ⟨p,rfl⟩
 have h2:Lib.trimSuffix (nlW p) [10]=p:=by
  unfold Lib.trimSuffix
  rw [if_pos h1]
  unfold nlW
  simp
 unfold addP
 rw [if_pos h1,h2]
 cases l.getLast?<;>rfl
section
variable {Z:ZP} {w w0:World} {R:Value→World→Prop} {A:List Nat→List Value→World→Prop} {B:List Nat→Nat→List Value→World→Prop}
end
end Go.Proofs.YtppodgdhdddfkaaGreatDoor.Sc
set_option linter.unusedVariables false
set_option linter.unusedSimpArgs false
namespace Go.Proofs.YtppodgdhdddfkaaGreatDoor.Sc
set_option maxRecDepth 100000
open Go Go.RowKit Go.Proofs.YtppodgdhdddfkaaGreatDoor.Sx
open Go.Proofs.YtppodgdhdddfkaaGreatDoor.Sg
open Go.Proofs.YtppodgdhdddfkaaGreatDoor.Bi (mixed take_s Eint)
open Go.Proofs.YtppodgdhdddfkaaGreatDoor.Hd (Etick)
open Go.Proofs.YtppodgdhdddfkaaGreatDoor.Cg (splitP splitP_len splitP_ne linesOf zC c0_r one_zC c0 parseP rParse_tO)
def z5 (i:Nat) (v:Value):List Value:=[I (i:Int),v,I 0,I 0,.slice none 0 0]
section
variable {Z:ZP} {w w0 w8:World} {R:Value→World→Prop} {A:List Nat→List Value→World→Prop} {B:List Nat→Nat→List Value→World→Prop}
end
end Go.Proofs.YtppodgdhdddfkaaGreatDoor.Sc
set_option linter.unusedVariables false
set_option linter.unusedSimpArgs false
namespace Go.Proofs.YtppodgdhdddfkaaGreatDoor.Sc
set_option maxRecDepth 100000
open Go Go.RowKit Go.Proofs.YtppodgdhdddfkaaGreatDoor.Sx
open Go.Proofs.YtppodgdhdddfkaaGreatDoor.Sg
open Go.Proofs.YtppodgdhdddfkaaGreatDoor.Bi (mixed take_s Eint)
open Go.Proofs.YtppodgdhdddfkaaGreatDoor.Cg (splitP splitP_len splitP_ne linesOf zC c0_r one_zC c0 parseP rParse_tO plainT)
section
variable {Z:ZP} {w w0 w8:World} {R:Value→World→Prop} {A:List Nat→List Value→World→Prop} {B:List Nat→Nat→List Value→World→Prop}
end
end Go.Proofs.YtppodgdhdddfkaaGreatDoor.Sc
set_option linter.unusedVariables false
set_option linter.unusedSimpArgs false
namespace Go.Proofs.YtppodgdhdddfkaaGreatDoor.Sc
set_option maxRecDepth 100000
open Go Go.RowKit Go.Proofs.YtppodgdhdddfkaaGreatDoor.Sx
open Go.Proofs.YtppodgdhdddfkaaGreatDoor.Sg
open Go.Proofs.YtppodgdhdddfkaaGreatDoor.Bi (mixed)
open Go.Proofs.YtppodgdhdddfkaaGreatDoor.Cg (zC c0_r one_zC c0 parseP linesOf)
theorem parseS_wf (s:Bs):(∀ t∈(parseS s).2.1,WfG t∧smallT t=true)∧(parseS s).2.1.length≤4096:=by
 unfold parseS
 split
 ·exact ⟨λ t ht=>(nomatch ht),Nat.zero_le _⟩
 ·split
  ·exact ⟨λ t ht=>(nomatch ht),Nat.zero_le _⟩
  ·split
   ·rename_i l hl
    obtain ⟨h1,h2⟩:=foldA_small hl ⟨λ t ht=>(nomatch ht),Nat.zero_le _⟩
    exact ⟨λ t ht=>⟨foldA_wf hl (λ t ht=>(nomatch ht)) t ht,h1 t ht⟩,h2⟩
   ·exact ⟨λ t ht=>(nomatch ht),Nat.zero_le _⟩
section
variable {Z:ZP} {w w0:World} {R:Value→World→Prop} {A:List Nat→List Value→World→Prop} {B:List Nat→Nat→List Value→World→Prop}
theorem short_t (s:Bs):Cz Tryz.prog 10 [Tx s] w (λ r w'=>r=Tx (s.take 5000)∧w'=w) Z:=by
 refine go mixed Tryz.func10 Tryz.call10 rfl (Tr.e10 _) ?_
 refine r_tlen Tryz.underlying9 ?_
 refine r_if (λ h=>?_) (λ h=>?_)
 ·refine r_tslh Tryz.underlying9 5000 rfl (by omega) ?_
  exact r_ret ⟨rfl,rfl⟩
 ·exact r_ret ⟨by rw [List.take_of_length_le (by omega)],rfl⟩
end
end Go.Proofs.YtppodgdhdddfkaaGreatDoor.Sc
