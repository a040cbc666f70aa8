import Derived.Test.YtppodgdhdddfkaaGreatDoorQMy
set_option linter.unusedVariables false
set_option linter.unusedSimpArgs false
namespace Go.Proofs.YtppodgdhdddfkaaGreatDoor.Sc
set_option maxRecDepth 100000
open Go Go.RowKit Go.Proofs.YtppodgdhdddfkaaGreatDoor.Sx
open Go.Proofs.YtppodgdhdddfkaaGreatDoor.Sg
open Go.Proofs.YtppodgdhdddfkaaGreatDoor.Bi (mixed take_s Eint)
open Go.Proofs.YtppodgdhdddfkaaGreatDoor.Hd (WfB Ebyte Erow Etick le le_bound le_max le_snoc le_drop shl_or wrap_u64 u_eq r_shlu)
open Go.Proofs.YtppodgdhdddfkaaGreatDoor.Cg (r_callZ r_tne toI take_flat)
section
variable {P:Program} {Z:ZP} {R:Value→World→Prop} {w w0:World} {A:List Nat→List Value→World→Prop} {B:List Nat→Nat→List Value→World→Prop} {ds:List Nat} {k:Value→T}
end
section
variable {Z:ZP} {w w0:World} {R:Value→World→Prop} {A:List Nat→List Value→World→Prop} {B:List Nat→Nat→List Value→World→Prop}
end
end Go.Proofs.YtppodgdhdddfkaaGreatDoor.Sc
set_option linter.unusedVariables false
set_option linter.unusedSimpArgs false
namespace Go.Proofs.YtppodgdhdddfkaaGreatDoor.Sc
set_option maxRecDepth 100000
open Go Go.RowKit Go.Proofs.YtppodgdhdddfkaaGreatDoor.Sx
open Go.Proofs.YtppodgdhdddfkaaGreatDoor.Sg
open Go.Proofs.YtppodgdhdddfkaaGreatDoor.Bi (mixed take_s Eint)
open Go.Proofs.YtppodgdhdddfkaaGreatDoor.Hd (WfB Ebyte Erow Etick le le_bound le_max le_snoc le_drop shl_or wrap_u64 u_eq r_shlu)
open Go.Proofs.YtppodgdhdddfkaaGreatDoor.Cg (r_callZ r_tne toI take_flat)
section
variable {Z:ZP} {w w0:World} {R:Value→World→Prop} {A:List Nat→List Value→World→Prop} {B:List Nat→Nat→List Value→World→Prop}
end
end Go.Proofs.YtppodgdhdddfkaaGreatDoor.Sc
set_option linter.unusedVariables false
set_option linter.unusedSimpArgs false
namespace Go.Proofs.YtppodgdhdddfkaaGreatDoor.Sc
set_option maxRecDepth 100000
open Go Go.RowKit Go.Proofs.YtppodgdhdddfkaaGreatDoor.Sx
open Go.Proofs.YtppodgdhdddfkaaGreatDoor.Sg
open Go.Proofs.YtppodgdhdddfkaaGreatDoor.Bi (mixed take_s Eint)
open Go.Proofs.YtppodgdhdddfkaaGreatDoor.Hd (WfB Ebyte Erow Etick le le_bound le_max le_snoc le_drop shl_or wrap_u64 u_eq r_shlu)
open Go.Proofs.YtppodgdhdddfkaaGreatDoor.Cg (r_callZ r_tne toI take_flat)
theorem one_sl (A1 A2:Option Addr) (a b c d:Nat):∀ v∈[Value.slice A1 a b,Value.slice A2 c d],v.oneCell'=true:=by
 intro v hv
 simp only [List.mem_cons,List.not_mem_nil,or_false] at hv
 rcases hv with rfl | rfl<;>rfl
section
variable {Z:ZP} {w w0:World} {R:Value→World→Prop} {A:List Nat→List Value→World→Prop} {B:List Nat→Nat→List Value→World→Prop}
end
end Go.Proofs.YtppodgdhdddfkaaGreatDoor.Sc
set_option linter.unusedVariables false
set_option linter.unusedSimpArgs false
namespace Go.Proofs.YtppodgdhdddfkaaGreatDoor.Sc
set_option maxRecDepth 100000
open Go Go.RowKit Go.Proofs.YtppodgdhdddfkaaGreatDoor.Sx
open Go.Proofs.YtppodgdhdddfkaaGreatDoor.Sg
open Go.Proofs.YtppodgdhdddfkaaGreatDoor.Bi (mixed take_s Eint)
open Go.Proofs.YtppodgdhdddfkaaGreatDoor.Hd (WfB Ebyte Erow Etick le le_bound le_max le_snoc le_drop shl_or wrap_u64 u_eq r_shlu)
open Go.Proofs.YtppodgdhdddfkaaGreatDoor.Cg (r_callZ r_tne toI take_flat)
section
variable {Z:ZP} {w w0:World} {R:Value→World→Prop} {A:List Nat→List Value→World→Prop} {B:List Nat→Nat→List Value→World→Prop}
theorem rJust_t {X Y:Option Addr} {c d:Nat} {l:List GTick} (ha:Rw rTick w X l) (hb:Rw rTick w Y l) (la:l.length≤big) (wa:∀ t∈l,∀ x∈t.bytes,WfB x):Cz Tryz.prog 14 [.slice X l.length c,.slice Y l.length d] w (λ r w'=>r=.bool true∧Fr [] w w') Z:=by
 have hb2:=la
 simp only [big] at la
 refine go mixed Tryz.func14 Tryz.call14 rfl (Tr.e14 _ _) ?_
 refine r_call (rSame_t ha hb hb2 wa wa) ?_
 rintro _ w1 ⟨rfl,f1⟩
 refine r_ifbn (λ h=>by rw [sameS_rfl] at h;cases h) (λ _=>?_)
 refine r_loop (λ (i:Nat)=>[I (i:Int),.bool false]) (λ i W=>i≤l.length∧Fr [] w W) (λ i=>l.length-i) 0 ⟨Nat.zero_le _,f1⟩ rfl ?_
 rintro i W ⟨hi,F⟩
 refine r_if (λ h=>?_) (λ h=>?_)
 ·obtain ⟨t,ht⟩:=gt (xs:=l) (j:=i) (by omega)
  obtain ⟨a1,es1,rfl,rd1,e1⟩:=ha i t ht
  obtain ⟨a2,es2,rfl,rd2,e2⟩:=hb i t ht
  obtain ⟨A0,c0,A1,c1,rfl,_⟩:=oTick e1
  obtain ⟨B0,d0,B1,d1,rfl,_⟩:=oTick e2
  refine r_dr (λ W1 g1=>?_)
  have F1:=F.trans g1
  refine r_ob ⟨by omega,by omega⟩ ?_
  refine r_ld (ad:=addA (addA a1 (i * 2)) 0) ((rd1.fr F1).2 0 _ rfl) ?_
  refine r_ob ⟨by omega,by omega⟩ ?_
  refine r_ld (ad:=addA (addA a2 (i * 2)) 0) ((rd2.fr F1).2 0 _ rfl) ?_
  refine r_if (λ h=>?_) (λ _=>?_)
  ·exact absurd rfl h
  refine r_ar (by omega) ?_
  exact r_ag (i+1) ⟨by omega,F1⟩ (by omega) rfl
 ·exact r_brk (r_ret ⟨rfl,F⟩)
end
end Go.Proofs.YtppodgdhdddfkaaGreatDoor.Sc
set_option linter.unusedVariables false
set_option linter.unusedSimpArgs false
namespace Go.Proofs.YtppodgdhdddfkaaGreatDoor.Sc
set_option maxRecDepth 100000
open Go Go.RowKit Go.Proofs.YtppodgdhdddfkaaGreatDoor.Sx
open Go.Proofs.YtppodgdhdddfkaaGreatDoor.Sg
open Go.Proofs.YtppodgdhdddfkaaGreatDoor.Hd (WfB le le_bound)
open Go.Proofs.YtppodgdhdddfkaaGreatDoor.Cg (toI)
end Go.Proofs.YtppodgdhdddfkaaGreatDoor.Sc
set_option linter.unusedVariables false
set_option linter.unusedSimpArgs false
namespace Go.Proofs.YtppodgdhdddfkaaGreatDoor.Sc
set_option maxRecDepth 100000
open Go Go.RowKit Go.Proofs.YtppodgdhdddfkaaGreatDoor.Sx
open Go.Proofs.YtppodgdhdddfkaaGreatDoor.Sg
open Go.Proofs.YtppodgdhdddfkaaGreatDoor.Bi (mixed take_s)
open Go.Proofs.YtppodgdhdddfkaaGreatDoor.Hd (WfB)
open Go.Proofs.YtppodgdhdddfkaaGreatDoor.Cg (mn toI)
section
variable {Z:ZP} {w w0:World} {R:Value→World→Prop} {A:List Nat→List Value→World→Prop} {B:List Nat→Nat→List Value→World→Prop}
end
end Go.Proofs.YtppodgdhdddfkaaGreatDoor.Sc
