import Derived.Test.YtppodgdhdddfkaaGreatDoorQMp
import Derived.Test.YtppodgdhdddfkaaGreatDoorQMu
import Derived.ChangeSame
import Derived.Carry
set_option linter.unusedVariables false
namespace Go.Proofs.YtppodgdhdddfkaaGreatDoor.Sd
open Go Go.RowKit Go.Proofs Go.Proofs.YtppodgdhdddfkaaGreatDoor Go.Proofs.YtppodgdhdddfkaaGreatDoor.Sx Go.Deep Go.ChangeShapes
open Go.Proofs.YtppodgdhdddfkaaGreatDoor.Cw (laidL)
set_option maxRecDepth 100000 in
theorem cells2 {W:World} {nm:String} {g:Nat} {cs:Array Value} {fuel:Nat} {p:List MemPlace} {a b:Int} (hg:Tryz.prog.globalNamed nm=some g) (hvar:W.var? Tryz.prog nm=some cs) (hd:DataW.trod (λ _=>()) Tryz.prog W 0 (λ _=>true) false fuel 220 cs.toList=some (.agg [.lit (.int .i64 a),.lit (.int .i64 b)],p)):Rd W 2 ⟨g,0,none⟩ [I a,I b]:=by
 obtain ⟨l⟩:=cs
 obtain ⟨y0,y1,n,hx,hl,h0,h1⟩:=trod_struct2 Tryz.underlying220 hd
 rw [show Tryz.prog.cellsOf 220=2 by kernel_rfl] at hl
 obtain ⟨c0,c1,rfl⟩:∃ c0 c1,l=[c0,c1]:=by
  match l,hl with
  | [a,b],_=>exact ⟨a,b,rfl⟩
 have e3:Tryz.prog.cellsOf 3=1:=by kernel_rfl
 obtain ⟨z0,g0,rfl,_⟩:=DataW.trod_int Tryz.underlying3 h0
 obtain ⟨z1,g1,rfl,_⟩:=DataW.trod_int Tryz.underlying3 h1
 simp [e3] at g0 g1
 subst g0
 subst g1
 simp at hx
 obtain ⟨⟨rfl,rfl⟩,_⟩:=hx
 refine ⟨rfl,λ j v hv=>?_⟩
 have:=World.var?_cell hg hvar j
 show W.cell? ⟨g,0+j,none⟩=some v
 rw [Nat.zero_add,this]
 simpa using hv
set_option maxRecDepth 100000 in
theorem part_of {W:World} {nm:String} {g:Nat} {a b:Int} {rest:List (String × DataW Unit)} (hn:Tryz.prog.globalNamed nm=some g) (ht:(Tryz.prog.globals[g]?).map (·.type)=some 220) (h:laidMet Tryz.prog ((nm,.agg [.lit (.int .i64 a),.lit (.int .i64 b)]) :: rest) W):Rd W 2 ⟨g,0,none⟩ [I a,I b]:=by
 obtain ⟨ps,⟨g',t',cs,fuel,p,q,hg',ht',hvar,hd,_,_⟩,_⟩:=h
 obtain rfl:=Option.some.inj (hn.symm.trans hg')
 obtain rfl:=Option.some.inj (ht.symm.trans ht')
 exact cells2 hn hvar hd
set_option maxRecDepth 100000 in
theorem sw_of {W:World} (h:laidMetH Tryz.prog laidL W) (hs:W.ShapedOpen Tryz.prog):Sc.SW W:=by
 have h0:laidMet Tryz.prog laidL W:=h
 refine ⟨Cw.gw_of h hs,⟨?_,?_⟩,?_⟩
 ·exact part_of (show Tryz.prog.globalNamed "rampart/wire.handlePart" = some 2 by kernel_rfl) (by kernel_rfl) (laidMet.tail (laidMet.tail (laidMet.tail (laidMet.tail (laidMet.tail (laidMet.tail (h0)))))))
 ·exact part_of (show Tryz.prog.globalNamed "rampart/wire.payloadPart" = some 3 by kernel_rfl) (by kernel_rfl) (laidMet.tail (laidMet.tail (laidMet.tail (laidMet.tail (laidMet.tail (laidMet.tail (laidMet.tail (h0))))))))
 ·have h1:=Lib.tabIs_of_head (zs:=[48,49,50,51,52,53,54,55,56,57,97,98,99,100,101,102]) (k:=.u8) (show Tryz.prog.globalNamed "rampart/script.digits" = some 0 by kernel_rfl) (show (Tryz.prog.globals[0]?).map (·.type)=some 194 by kernel_rfl) Tryz.underlying194 Tryz.underlying5 (by kernel_rfl) (by kernel_rfl) (laidMet.tail (laidMet.tail (laidMet.tail (laidMet.tail (laidMet.tail (laidMet.tail (laidMet.tail (laidMet.tail (h0)))))))))
  intro k hk
  have hc:=World.var?_cell (show Tryz.prog.globalNamed "rampart/script.digits" = some 0 by kernel_rfl) h1 k
  show W.cell? ⟨0,0+k * 1,none⟩=_
  rw [show 0+k * 1=k by omega,hc]
  match k,hk with
  | 0,_=>rfl
  | 1,_=>rfl
  | 2,_=>rfl
  | 3,_=>rfl
  | 4,_=>rfl
  | 5,_=>rfl
  | 6,_=>rfl
  | 7,_=>rfl
  | 8,_=>rfl
  | 9,_=>rfl
  | 10,_=>rfl
  | 11,_=>rfl
  | 12,_=>rfl
  | 13,_=>rfl
  | 14,_=>rfl
  | 15,_=>rfl
  | n+16,hk=>exact absurd hk (by omega)
end Go.Proofs.YtppodgdhdddfkaaGreatDoor.Sd
