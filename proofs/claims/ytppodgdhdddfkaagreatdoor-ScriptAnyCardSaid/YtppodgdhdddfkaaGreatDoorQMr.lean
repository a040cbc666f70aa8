import Derived.Test.YtppodgdhdddfkaaGreatDoorQMq
import Derived.Test.YtppodgdhdddfkaaGreatDoorQTr
import Derived.Test.YtppodgdhdddfkaaGreatDoorQMk
set_option linter.unusedVariables false
set_option linter.unusedSimpArgs false
namespace Go.Proofs.YtppodgdhdddfkaaGreatDoor.Cg
set_option maxRecDepth 100000
open Go Go.RowKit Go.Proofs.YtppodgdhdddfkaaGreatDoor.Sx
open Go.Proofs.YtppodgdhdddfkaaGreatDoor.Cf
open Go.Proofs.YtppodgdhdddfkaaGreatDoor.Sg
theorem split_no {c:UInt8} {a:Bs}:∀ x∈splitP c a,c∉x:=by
 induction a with
 | nil=>simp [splitP]
 | cons b r ih =>
  unfold splitP
  split
  ·intro x hx
   rcases List.mem_cons.1 hx with rfl | hx
   ·simp
   ·exact ih x hx
  ·rename_i hb
   have hne:=splitP_ne c r
   obtain ⟨y,l,e⟩:=List.exists_cons_of_ne_nil hne
   rw [e] at ih ⊢
   intro x hx
   rcases List.mem_cons.1 hx with rfl | hx
   ·intro h
    rcases List.mem_cons.1 h with h | h
    ·exact hb h.symm
    ·exact ih y (by simp) h
   ·exact ih x (by simp at hx ⊢;exact .inr hx)
theorem head_no (a:Bs):(32:UInt8)∉(splitP 32 a).headD []:=by
 obtain ⟨y,l,e⟩:=List.exists_cons_of_ne_nil (splitP_ne 32 a)
 rw [e]
 exact split_no (a:=a) y (by rw [e];simp)
structure IV (s:RS) (ls:List Bs):Prop where
 li:ls=lines3 s.c++(if 7≤s.was then [kFrame++nums s.c.frame] else [])++(if s.was=8 then [kBud++nums [s.c.budget,s.c.requests,s.c.pending]] else [])
 te:s.was < 2→s.c.tenants=[]
 ch:s.was < 3→s.c.channels=[]
 ga:s.was < 6→s.c.gates=[]
 re:s.was < 5→∀ x,s.c.channels.getLast? = some x→x.receivers=[]
 ne:3≤s.was∧s.was≤5→s.c.channels≠[]
 i64:In64 s.c
 wr:0≤s.was∧s.was≤8
 m:manyP s.c=false
end Go.Proofs.YtppodgdhdddfkaaGreatDoor.Cg
set_option linter.unusedVariables false
set_option linter.unusedSimpArgs false
namespace Go.Proofs.YtppodgdhdddfkaaGreatDoor.Cg
open Go Go.RowKit Go.Proofs.YtppodgdhdddfkaaGreatDoor.Sx
open Go.Proofs.YtppodgdhdddfkaaGreatDoor.Bi (mixed take_s)
open Go.Proofs.YtppodgdhdddfkaaGreatDoor.Cf
open Go.Proofs.YtppodgdhdddfkaaGreatDoor.Sg
section
variable {Z:ZP} {w w0:World} {R:Value→World→Prop} {A:List Nat→List Value→World→Prop} {B:List Nat→Nat→List Value→World→Prop}
end
end Go.Proofs.YtppodgdhdddfkaaGreatDoor.Cg
set_option linter.unusedVariables false
set_option linter.unusedSimpArgs false
namespace Go.Proofs.YtppodgdhdddfkaaGreatDoor.Cg
set_option maxRecDepth 100000
open Go Go.RowKit Go.Proofs.YtppodgdhdddfkaaGreatDoor.Sx
open Go.Proofs.YtppodgdhdddfkaaGreatDoor.Bi (mixed take_s)
open Go.Proofs.YtppodgdhdddfkaaGreatDoor.Cf
open Go.Proofs.YtppodgdhdddfkaaGreatDoor.Sg
def stepU (x:Nat) (b:UInt8):Nat:=(x * 10+(b.toNat+208) % 256) % 18446744073709551616
def negS (s:Bs):Bool:=decide (s.head? = some 45)
def preU (s:Bs) (i:Nat):Bs:=if negS s=true then (s.take i).drop 1 else s.take i
def intU (s:Bs):Nat:=(preU s 21).foldl stepU 0
def toI (u:Nat):Int:=if u < 9223372036854775808 then (u:Int) else (u:Int)-18446744073709551616
def intP (s:Bs):Int:=toI (if negS s=true then (18446744073709551616-intU s) % 18446744073709551616 else intU s)
theorem stepU_lt (x:Nat) (b:UInt8):stepU x b < 18446744073709551616:=Nat.mod_lt _ (by decide)
theorem foldU_lt (l:Bs):∀ (x:Nat),x < 18446744073709551616→l.foldl stepU x < 18446744073709551616:=by
 induction l with
 | nil=>intro x h;exact h
 | cons b r ih=>intro x _;exact ih _ (stepU_lt x b)
theorem toI_64 {u:Nat} (h:u < 18446744073709551616):in64 (toI u):=by
 unfold toI in64
 split<;>omega
theorem fold_dec:∀ (k u:Nat),u≤k→u < 18446744073709551616→(Lib.decDigits u).foldl stepU 0=u:=by
 intro k
 induction k with
 | zero =>
  intro u hu _
  obtain rfl:u=0:=by omega
  rw [dec_unf]
  decide
 | succ k ih =>
  intro u hu hb
  rw [dec_unf]
  split
  ·rename_i h
   simp only [List.foldl_cons,List.foldl_nil,stepU,dig u h]
   omega
  ·rename_i h
   rw [List.foldl_append,ih (u / 10) (by omega) (by omega)]
   simp only [List.foldl_cons,List.foldl_nil,stepU,dig (u % 10) (by omega)]
   omega
section
variable {Z:ZP} {w:World}
end
end Go.Proofs.YtppodgdhdddfkaaGreatDoor.Cg
set_option linter.unusedVariables false
namespace Go.Proofs.YtppodgdhdddfkaaGreatDoor.Ad
open Go Go.RowKit Go.Proofs.YtppodgdhdddfkaaGreatDoor.Sx
end Go.Proofs.YtppodgdhdddfkaaGreatDoor.Ad
set_option linter.unusedVariables false
set_option linter.unusedSimpArgs false
namespace Go.Proofs.YtppodgdhdddfkaaGreatDoor.Cg
set_option maxRecDepth 100000
open Go Go.RowKit Go.Proofs.YtppodgdhdddfkaaGreatDoor.Sx
open Go.Proofs.YtppodgdhdddfkaaGreatDoor.Bi (mixed take_s rList_t)
open Go.Proofs.YtppodgdhdddfkaaGreatDoor.Cf
open Go.Proofs.YtppodgdhdddfkaaGreatDoor.Sg
section
variable {P:Program} {Z:ZP} {R:Value→World→Prop} {w w0 w':World} {A:List Nat→List Value→World→Prop} {B:List Nat→Nat→List Value→World→Prop} {ds:List Nat} {k:Value→T} {t:T}
theorem or_mono {α:Type} {e:Rl α} {ty base base':Nat} {S:List Nat} {v:Value} {xs:List α} (h:Or e ty base S w v xs) (hb:base'≤base):Or e ty base' S w v xs:=by
 obtain ⟨cells,h1,h2⟩:=h
 exact ⟨cells,own_mono h1 hb,h2⟩
theorem RwO.go {α:Type} {e:Rl α} {S S':List Nat} {A:Option Addr} {xs:List α} (h:RwO S e w A xs) (F:Fr [] w w') (hS:∀ q∈S',q∈S∨w.heap.size≤q):RwO S' e w' A xs:=λ j x hj=>let ⟨a,es,h1,h2,h3⟩:=h j x hj;⟨a,es,h1,h2.fr F,h3.go F (by simp) hS⟩
theorem RwO.plain {α:Type} {e:Rl α} (hp:Plain e) {S:List Nat} {A:Option Addr} {xs:List α} (h:Rw e w A xs):RwO S e w A xs:=λ j x hj=>let ⟨a,es,h1,h2,h3⟩:=h j x hj;⟨a,es,h1,h2,λ _ _=>hp _ _ _ _ h3⟩
end
def chO (S:List Nat) (us:List Value):Prop:=∀ v,us[2]? = some v→∀ q∈v.ownBlock.toList,q∉S
structure CO (S:List Nat) (w:World) (cs:List Value) (c:GConf):Prop where
 off:Off S (λ w=>rConf.r w cs c) w
 ch:c.channels≠[]→chO S cs
theorem CO.k {S:List Nat} {w0 w:World} {A0 A1 A2 A3 A4:Option Addr} {n0 n1 n2 n3 n4 c0 c1 c2 c3 c4:Nat} {b5 b6 b7:Value} {c:GConf} (h:CO S w0 [.slice A0 n0 c0,.slice A1 n1 c1,.slice A2 n2 c2,.slice A3 n3 c3,.slice A4 n4 c4,b5,b6,b7] c) (F:Fr S w0 w):(c.flows.length≤c0∧c.flows.length≤big∧Rw (rI .u64) w A0 c.flows)∧(c.tenants.length≤c1∧c.tenants.length≤big∧Rw rTenant w A1 c.tenants)∧(c.channels.length≤c2∧c.channels.length≤big∧Rw rChannel w A2 c.channels)∧(c.gates.length≤c3∧c.gates.length≤big∧Rw rGate w A3 c.gates)∧(c.frame.length≤c4∧c.frame.length≤big∧Rw (rI .i64) w A4 c.frame):=by
 obtain ⟨_,_,_,_,_,_,_,_,_,_,e,k0,k1,k2,k3,k4⟩:=oConf (h.off w F)
 cases e
 exact ⟨k0,k1,k2,k3,k4⟩
structure AX (S:List Nat) (w0 w:World) (cs:List Value) (v2 v4:Nat) (k:Bs) (ws:List Bs) (vw:Value) (ai:Addr):Prop where
 F:Fr [] w0 w
 hS:∀ q∈S,q < w0.heap.size
 g2:w0.heap.size≤v2
 g4:w0.heap.size≤v4
 ne:v4≠v2
 B2:Blk w v2 29 cs
 B4:Blk w v4 29 zC
 W:Sl rT w vw (k :: ws)
 N:∀ (j:Nat) z,(ws.map intP++[0,0,0])[j]? = some z→Off [v2,v4] (λ w=>w.cell? (addA ai (((j:Nat):Int).toNat * 1))=some (I z)) w
 wl:ws.length≤90000
 ww:∀ a∈ws,a.length≤100000
section
variable {Z:ZP} {w0 w w1:World} {A:List Nat→List Value→World→Prop} {B:List Nat→Nat→List Value→World→Prop} {S:List Nat} {cs:List Value} {v2 v4:Nat} {k l:Bs} {ws:List Bs} {vw:Value} {ai:Addr} {o:Bool} {q:Option (GConf × Bs)}
theorem AX.nw (X:AX S w0 w cs v2 v4 k ws vw ai):∀ q∈v2 :: v4 :: S,q∈S∨w0.heap.size≤q:=λ q hq=>by
 have:=X.g2;have:=X.g4
 simp at hq
 rcases hq with rfl | rfl | hq
 ·exact .inr (by omega)
 ·exact .inr (by omega)
 ·exact .inl hq
end
end Go.Proofs.YtppodgdhdddfkaaGreatDoor.Cg
set_option linter.unusedVariables false
set_option linter.unusedSimpArgs false
namespace Go.Proofs.YtppodgdhdddfkaaGreatDoor.Cg
set_option maxRecDepth 100000
open Go Go.RowKit Go.Proofs.YtppodgdhdddfkaaGreatDoor.Sx
open Go.Proofs.YtppodgdhdddfkaaGreatDoor.Bi (mixed take_s rList_t)
open Go.Proofs.YtppodgdhdddfkaaGreatDoor.Cf
open Go.Proofs.YtppodgdhdddfkaaGreatDoor.Sg
section
variable {Z:ZP} {w0 w w1:World} {A:List Nat→List Value→World→Prop} {B:List Nat→Nat→List Value→World→Prop} {S:List Nat} {cs:List Value} {c:GConf} {v2 v4 ci:Nat} {k l:Bs} {ws:List Bs} {vw vk:Value} {ai:Addr} {o:Bool} {q:Option (GConf × Bs)}
end
end Go.Proofs.YtppodgdhdddfkaaGreatDoor.Cg
set_option linter.unusedVariables false
set_option linter.unusedSimpArgs false
namespace Go.Proofs.YtppodgdhdddfkaaGreatDoor.Cg
set_option maxRecDepth 100000
open Go Go.RowKit Go.Proofs.YtppodgdhdddfkaaGreatDoor.Sx
open Go.Proofs.YtppodgdhdddfkaaGreatDoor.Bi (mixed take_s rList_t)
open Go.Proofs.YtppodgdhdddfkaaGreatDoor.Cf
open Go.Proofs.YtppodgdhdddfkaaGreatDoor.Sg
section
variable {Z:ZP} {w0 w w1:World} {A:List Nat→List Value→World→Prop} {B:List Nat→Nat→List Value→World→Prop} {S:List Nat} {cs:List Value} {c:GConf} {v2 v4 ci:Nat} {k l:Bs} {ws:List Bs} {vw vk:Value} {ai:Addr} {o:Bool} {q:Option (GConf × Bs)}
end
end Go.Proofs.YtppodgdhdddfkaaGreatDoor.Cg
set_option linter.unusedVariables false
set_option linter.unusedSimpArgs false
namespace Go.Proofs.YtppodgdhdddfkaaGreatDoor.Cg
set_option maxRecDepth 100000
open Go Go.RowKit Go.Proofs.YtppodgdhdddfkaaGreatDoor.Sx
open Go.Proofs.YtppodgdhdddfkaaGreatDoor.Bi (mixed take_s rList_t)
open Go.Proofs.YtppodgdhdddfkaaGreatDoor.Cf
open Go.Proofs.YtppodgdhdddfkaaGreatDoor.Sg
section
variable {α:Type} {e:Rl α} {ty base:Nat} {S:List Nat} {w:World} {v:Value} {xs:List α}
end
section
variable {Z:ZP} {S:List Nat} {w0 w w1:World} {A:List Nat→List Value→World→Prop} {B:List Nat→Nat→List Value→World→Prop} {cs:List Value} {c:GConf} {v2 v4 ci:Nat} {k l:Bs} {ws:List Bs} {vw vk:Value} {ai:Addr} {o:Bool} {q:Option (GConf × Bs)}
end
end Go.Proofs.YtppodgdhdddfkaaGreatDoor.Cg
