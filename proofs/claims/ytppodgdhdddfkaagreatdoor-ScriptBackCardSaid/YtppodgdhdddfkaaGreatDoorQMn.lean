import Derived.Test.YtppodgdhdddfkaaGreatDoorQMm
import Derived.Test.YtppodgdhdddfkaaGreatDoorQMl
import Derived.Test.YtppodgdhdddfkaaGreatDoorQTr
import Derived.Test.YtppodgdhdddfkaaGreatDoorQMk
set_option linter.unusedVariables false
set_option linter.unusedSimpArgs false
namespace Go.Proofs.YtppodgdhdddfkaaGreatDoor.Cg
open Go Go.RowKit Go.Proofs.YtppodgdhdddfkaaGreatDoor.Sx
open Go.Proofs.YtppodgdhdddfkaaGreatDoor.Cf
open Go.Proofs.YtppodgdhdddfkaaGreatDoor.Sg
def splitP (c:UInt8):Bs→List Bs
 | []=>[[]]
 | b :: r=>if b=c then [] :: splitP c r else (b :: (splitP c r).headD []) :: (splitP c r).tail
theorem splitP_ne (c:UInt8) (a:Bs):splitP c a≠[]:=by
 cases a with
 | nil=>simp [splitP]
 | cons b r=>unfold splitP;split<;>simp
theorem index1 (c b:UInt8) (r:Bs):Lib.index (b :: r) [c]=if b=c then 0 else if Lib.index r [c] = -1 then -1 else Lib.index r [c]+1:=by
 rw [Lib.index]
 by_cases h:b=c
 ·subst h
  rw [if_pos rfl,if_pos (by simp [List.isPrefixOf])]
 ·have h2:¬ c=b:=λ e=>h e.symm
  rw [if_neg h,if_neg (by simp [List.isPrefixOf,h2])]
  by_cases h3:Lib.index r [c] = -1
  ·rw [if_pos h3,if_pos (beq_iff_eq.2 h3)]
  ·rw [if_neg h3,if_neg (λ e=>h3 (beq_iff_eq.1 e))]
theorem split_cons (c b:UInt8) (r:Bs) (h:b≠c):Lib.splitK [c] 0 (Lib.count (b :: r) [c]) (b :: r)=(b :: (Lib.splitK [c] 0 (Lib.count r [c]) r).headD []) :: (Lib.splitK [c] 0 (Lib.count r [c]) r).tail:=by
 have hi:=index1 c b r
 rw [if_neg h] at hi
 have hg:=Lib.index_ge r [c]
 by_cases h3:Lib.index r [c] = -1
 ·rw [if_pos h3] at hi
  rw [Lib.count_miss hi,Lib.count_miss h3]
  rfl
 ·rw [if_neg h3] at hi
  obtain ⟨i,hi2⟩:∃ i:Nat,Lib.index r [c]=i:=⟨(Lib.index r [c]).toNat,by omega⟩
  have h4:Lib.index (b :: r) [c]=((i+1:Nat):Int):=by omega
  rw [Lib.count_hit (by simp) h4,Lib.count_hit (by simp) hi2,Nat.add_comm 1,Nat.add_comm 1,Lib.splitK,Lib.splitK,if_neg (λ e=>by have:=beq_iff_eq.1 e;omega),if_neg (λ e=>by have:=beq_iff_eq.1 e;omega),h4,hi2]
  simp
theorem split_hit (c:UInt8) (r:Bs):Lib.splitK [c] 0 (Lib.count (c :: r) [c]) (c :: r)=[] :: Lib.splitK [c] 0 (Lib.count r [c]) r:=by
 have hi:=index1 c c r
 rw [if_pos rfl] at hi
 have h4:Lib.index (c :: r) [c]=((0:Nat):Int):=hi
 rw [Lib.count_hit (by simp) h4,Nat.add_comm 1,Lib.splitK,if_neg (λ e=>by have:=beq_iff_eq.1 e;omega),h4]
 simp
theorem splitL_eq (c:UInt8) (a:Bs):splitL c a=splitP c a:=by
 unfold splitL
 rw [Lib.splitB_data]
 show Lib.splitK [c] 0 (Lib.count a [c]) a=_
 induction a with
 | nil=>rfl
 | cons b r ih =>
  unfold splitP
  by_cases h:b=c
  ·subst h
   rw [if_pos rfl,split_hit,ih]
  ·rw [if_neg h,split_cons c b r h,ih]
theorem splitP_len (c:UInt8) (a:Bs):(splitP c a).length≤a.length+1∧∀ x∈splitP c a,x.length≤a.length:=by
 induction a with
 | nil=>simp [splitP]
 | cons b r ih =>
  unfold splitP
  obtain ⟨i1,i2⟩:=ih
  split
  ·refine ⟨by simp;omega,λ x hx=>?_⟩
   rcases List.mem_cons.1 hx with rfl | hx
   ·simp
   ·have:=i2 x hx;simp;omega
  ·have hne:=splitP_ne c r
   obtain ⟨y,l,e⟩:∃ y l,splitP c r=y :: l:=by
    cases hs:splitP c r with
    | nil=>exact absurd hs hne
    | cons y l=>exact ⟨y,l,rfl⟩
   rw [e] at i1 i2 ⊢
   refine ⟨by simp at i1 ⊢;omega,λ x hx=>?_⟩
   rcases List.mem_cons.1 hx with rfl | hx
   ·have:=i2 y (by simp);simp;omega
   ·have:=i2 x (by simp at hx ⊢;exact .inr hx);simp;omega
structure RS where
 c:GConf
 was:Int
def kOpens:Bs:=[111,112,101,110,115]
def opn (r:List Bs):Bool:=decide (r.getLast? = some kOpens)
def bod (r:List Bs):List Bs:=if opn r=true then r.dropLast else r
def numsN (n:Nat) (l:List Bs):Option (List Int):=if l.length < n then none else numsP l
def lastU (c:GConf) (f:GChannel→GChannel):GConf:={ c with channels:=c.channels.dropLast++(c.channels.getLast?.map f).toList }
def caseP (is:Int) (k:Bs) (rest:List Bs) (o:Bool) (c:GConf):Option (GConf × Bs):=
 if is=1 then (numsN 0 rest).bind λ v=>if okB v=true then some ({ c with flows:=c.flows++[((ofB v).toNat:Int)] },k++nums (Bt.memI (ofB v))) else none
 else if is=2 then (numsN 2 rest).bind λ v=>some ({ c with tenants:=c.tenants++[⟨v.getD 0 0,v.getD 1 0⟩] },k++nums (v.take 2))
 else if is=3 then (numsN 1 rest).bind λ v=>some ({ c with channels:=c.channels++[⟨v.getD 0 0,[],[]⟩] },k++nums (v.take 1))
 else if is=4 then (numsN 2 rest).bind λ v=>some (lastU c (λ x=>{ x with lanes:=x.lanes++[⟨v.getD 0 0,v.getD 1 0,o⟩] }),(k++nums (v.take 2))++opB o)
 else if is=5 then (numsN 1 rest).bind λ v=>some (lastU c (λ x=>{ x with receivers:=x.receivers++[⟨v.getD 0 0,o⟩] }),(k++nums (v.take 1))++opB o)
 else if is=6 then (numsN 3 rest).bind λ v=>some ({ c with gates:=c.gates++[⟨v.getD 0 0,v.getD 1 0,v.getD 2 0⟩] },k++nums (v.take 3))
 else if is=7 then (numsN 0 rest).bind λ v=>some ({ c with frame:=v },k++nums v)
 else if is=8 then (numsN 3 rest).bind λ v=>some ({ c with budget:=v.getD 0 0,requests:=v.getD 1 0,pending:=v.getD 2 0 },k++nums (v.take 3))
 else some (c,[])
def takeK (s:RS) (l k:Bs) (ws:List Bs):Option RS:=
 if followsI s.was (rankI k)=true then
  (caseP (rankI k) k (bod ws) (opn ws) s.c).bind λ p=>if p.2=l∧manyP p.1=false then some ⟨p.1,rankI k⟩ else none
 else none
def takeP (s:RS) (l:Bs):Option RS:=takeK s l ((splitP 32 l).headD []) (splitP 32 l).tail
end Go.Proofs.YtppodgdhdddfkaaGreatDoor.Cg
set_option linter.unusedVariables false
set_option linter.unusedSimpArgs false
namespace Go.Proofs.YtppodgdhdddfkaaGreatDoor.Cg
open Go Go.RowKit Go.Proofs.YtppodgdhdddfkaaGreatDoor.Sx
open Go.Proofs.YtppodgdhdddfkaaGreatDoor.Bi (mixed take_s)
open Go.Proofs.YtppodgdhdddfkaaGreatDoor.Cf
open Go.Proofs.YtppodgdhdddfkaaGreatDoor.Sg
structure Rr where
 v:Value
 ty:Nat
 n:Nat
 len:Nat
 cells:List Value
def Rr.ob (r:Rr):List Nat:=r.v.ownBlock.toList
def obs (rs:List Rr):List Nat:=rs.flatMap Rr.ob
def OwnR (base:Nat) (w:World) (rs:List Rr):Prop:=(∀ r∈rs,w.ownsRow base r.ty r.n r.v r.len r.cells)∧(obs rs).Nodup
section
variable {base:Nat} {w w':World} {rs a b:List Rr} {r r':Rr}
theorem Rr.nd (r:Rr):r.ob.Nodup:=by unfold Rr.ob;cases r.v.ownBlock<;>simp
theorem obs_at:obs (a++r :: b)=obs a++(r.ob++obs b):=by simp [obs]
theorem OwnR.lt (h:OwnR base w rs):∀ q∈obs rs,base≤q∧q < w.heap.size:=λ q hq=>by
 obtain ⟨r,hr,hq⟩:=List.mem_flatMap.1 hq
 exact own_lt (h.1 r hr) q hq
theorem OwnR.fr {S:List Nat} (h:OwnR base w rs) (f:Fr S w w') (hd:∀ q∈S,q∉obs rs):OwnR base w' rs:=⟨λ r hr=>own_f (h.1 r hr) f (λ q hq hs=>hd q hs (List.mem_flatMap.2 ⟨r,hr,hq⟩)),h.2⟩
theorem OwnR.fr0 (h:OwnR base w rs) (f:Fr [] w w'):OwnR base w' rs:=h.fr f (by simp)
theorem OwnR.row (h:OwnR base w (a++r :: b)):w.ownsRow base r.ty r.n r.v r.len r.cells:=h.1 r (by simp)
theorem OwnR.put (h:OwnR base w (a++r :: b)) (ho:w'.ownsRow base r'.ty r'.n r'.v r'.len r'.cells) (f:Fr r.ob w w') (hn:∀ q∈r'.ob,q∈r.ob∨w.heap.size≤q):OwnR base w' (a++r' :: b):=by
 have hN:=h.2
 have hL:=h.lt
 rw [obs_at] at hN hL
 rw [List.nodup_append] at hN
 obtain ⟨n1,n2,n3⟩:=hN
 rw [List.nodup_append] at n2
 obtain ⟨n4,n5,n6⟩:=n2
 refine ⟨λ x hx=>?_,?_⟩
 ·rcases List.mem_append.1 hx with hx | hx
  ·refine own_f (h.1 x (List.mem_append.2 (.inl hx))) f (λ q hq hs=>?_)
   exact n3 q (List.mem_flatMap.2 ⟨x,hx,hq⟩) q (List.mem_append.2 (.inl hs)) rfl
  ·rcases List.mem_cons.1 hx with rfl | hx
   ·exact ho
   ·refine own_f (h.1 x (List.mem_append.2 (.inr (List.mem_cons_of_mem _ hx)))) f (λ q hq hs=>?_)
    exact n6 q hs q (List.mem_flatMap.2 ⟨x,hx,hq⟩) rfl
 ·rw [obs_at,List.nodup_append]
  refine ⟨n1,?_,?_⟩
  ·rw [List.nodup_append]
   refine ⟨r'.nd,n5,λ q hq q' hq' e=>?_⟩
   subst e
   rcases hn q hq with h1 | h1
   ·exact n6 q h1 q hq' rfl
   ·have:=(hL q (List.mem_append.2 (.inr (List.mem_append.2 (.inr hq'))))).2;omega
  ·intro q hq q' hq' e
   subst e
   rcases List.mem_append.1 hq' with h2 | h2
   ·rcases hn q h2 with h1 | h1
    ·exact n3 q hq q (List.mem_append.2 (.inl h1)) rfl
    ·have:=(hL q (List.mem_append.2 (.inl hq))).2;omega
   ·exact n3 q hq q (List.mem_append.2 (.inr h2)) rfl
theorem OwnR.obs_put (hn:∀ q∈r'.ob,q∈r.ob∨w.heap.size≤q):∀ q∈obs (a++r' :: b),q∈obs (a++r :: b)∨w.heap.size≤q:=by
 intro q hq
 rw [obs_at] at hq ⊢
 rcases List.mem_append.1 hq with h | h
 ·exact .inl (List.mem_append.2 (.inl h))
 ·rcases List.mem_append.1 h with h | h
  ·rcases hn q h with h | h
   ·exact .inl (List.mem_append.2 (.inr (List.mem_append.2 (.inl h))))
   ·exact .inr h
  ·exact .inl (List.mem_append.2 (.inr (List.mem_append.2 (.inr h))))
theorem ob_sub:∀ q∈r.ob,q∈obs (a++r :: b):=λ q hq=>by rw [obs_at];exact List.mem_append.2 (.inr (List.mem_append.2 (.inl hq)))
theorem OwnR.ins {ty n:Nat} (h:OwnR base w (a++b)):OwnR base w (a++⟨.slice none 0 0,ty,n,0,[]⟩ :: b):=by
 have e:obs (a++⟨.slice none 0 0,ty,n,0,[]⟩ :: b)=obs (a++b):=by simp [obs,Rr.ob,Value.ownBlock]
 refine ⟨λ x hx=>?_,by rw [e];exact h.2⟩
 rcases List.mem_append.1 hx with hx | hx
 ·exact h.1 x (List.mem_append.2 (.inl hx))
 ·rcases List.mem_cons.1 hx with rfl | hx
  ·exact own_nil _ _ _
  ·exact h.1 x (List.mem_append.2 (.inr hx))
end
section
variable {P:Program} {Z:ZP} {R:Value→World→Prop} {w w':World} {A:List Nat→List Value→World→Prop} {B:List Nat→Nat→List Value→World→Prop} {ds:List Nat} {k:Value→T} {t u:T}
theorem r_appW {T ety n bytes base ty len:Nat} {z v x1:Value} {xs es:List Value} (E:El P T ety n bytes z) (HO:w.ownsRow base ety n v len xs) (h1:∀ v∈es,v.oneCell'=true) (hb:(len+1) * bytes≤big) (hbase:base≤w.heap.size)
  (hk:∀ v' w',w'.ownsRow base ety n v' (len+1) (xs++es)→Fr v.ownBlock.toList w w'→(∀ q∈v'.ownBlock.toList,q∈v.ownBlock.toList∨w.heap.size≤q)→wp P Z R ds (k v') w' A B) (hv:x1.cells=es.toArray:=by rfl) (hl:es.length=n:=by rfl) (h0:Nat.blt 0 n=true:=by rfl) (hn:Nat.ble n 1000=true:=by rfl) (hby:Nat.blt 0 bytes=true:=by rfl):wp P Z R ds (.hv (Instr.buildSlice T 1 [(0,x1)].toArray) λ s=>.hv (Builtin.append_ #[T,T] ty [v,s].toArray) k) w A B:=by
 refine r_bs1 E (λ b w1 hb1 B1 f1=>?_) hv hl h0 hn
 have rd:=B1.rd hl
 refine r_appO (m:=1) (news:=es) E (own_fr0 HO f1) (by rw [hl,Nat.one_mul]) (λ h=>by cases h) (λ a ha j u hj=>by cases ha;exact rd.2 j u hj) h1 hb (Nat.le_trans hbase f1.size) (λ v' w' g1 g2 g3=>?_) h0 hby
 refine hk v' w' g1 ((f1.mono (by simp)).trans g2) (λ q hq=>?_)
 rcases g3 with h | h
 ·rw [h] at hq;exact .inl hq
 ·rw [h] at hq;simp at hq;subst hq;exact .inr f1.size
theorem r_tne {ty:Nat} {x y:Operand} {a b:Bs} (hk:wp P Z R ds (k (.bool (decide (a≠b)))) w A B):wp P Z R ds (.pu (do eqGuard .neq ty x y (Tx a) (Tx b);binOp .neq ty (Tx a) (Tx b)) k) w A B:=by
 refine r_pus (λ w'=>?_) hk
 rw [binOp_string_neq]
 have e:(eqGuard .neq ty x y (Tx a) (Tx b)).run P w'=.ok () w':=by unfold eqGuard;rfl
 simp only [Sem.run_bind,e,Result.andThen_ok,ByteArray.toList_mk,Sem.run_pure]
 congr 2
 by_cases h:a=b<;>simp [h]
theorem own_st {ty base n len j:Nat} {v:Value} {xs:List Value} (HO:w.ownsRow base ty n v len xs) (hj:j < xs.length):∃ g cap,v=.slice (some ⟨g,0,none⟩) len cap∧base≤g∧∃ cs,Blk w g ty cs∧xs=cs.take xs.length∧j < cs.length∧xs.length≤cs.length∧∀ w' u,Blk w' g ty (cs.set j u)→w'.ownsRow base ty n v len (xs.set j u):=by
 obtain ⟨hl,⟨rfl,rfl⟩ | ⟨g,cap,cur,rfl,hg,hh,hn,hm,hs,ht⟩⟩:=HO
 ·simp at hl;subst hl;simp at hj
 ·have hxl:xs.length≤cur.toList.length:=by rw [← ht,List.length_take];exact Nat.min_le_right _ _
  refine ⟨g,cap,rfl,hg,cur.toList,?_,?_,Nat.lt_of_lt_of_le hj hxl,hxl,λ w' u hB=>⟨by rw [List.length_set];exact hl,.inr ⟨g,cap,(cur.toList.set j u).toArray,rfl,hg,hB,hn,hm,by simpa using hs,?_⟩⟩⟩
  ·unfold Blk;simpa using hh
  ·rw [hl];exact ht.symm
  ·rw [← hl] at ht ⊢
   show List.take xs.length (cur.toList.set j u)=_
   rw [List.take_set,ht]
end
abbrev Z3:=GChannel × Value × Value
def chV (z:Z3):List Value:=[I z.1.label,z.2.1,z.2.2]
def chR (z:Z3):List Rr:=[⟨z.2.1,145,3,z.1.lanes.length,flat eLane z.1.lanes⟩,⟨z.2.2,147,2,z.1.receivers.length,flat eReceiver z.1.receivers⟩]
def eU (z:Int):List Value:=[.int .u64 z]
def eI (z:Int):List Value:=[I z]
def rwF (v:Value) (c:GConf):Rr:=⟨v,40,1,c.flows.length,flat eU c.flows⟩
def rwT (v:Value) (c:GConf):Rr:=⟨v,82,2,c.tenants.length,flat eTenant c.tenants⟩
def rwC (v:Value) (zr:List Z3):Rr:=⟨v,87,3,zr.length,flat chV zr.reverse⟩
def rwG (v:Value) (c:GConf):Rr:=⟨v,89,3,c.gates.length,flat eGate c.gates⟩
def rwM (v:Value) (c:GConf):Rr:=⟨v,3,1,c.frame.length,flat eI c.frame⟩
def rows (vf vt vc vg vr:Value) (c:GConf) (zr:List Z3):List Rr:=rwF vf c :: rwT vt c :: rwC vc zr :: rwG vg c :: rwM vr c :: zr.flatMap chR
structure Sm (c:GConf):Prop where
 fl:c.flows.length≤200000
 te:c.tenants.length≤200000
 ch:c.channels.length≤200000
 ga:c.gates.length≤200000
 fr:c.frame.length≤200000
 la:∀ x∈c.channels,x.lanes.length≤200000∧x.receivers.length≤200000
theorem Sm.of {c:GConf} (h:manyP c=false):Sm c:=by
 obtain ⟨h0,h1,h2,h3,h4,h5⟩:=few h
 exact ⟨by omega,by omega,by omega,by omega,by omega,λ x hx=>by have:=h5 x hx;omega⟩
structure RMx (base p:Nat) (w:World) (s:RS) (vf vt vc vg vr:Value) (zr:List Z3):Prop where
 B:Blk w p 125 [vf,vt,vc,vg,vr,I s.c.budget,I s.c.requests,I s.c.pending,I s.was]
 hp:p < base
 hb:base≤w.heap.size
 ch:s.c.channels=(zr.map (·.1)).reverse
 O:OwnR base w (rows vf vt vc vg vr s.c zr)
section
variable {base p:Nat} {w w':World} {s:RS} {vf vt vc vg vr:Value} {zr:List Z3}
theorem RMx.fr0 (h:RMx base p w s vf vt vc vg vr zr) (f:Fr [] w w'):RMx base p w' s vf vt vc vg vr zr:=⟨h.B.fr0 f,h.hp,Nat.le_trans h.hb f.size,h.ch,h.O.fr0 f⟩
theorem RMx.pn (h:RMx base p w s vf vt vc vg vr zr):p∉obs (rows vf vt vc vg vr s.c zr):=λ hq=>by have:=(h.O.lt p hq).1;have:=h.hp;omega
theorem RMx.fr {S:List Nat} (h:RMx base p w s vf vt vc vg vr zr) (f:Fr S w w') (h1:∀ q∈S,q≠p∧q∉obs (rows vf vt vc vg vr s.c zr)):RMx base p w' s vf vt vc vg vr zr:=⟨h.B.fr f (λ hq=>(h1 _ hq).1 rfl),h.hp,Nat.le_trans h.hb f.size,h.ch,h.O.fr f (λ q hq=>(h1 q hq).2)⟩
theorem own_sl {α:Type} {enc:α→List Value} {n ty:Nat} {hl:∀ x,(enc x).length=n} {h1:∀ x,∀ v∈enc x,v.oneCell'=true} {v:Value} {xs:List α} (h:w.ownsRow base ty n v xs.length (flat enc xs)) (h0:0 < n) (hb:xs.length≤big):Sl (rE enc n hl h1) w v xs:=Ow.row h h0 hb
theorem chV_len (z:Z3):(chV z).length=3:=rfl
theorem RMx.conf (h:RMx base p w s vf vt vc vg vr zr) (hs:Sm s.c):rConf.r w [vf,vt,vc,vg,vr,I s.c.budget,I s.c.requests,I s.c.pending] s.c:=by
 have O:=h.O
 have g:∀ {n:Nat},n≤200000→n≤big:=λ h=>by simp only [big];omega
 obtain ⟨A0,c0,e0,k0⟩:=own_sl (enc:=eU) (n:=1) (hl:=λ _=>rfl) (h1:=λ _=>one1 rfl) (O.1 (rwF vf s.c) (by simp [rows])) (by decide) (g hs.fl)
 obtain ⟨A1,c1,e1,k1⟩:=own_sl (hl:=nTenant) (h1:=iTenant) (O.1 (rwT vt s.c) (by simp [rows])) (by decide) (g hs.te)
 obtain ⟨A3,c3,e3,k3⟩:=own_sl (hl:=nGate) (h1:=iGate) (O.1 (rwG vg s.c) (by simp [rows])) (by decide) (g hs.ga)
 obtain ⟨A4,c4,e4,k4⟩:=own_sl (enc:=eI) (n:=1) (hl:=λ _=>rfl) (h1:=λ _=>one1 rfl) (O.1 (rwM vr s.c) (by simp [rows])) (by decide) (g hs.fr)
 have hlen:s.c.channels.length=zr.length:=by rw [h.ch];simp
 have hch:s.c.channels=zr.reverse.map (·.1):=by rw [h.ch,List.map_reverse]
 have k2:Or rChannel 87 base [] w vc s.c.channels:=by
  refine ⟨flat chV zr.reverse,?_,λ j x hj w2 f=>?_⟩
  ·have:=O.1 (rwC vc zr) (by simp [rows])
   rw [hlen]
   exact this
  ·rw [hch,List.getElem?_map] at hj
   obtain ⟨z,hzr,rfl⟩:=Option.map_eq_some_iff.1 hj
   have hzm:z∈zr:=by simpa using List.mem_of_getElem? hzr
   have hcell:((flat chV zr.reverse).drop (j * 3)).take 3=chV z:=by
    apply List.ext_getElem?
    intro i
    rw [List.getElem?_take]
    split
    ·rename_i hi
     rw [List.getElem?_drop,flat_get chV_len hzr hi]
    ·rename_i hi
     exact (List.getElem?_eq_none (by rw [chV_len];omega)).symm
   show rChannel.r w2 (((flat chV zr.reverse).drop (j * 3)).take 3) z.1
   rw [hcell]
   have hx:z.1∈s.c.channels:=by rw [h.ch];simp;exact ⟨z.2.1,z.2.2,hzm⟩
   have hO2:OwnR base w2 (zr.flatMap chR):=by
    have hN:=O.2
    have hob:obs (rows vf vt vc vg vr s.c zr)=obs [rwF vf s.c,rwT vt s.c]++((rwC vc zr).ob++obs (rwG vg s.c :: rwM vr s.c :: zr.flatMap chR)):=obs_at (a:=[rwF vf s.c,rwT vt s.c])
    rw [hob,List.nodup_append] at hN
    obtain ⟨_,n2,_⟩:=hN
    rw [List.nodup_append] at n2
    obtain ⟨_,n5,n6⟩:=n2
    refine ⟨λ r hr=>own_f (O.1 r (by unfold rows;simp only [List.mem_cons];exact .inr (.inr (.inr (.inr (.inr hr)))))) f (λ q hq hs=>?_),?_⟩
    ·simp only [List.append_nil] at hs
     exact n6 q hs q (List.mem_flatMap.2 ⟨r,List.mem_cons_of_mem _ (List.mem_cons_of_mem _ hr),hq⟩) rfl
    ·have:obs (rwG vg s.c :: rwM vr s.c :: zr.flatMap chR)=((rwG vg s.c).ob++(rwM vr s.c).ob)++obs (zr.flatMap chR):=by simp [obs]
     rw [this,List.nodup_append] at n5
     exact n5.2.1
   obtain ⟨B1,d1,q1,q2⟩:=own_sl (hl:=nLane) (h1:=iLane) (hO2.1 ⟨z.2.1,145,3,z.1.lanes.length,flat eLane z.1.lanes⟩ (List.mem_flatMap.2 ⟨z,hzm,by simp [chR]⟩)) (by decide) (g (hs.la _ hx).1)
   obtain ⟨B2,d2,q3,q4⟩:=own_sl (hl:=nReceiver) (h1:=iReceiver) (hO2.1 ⟨z.2.2,147,2,z.1.receivers.length,flat eReceiver z.1.receivers⟩ (List.mem_flatMap.2 ⟨z,hzm,by simp [chR]⟩)) (by decide) (g (hs.la _ hx).2)
   dsimp only at q1 q3
   unfold chV
   rw [q1,q3]
   exact mChannel q2 q4
 obtain ⟨A2,c2,e2,k5⟩:=k2.row (g hs.ch)
 clear k2
 subst e0 e1 e2 e3 e4
 exact mConf k0 k1 k5 k3 k4
end
end Go.Proofs.YtppodgdhdddfkaaGreatDoor.Cg
set_option linter.unusedVariables false
namespace Go.Proofs.YtppodgdhdddfkaaGreatDoor.Tk
open Go Go.RowKit Go.Proofs.YtppodgdhdddfkaaGreatDoor.Sx
def fin (x0 x1 v25 own:Value):T:=.pu (do eqGuard .neq 9 (.tmp 299) (.tmp 300) own x1;binOp .neq 9 own x1) λ v301=>gi v301 (bdT [] [] λ v309=>.pan (Instr.panic (.iface 169 (.agg v309.toArray)))) (nilT x0 λ v304=>faT 0 v304 λ v305=>.ldn 8 v305 λ v306=>.call 97 [v306] λ v307=>gi v307 (bdT [] [] λ v309=>.pan (Instr.panic (.iface 169 (.agg v309.toArray)))) (nilT x0 λ v313=>faT 8 v313 λ v314=>.ef (Instr.storeAt 3 v314 v25) (.ret (.tuple [].toArray))))
def c1 (x0 x1 v21 v25 v51 v44:Value):T:=.call 156 [v51,(I 0)] λ v56=>.call 157 [v56] λ v59=>exT 0 v59 λ v60=>exT 1 v59 λ v61=>biT true .neq v61 (I 0) λ v63=>gi v63 (bdT [] [] λ v64=>.pan (Instr.panic (.iface 169 (.agg v64.toArray)))) (nilT x0 λ v68=>faT 0 v68 λ v69=>faT 0 v69 λ v70=>.ld v70 λ v71=>.hv (Instr.buildSlice 23 1 [(0,v60)].toArray) λ v73=>.hv (Builtin.append_ #[23,23] 23 [v71,v73].toArray) λ v74=>nilT x0 λ v75=>faT 0 v75 λ v76=>faT 0 v76 λ v77=>.ef (Instr.storeAt 23 v77 v74) (.dr (ixT 1 v21 (I 0) λ v79=>.ld v79 λ v80=>.call 145 [v60] λ v82=>.chk none v79 v80 (.call 144 [v80,v82] λ v83=>.pu (do eqGuard .neq 9 (.tmp 299) (.tmp 300) v83 x1;binOp .neq 9 v83 x1) λ v301=>gi v301 (bdT [] [] λ v309=>.pan (Instr.panic (.iface 169 (.agg v309.toArray)))) (nilT x0 λ v304=>faT 0 v304 λ v305=>.ldn 8 v305 λ v306=>.call 97 [v306] λ v307=>gi v307 (bdT [] [] λ v309=>.pan (Instr.panic (.iface 169 (.agg v309.toArray)))) (nilT x0 λ v313=>faT 8 v313 λ v314=>.ef (Instr.storeAt 3 v314 v25) (.ret (.tuple [].toArray))))))))
def c2 (x0 x1 v21 v25 v51 v44:Value):T:=.call 156 [v51,(I 2)] λ v87=>.dr (nilT x0 λ v90=>faT 0 v90 λ v91=>faT 1 v91 λ v92=>.ld v92 λ v93=>ixT 1 v87 (I 0) λ v95=>.ld v95 λ v96=>ixT 1 v87 (I 1) λ v98=>.ld v98 λ v99=>bdT [(0,v96),(1,v99)] [(I 0),(I 0)] λ v100=>.hv (Instr.buildSlice 24 1 [(0,(.agg v100.toArray))].toArray) λ v101=>.chk none v92 v93 (.hv (Builtin.append_ #[24,24] 24 [v93,v101].toArray) λ v102=>nilT x0 λ v103=>faT 0 v103 λ v104=>faT 1 v104 λ v105=>.ef (Instr.storeAt 24 v105 v102) (.dr (ixT 1 v21 (I 0) λ v107=>.ld v107 λ v108=>.pu (Instr.sliceAt 27 v87 none (some (I 2)) none) λ v110=>.call 144 [v108,v110] λ v111=>.pu (do eqGuard .neq 9 (.tmp 299) (.tmp 300) v111 x1;binOp .neq 9 v111 x1) λ v301=>gi v301 (bdT [] [] λ v309=>.pan (Instr.panic (.iface 169 (.agg v309.toArray)))) (nilT x0 λ v304=>faT 0 v304 λ v305=>.ldn 8 v305 λ v306=>.call 97 [v306] λ v307=>gi v307 (bdT [] [] λ v309=>.pan (Instr.panic (.iface 169 (.agg v309.toArray)))) (nilT x0 λ v313=>faT 8 v313 λ v314=>.ef (Instr.storeAt 3 v314 v25) (.ret (.tuple [].toArray))))))))
def c3 (x0 x1 v21 v25 v51 v44:Value):T:=.call 156 [v51,(I 1)] λ v115=>.dr (nilT x0 λ v118=>faT 0 v118 λ v119=>faT 2 v119 λ v120=>.ld v120 λ v121=>ixT 1 v115 (I 0) λ v123=>.ld v123 λ v124=>bdT [(0,v124)] [(I 0),(.slice none 0 0),(.slice none 0 0)] λ v125=>.hv (Instr.buildSlice 25 1 [(0,(.agg v125.toArray))].toArray) λ v126=>.chk none v120 v121 (.hv (Builtin.append_ #[25,25] 25 [v121,v126].toArray) λ v127=>nilT x0 λ v128=>faT 0 v128 λ v129=>faT 2 v129 λ v130=>.ef (Instr.storeAt 25 v130 v127) (.dr (ixT 1 v21 (I 0) λ v132=>.ld v132 λ v133=>.pu (Instr.sliceAt 27 v115 none (some (I 1)) none) λ v135=>.call 144 [v133,v135] λ v136=>.pu (do eqGuard .neq 9 (.tmp 299) (.tmp 300) v136 x1;binOp .neq 9 v136 x1) λ v301=>gi v301 (bdT [] [] λ v309=>.pan (Instr.panic (.iface 169 (.agg v309.toArray)))) (nilT x0 λ v304=>faT 0 v304 λ v305=>.ldn 8 v305 λ v306=>.call 97 [v306] λ v307=>gi v307 (bdT [] [] λ v309=>.pan (Instr.panic (.iface 169 (.agg v309.toArray)))) (nilT x0 λ v313=>faT 8 v313 λ v314=>.ef (Instr.storeAt 3 v314 v25) (.ret (.tuple [].toArray))))))))
def c4 (x0 x1 v21 v25 v51 v44:Value):T:=.call 156 [v51,(I 2)] λ v140=>.dr (nilT x0 λ v142=>faT 0 v142 λ v143=>faT 2 v143 λ v144=>.ld v144 λ v145=>nilT x0 λ v147=>faT 0 v147 λ v148=>faT 2 v148 λ v149=>.ld v149 λ v150=>lnT v150 λ v151=>biT false .sub v151 (I 1) λ v152=>ixT 3 v145 v152 λ v153=>.dr (nilT v153 λ v156=>faT 1 v156 λ v157=>.ld v157 λ v158=>ixT 1 v140 (I 0) λ v160=>.ld v160 λ v161=>ixT 1 v140 (I 1) λ v163=>.ld v163 λ v164=>bdT [(0,v161),(1,v164),(2,v44)] [(I 0),(I 0),(B false)] λ v166=>.hv (Instr.buildSlice 84 1 [(0,(.agg v166.toArray))].toArray) λ v167=>.chk none v157 v158 (.hv (Builtin.append_ #[84,84] 84 [v158,v167].toArray) λ v168=>nilT v153 λ v169=>faT 1 v169 λ v170=>.ef (Instr.storeAt 84 v170 v168) (.dr (ixT 1 v21 (I 0) λ v172=>.ld v172 λ v173=>.pu (Instr.sliceAt 27 v140 none (some (I 2)) none) λ v175=>.call 144 [v173,v175] λ v176=>.call 146 [v44] λ v178=>.pu (binOp .add 9 v176 v178) λ v179=>.pu (do eqGuard .neq 9 (.tmp 299) (.tmp 300) v179 x1;binOp .neq 9 v179 x1) λ v301=>gi v301 (bdT [] [] λ v309=>.pan (Instr.panic (.iface 169 (.agg v309.toArray)))) (nilT x0 λ v304=>faT 0 v304 λ v305=>.ldn 8 v305 λ v306=>.call 97 [v306] λ v307=>gi v307 (bdT [] [] λ v309=>.pan (Instr.panic (.iface 169 (.agg v309.toArray)))) (nilT x0 λ v313=>faT 8 v313 λ v314=>.ef (Instr.storeAt 3 v314 v25) (.ret (.tuple [].toArray)))))))))
def c5 (x0 x1 v21 v25 v51 v44:Value):T:=.call 156 [v51,(I 1)] λ v183=>.dr (nilT x0 λ v185=>faT 0 v185 λ v186=>faT 2 v186 λ v187=>.ld v187 λ v188=>nilT x0 λ v190=>faT 0 v190 λ v191=>faT 2 v191 λ v192=>.ld v192 λ v193=>lnT v193 λ v194=>biT false .sub v194 (I 1) λ v195=>ixT 3 v188 v195 λ v196=>.dr (nilT v196 λ v199=>faT 2 v199 λ v200=>.ld v200 λ v201=>ixT 1 v183 (I 0) λ v203=>.ld v203 λ v204=>bdT [(0,v204),(1,v44)] [(I 0),(B false)] λ v206=>.hv (Instr.buildSlice 85 1 [(0,(.agg v206.toArray))].toArray) λ v207=>.chk none v200 v201 (.hv (Builtin.append_ #[85,85] 85 [v201,v207].toArray) λ v208=>nilT v196 λ v209=>faT 2 v209 λ v210=>.ef (Instr.storeAt 85 v210 v208) (.dr (ixT 1 v21 (I 0) λ v212=>.ld v212 λ v213=>.pu (Instr.sliceAt 27 v183 none (some (I 1)) none) λ v215=>.call 144 [v213,v215] λ v216=>.call 146 [v44] λ v218=>.pu (binOp .add 9 v216 v218) λ v219=>.pu (do eqGuard .neq 9 (.tmp 299) (.tmp 300) v219 x1;binOp .neq 9 v219 x1) λ v301=>gi v301 (bdT [] [] λ v309=>.pan (Instr.panic (.iface 169 (.agg v309.toArray)))) (nilT x0 λ v304=>faT 0 v304 λ v305=>.ldn 8 v305 λ v306=>.call 97 [v306] λ v307=>gi v307 (bdT [] [] λ v309=>.pan (Instr.panic (.iface 169 (.agg v309.toArray)))) (nilT x0 λ v313=>faT 8 v313 λ v314=>.ef (Instr.storeAt 3 v314 v25) (.ret (.tuple [].toArray)))))))))
def c6 (x0 x1 v21 v25 v51 v44:Value):T:=.call 156 [v51,(I 3)] λ v223=>.dr (nilT x0 λ v226=>faT 0 v226 λ v227=>faT 3 v227 λ v228=>.ld v228 λ v229=>ixT 1 v223 (I 0) λ v231=>.ld v231 λ v232=>ixT 1 v223 (I 1) λ v234=>.ld v234 λ v235=>ixT 1 v223 (I 2) λ v237=>.ld v237 λ v238=>bdT [(0,v232),(1,v235),(2,v238)] [(I 0),(I 0),(I 0)] λ v239=>.hv (Instr.buildSlice 26 1 [(0,(.agg v239.toArray))].toArray) λ v240=>.chk none v228 v229 (.hv (Builtin.append_ #[26,26] 26 [v229,v240].toArray) λ v241=>nilT x0 λ v242=>faT 0 v242 λ v243=>faT 3 v243 λ v244=>.ef (Instr.storeAt 26 v244 v241) (.dr (ixT 1 v21 (I 0) λ v246=>.ld v246 λ v247=>.pu (Instr.sliceAt 27 v223 none (some (I 3)) none) λ v249=>.call 144 [v247,v249] λ v250=>.pu (do eqGuard .neq 9 (.tmp 299) (.tmp 300) v250 x1;binOp .neq 9 v250 x1) λ v301=>gi v301 (bdT [] [] λ v309=>.pan (Instr.panic (.iface 169 (.agg v309.toArray)))) (nilT x0 λ v304=>faT 0 v304 λ v305=>.ldn 8 v305 λ v306=>.call 97 [v306] λ v307=>gi v307 (bdT [] [] λ v309=>.pan (Instr.panic (.iface 169 (.agg v309.toArray)))) (nilT x0 λ v313=>faT 8 v313 λ v314=>.ef (Instr.storeAt 3 v314 v25) (.ret (.tuple [].toArray))))))))
def c7 (x0 x1 v21 v25 v51 v44:Value):T:=.call 156 [v51,(I 0)] λ v255=>nilT x0 λ v256=>faT 0 v256 λ v257=>faT 4 v257 λ v258=>.ef (Instr.storeAt 27 v258 v255) (.dr (ixT 1 v21 (I 0) λ v260=>.ld v260 λ v261=>nilT x0 λ v263=>faT 0 v263 λ v264=>faT 4 v264 λ v265=>.ld v265 λ v266=>.call 144 [v261,v266] λ v267=>.pu (do eqGuard .neq 9 (.tmp 299) (.tmp 300) v267 x1;binOp .neq 9 v267 x1) λ v301=>gi v301 (bdT [] [] λ v309=>.pan (Instr.panic (.iface 169 (.agg v309.toArray)))) (nilT x0 λ v304=>faT 0 v304 λ v305=>.ldn 8 v305 λ v306=>.call 97 [v306] λ v307=>gi v307 (bdT [] [] λ v309=>.pan (Instr.panic (.iface 169 (.agg v309.toArray)))) (nilT x0 λ v313=>faT 8 v313 λ v314=>.ef (Instr.storeAt 3 v314 v25) (.ret (.tuple [].toArray))))))
def c8 (x0 x1 v21 v25 v51 v44:Value):T:=.call 156 [v51,(I 3)] λ v271=>.dr (ixT 1 v271 (I 0) λ v276=>.ld v276 λ v277=>ixT 1 v271 (I 1) λ v279=>.ld v279 λ v280=>ixT 1 v271 (I 2) λ v282=>.ld v282 λ v283=>nilT x0 λ v284=>faT 0 v284 λ v285=>faT 5 v285 λ v286=>.ef (Instr.storeAt 3 v286 v277) (nilT x0 λ v287=>faT 0 v287 λ v288=>faT 6 v288 λ v289=>.ef (Instr.storeAt 3 v289 v280) (nilT x0 λ v290=>faT 0 v290 λ v291=>faT 7 v291 λ v292=>.ef (Instr.storeAt 3 v292 v283) (.dr (ixT 1 v21 (I 0) λ v294=>.ld v294 λ v295=>.pu (Instr.sliceAt 27 v271 none (some (I 3)) none) λ v297=>.call 144 [v295,v297] λ v298=>.pu (do eqGuard .neq 9 (.tmp 299) (.tmp 300) v298 x1;binOp .neq 9 v298 x1) λ v301=>gi v301 (bdT [] [] λ v309=>.pan (Instr.panic (.iface 169 (.agg v309.toArray)))) (nilT x0 λ v304=>faT 0 v304 λ v305=>.ldn 8 v305 λ v306=>.call 97 [v306] λ v307=>gi v307 (bdT [] [] λ v309=>.pan (Instr.panic (.iface 169 (.agg v309.toArray)))) (nilT x0 λ v313=>faT 8 v313 λ v314=>.ef (Instr.storeAt 3 v314 v25) (.ret (.tuple [].toArray)))))))))
def cs (x0 x1 v21 v25 v51 v44:Value):T:=biT true .eql v25 (I 1) λ v54=>gi v54 (c1 x0 x1 v21 v25 v51 v44) (biT true .eql v25 (I 2) λ v85=>gi v85 (c2 x0 x1 v21 v25 v51 v44) (biT true .eql v25 (I 3) λ v113=>gi v113 (c3 x0 x1 v21 v25 v51 v44) (biT true .eql v25 (I 4) λ v138=>gi v138 (c4 x0 x1 v21 v25 v51 v44) (biT true .eql v25 (I 5) λ v181=>gi v181 (c5 x0 x1 v21 v25 v51 v44) (biT true .eql v25 (I 6) λ v221=>gi v221 (c6 x0 x1 v21 v25 v51 v44) (biT true .eql v25 (I 7) λ v252=>gi v252 (c7 x0 x1 v21 v25 v51 v44) (biT true .eql v25 (I 8) λ v269=>gi v269 (c8 x0 x1 v21 v25 v51 v44) (fin x0 x1 v25 (.string {data:=#[]})))))))))
end Go.Proofs.YtppodgdhdddfkaaGreatDoor.Tk
set_option linter.unusedVariables false
set_option linter.unusedSimpArgs false
namespace Go.Proofs.YtppodgdhdddfkaaGreatDoor.Cg
open Go Go.RowKit Go.Proofs.YtppodgdhdddfkaaGreatDoor.Sx
open Go.Proofs.YtppodgdhdddfkaaGreatDoor.Bi (mixed take_s Nw List_t)
open Go.Proofs.YtppodgdhdddfkaaGreatDoor.Cf
open Go.Proofs.YtppodgdhdddfkaaGreatDoor.Sg
theorem atoiP_in64 {a:Bs} {v:Int} (h:atoiP a=some v):in64 v:=by
 unfold atoiP at h
 split at h
 ·rename_i z hz
  cases h
  exact Lib.atoiAll_bounds hz
 ·cases h
theorem numsP_len {ls:List Bs} {l:List Int} (h:numsP ls=some l):l.length=ls.length∧∀ n∈l,in64 n:=by
 induction ls generalizing l with
 | nil=>cases h;simp
 | cons a r ih =>
  unfold numsP at h
  cases ha:atoiP a with
  | none=>rw [ha] at h;cases h
  | some v =>
   cases hr:numsP r with
   | none=>rw [ha,hr] at h;cases h
   | some l2 =>
    rw [ha,hr] at h
    cases h
    obtain ⟨i1,i2⟩:=ih hr
    refine ⟨by simp [i1],λ n hn=>?_⟩
    rcases List.mem_cons.1 hn with rfl | hn
    ·exact atoiP_in64 ha
    ·exact i2 n hn
theorem ints_flat (l:List Int):ints l=flat eI l:=by
 induction l with
 | nil=>rfl
 | cons a r ih=>show I a :: ints r=eI a++flat eI r;rw [ih];rfl
theorem or_ints {base ty:Nat} {S:List Nat} {w:World} {v:Value} {l:List Int} (h:Or (rI .i64) ty base S w v l):w.ownsRow base ty 1 v l.length (ints l):=by
 obtain ⟨cells,ho,hx⟩:=h
 have e:cells=ints l:=by
  have hl:cells.length=l.length * 1:=ho.1
  apply List.ext_getElem?
  intro j
  rcases Nat.lt_or_ge j l.length with hj | hj
  ·have h1:=(hx j l[j] (List.getElem?_eq_getElem hj)).now
   have h2:(cells.drop (j * 1)).take 1=[I l[j]]:=h1
   have h3:=congrArg (λ x=>x[0]?) h2
   rw [Nat.mul_one] at h3
   simp at h3
   unfold ints
   rw [h3,List.getElem?_map,List.getElem?_eq_getElem hj]
   rfl
  ·rw [List.getElem?_eq_none (by omega),List.getElem?_eq_none (by unfold ints;rw [List.length_map];exact hj)]
 rw [e] at ho
 exact ho
section
variable {P:Program} {Z:ZP} {R:Value→World→Prop} {w w':World} {A:List Nat→List Value→World→Prop} {B:List Nat→Nat→List Value→World→Prop} {ds:List Nat} {k:Value→T} {t u:T}
theorem Ten:El Tryz.prog 24 82 2 16 (.agg #[I 0,I 0]):=⟨by kernel_rfl,by kernel_rfl,Tryz.sizeOf82,Tryz.zeroValue82,rfl⟩
theorem Elane:El Tryz.prog 84 145 3 24 (.agg #[I 0,I 0,.bool false]):=⟨by kernel_rfl,by kernel_rfl,Tryz.sizeOf145,Tryz.zeroValue145,rfl⟩
theorem Erecv:El Tryz.prog 85 147 2 16 (.agg #[I 0,.bool false]):=⟨by kernel_rfl,by kernel_rfl,Tryz.sizeOf147,Tryz.zeroValue147,rfl⟩
theorem Egate:El Tryz.prog 26 89 3 24 (.agg #[I 0,I 0,I 0]):=⟨by kernel_rfl,by kernel_rfl,Tryz.sizeOf89,Tryz.zeroValue89,rfl⟩
theorem r_appC {T ety n bytes base ty len:Nat} {z v x1:Value} {pa:Addr} {xs es:List Value} (E:El P T ety n bytes z) (HO:w.ownsRow base ety n v len xs) (hc:w.cell? pa=some v) (h1:∀ v∈es,v.oneCell'=true) (hb:(len+1) * bytes≤big) (hbase:base≤w.heap.size)
  (hk:∀ v' w',w'.ownsRow base ety n v' (len+1) (xs++es)→Fr v.ownBlock.toList w w'→(∀ q∈v'.ownBlock.toList,q∈v.ownBlock.toList∨w.heap.size≤q)→wp P Z R ds (k v') w' A B) (hv:x1.cells=es.toArray:=by rfl) (hl:es.length=n:=by rfl) (h0:Nat.blt 0 n=true:=by rfl) (hn:Nat.ble n 1000=true:=by rfl) (hby:Nat.blt 0 bytes=true:=by rfl):wp P Z R ds (.hv (Instr.buildSlice T 1 [(0,x1)].toArray) λ s=>.chk none (.pointer (some pa)) v (.hv (Builtin.append_ #[T,T] ty [v,s].toArray) k)) w A B:=by
 refine r_bs1 E (λ b w1 hb1 B1 f1=>?_) hv hl h0 hn
 refine r_chk (f1.c hc) ?_
 have rd:=B1.rd hl
 refine r_appO (m:=1) (news:=es) E (own_fr0 HO f1) (by rw [hl,Nat.one_mul]) (λ h=>by cases h) (λ a ha j u hj=>by cases ha;exact rd.2 j u hj) h1 hb (Nat.le_trans hbase f1.size) (λ v' w' g1 g2 g3=>?_) h0 hby
 refine hk v' w' g1 ((f1.mono (by simp)).trans g2) (λ q hq=>?_)
 rcases g3 with h | h
 ·rw [h] at hq;exact .inl hq
 ·rw [h] at hq;simp at hq;subst hq;exact .inr f1.size
theorem nums_t {v:Value} {ls:List Bs} (hv:Sl rT w v ls) (n:Nat) (hl:ls.length≤100000) (hw:∀ a∈ls,a.length≤100000) (G:GW w):Cz Tryz.prog 156 [v,I n] w
  (λ r w'=>∃ l,numsN n ls=some l∧n≤l.length∧l.length≤100000∧(∀ x∈l,in64 x)∧w'.ownsRow w.heap.size 3 1 r l.length (ints l)∧Fr [] w w') (ZB (numsN n ls=none) [] w):=by
 have h:=numbers_t hv n hl hw G
 refine ⟨h.1,h.2.mono λ e w' he=>?_⟩
 cases e with
 | returned r =>
  obtain ⟨l,h1,h2,h3,h4⟩:=he
  obtain ⟨e1,e2⟩:=numsP_len h2
  exact ⟨l,by unfold numsN;rw [if_neg (by omega)];exact h2,by omega,by omega,e2,or_ints h3,h4⟩
 | panicked c =>
  obtain ⟨h1,h2⟩:=he
  refine ⟨?_,h2⟩
  unfold numsN
  by_cases hn:ls.length < n
  ·rw [if_pos hn]
  ·rw [if_neg hn]
   rcases h1 with h1 | h1
   ·exact absurd h1 hn
   ·exact h1
 | outgrown=>exact he
theorem own_head {base ty:Nat} {X:Option Addr} {c n:Nat} {l:List Int} (h:w.ownsRow base ty 1 (.slice X l.length c) l.length (ints l)) (hn:n≤l.length) (hl:l.length≤100000):Sl (rI .i64) w (.slice X n c) (l.take n):=by
 rw [ints_flat] at h
 obtain ⟨X',c',e,h2,_,h4⟩:=own_sl (enc:=eI) (n:=1) (hl:=λ _=>rfl) (h1:=λ _=>one1 rfl) h (by decide) (by simp only [big];omega)
 cases e
 have hlen:(l.take n).length=n:=by rw [List.length_take];omega
 refine ⟨X,c,by rw [hlen],by omega,by simp only [big];omega,λ j x hj=>?_⟩
 rw [List.getElem?_take] at hj
 split at hj
 ·exact h4 j x hj
 ·cases hj
theorem Split_o (a:Bs) (c:UInt8) (hl:a.length≤100000) (hw:MaxW w):Cz Tryz.prog 89 [Tx a,Tx [c]] w (λ r w'=>w'.ownsRow w.heap.size 9 1 r (splitP c a).length (flat (λ l=>[Tx l]) (splitP c a))∧Fr [] w w') Z:=by
 obtain ⟨m,hm⟩:=hw
 refine cz_of Tryz.call89 (Sh.strings_Split ⟨a.toArray⟩ ⟨[c].toArray⟩ m w (by rw [tx_size];omega) hm (by rw [tx_size];simp)) ?_
 rintro e w' ⟨rfl,rfl⟩
 have hlen:(Lib.splitB ⟨[c].toArray⟩ 0 (Lib.countB ⟨a.toArray⟩ ⟨[c].toArray⟩) ⟨a.toArray⟩).length=Lib.countB ⟨a.toArray⟩ ⟨[c].toArray⟩+1:=Lib.splitB_all _ (by rw [tx_size];simp) 0 _ _ rfl
 have hc:Lib.countB ⟨a.toArray⟩ ⟨[c].toArray⟩≤a.length:=by
  have:=Lib.countB_le ⟨[c].toArray⟩ (by rw [tx_size];simp) _ (⟨a.toArray⟩:ByteArray) (Nat.le_refl _)
  rw [tx_size] at this
  exact this
 have e2:(Lib.splitB ⟨[c].toArray⟩ 0 (Lib.countB ⟨a.toArray⟩ ⟨[c].toArray⟩) ⟨a.toArray⟩).map Value.string=flat (λ l=>[Tx l]) (splitP c a):=by
  rw [← splitL_eq]
  unfold splitL
  generalize Lib.splitB ⟨[c].toArray⟩ 0 (Lib.countB ⟨a.toArray⟩ ⟨[c].toArray⟩) ⟨a.toArray⟩=ss
  induction ss with
  | nil=>rfl
  | cons s r ih =>
   rw [List.map_cons,List.map_cons,ih]
   show _=[Tx s.data.toList]++flat _ _
   rw [← tx_of];rfl
 have e3:(splitP c a).length=Lib.countB ⟨a.toArray⟩ ⟨[c].toArray⟩+1:=by
  rw [← splitL_eq];unfold splitL;rw [List.length_map,hlen]
 refine ⟨_,rfl,?_,Fr.alloc w _⟩
 rw [e2,e3]
 exact own_lit (Blk.alloc w _ _) (Nat.le_refl _) (by rw [← e2,List.length_map,hlen];omega) (by omega)
end
structure KK (base p:Nat) (is:Int) (l:Bs) (R:Value→World→Prop) (Z:ZP) (w:World) (O0:List Nat) (res:Option (GConf × Bs)):Prop where
 ok:∀ c' own,res=some (c',own)→own=l→manyP c'=false→∀ w' vf vt vc vg vr zr,RMx base p w' ⟨c',is⟩ vf vt vc vg vr zr→Fr (p :: O0) w w'→(∀ q∈obs (rows vf vt vc vg vr c' zr),q∈O0∨w.heap.size≤q)→R (.tuple [].toArray) w'
 no:(∀ c' own,res=some (c',own)→own=l→manyP c'=true)→∀ w',Fr (p :: O0) w w'→Z [badE] w'
structure CX (w00:World) (base p:Nat) (w:World) (s:RS) (vf vt vc vg vr:Value) (zr:List Z3) (k:Bs) (ad:Addr) (nw:Nat) (vx:Value) (rest:List Bs):Prop where
 M:RMx base p w s vf vt vc vg vr zr
 m:manyP s.c=false
 F0:Fr [] w00 w
 p0:w00.heap.size≤p
 G:GW w00
 n0:0 < nw
 kw:Off (p :: obs (rows vf vt vc vg vr s.c zr)) (λ w=>w.cell? (addA ad (((0:Nat):Int).toNat * 1))=some (Tx k)) w
 kl:k.length≤1000
 r:Sl rT w vx rest
 rl:rest.length≤100000
 rws:∀ a∈rest,a.length≤100000
section
variable {Z:ZP} {R:Value→World→Prop} {w00 w w1 w2 w3:World} {A:List Nat→List Value→World→Prop} {B:List Nat→Nat→List Value→World→Prop} {base p nw cw:Nat} {s:RS} {vf vt vc vg vr vf' vt' vc' vg' vr' vx:Value} {zr zr':List Z3} {k l:Bs} {ad:Addr} {rest:List Bs} {is:Int} {o:Bool}
theorem CX.f (C:CX w00 base p w s vf vt vc vg vr zr k ad nw vx rest) {w':World} (f:Fr (p :: obs (rows vf vt vc vg vr s.c zr)) w w'):GW w':=by
 refine C.G.up (C.F0.trans_new f (λ q hq=>.inr ?_))
 have:=C.p0
 rcases List.mem_cons.1 hq with rfl | hq
 ·exact this
 ·have h1:=(C.M.O.lt q hq).1
  have h2:=C.M.hp
  omega
theorem CX.g (C:CX w00 base p w s vf vt vc vg vr zr k ad nw vx rest) {w':World} (f:Fr [] w w'):GW w':=C.f (f.mono (by simp))
theorem RMx.put {a b:List Rr} {r r':Rr} {c':GConf} (hM:RMx base p w s vf vt vc vg vr zr) (h1:rows vf vt vc vg vr s.c zr=a++r :: b) (h2:rows vf' vt' vc' vg' vr' c' zr=a++r' :: b) (ho:w2.ownsRow base r'.ty r'.n r'.v r'.len r'.cells) (f2:Fr r.ob w w2) (hn:∀ q∈r'.ob,q∈r.ob∨w.heap.size≤q)
  (hB:Blk w3 p 125 [vf',vt',vc',vg',vr',I c'.budget,I c'.requests,I c'.pending,I s.was]) (f3:Fr [p] w2 w3) (hch:c'.channels=s.c.channels):RMx base p w3 ⟨c',s.was⟩ vf' vt' vc' vg' vr' zr∧Fr (p :: obs (rows vf vt vc vg vr s.c zr)) w w3∧∀ q∈obs (rows vf' vt' vc' vg' vr' c' zr),q∈obs (rows vf vt vc vg vr s.c zr)∨w.heap.size≤q:=by
 have O:=hM.O
 rw [h1] at O
 have O2:=O.put ho f2 hn
 refine ⟨⟨hB,hM.hp,Nat.le_trans hM.hb (Nat.le_trans f2.size f3.size),by rw [← hM.ch];exact hch,?_⟩,?_,?_⟩
 ·show OwnR base w3 (rows vf' vt' vc' vg' vr' c' zr)
  rw [h2]
  refine O2.fr f3 (λ q hq hq2=>?_)
  simp at hq;subst hq
  have:=(O2.lt q hq2).1
  have:=hM.hp
  omega
 ·refine (f2.mono (λ q hq=>?_)).trans (f3.mono (λ q hq=>by simp at hq;subst hq;simp))
  rw [h1]
  exact List.mem_cons_of_mem _ (ob_sub q hq)
 ·rw [h1,h2]
  exact OwnR.obs_put hn
theorem fin_wp {O0:List Nat} {c':GConf} {own:Bs} {res:Option (GConf × Bs)} {was:Int} (K:KK base p is l R Z w O0 res) (hr:res=some (c',own)) (hM:RMx base p w1 ⟨c',was⟩ vf vt vc vg vr zr) (F:Fr (p :: O0) w w1) (hO:∀ q∈obs (rows vf vt vc vg vr c' zr),q∈O0∨w.heap.size≤q) (hs:Sm c') :
  wp Tryz.prog Z R [] (Tk.fin (Pt p 0) (Tx l) (I is) (Tx own)) w1 A B:=by
 refine r_tne ?_
 refine r_if (λ h=>?_) (λ h=>?_)
 ·exact r_panb (K.no (λ c2 own2 e h2=>by rw [hr] at e;cases e;exact absurd h2 h) w1 F)
 have h:own=l:=by by_cases h':own=l;exact h';exact absurd h' h
 refine r_ldn (hM.B.rdo 0 rfl rfl) ?_
 refine r_call (many_t (hM.conf hs)) ?_
 rintro _ w2 ⟨rfl,F2⟩
 have hM2:=hM.fr0 F2
 refine r_ifb (λ h2=>?_) (λ h2=>?_)
 ·exact r_panb (K.no (λ c2 own2 e _=>by rw [hr] at e;cases e;exact h2) w2 (F.trans (F2.mono (by simp))))
 ·refine r_st1 hM2.B Tryz.sizeOf3 (λ w3 hB f3=>?_)
  refine r_ret (K.ok c' own hr h h2 w3 vf vt vc vg vr zr ⟨hB,hM2.hp,Nat.le_trans hM2.hb f3.size,hM2.ch,hM2.O.fr f3 (λ q hq=>by simp at hq;subst hq;exact hM2.pn)⟩ ?_ hO)
  exact (F.trans (F2.mono (by simp))).trans (f3.mono (λ q hq=>by simp at hq;subst hq;simp))
end
end Go.Proofs.YtppodgdhdddfkaaGreatDoor.Cg
set_option linter.unusedVariables false
set_option linter.unusedSimpArgs false
namespace Go.Proofs.YtppodgdhdddfkaaGreatDoor.Cg
open Go Go.RowKit Go.Proofs.YtppodgdhdddfkaaGreatDoor.Sx
open Go.Proofs.YtppodgdhdddfkaaGreatDoor.Bi (mixed take_s Nw List_t)
open Go.Proofs.YtppodgdhdddfkaaGreatDoor.Cf
open Go.Proofs.YtppodgdhdddfkaaGreatDoor.Sg
section
variable {Z:ZP} {R:Value→World→Prop} {w00 w w1 w2 w3:World} {A:List Nat→List Value→World→Prop} {B:List Nat→Nat→List Value→World→Prop} {base p nw cw:Nat} {s:RS} {vf vt vc vg vr vx:Value} {zr:List Z3} {k l:Bs} {ad:Addr} {rest:List Bs} {is:Int} {o:Bool}
theorem KK.none {O0:List Nat} {res:Option (GConf × Bs)} (K:KK base p is l R Z w O0 res) (h:res=none) {w':World} (f:Fr [] w w'):Z [badE] w':=K.no (λ c' own e=>by rw [h] at e;cases e) w' (f.mono (by simp))
theorem flat_app {α:Type} (e:α→List Value) (xs:List α) (x:α):flat e xs++e x=flat e (xs++[x]):=by simp [flat]
theorem Sm.flows {c:GConf} (h:manyP c=false) (fs:List Int) (hf:fs.length≤200000):Sm { c with flows:=fs }:=⟨hf,(Sm.of h).te,(Sm.of h).ch,(Sm.of h).ga,(Sm.of h).fr,(Sm.of h).la⟩
theorem Sm.tens {c:GConf} (h:manyP c=false) (fs:List GTenant) (hf:fs.length≤200000):Sm { c with tenants:=fs }:=⟨(Sm.of h).fl,hf,(Sm.of h).ch,(Sm.of h).ga,(Sm.of h).fr,(Sm.of h).la⟩
theorem Sm.gats {c:GConf} (h:manyP c=false) (fs:List GGate) (hf:fs.length≤200000):Sm { c with gates:=fs }:=⟨(Sm.of h).fl,(Sm.of h).te,(Sm.of h).ch,hf,(Sm.of h).fr,(Sm.of h).la⟩
theorem Sm.frms {c:GConf} (h:manyP c=false) (fs:List Int) (hf:fs.length≤200000):Sm { c with frame:=fs }:=⟨(Sm.of h).fl,(Sm.of h).te,(Sm.of h).ch,(Sm.of h).ga,hf,(Sm.of h).la⟩
theorem c1_wp (C:CX w00 base p w s vf vt vc vg vr zr k ad nw vx rest) (his:is=1) (K:KK base p is l R Z w (obs (rows vf vt vc vg vr s.c zr)) (caseP is k rest o s.c)):wp Tryz.prog Z R [] (Tk.c1 (Pt p 0) (Tx l) (.slice (some ad) nw cw) (I is) vx (.bool o)) w A B:=by
 have hc:caseP is k rest o s.c=(numsN 0 rest).bind λ v=>if okB v=true then some ({ s.c with flows:=s.c.flows++[((ofB v).toNat:Int)] },k++nums (Bt.memI (ofB v))) else none:=by unfold caseP;rw [if_pos his]
 have hf:=(few C.m).1
 refine r_callZ (nums_t C.r 0 C.rl C.rws (C.g (Fr.refl _ _))) ?_ ?_
 rotate_left
 ·rintro cs w' ⟨hn,rfl,f⟩
  exact K.none (by rw [hc,hn];rfl) f
 rintro _ w1 ⟨v,hv,hn,hvl,hv64,HN,F1⟩
 rw [hv] at hc
 obtain ⟨X,cv,rfl,hnum⟩:=own_int HN
 refine r_call (Of_t (own_head HN (Nat.le_refl _) hvl) (by rw [List.take_length];exact hvl)) ?_
 rintro _ w2 ⟨rfl,F2⟩
 rw [List.take_length]
 have F:=F1.trans F2
 have hM:=C.M.fr0 F
 by_cases hok:okB v=true
 ·rw [if_pos hok,if_pos hok]
  have hc:caseP is k rest o s.c=some ({ s.c with flows:=s.c.flows++[((ofB v).toNat:Int)] },k++nums (Bt.memI (ofB v))):=by rw [hc];show (if okB v=true then _ else _)=_;rw [if_pos hok]
  refine r_ld (hM.B.cell rfl) ?_
  refine r_appW (es:=eU ((ofB v).toNat:Int)) Bi.Eu64 (hM.O.row (a:=[])) (one1 rfl) (by simp only [big];show (s.c.flows.length+1) * 8≤_;omega) hM.hb (λ vf' w3 g1 g2 g3=>?_)
  obtain ⟨X2,c2,rfl,_⟩:=own_slice g1
  refine r_st1 (hM.B.fr g2 (λ hq=>hM.pn (ob_sub (a:=[]) p hq))) Tryz.sizeOf23 (λ w4 hB f4=>?_)
  have g1':w3.ownsRow base 40 1 (.slice X2 ((rwF vf s.c).len+1) c2) (s.c.flows++[((ofB v).toNat:Int)]).length (flat eU (s.c.flows++[((ofB v).toNat:Int)])):=by
   rw [List.length_append,← flat_app]
   exact g1
  obtain ⟨m1,m2,m3⟩:=hM.put (a:=[]) (r:=rwF vf s.c) (r':=rwF (.slice X2 ((rwF vf s.c).len+1) c2) { s.c with flows:=s.c.flows++[((ofB v).toNat:Int)] }) (c':={ s.c with flows:=s.c.flows++[((ofB v).toNat:Int)] }) (vt':=vt) (vc':=vc) (vg':=vg) (vr':=vr) rfl rfl g1' g2 g3 hB f4 rfl
  refine r_dr (λ w5 f5=>?_)
  have G5:=((F.mono (by simp)).trans m2).trans (f5.mono (by simp))
  refine r_ob ⟨by decide,by have:=C.n0;omega⟩ ?_
  refine r_ld (C.kw w5 G5) ?_
  refine r_call (List_t _) ?_
  rintro v6 w6 ⟨hr6,f6⟩
  have G6:=G5.trans (f6.mono (by simp))
  refine r_chk (C.kw w6 G6) ?_
  have hk:(Bt.memI (ofB v)).length≤64:=by unfold Bt.memI Bt.mem;rw [List.length_map];exact Nat.le_trans (List.length_filter_le _ _) (by simp)
  refine r_call (line_t k (nw_sl hr6 (by simp only [big];omega)) (memI_in64 _) (by omega) (Nat.le_trans C.kl (by omega)) (C.f G6)) ?_
  rintro _ w7 ⟨rfl,f7⟩
  exact fin_wp K hc ((m1.fr0 f5).fr0 (f6.trans f7)) (G6.trans (f7.mono (by simp))) (λ q hq=>(m3 q hq).imp id (λ h=>Nat.le_trans F.size h)) (Sm.flows C.m _ (by simp;omega))
 ·rw [if_neg hok,if_neg hok]
  have hc:caseP is k rest o s.c=none:=by rw [hc];show (if okB v=true then _ else _)=_;rw [if_neg hok]
  exact r_panb (K.none hc F)
theorem CX.keep (C:CX w00 base p w s vf vt vc vg vr zr k ad nw vx rest) {v:Value} {v1:List Int} (F1:Fr [] w w1) (HN:w1.ownsRow w.heap.size 3 1 v v1.length (ints v1)):∀ w',Fr (p :: obs (rows vf vt vc vg vr s.c zr)) w1 w'→w'.ownsRow w.heap.size 3 1 v v1.length (ints v1):=λ w' f=>own_f HN f (λ q hq hs=>by
 have h1:=(own_lt HN q hq).1
 rcases List.mem_cons.1 hs with rfl | hs
 ·have:=C.M.hp;have:=C.M.hb;omega
 ·have:=(C.M.O.lt q hs).2;omega)
theorem c2_wp (C:CX w00 base p w s vf vt vc vg vr zr k ad nw vx rest) (his:is=2) (K:KK base p is l R Z w (obs (rows vf vt vc vg vr s.c zr)) (caseP is k rest o s.c)):wp Tryz.prog Z R [] (Tk.c2 (Pt p 0) (Tx l) (.slice (some ad) nw cw) (I is) vx (.bool o)) w A B:=by
 have hc:caseP is k rest o s.c=(numsN 2 rest).bind λ v=>some ({ s.c with tenants:=s.c.tenants++[⟨v.getD 0 0,v.getD 1 0⟩] },k++nums (v.take 2)):=by unfold caseP;rw [if_neg (by omega),if_pos his]
 have hf:=(few C.m).2.1
 refine r_callZ (nums_t C.r 2 C.rl C.rws (C.g (Fr.refl _ _))) ?_ ?_
 rotate_left
 ·rintro cs w' ⟨hn,rfl,f⟩
  exact K.none (by rw [hc,hn];rfl) f
 rintro _ w1 ⟨v,hv,hn,hvl,hv64,HN,F1⟩
 rw [hv] at hc
 have HK:=C.keep F1 HN
 obtain ⟨X,cv,rfl,_⟩:=own_int HN
 have hcap:=own_cap HN
 obtain ⟨n0,n1,t,rfl⟩:∃ a b t,v=a :: b :: t:=by match v,hn with | a :: b :: t,_=>exact ⟨a,b,t,rfl⟩
 refine r_dr (λ w2 F2=>?_)
 have F:=F1.trans F2
 have hM:=C.M.fr0 F
 obtain ⟨X',cv',e,hnum⟩:=own_int (own_fr0 HN F2)
 cases e
 obtain ⟨ax,rfl,h0⟩:=hnum 0 n0 rfl
 obtain ⟨_,e,h1⟩:=hnum 1 n1 rfl
 cases e
 refine r_ld (hM.B.cell rfl) ?_
 refine r_ob ⟨by decide,by simp only [List.length_cons];omega⟩ ?_
 refine r_ld h0 ?_
 refine r_ob ⟨by decide,by simp only [List.length_cons];omega⟩ ?_
 refine r_ld h1 ?_
 refine r_appC (es:=eTenant ⟨n0,n1⟩) Ten (hM.O.row (a:=[rwF vf s.c])) (hM.B.cell rfl) (iTenant _) (by simp only [big];show (s.c.tenants.length+1) * 16≤_;omega) hM.hb (λ vf' w3 g1 g2 g3=>?_)
 obtain ⟨X2,c2,rfl,_⟩:=own_slice g1
 refine r_st1 (hM.B.fr g2 (λ hq=>hM.pn (ob_sub (a:=[rwF vf s.c]) p hq))) Tryz.sizeOf24 (λ w4 hB f4=>?_)
 have g1':w3.ownsRow base 82 2 (.slice X2 ((rwT vt s.c).len+1) c2) (s.c.tenants++[(⟨n0,n1⟩:GTenant)]).length (flat eTenant (s.c.tenants++[(⟨n0,n1⟩:GTenant)])):=by
  rw [List.length_append,← flat_app]
  exact g1
 obtain ⟨m1,m2,m3⟩:=hM.put (a:=[rwF vf s.c]) (r:=rwT vt s.c) (r':=rwT (.slice X2 ((rwT vt s.c).len+1) c2) { s.c with tenants:=s.c.tenants++[⟨n0,n1⟩] }) (c':={ s.c with tenants:=s.c.tenants++[⟨n0,n1⟩] }) rfl rfl g1' g2 g3 hB f4 rfl
 refine r_dr (λ w5 f5=>?_)
 have H5:=m2.trans (f5.mono (by simp))
 have G5:=(F.mono (by simp)).trans H5
 refine r_ob ⟨by decide,by have:=C.n0;omega⟩ ?_
 refine r_ld (C.kw w5 G5) ?_
 refine r_slh (m:=2) Tryz.underlying27 Tryz.sizeOf3 (by decide) (by simp only [List.length_cons] at hcap;omega) rfl ?_
 refine r_call (line_t k (own_head (n:=2) (HK w5 ((F2.mono (by simp)).trans H5)) hn hvl) (λ n hn=>hv64 n (List.mem_of_mem_take hn)) (by rw [List.length_take];omega) (Nat.le_trans C.kl (by omega)) (C.f G5)) ?_
 rintro _ w7 ⟨rfl,f7⟩
 exact fin_wp K hc ((m1.fr0 f5).fr0 f7) (G5.trans (f7.mono (by simp))) (λ q hq=>(m3 q hq).imp id (λ h=>Nat.le_trans F.size h)) (Sm.tens C.m _ (by simp;omega))
theorem c6_wp (C:CX w00 base p w s vf vt vc vg vr zr k ad nw vx rest) (his:is=6) (K:KK base p is l R Z w (obs (rows vf vt vc vg vr s.c zr)) (caseP is k rest o s.c)):wp Tryz.prog Z R [] (Tk.c6 (Pt p 0) (Tx l) (.slice (some ad) nw cw) (I is) vx (.bool o)) w A B:=by
 have hc:caseP is k rest o s.c=(numsN 3 rest).bind λ v=>some ({ s.c with gates:=s.c.gates++[⟨v.getD 0 0,v.getD 1 0,v.getD 2 0⟩] },k++nums (v.take 3)):=by unfold caseP;rw [if_neg (by omega),if_neg (by omega),if_neg (by omega),if_neg (by omega),if_neg (by omega),if_pos his]
 have hf:=(few C.m).2.2.2.1
 refine r_callZ (nums_t C.r 3 C.rl C.rws (C.g (Fr.refl _ _))) ?_ ?_
 rotate_left
 ·rintro cs w' ⟨hn,rfl,f⟩
  exact K.none (by rw [hc,hn];rfl) f
 rintro _ w1 ⟨v,hv,hn,hvl,hv64,HN,F1⟩
 rw [hv] at hc
 have HK:=C.keep F1 HN
 obtain ⟨X,cv,rfl,_⟩:=own_int HN
 have hcap:=own_cap HN
 obtain ⟨n0,n1,n2,t,rfl⟩:∃ a b c t,v=a :: b :: c :: t:=by match v,hn with | a :: b :: c :: t,_=>exact ⟨a,b,c,t,rfl⟩
 refine r_dr (λ w2 F2=>?_)
 have F:=F1.trans F2
 have hM:=C.M.fr0 F
 obtain ⟨X',cv',e,hnum⟩:=own_int (own_fr0 HN F2)
 cases e
 obtain ⟨ax,rfl,h0⟩:=hnum 0 n0 rfl
 obtain ⟨_,e,h1⟩:=hnum 1 n1 rfl
 cases e
 obtain ⟨_,e,h2⟩:=hnum 2 n2 rfl
 cases e
 refine r_ld (hM.B.cell rfl) ?_
 refine r_ob ⟨by decide,by simp only [List.length_cons];omega⟩ ?_
 refine r_ld h0 ?_
 refine r_ob ⟨by decide,by simp only [List.length_cons];omega⟩ ?_
 refine r_ld h1 ?_
 refine r_ob ⟨by decide,by simp only [List.length_cons];omega⟩ ?_
 refine r_ld h2 ?_
 refine r_appC (es:=eGate ⟨n0,n1,n2⟩) Egate (hM.O.row (a:=[rwF vf s.c,rwT vt s.c,rwC vc zr])) (hM.B.cell rfl) (iGate _) (by simp only [big];show (s.c.gates.length+1) * 24≤_;omega) hM.hb (λ vf' w3 g1 g2 g3=>?_)
 obtain ⟨X2,c2,rfl,_⟩:=own_slice g1
 refine r_st1 (hM.B.fr g2 (λ hq=>hM.pn (ob_sub (a:=[rwF vf s.c,rwT vt s.c,rwC vc zr]) p hq))) Tryz.sizeOf26 (λ w4 hB f4=>?_)
 have g1':w3.ownsRow base 89 3 (.slice X2 ((rwG vg s.c).len+1) c2) (s.c.gates++[(⟨n0,n1,n2⟩:GGate)]).length (flat eGate (s.c.gates++[(⟨n0,n1,n2⟩:GGate)])):=by
  rw [List.length_append,← flat_app]
  exact g1
 obtain ⟨m1,m2,m3⟩:=hM.put (a:=[rwF vf s.c,rwT vt s.c,rwC vc zr]) (r:=rwG vg s.c) (r':=rwG (.slice X2 ((rwG vg s.c).len+1) c2) { s.c with gates:=s.c.gates++[⟨n0,n1,n2⟩] }) (c':={ s.c with gates:=s.c.gates++[⟨n0,n1,n2⟩] }) rfl rfl g1' g2 g3 hB f4 rfl
 refine r_dr (λ w5 f5=>?_)
 have H5:=m2.trans (f5.mono (by simp))
 have G5:=(F.mono (by simp)).trans H5
 refine r_ob ⟨by decide,by have:=C.n0;omega⟩ ?_
 refine r_ld (C.kw w5 G5) ?_
 refine r_slh (m:=3) Tryz.underlying27 Tryz.sizeOf3 (by decide) (by simp only [List.length_cons] at hcap;omega) rfl ?_
 refine r_call (line_t k (own_head (n:=3) (HK w5 ((F2.mono (by simp)).trans H5)) hn hvl) (λ n hn=>hv64 n (List.mem_of_mem_take hn)) (by rw [List.length_take];omega) (Nat.le_trans C.kl (by omega)) (C.f G5)) ?_
 rintro _ w7 ⟨rfl,f7⟩
 exact fin_wp K hc ((m1.fr0 f5).fr0 f7) (G5.trans (f7.mono (by simp))) (λ q hq=>(m3 q hq).imp id (λ h=>Nat.le_trans F.size h)) (Sm.gats C.m _ (by simp;omega))
theorem c7_wp (C:CX w00 base p w s vf vt vc vg vr zr k ad nw vx rest) (his:is=7) (K:KK base p is l R Z w (obs (rows vf vt vc vg vr s.c zr)) (caseP is k rest o s.c)):wp Tryz.prog Z R [] (Tk.c7 (Pt p 0) (Tx l) (.slice (some ad) nw cw) (I is) vx (.bool o)) w A B:=by
 have hc:caseP is k rest o s.c=(numsN 0 rest).bind λ v=>some ({ s.c with frame:=v },k++nums v):=by unfold caseP;rw [if_neg (by omega),if_neg (by omega),if_neg (by omega),if_neg (by omega),if_neg (by omega),if_neg (by omega),if_pos his]
 refine r_callZ (nums_t C.r 0 C.rl C.rws (C.g (Fr.refl _ _))) ?_ ?_
 rotate_left
 ·rintro cs w' ⟨hn,rfl,f⟩
  exact K.none (by rw [hc,hn];rfl) f
 rintro _ w1 ⟨v,hv,hn,hvl,hv64,HN,F1⟩
 rw [hv] at hc
 have HK:=C.keep F1 HN
 obtain ⟨X,cv,rfl,_⟩:=own_int HN
 have hM:=C.M.fr0 F1
 refine r_st1 hM.B Tryz.sizeOf27 (λ w2 hB f2=>?_)
 have HN2:=HK w2 (f2.mono (λ q hq=>by simp at hq;subst hq;simp))
 have g1:w1.ownsRow base 3 1 (.slice X v.length cv) v.length (flat eI v):=by
  rw [← ints_flat];exact own_mono HN C.M.hb
 obtain ⟨m1,m2,m3⟩:=C.M.put (w2:=w1) (a:=[rwF vf s.c,rwT vt s.c,rwC vc zr,rwG vg s.c]) (r:=rwM vr s.c) (r':=rwM (.slice X v.length cv) { s.c with frame:=v }) (c':={ s.c with frame:=v }) rfl rfl g1 (F1.mono (by simp)) (λ q hq=>.inr (own_lt HN q hq).1) hB f2 rfl
 refine r_dr (λ w5 f5=>?_)
 have G5:=m2.trans (f5.mono (by simp))
 have H5:Fr (p :: obs (rows vf vt vc vg vr s.c zr)) w1 w5:=(f2.mono (λ q hq=>by simp at hq;subst hq;simp)).trans (f5.mono (by simp))
 refine r_ob ⟨by decide,by have:=C.n0;omega⟩ ?_
 refine r_ld (C.kw w5 G5) ?_
 refine r_ld ((m1.fr0 f5).B.cell rfl) ?_
 refine r_call (line_t k (by have:=own_head (n:=v.length) (HK w5 H5) (Nat.le_refl _) hvl;rwa [List.take_length] at this) hv64 hvl (Nat.le_trans C.kl (by omega)) (C.f G5)) ?_
 rintro _ w7 ⟨rfl,f7⟩
 exact fin_wp K hc ((m1.fr0 f5).fr0 f7) (G5.trans (f7.mono (by simp))) m3 (Sm.frms C.m _ (by omega))
theorem c8_wp (C:CX w00 base p w s vf vt vc vg vr zr k ad nw vx rest) (his:is=8) (K:KK base p is l R Z w (obs (rows vf vt vc vg vr s.c zr)) (caseP is k rest o s.c)):wp Tryz.prog Z R [] (Tk.c8 (Pt p 0) (Tx l) (.slice (some ad) nw cw) (I is) vx (.bool o)) w A B:=by
 have hc:caseP is k rest o s.c=(numsN 3 rest).bind λ v=>some ({ s.c with budget:=v.getD 0 0,requests:=v.getD 1 0,pending:=v.getD 2 0 },k++nums (v.take 3)):=by unfold caseP;rw [if_neg (by omega),if_neg (by omega),if_neg (by omega),if_neg (by omega),if_neg (by omega),if_neg (by omega),if_neg (by omega),if_pos his]
 refine r_callZ (nums_t C.r 3 C.rl C.rws (C.g (Fr.refl _ _))) ?_ ?_
 rotate_left
 ·rintro cs w' ⟨hn,rfl,f⟩
  exact K.none (by rw [hc,hn];rfl) f
 rintro _ w1 ⟨v,hv,hn,hvl,hv64,HN,F1⟩
 rw [hv] at hc
 have HK:=C.keep F1 HN
 obtain ⟨X,cv,rfl,_⟩:=own_int HN
 have hcap:=own_cap HN
 obtain ⟨n0,n1,n2,t,rfl⟩:∃ a b c t,v=a :: b :: c :: t:=by match v,hn with | a :: b :: c :: t,_=>exact ⟨a,b,c,t,rfl⟩
 refine r_dr (λ w2 F2=>?_)
 have F:=F1.trans F2
 have hM:=C.M.fr0 F
 obtain ⟨X',cv',e,hnum⟩:=own_int (own_fr0 HN F2)
 cases e
 obtain ⟨ax,rfl,h0⟩:=hnum 0 n0 rfl
 obtain ⟨_,e,h1⟩:=hnum 1 n1 rfl
 cases e
 obtain ⟨_,e,h2⟩:=hnum 2 n2 rfl
 cases e
 refine r_ob ⟨by decide,by simp only [List.length_cons];omega⟩ ?_
 refine r_ld h0 ?_
 refine r_ob ⟨by decide,by simp only [List.length_cons];omega⟩ ?_
 refine r_ld h1 ?_
 refine r_ob ⟨by decide,by simp only [List.length_cons];omega⟩ ?_
 refine r_ld h2 ?_
 refine r_st1 hM.B Tryz.sizeOf3 (λ w3 hB3 f3=>?_)
 refine r_st1 hB3 Tryz.sizeOf3 (λ w4 hB4 f4=>?_)
 refine r_st1 hB4 Tryz.sizeOf3 (λ w6 hB6 f6=>?_)
 have f36:=(f3.trans f4).trans f6
 have m1:RMx base p w6 ⟨{ s.c with budget:=n0,requests:=n1,pending:=n2 },s.was⟩ vf vt vc vg vr zr:=⟨hB6,hM.hp,Nat.le_trans hM.hb f36.size,hM.ch,hM.O.fr f36 (λ q hq=>by simp at hq;subst hq;exact hM.pn)⟩
 refine r_dr (λ w5 f5=>?_)
 have H5:Fr (p :: obs (rows vf vt vc vg vr s.c zr)) w2 w5:=(f36.mono (λ q hq=>by simp at hq;subst hq;simp)).trans (f5.mono (by simp))
 have G5:=(F.mono (by simp)).trans H5
 refine r_ob ⟨by decide,by have:=C.n0;omega⟩ ?_
 refine r_ld (C.kw w5 G5) ?_
 refine r_slh (m:=3) Tryz.underlying27 Tryz.sizeOf3 (by decide) (by simp only [List.length_cons] at hcap;omega) rfl ?_
 refine r_call (line_t k (own_head (n:=3) (HK w5 ((F2.mono (by simp)).trans H5)) hn hvl) (λ n hn=>hv64 n (List.mem_of_mem_take hn)) (by rw [List.length_take];omega) (Nat.le_trans C.kl (by omega)) (C.f G5)) ?_
 rintro _ w7 ⟨rfl,f7⟩
 exact fin_wp K hc ((m1.fr0 f5).fr0 f7) (G5.trans (f7.mono (by simp))) (λ q hq=>.inl hq) ⟨(Sm.of C.m).fl,(Sm.of C.m).te,(Sm.of C.m).ch,(Sm.of C.m).ga,(Sm.of C.m).fr,(Sm.of C.m).la⟩
theorem c3_wp (C:CX w00 base p w s vf vt vc vg vr zr k ad nw vx rest) (his:is=3) (K:KK base p is l R Z w (obs (rows vf vt vc vg vr s.c zr)) (caseP is k rest o s.c)):wp Tryz.prog Z R [] (Tk.c3 (Pt p 0) (Tx l) (.slice (some ad) nw cw) (I is) vx (.bool o)) w A B:=by
 have hc:caseP is k rest o s.c=(numsN 1 rest).bind λ v=>some ({ s.c with channels:=s.c.channels++[⟨v.getD 0 0,[],[]⟩] },k++nums (v.take 1)):=by unfold caseP;rw [if_neg (by omega),if_neg (by omega),if_pos his]
 have hf:=(few C.m).2.2.1
 refine r_callZ (nums_t C.r 1 C.rl C.rws (C.g (Fr.refl _ _))) ?_ ?_
 rotate_left
 ·rintro cs w' ⟨hn,rfl,f⟩
  exact K.none (by rw [hc,hn];rfl) f
 rintro _ w1 ⟨v,hv,hn,hvl,hv64,HN,F1⟩
 rw [hv] at hc
 have HK:=C.keep F1 HN
 obtain ⟨X,cv,rfl,_⟩:=own_int HN
 have hcap:=own_cap HN
 obtain ⟨n0,t,rfl⟩:∃ a t,v=a :: t:=by match v,hn with | a :: t,_=>exact ⟨a,t,rfl⟩
 refine r_dr (λ w2 F2=>?_)
 have F:=F1.trans F2
 have hM:=C.M.fr0 F
 obtain ⟨X',cv',e,hnum⟩:=own_int (own_fr0 HN F2)
 cases e
 obtain ⟨ax,rfl,h0⟩:=hnum 0 n0 rfl
 refine r_ld (hM.B.cell rfl) ?_
 refine r_ob ⟨by decide,by simp only [List.length_cons];omega⟩ ?_
 refine r_ld h0 ?_
 have hlen:s.c.channels.length=zr.length:=by rw [hM.ch];simp
 refine r_appC (es:=[I n0,.slice none 0 0,.slice none 0 0]) Echan (hM.O.row (a:=[rwF vf s.c,rwT vt s.c])) (hM.B.cell rfl) (by intro v hv;simp only [List.mem_cons,List.not_mem_nil,or_false] at hv;rcases hv with rfl | rfl | rfl<;>rfl) (by simp only [big];show (zr.length+1) * 56≤_;omega) hM.hb (λ vf' w3 g1 g2 g3=>?_)
 obtain ⟨X2,c2,rfl,_⟩:=own_slice g1
 refine r_st1 (hM.B.fr g2 (λ hq=>hM.pn (ob_sub (a:=[rwF vf s.c,rwT vt s.c]) p hq))) Tryz.sizeOf25 (λ w4 hB f4=>?_)
 have g1':w3.ownsRow base 87 3 (.slice X2 ((rwC vc zr).len+1) c2) (((⟨n0,[],[]⟩,.slice none 0 0,.slice none 0 0):Z3) :: zr).length (flat chV (((⟨n0,[],[]⟩,.slice none 0 0,.slice none 0 0):Z3) :: zr).reverse):=by
  rw [List.reverse_cons,← flat_app]
  exact g1
 have O2:=hM.O.put (a:=[rwF vf s.c,rwT vt s.c]) (r:=rwC vc zr) (b:=rwG vg s.c :: rwM vr s.c :: zr.flatMap chR) (r':=rwC (.slice X2 ((rwC vc zr).len+1) c2) (((⟨n0,[],[]⟩,.slice none 0 0,.slice none 0 0):Z3) :: zr)) g1' g2 g3
 have O3:=OwnR.ins (a:=[rwF vf s.c,rwT vt s.c,rwC (.slice X2 ((rwC vc zr).len+1) c2) (((⟨n0,[],[]⟩,.slice none 0 0,.slice none 0 0):Z3) :: zr),rwG vg s.c,rwM vr s.c]) (b:=zr.flatMap chR) (ty:=147) (n:=2) O2
 have O4:=OwnR.ins (a:=[rwF vf s.c,rwT vt s.c,rwC (.slice X2 ((rwC vc zr).len+1) c2) (((⟨n0,[],[]⟩,.slice none 0 0,.slice none 0 0):Z3) :: zr),rwG vg s.c,rwM vr s.c]) (b:=⟨.slice none 0 0,147,2,0,[]⟩ :: zr.flatMap chR) (ty:=145) (n:=3) O3
 have O5:OwnR base w3 (rows vf vt (.slice X2 ((rwC vc zr).len+1) c2) vg vr { s.c with channels:=s.c.channels++[⟨n0,[],[]⟩] } (((⟨n0,[],[]⟩,.slice none 0 0,.slice none 0 0):Z3) :: zr)):=O4
 have pn:p∉obs (rows vf vt (.slice X2 ((rwC vc zr).len+1) c2) vg vr { s.c with channels:=s.c.channels++[⟨n0,[],[]⟩] } (((⟨n0,[],[]⟩,.slice none 0 0,.slice none 0 0):Z3) :: zr)):=λ hq=>by have:=(O5.lt p hq).1;have:=hM.hp;omega
 have m1:RMx base p w4 ⟨{ s.c with channels:=s.c.channels++[⟨n0,[],[]⟩] },s.was⟩ vf vt (.slice X2 ((rwC vc zr).len+1) c2) vg vr (((⟨n0,[],[]⟩,.slice none 0 0,.slice none 0 0):Z3) :: zr):=
  ⟨hB,hM.hp,Nat.le_trans hM.hb (Nat.le_trans g2.size f4.size),by show s.c.channels++_=_;rw [hM.ch];simp,O5.fr f4 (λ q hq=>by simp at hq;subst hq;exact pn)⟩
 have m2:Fr (p :: obs (rows vf vt vc vg vr s.c zr)) w2 w4:=(g2.mono (λ q hq=>List.mem_cons_of_mem _ (ob_sub (a:=[rwF vf s.c,rwT vt s.c]) (r:=rwC vc zr) (b:=rwG vg s.c :: rwM vr s.c :: zr.flatMap chR) q hq))).trans (f4.mono (λ q hq=>by simp at hq;subst hq;simp))
 have m3:∀ q∈obs (rows vf vt (.slice X2 ((rwC vc zr).len+1) c2) vg vr { s.c with channels:=s.c.channels++[⟨n0,[],[]⟩] } (((⟨n0,[],[]⟩,.slice none 0 0,.slice none 0 0):Z3) :: zr)),q∈obs (rows vf vt vc vg vr s.c zr)∨w2.heap.size≤q:=by
  intro q hq
  refine OwnR.obs_put (a:=[rwF vf s.c,rwT vt s.c]) (r:=rwC vc zr) (b:=rwG vg s.c :: rwM vr s.c :: zr.flatMap chR) (r':=rwC (.slice X2 ((rwC vc zr).len+1) c2) (((⟨n0,[],[]⟩,.slice none 0 0,.slice none 0 0):Z3) :: zr)) g3 q ?_
  have e:obs (rows vf vt (.slice X2 ((rwC vc zr).len+1) c2) vg vr { s.c with channels:=s.c.channels++[⟨n0,[],[]⟩] } (((⟨n0,[],[]⟩,.slice none 0 0,.slice none 0 0):Z3) :: zr))=obs ([rwF vf s.c,rwT vt s.c]++rwC (.slice X2 ((rwC vc zr).len+1) c2) (((⟨n0,[],[]⟩,.slice none 0 0,.slice none 0 0):Z3) :: zr) :: (rwG vg s.c :: rwM vr s.c :: zr.flatMap chR)):=by
   simp [obs,rows,chR,Rr.ob,Value.ownBlock,rwF,rwT,rwG,rwM]
  rw [← e];exact hq
 refine r_dr (λ w5 f5=>?_)
 have H5:=m2.trans (f5.mono (by simp))
 have G5:=(F.mono (by simp)).trans H5
 refine r_ob ⟨by decide,by have:=C.n0;omega⟩ ?_
 refine r_ld (C.kw w5 G5) ?_
 refine r_slh (m:=1) Tryz.underlying27 Tryz.sizeOf3 (by decide) (by simp only [List.length_cons] at hcap;omega) rfl ?_
 refine r_call (line_t k (own_head (n:=1) (HK w5 ((F2.mono (by simp)).trans H5)) hn hvl) (λ n hn=>hv64 n (List.mem_of_mem_take hn)) (by rw [List.length_take];omega) (Nat.le_trans C.kl (by omega)) (C.f G5)) ?_
 rintro _ w7 ⟨rfl,f7⟩
 refine fin_wp K hc ((m1.fr0 f5).fr0 f7) (G5.trans (f7.mono (by simp))) (λ q hq=>(m3 q hq).imp id (λ h=>Nat.le_trans F.size h)) ⟨(Sm.of C.m).fl,(Sm.of C.m).te,by simp;omega,(Sm.of C.m).ga,(Sm.of C.m).fr,λ x hx=>?_⟩
 rcases List.mem_append.1 hx with hx | hx
 ·exact (Sm.of C.m).la x hx
 ·simp at hx;subst hx;simp
end
end Go.Proofs.YtppodgdhdddfkaaGreatDoor.Cg
set_option linter.unusedVariables false
set_option linter.unusedSimpArgs false
namespace Go.Proofs.YtppodgdhdddfkaaGreatDoor.Cg
open Go Go.RowKit Go.Proofs.YtppodgdhdddfkaaGreatDoor.Sx
open Go.Proofs.YtppodgdhdddfkaaGreatDoor.Bi (mixed take_s Nw List_t)
open Go.Proofs.YtppodgdhdddfkaaGreatDoor.Cf
open Go.Proofs.YtppodgdhdddfkaaGreatDoor.Sg
section
variable {Z:ZP} {R:Value→World→Prop} {w00 w w1 w2 w3:World} {A:List Nat→List Value→World→Prop} {B:List Nat→Nat→List Value→World→Prop} {base p nw cw:Nat} {s:RS} {vf vt vc vg vr vx:Value} {zr:List Z3} {k l:Bs} {ad:Addr} {rest:List Bs} {is:Int} {o:Bool}
theorem last_cells {z z':Z3} {t:List Z3} {j:Nat} {u:Value} (hj:j < 3) (hu:(chV z).set j u=chV z'):(flat chV (z :: t).reverse).set (t.length * 3+j) u=flat chV (z' :: t).reverse:=by
 rw [flat_set chV_len (xs:=(z :: t).reverse) (i:=t.length) (x:=z) (y:=z') (by simp) hj hu]
 congr 1
 rw [List.reverse_cons,List.reverse_cons,List.set_append_right _ _ (by simp)]
 simp
theorem last_cell {z:Z3} {t:List Z3} {j:Nat} (hj:j < 3):(flat chV (z :: t).reverse)[t.length * 3+j]? = (chV z)[j]?:=flat_get chV_len (by simp) hj
theorem lastU_eq {c:GConf} {z:Z3} {t:List Z3} {f:GChannel→GChannel} (h:c.channels=((z :: t).map (·.1)).reverse):(lastU c f).channels=(t.map (·.1)).reverse++[f z.1]:=by
 unfold lastU
 rw [h]
 simp
theorem few_last {c:GConf} {z:Z3} {t:List Z3} (h:manyP c=false) (hc:c.channels=((z :: t).map (·.1)).reverse):z.1.lanes.length≤16∧z.1.receivers.length≤16:=(few h).2.2.2.2.2 z.1 (by rw [hc];simp)
theorem Sm.lastU {c:GConf} {z:Z3} {t:List Z3} {f:GChannel→GChannel} (h:manyP c=false) (hc:c.channels=((z :: t).map (·.1)).reverse) (hf:(f z.1).lanes.length≤200000∧(f z.1).receivers.length≤200000):Sm (lastU c f):=by
 have h0:=Sm.of h
 refine ⟨h0.fl,h0.te,?_,h0.ga,h0.fr,?_⟩
 ·rw [lastU_eq hc]
  have:=h0.ch
  rw [hc] at this
  simp at this ⊢;omega
 ·rw [lastU_eq hc]
  intro x hx
  rcases List.mem_append.1 hx with hx | hx
  ·exact h0.la x (by rw [hc];simp at hx ⊢;exact .inl hx)
  ·simp at hx;subst hx;exact hf
theorem c4_wp {z:Z3} {t:List Z3} (C:CX w00 base p w s vf vt vc vg vr (z :: t) k ad nw vx rest) (his:is=4) (K:KK base p is l R Z w (obs (rows vf vt vc vg vr s.c (z :: t))) (caseP is k rest o s.c)):wp Tryz.prog Z R [] (Tk.c4 (Pt p 0) (Tx l) (.slice (some ad) nw cw) (I is) vx (.bool o)) w A B:=by
 have hc:caseP is k rest o s.c=(numsN 2 rest).bind λ v=>some (lastU s.c (λ x=>{ x with lanes:=x.lanes++[⟨v.getD 0 0,v.getD 1 0,o⟩] }),(k++nums (v.take 2))++opB o):=by unfold caseP;rw [if_neg (by omega),if_neg (by omega),if_neg (by omega),if_pos his]
 have hf:=few_last C.m C.M.ch
 have hlt:t.length≤40:=by
  have:=(few C.m).2.2.1
  rw [C.M.ch] at this
  simp at this;omega
 refine r_callZ (nums_t C.r 2 C.rl C.rws (C.g (Fr.refl _ _))) ?_ ?_
 rotate_left
 ·rintro cs w' ⟨hn,rfl,f⟩
  exact K.none (by rw [hc,hn];rfl) f
 rintro _ w1 ⟨v,hv,hn,hvl,hv64,HN,F1⟩
 rw [hv] at hc
 have HK:=C.keep F1 HN
 obtain ⟨X,cv,rfl,_⟩:=own_int HN
 have hcap:=own_cap HN
 obtain ⟨n0,n1,tl,rfl⟩:∃ a b t,v=a :: b :: t:=by match v,hn with | a :: b :: t,_=>exact ⟨a,b,t,rfl⟩
 refine r_dr (λ w2 F2=>?_)
 have F12:=F1.trans F2
 have hM12:=C.M.fr0 F12
 have hrow:=hM12.O.row (a:=[rwF vf s.c,rwT vt s.c])
 obtain ⟨g,cap,e,hbg,cs,BG,hcs,_⟩:=own_st (j:=t.length * 3+1) hrow (by show _ < (flat chV (z :: t).reverse).length;rw [flat_length chV_len];simp;omega)
 have e:vc=.slice (some ⟨g,0,none⟩) (t.length+1) cap:=e
 subst e
 refine r_ld (hM12.B.cell rfl) ?_
 refine r_ld (hM12.B.cell rfl) ?_
 refine r_are (y:=(t.length:Int)) (by rw [IntKind.wrap_i64];push_cast;omega) ?_
 refine r_ob ⟨by omega,by push_cast;omega⟩ ?_
 refine r_dr (λ w3 F3=>?_)
 have F:=F12.trans F3
 have hM:=C.M.fr0 F
 have BG:=BG.fr0 F3
 obtain ⟨X',cv',e,hnum⟩:=own_int (own_fr0 HN (F2.trans F3))
 cases e
 obtain ⟨ax,rfl,h0⟩:=hnum 0 n0 rfl
 obtain ⟨_,e,h1⟩:=hnum 1 n1 rfl
 cases e
 have hcell:cs[t.length * 3+1]? = some z.2.1:=by
  have h1:=last_cell (z:=z) (t:=t) (j:=1) (by omega)
  have h2:(flat chV (z :: t).reverse).length=(t.length+1) * 3:=by rw [flat_length chV_len];simp
  have h3:flat chV (z :: t).reverse=cs.take (flat chV (z :: t).reverse).length:=hcs
  rw [h3,List.getElem?_take,if_pos (by omega)] at h1
  exact h1
 have hcell2:w3.cell? ⟨g,0+t.length * 3+1,none⟩=some z.2.1:=BG.cell (by rw [Nat.zero_add];exact hcell)
 refine r_ld (ad:=⟨g,0+t.length * 3+1,none⟩) hcell2 ?_
 refine r_ob ⟨by decide,by simp only [List.length_cons];omega⟩ ?_
 refine r_ld h0 ?_
 refine r_ob ⟨by decide,by simp only [List.length_cons];omega⟩ ?_
 refine r_ld h1 ?_
 have hpre:rows vf vt (.slice (some ⟨g,0,none⟩) (t.length+1) cap) vg vr s.c (z :: t)=[rwF vf s.c,rwT vt s.c,rwC (.slice (some ⟨g,0,none⟩) (t.length+1) cap) (z :: t),rwG vg s.c,rwM vr s.c]++⟨z.2.1,145,3,z.1.lanes.length,flat eLane z.1.lanes⟩ :: ⟨z.2.2,147,2,z.1.receivers.length,flat eReceiver z.1.receivers⟩ :: t.flatMap chR:=rfl
 have O:=hM.O
 rw [hpre] at O
 refine r_appC (pa:=⟨g,0+t.length * 3+1,none⟩) (es:=eLane ⟨n0,n1,o⟩) Elane O.row hcell2 (iLane _) (by simp only [big];show (z.1.lanes.length+1) * 24≤_;omega) hM.hb (λ vl w4 g1 g2 g3=>?_)
 have g1':w4.ownsRow base 145 3 vl (z.1.lanes++[(⟨n0,n1,o⟩:GLane)]).length (flat eLane (z.1.lanes++[(⟨n0,n1,o⟩:GLane)])):=by
  rw [List.length_append,← flat_app]
  exact g1
 have O2:=O.put (r':=⟨vl,145,3,(z.1.lanes++[(⟨n0,n1,o⟩:GLane)]).length,flat eLane (z.1.lanes++[(⟨n0,n1,o⟩:GLane)])⟩) g1' g2 g3
 have s2:=OwnR.obs_put (a:=[rwF vf s.c,rwT vt s.c,rwC (.slice (some ⟨g,0,none⟩) (t.length+1) cap) (z :: t),rwG vg s.c,rwM vr s.c]) (r:=⟨z.2.1,145,3,z.1.lanes.length,flat eLane z.1.lanes⟩) (b:=⟨z.2.2,147,2,z.1.receivers.length,flat eReceiver z.1.receivers⟩ :: t.flatMap chR) (r':=⟨vl,145,3,(z.1.lanes++[(⟨n0,n1,o⟩:GLane)]).length,flat eLane (z.1.lanes++[(⟨n0,n1,o⟩:GLane)])⟩) g3
 have hrow2:=OwnR.row (a:=[rwF vf s.c,rwT vt s.c]) O2
 obtain ⟨g',cap',e,_,cs2,BG2,hcs2,hj2,_,hst⟩:=own_st (j:=t.length * 3+1) hrow2 (by show _ < (flat chV (z :: t).reverse).length;rw [flat_length chV_len];simp;omega)
 have e:Value.slice (some ⟨g,0,none⟩) (t.length+1) cap=.slice (some ⟨g',0,none⟩) (t.length+1) cap':=e
 cases e
 obtain ⟨X2,c2,rfl,_⟩:=own_slice g1
 refine r_st1 (o:=0+t.length * 3+1) BG2 Tryz.sizeOf84 (λ w5 hB5 f5=>?_) (ho:=by rw [Nat.zero_add];simpa using hj2)
 rw [Nat.zero_add] at hB5
 obtain ⟨z',hz'⟩:∃ z':Z3,z'=({ z.1 with lanes:=z.1.lanes++[⟨n0,n1,o⟩] },.slice X2 (z.1.lanes.length+1) c2,z.2.2):=⟨_,rfl⟩
 have hrow3:=hst w5 _ hB5
 have hset:(flat chV (z :: t).reverse).set (t.length * 3+1) (.slice X2 (z.1.lanes.length+1) c2)=flat chV (z' :: t).reverse:=last_cells (by omega) (by rw [hz'];rfl)
 have hrow4:w5.ownsRow base 87 3 (.slice (some ⟨g,0,none⟩) (t.length+1) cap) (z' :: t).length (flat chV (z' :: t).reverse):=by rw [← hset];exact hrow3
 have O5:=OwnR.put (a:=[rwF vf s.c,rwT vt s.c]) (r:=rwC (.slice (some ⟨g,0,none⟩) (t.length+1) cap) (z :: t)) (r':=rwC (.slice (some ⟨g,0,none⟩) (t.length+1) cap) (z' :: t)) O2 hrow4 (f5.mono (λ q hq=>hq)) (λ q hq=>.inl hq)
 have s5:=OwnR.obs_put (w:=w4) (a:=[rwF vf s.c,rwT vt s.c]) (r:=rwC (.slice (some ⟨g,0,none⟩) (t.length+1) cap) (z :: t)) (r':=rwC (.slice (some ⟨g,0,none⟩) (t.length+1) cap) (z' :: t)) (b:=rwG vg s.c :: rwM vr s.c :: ⟨.slice X2 (z.1.lanes.length+1) c2,145,3,(z.1.lanes++[(⟨n0,n1,o⟩:GLane)]).length,flat eLane (z.1.lanes++[(⟨n0,n1,o⟩:GLane)])⟩ :: ⟨z.2.2,147,2,z.1.receivers.length,flat eReceiver z.1.receivers⟩ :: t.flatMap chR) (λ q hq=>.inl hq)
 have O6:OwnR base w5 (rows vf vt (.slice (some ⟨g,0,none⟩) (t.length+1) cap) vg vr (lastU s.c (λ x=>{ x with lanes:=x.lanes++[⟨n0,n1,o⟩] })) (z' :: t)):=by
  have e:rows vf vt (.slice (some ⟨g,0,none⟩) (t.length+1) cap) vg vr (lastU s.c (λ x=>{ x with lanes:=x.lanes++[⟨n0,n1,o⟩] })) (z' :: t)=[rwF vf s.c,rwT vt s.c]++rwC (.slice (some ⟨g,0,none⟩) (t.length+1) cap) (z' :: t) :: (rwG vg s.c :: rwM vr s.c :: ⟨.slice X2 (z.1.lanes.length+1) c2,145,3,(z.1.lanes++[(⟨n0,n1,o⟩:GLane)]).length,flat eLane (z.1.lanes++[(⟨n0,n1,o⟩:GLane)])⟩ :: ⟨z.2.2,147,2,z.1.receivers.length,flat eReceiver z.1.receivers⟩ :: t.flatMap chR):=by rw [hz'];rfl
  rw [e];exact O5
 have m3:∀ q∈obs (rows vf vt (.slice (some ⟨g,0,none⟩) (t.length+1) cap) vg vr (lastU s.c (λ x=>{ x with lanes:=x.lanes++[⟨n0,n1,o⟩] })) (z' :: t)),q∈obs (rows vf vt (.slice (some ⟨g,0,none⟩) (t.length+1) cap) vg vr s.c (z :: t))∨w3.heap.size≤q:=by
  have e:rows vf vt (.slice (some ⟨g,0,none⟩) (t.length+1) cap) vg vr (lastU s.c (λ x=>{ x with lanes:=x.lanes++[⟨n0,n1,o⟩] })) (z' :: t)=[rwF vf s.c,rwT vt s.c]++rwC (.slice (some ⟨g,0,none⟩) (t.length+1) cap) (z' :: t) :: (rwG vg s.c :: rwM vr s.c :: ⟨.slice X2 (z.1.lanes.length+1) c2,145,3,(z.1.lanes++[(⟨n0,n1,o⟩:GLane)]).length,flat eLane (z.1.lanes++[(⟨n0,n1,o⟩:GLane)])⟩ :: ⟨z.2.2,147,2,z.1.receivers.length,flat eReceiver z.1.receivers⟩ :: t.flatMap chR):=by rw [hz'];rfl
  intro q hq
  rw [e] at hq
  rcases s5 q hq with h | h
  ·exact s2 q h
  ·exact .inr (Nat.le_trans g2.size h)
 have hpl:=hM.pn
 have m1:RMx base p w5 ⟨lastU s.c (λ x=>{ x with lanes:=x.lanes++[⟨n0,n1,o⟩] }),s.was⟩ vf vt (.slice (some ⟨g,0,none⟩) (t.length+1) cap) vg vr (z' :: t):=
  ⟨(hM.B.fr g2 (λ hq=>hpl (by rw [hpre];exact ob_sub p hq))).fr f5 (λ hq=>by simp at hq;have:=hM.hp;omega),hM.hp,Nat.le_trans hM.hb (Nat.le_trans g2.size f5.size),by
    show (lastU s.c _).channels=_
    rw [lastU_eq C.M.ch,hz'];simp,O6⟩
 have m2:Fr (p :: obs (rows vf vt (.slice (some ⟨g,0,none⟩) (t.length+1) cap) vg vr s.c (z :: t))) w3 w5:=by
  refine (g2.mono (λ q hq=>List.mem_cons_of_mem _ (by rw [hpre];exact ob_sub q hq))).trans (f5.mono (λ q hq=>List.mem_cons_of_mem _ ?_))
  exact ob_sub (a:=[rwF vf s.c,rwT vt s.c]) (r:=rwC (.slice (some ⟨g,0,none⟩) (t.length+1) cap) (z :: t)) (b:=rwG vg s.c :: rwM vr s.c :: (z :: t).flatMap chR) q hq
 refine r_dr (λ w6 f6=>?_)
 have H5:=m2.trans (f6.mono (by simp))
 have G5:=(F.mono (by simp)).trans H5
 refine r_ob ⟨by decide,by have:=C.n0;omega⟩ ?_
 refine r_ld (C.kw w6 G5) ?_
 refine r_slh (m:=2) Tryz.underlying27 Tryz.sizeOf3 (by decide) (by simp only [List.length_cons] at hcap;omega) rfl ?_
 have hn64:∀ n∈(n0 :: n1 :: tl).take 2,in64 n:=λ n hn=>hv64 n (List.mem_of_mem_take hn)
 have hlen:((n0 :: n1 :: tl).take 2).length≤100000:=by rw [List.length_take];omega
 refine r_call (line_t k (own_head (n:=2) (HK w6 (((F2.trans F3).mono (by simp)).trans H5)) hn hvl) hn64 hlen (Nat.le_trans C.kl (by omega)) (C.f G5)) ?_
 rintro _ w7 ⟨rfl,f7⟩
 refine r_call (opens_t o) ?_
 rintro _ w8 ⟨rfl,rfl⟩
 have hnl:=nums_len _ hn64
 have hop:(opB o).length≤6:=by unfold opB;split<;>simp
 refine r_cat (by have:=C.kl;simp only [List.length_append] at *;omega) ?_
 exact fin_wp K hc ((m1.fr0 f6).fr0 f7) (G5.trans (f7.mono (by simp))) (λ q hq=>(m3 q hq).imp id (λ h=>Nat.le_trans F.size h)) (Sm.lastU C.m C.M.ch ⟨by simp;omega,by have:=hf.2;show z.1.receivers.length≤_;omega⟩)
theorem c5_wp {z:Z3} {t:List Z3} (C:CX w00 base p w s vf vt vc vg vr (z :: t) k ad nw vx rest) (his:is=5) (K:KK base p is l R Z w (obs (rows vf vt vc vg vr s.c (z :: t))) (caseP is k rest o s.c)):wp Tryz.prog Z R [] (Tk.c5 (Pt p 0) (Tx l) (.slice (some ad) nw cw) (I is) vx (.bool o)) w A B:=by
 have hc:caseP is k rest o s.c=(numsN 1 rest).bind λ v=>some (lastU s.c (λ x=>{ x with receivers:=x.receivers++[⟨v.getD 0 0,o⟩] }),(k++nums (v.take 1))++opB o):=by unfold caseP;rw [if_neg (by omega),if_neg (by omega),if_neg (by omega),if_neg (by omega),if_pos his]
 have hf:=few_last C.m C.M.ch
 have hlt:t.length≤40:=by
  have:=(few C.m).2.2.1
  rw [C.M.ch] at this
  simp at this;omega
 refine r_callZ (nums_t C.r 1 C.rl C.rws (C.g (Fr.refl _ _))) ?_ ?_
 rotate_left
 ·rintro cs w' ⟨hn,rfl,f⟩
  exact K.none (by rw [hc,hn];rfl) f
 rintro _ w1 ⟨v,hv,hn,hvl,hv64,HN,F1⟩
 rw [hv] at hc
 have HK:=C.keep F1 HN
 obtain ⟨X,cv,rfl,_⟩:=own_int HN
 have hcap:=own_cap HN
 obtain ⟨n0,tl,rfl⟩:∃ a t,v=a :: t:=by match v,hn with | a :: t,_=>exact ⟨a,t,rfl⟩
 refine r_dr (λ w2 F2=>?_)
 have F12:=F1.trans F2
 have hM12:=C.M.fr0 F12
 have hrow:=hM12.O.row (a:=[rwF vf s.c,rwT vt s.c])
 obtain ⟨g,cap,e,hbg,cs,BG,hcs,_⟩:=own_st (j:=t.length * 3+2) hrow (by show _ < (flat chV (z :: t).reverse).length;rw [flat_length chV_len];simp;omega)
 have e:vc=.slice (some ⟨g,0,none⟩) (t.length+1) cap:=e
 subst e
 refine r_ld (hM12.B.cell rfl) ?_
 refine r_ld (hM12.B.cell rfl) ?_
 refine r_are (y:=(t.length:Int)) (by rw [IntKind.wrap_i64];push_cast;omega) ?_
 refine r_ob ⟨by omega,by push_cast;omega⟩ ?_
 refine r_dr (λ w3 F3=>?_)
 have F:=F12.trans F3
 have hM:=C.M.fr0 F
 have BG:=BG.fr0 F3
 obtain ⟨X',cv',e,hnum⟩:=own_int (own_fr0 HN (F2.trans F3))
 cases e
 obtain ⟨ax,rfl,h0⟩:=hnum 0 n0 rfl
 have hcell:cs[t.length * 3+2]? = some z.2.2:=by
  have h1:=last_cell (z:=z) (t:=t) (j:=2) (by omega)
  have h2:(flat chV (z :: t).reverse).length=(t.length+1) * 3:=by rw [flat_length chV_len];simp
  have h3:flat chV (z :: t).reverse=cs.take (flat chV (z :: t).reverse).length:=hcs
  rw [h3,List.getElem?_take,if_pos (by omega)] at h1
  exact h1
 have hcell2:w3.cell? ⟨g,0+t.length * 3+2,none⟩=some z.2.2:=BG.cell (by rw [Nat.zero_add];exact hcell)
 refine r_ld (ad:=⟨g,0+t.length * 3+2,none⟩) hcell2 ?_
 refine r_ob ⟨by decide,by simp only [List.length_cons];omega⟩ ?_
 refine r_ld h0 ?_
 have hpre:rows vf vt (.slice (some ⟨g,0,none⟩) (t.length+1) cap) vg vr s.c (z :: t)=[rwF vf s.c,rwT vt s.c,rwC (.slice (some ⟨g,0,none⟩) (t.length+1) cap) (z :: t),rwG vg s.c,rwM vr s.c,⟨z.2.1,145,3,z.1.lanes.length,flat eLane z.1.lanes⟩]++⟨z.2.2,147,2,z.1.receivers.length,flat eReceiver z.1.receivers⟩ :: t.flatMap chR:=rfl
 have O:=hM.O
 rw [hpre] at O
 refine r_appC (pa:=⟨g,0+t.length * 3+2,none⟩) (es:=eReceiver ⟨n0,o⟩) Erecv O.row hcell2 (iReceiver _) (by simp only [big];show (z.1.receivers.length+1) * 16≤_;omega) hM.hb (λ vl w4 g1 g2 g3=>?_)
 have g1':w4.ownsRow base 147 2 vl (z.1.receivers++[(⟨n0,o⟩:GReceiver)]).length (flat eReceiver (z.1.receivers++[(⟨n0,o⟩:GReceiver)])):=by
  rw [List.length_append,← flat_app]
  exact g1
 have O2:=O.put (r':=⟨vl,147,2,(z.1.receivers++[(⟨n0,o⟩:GReceiver)]).length,flat eReceiver (z.1.receivers++[(⟨n0,o⟩:GReceiver)])⟩) g1' g2 g3
 have s2:=OwnR.obs_put (a:=[rwF vf s.c,rwT vt s.c,rwC (.slice (some ⟨g,0,none⟩) (t.length+1) cap) (z :: t),rwG vg s.c,rwM vr s.c,⟨z.2.1,145,3,z.1.lanes.length,flat eLane z.1.lanes⟩]) (r:=⟨z.2.2,147,2,z.1.receivers.length,flat eReceiver z.1.receivers⟩) (b:=t.flatMap chR) (r':=⟨vl,147,2,(z.1.receivers++[(⟨n0,o⟩:GReceiver)]).length,flat eReceiver (z.1.receivers++[(⟨n0,o⟩:GReceiver)])⟩) g3
 have hrow2:=OwnR.row (a:=[rwF vf s.c,rwT vt s.c]) O2
 obtain ⟨g',cap',e,_,cs2,BG2,hcs2,hj2,_,hst⟩:=own_st (j:=t.length * 3+2) hrow2 (by show _ < (flat chV (z :: t).reverse).length;rw [flat_length chV_len];simp;omega)
 have e:Value.slice (some ⟨g,0,none⟩) (t.length+1) cap=.slice (some ⟨g',0,none⟩) (t.length+1) cap':=e
 cases e
 obtain ⟨X2,c2,rfl,_⟩:=own_slice g1
 refine r_st1 (o:=0+t.length * 3+2) BG2 Tryz.sizeOf85 (λ w5 hB5 f5=>?_) (ho:=by rw [Nat.zero_add];simpa using hj2)
 rw [Nat.zero_add] at hB5
 obtain ⟨z',hz'⟩:∃ z':Z3,z'=({ z.1 with receivers:=z.1.receivers++[⟨n0,o⟩] },z.2.1,.slice X2 (z.1.receivers.length+1) c2):=⟨_,rfl⟩
 have hrow3:=hst w5 _ hB5
 have hset:(flat chV (z :: t).reverse).set (t.length * 3+2) (.slice X2 (z.1.receivers.length+1) c2)=flat chV (z' :: t).reverse:=last_cells (by omega) (by rw [hz'];rfl)
 have hrow4:w5.ownsRow base 87 3 (.slice (some ⟨g,0,none⟩) (t.length+1) cap) (z' :: t).length (flat chV (z' :: t).reverse):=by rw [← hset];exact hrow3
 have O5:=OwnR.put (a:=[rwF vf s.c,rwT vt s.c]) (r:=rwC (.slice (some ⟨g,0,none⟩) (t.length+1) cap) (z :: t)) (r':=rwC (.slice (some ⟨g,0,none⟩) (t.length+1) cap) (z' :: t)) O2 hrow4 (f5.mono (λ q hq=>hq)) (λ q hq=>.inl hq)
 have s5:=OwnR.obs_put (w:=w4) (a:=[rwF vf s.c,rwT vt s.c]) (r:=rwC (.slice (some ⟨g,0,none⟩) (t.length+1) cap) (z :: t)) (r':=rwC (.slice (some ⟨g,0,none⟩) (t.length+1) cap) (z' :: t)) (b:=rwG vg s.c :: rwM vr s.c :: ⟨z.2.1,145,3,z.1.lanes.length,flat eLane z.1.lanes⟩ :: ⟨.slice X2 (z.1.receivers.length+1) c2,147,2,(z.1.receivers++[(⟨n0,o⟩:GReceiver)]).length,flat eReceiver (z.1.receivers++[(⟨n0,o⟩:GReceiver)])⟩ :: t.flatMap chR) (λ q hq=>.inl hq)
 have O6:OwnR base w5 (rows vf vt (.slice (some ⟨g,0,none⟩) (t.length+1) cap) vg vr (lastU s.c (λ x=>{ x with receivers:=x.receivers++[⟨n0,o⟩] })) (z' :: t)):=by
  have e:rows vf vt (.slice (some ⟨g,0,none⟩) (t.length+1) cap) vg vr (lastU s.c (λ x=>{ x with receivers:=x.receivers++[⟨n0,o⟩] })) (z' :: t)=[rwF vf s.c,rwT vt s.c]++rwC (.slice (some ⟨g,0,none⟩) (t.length+1) cap) (z' :: t) :: (rwG vg s.c :: rwM vr s.c :: ⟨z.2.1,145,3,z.1.lanes.length,flat eLane z.1.lanes⟩ :: ⟨.slice X2 (z.1.receivers.length+1) c2,147,2,(z.1.receivers++[(⟨n0,o⟩:GReceiver)]).length,flat eReceiver (z.1.receivers++[(⟨n0,o⟩:GReceiver)])⟩ :: t.flatMap chR):=by rw [hz'];rfl
  rw [e];exact O5
 have m3:∀ q∈obs (rows vf vt (.slice (some ⟨g,0,none⟩) (t.length+1) cap) vg vr (lastU s.c (λ x=>{ x with receivers:=x.receivers++[⟨n0,o⟩] })) (z' :: t)),q∈obs (rows vf vt (.slice (some ⟨g,0,none⟩) (t.length+1) cap) vg vr s.c (z :: t))∨w3.heap.size≤q:=by
  have e:rows vf vt (.slice (some ⟨g,0,none⟩) (t.length+1) cap) vg vr (lastU s.c (λ x=>{ x with receivers:=x.receivers++[⟨n0,o⟩] })) (z' :: t)=[rwF vf s.c,rwT vt s.c]++rwC (.slice (some ⟨g,0,none⟩) (t.length+1) cap) (z' :: t) :: (rwG vg s.c :: rwM vr s.c :: ⟨z.2.1,145,3,z.1.lanes.length,flat eLane z.1.lanes⟩ :: ⟨.slice X2 (z.1.receivers.length+1) c2,147,2,(z.1.receivers++[(⟨n0,o⟩:GReceiver)]).length,flat eReceiver (z.1.receivers++[(⟨n0,o⟩:GReceiver)])⟩ :: t.flatMap chR):=by rw [hz'];rfl
  intro q hq
  rw [e] at hq
  rcases s5 q hq with h | h
  ·exact s2 q h
  ·exact .inr (Nat.le_trans g2.size h)
 have hpl:=hM.pn
 have m1:RMx base p w5 ⟨lastU s.c (λ x=>{ x with receivers:=x.receivers++[⟨n0,o⟩] }),s.was⟩ vf vt (.slice (some ⟨g,0,none⟩) (t.length+1) cap) vg vr (z' :: t):=
  ⟨(hM.B.fr g2 (λ hq=>hpl (by rw [hpre];exact ob_sub p hq))).fr f5 (λ hq=>by simp at hq;have:=hM.hp;omega),hM.hp,Nat.le_trans hM.hb (Nat.le_trans g2.size f5.size),by
    show (lastU s.c _).channels=_
    rw [lastU_eq C.M.ch,hz'];simp,O6⟩
 have m2:Fr (p :: obs (rows vf vt (.slice (some ⟨g,0,none⟩) (t.length+1) cap) vg vr s.c (z :: t))) w3 w5:=by
  refine (g2.mono (λ q hq=>List.mem_cons_of_mem _ (by rw [hpre];exact ob_sub q hq))).trans (f5.mono (λ q hq=>List.mem_cons_of_mem _ ?_))
  exact ob_sub (a:=[rwF vf s.c,rwT vt s.c]) (r:=rwC (.slice (some ⟨g,0,none⟩) (t.length+1) cap) (z :: t)) (b:=rwG vg s.c :: rwM vr s.c :: (z :: t).flatMap chR) q hq
 refine r_dr (λ w6 f6=>?_)
 have H5:=m2.trans (f6.mono (by simp))
 have G5:=(F.mono (by simp)).trans H5
 refine r_ob ⟨by decide,by have:=C.n0;omega⟩ ?_
 refine r_ld (C.kw w6 G5) ?_
 refine r_slh (m:=1) Tryz.underlying27 Tryz.sizeOf3 (by decide) (by simp only [List.length_cons] at hcap;omega) rfl ?_
 have hn64:∀ n∈(n0 :: tl).take 1,in64 n:=λ n hn=>hv64 n (List.mem_of_mem_take hn)
 have hlen:((n0 :: tl).take 1).length≤100000:=by rw [List.length_take];omega
 refine r_call (line_t k (own_head (n:=1) (HK w6 (((F2.trans F3).mono (by simp)).trans H5)) hn hvl) hn64 hlen (Nat.le_trans C.kl (by omega)) (C.f G5)) ?_
 rintro _ w7 ⟨rfl,f7⟩
 refine r_call (opens_t o) ?_
 rintro _ w8 ⟨rfl,rfl⟩
 have hnl:=nums_len _ hn64
 have hop:(opB o).length≤6:=by unfold opB;split<;>simp
 refine r_cat (by have:=C.kl;simp only [List.length_append] at *;omega) ?_
 exact fin_wp K hc ((m1.fr0 f6).fr0 f7) (G5.trans (f7.mono (by simp))) (λ q hq=>(m3 q hq).imp id (λ h=>Nat.le_trans F.size h)) (Sm.lastU C.m C.M.ch ⟨by have:=hf.1;show z.1.lanes.length≤_;omega,by simp;omega⟩)
end
end Go.Proofs.YtppodgdhdddfkaaGreatDoor.Cg
set_option linter.unusedVariables false
set_option linter.unusedSimpArgs false
namespace Go.Proofs.YtppodgdhdddfkaaGreatDoor.Cg
open Go Go.RowKit Go.Proofs.YtppodgdhdddfkaaGreatDoor.Sx
open Go.Proofs.YtppodgdhdddfkaaGreatDoor.Bi (mixed take_s Nw List_t)
open Go.Proofs.YtppodgdhdddfkaaGreatDoor.Cf
open Go.Proofs.YtppodgdhdddfkaaGreatDoor.Sg
section
variable {Z:ZP} {R:Value→World→Prop} {w00 w w1 w2 w3:World} {A:List Nat→List Value→World→Prop} {B:List Nat→Nat→List Value→World→Prop} {base p nw cw:Nat} {s:RS} {vf vt vc vg vr vx:Value} {zr:List Z3} {k l:Bs} {ad:Addr} {rest:List Bs} {is:Int} {o:Bool}
theorem cs_wp (C:CX w00 base p w s vf vt vc vg vr zr k ad nw vx rest) (hz:is=4∨is=5→zr≠[]) (K:KK base p is l R Z w (obs (rows vf vt vc vg vr s.c zr)) (caseP is k rest o s.c)):wp Tryz.prog Z R [] (Tk.cs (Pt p 0) (Tx l) (.slice (some ad) nw cw) (I is) vx (.bool o)) w A B:=by
 refine r_if (λ h=>c1_wp C h K) (λ h1=>?_)
 refine r_if (λ h=>c2_wp C h K) (λ h2=>?_)
 refine r_if (λ h=>c3_wp C h K) (λ h3=>?_)
 refine r_if (λ h=>?_) (λ h4=>?_)
 ·obtain ⟨z,t,rfl⟩:=List.exists_cons_of_ne_nil (hz (.inl h))
  exact c4_wp C h K
 refine r_if (λ h=>?_) (λ h5=>?_)
 ·obtain ⟨z,t,rfl⟩:=List.exists_cons_of_ne_nil (hz (.inr h))
  exact c5_wp C h K
 refine r_if (λ h=>c6_wp C h K) (λ h6=>?_)
 refine r_if (λ h=>c7_wp C h K) (λ h7=>?_)
 refine r_if (λ h=>c8_wp C h K) (λ h8=>?_)
 have hc:caseP is k rest o s.c=some (s.c,[]):=by unfold caseP;rw [if_neg h1,if_neg h2,if_neg h3,if_neg h4,if_neg h5,if_neg h6,if_neg h7,if_neg h8]
 exact fin_wp (own:=[]) K hc C.M ((Fr.refl [] w).mono (by simp)) (λ q hq=>.inl hq) (Sm.of C.m)
theorem rank_len {k:Bs} (h:rankI k≠0):k.length≤60:=by
 unfold rankI at h
 by_cases h1:Lib.index kinds ([32]++k++[32]) < 0
 ·rw [if_pos h1] at h;exact absurd rfl h
 ·have h2:=idx_fit kinds ([32]++k++[32])
  have hpl:([32]++k++[32]).length=k.length+2:=by simp
  have hk:kinds.length=54:=rfl
  omega
theorem follows_0 {was n:Int} (h:followsI was n=true):n≠0:=λ e=>by unfold followsI at h;rw [if_pos e] at h;cases h
theorem follows_ch {was n:Int} (h:followsI was n=true) (hn:n=4∨n=5):3≤was∧was≤5:=by
 unfold followsI at h
 rcases hn with rfl | rfl
 ·simp at h;omega
 ·simp at h;omega
theorem take_t (hM:RMx base p w s vf vt vc vg vr zr) (hm:manyP s.c=false) (F0:Fr [] w00 w) (p0:w00.heap.size≤p) (G:GW w00) (hl:l.length≤90000) (hch:3≤s.was∧s.was≤5→s.c.channels≠[]):Cz Tryz.prog 118 [Pt p 0,Tx l] w
  (λ r w'=>r=.tuple [].toArray∧∃ s' vf' vt' vc' vg' vr' zr',takeP s l=some s'∧RMx base p w' s' vf' vt' vc' vg' vr' zr'∧Fr (p :: obs (rows vf vt vc vg vr s.c zr)) w w'∧∀ q∈obs (rows vf' vt' vc' vg' vr' s'.c zr'),q∈obs (rows vf vt vc vg vr s.c zr)∨w.heap.size≤q)
  (ZB (takeP s l=none) (p :: obs (rows vf vt vc vg vr s.c zr)) w):=by
 have hlen:=splitP_len 32 l
 refine go mixed Tryz.func118 Tryz.call118 rfl (Tr.e118 _ _) ?_
 refine r_call (Split_o l 32 (by omega) (G.up F0).m) ?_
 rintro v21 w1 ⟨HW,F1⟩
 obtain ⟨k,ws,hs⟩:=List.exists_cons_of_ne_nil (splitP_ne 32 l)
 have htp:takeP s l=takeK s l k ws:=by unfold takeP;rw [hs];rfl
 rw [hs] at HW hlen
 have hkl:=hlen.2 k (by simp)
 have hwl:=hlen.1
 simp only [List.length_cons] at hwl
 have hcap:∃ X c,v21=.slice X (k :: ws).length c∧(k :: ws).length≤c:=by
  obtain ⟨X,c,e,_⟩:=own_slice HW
  subst e
  exact ⟨X,c,rfl,own_cap HW⟩
 obtain ⟨X,cw,rfl,hcw⟩:=hcap
 obtain ⟨X',cw',e,hcw',hrw⟩:=own_sl (enc:=λ l:Bs=>[Tx l]) (n:=1) (hl:=λ _=>rfl) (h1:=λ _=>one1 rfl) HW (by decide) (by simp only [big,List.length_cons];omega)
 cases e
 obtain ⟨ad,es,rfl,rd,e3⟩:=hrw.2 0 k rfl
 obtain rfl:=e3
 have hM1:=hM.fr0 F1
 have hkw:Off (p :: obs (rows vf vt vc vg vr s.c zr)) (λ w=>w.cell? (addA ad (((0:Nat):Int).toNat * 1))=some (Tx k)) w1:=by
  intro w' f
  have HW':=own_f HW f (λ q hq hs=>by
   have h1:=(own_lt HW q hq).1
   rcases List.mem_cons.1 hs with rfl | hs
   ·have:=hM.hp;have:=hM.hb;omega
   ·have:=(hM.O.lt q hs).2;omega)
  obtain ⟨X'',c'',e,_,_,hr⟩:=own_sl (enc:=λ l:Bs=>[Tx l]) (n:=1) (hl:=λ _=>rfl) (h1:=λ _=>one1 rfl) HW' (by decide) (by simp only [big,List.length_cons];omega)
  cases e
  obtain ⟨ad',es,e,rd,e3⟩:=hr 0 k rfl
  cases e
  obtain rfl:=e3
  exact cell1 rd
 refine r_ob ⟨by decide,by simp only [List.length_cons];omega⟩ ?_
 refine r_ld (cell1 rd) ?_
 refine r_call (rank_t k (by omega) (G.up (F0.trans F1))) ?_
 rintro _ w2 ⟨rfl,rfl⟩
 refine r_call (follows_t hM1.B rfl _) ?_
 rintro _ w3 ⟨rfl,rfl⟩
 refine r_ifbn (λ hfo=>?_) (λ hfo=>?_)
 ·refine r_panb ⟨?_,rfl,F1.mono (by simp)⟩
  rw [htp];unfold takeK;rw [hfo];rfl
 have hk60:=rank_len (follows_0 hfo)
 have htk:∀ {o:Bool} {rest:List Bs},o=opn ws→rest=bod ws→takeP s l=(caseP (rankI k) k rest o s.c).bind λ q=>if q.2=l∧manyP q.1=false then some ⟨q.1,rankI k⟩ else none:=by
  rintro o rest rfl rfl
  rw [htp];unfold takeK;rw [if_pos hfo]
 have hKK:∀ {o:Bool} {rest:List Bs},o=opn ws→rest=bod ws→KK base p (rankI k) l (λ r w'=>r=.tuple [].toArray∧∃ s' vf' vt' vc' vg' vr' zr',takeP s l=some s'∧RMx base p w' s' vf' vt' vc' vg' vr' zr'∧Fr (p :: obs (rows vf vt vc vg vr s.c zr)) w w'∧∀ q∈obs (rows vf' vt' vc' vg' vr' s'.c zr'),q∈obs (rows vf vt vc vg vr s.c zr)∨w.heap.size≤q) (ZB (takeP s l=none) (p :: obs (rows vf vt vc vg vr s.c zr)) w) w3 (obs (rows vf vt vc vg vr s.c zr)) (caseP (rankI k) k rest o s.c):=by
  intro o rest ho hr
  have h:=htk ho hr
  refine ⟨λ c' own e h1 h2 w' vf vt vc vg vr zr hM' F' hO=>⟨rfl,_,_,_,_,_,_,_,?_,hM',(F1.mono (by simp)).trans F',λ q hq=>(hO q hq).imp id (λ h=>Nat.le_trans F1.size h)⟩,λ hno w' F'=>⟨?_,rfl,(F1.mono (by simp)).trans F'⟩⟩
  ·rw [h,e]
   show (if own=l∧manyP c'=false then _ else _)=_
   rw [if_pos ⟨h1,h2⟩]
  ·rw [h]
   cases hc:caseP (rankI k) k rest o s.c with
   | none=>rfl
   | some q =>
    show (if q.2=l∧manyP q.1=false then _ else _)=_
    rw [if_neg (λ hh=>by have:=hno q.1 q.2 hc hh.1;rw [hh.2] at this;cases this)]
 have hz:rankI k=4∨rankI k=5→zr≠[]:=λ h e=>by
  have:=hch (follows_ch hfo h)
  rw [hM.ch,e] at this
  exact this rfl
 have hCX:∀ {vx:Value} {rest:List Bs},Sl rT w3 vx rest→rest.length≤100000→(∀ a∈rest,a.length≤100000)→CX w00 base p w3 s vf vt vc vg vr zr k ad (k :: ws).length vx rest:=λ h1 h2 h3=>⟨hM1,hm,F0.trans F1,p0,G,by simp,hkw,by omega,h1,h2,h3⟩
 have hwsl:∀ a∈ws,a.length≤100000:=λ a ha=>by have:=hlen.2 a (List.mem_cons_of_mem _ ha);omega
 refine r_sll (e:=rT) (l:=1) (by kernel_rfl) Tryz.sizeOf9 rfl (by simp) hcw (λ Y hY=>?_)
 have hY1:Rw rT w3 Y ws:=by
  have:=hY w3 (k :: ws) hrw.2
  simpa using this
 have e1:(k :: ws).length-1=ws.length:=rfl
 rw [e1]
 have hrest:Sl rT w3 (.slice Y ws.length (cw-1)) ws:=⟨Y,cw-1,rfl,by simp only [List.length_cons] at hcw;omega,by simp only [big];omega,hY1⟩
 refine r_if (λ h0=>?_) (λ h0=>?_)
 ·refine r_are (y:=((ws.length-1:Nat):Int)) (by rw [IntKind.wrap_i64];omega) ?_
  obtain ⟨x,hx⟩:=gt (xs:=ws) (j:=ws.length-1) (by omega)
  have hlast:ws.getLast? = some x:=by rw [List.getLast?_eq_getElem?];exact hx
  refine r_ob ⟨by omega,by omega⟩ ?_
  obtain ⟨ad2,es,rfl,rd2,e3⟩:=hY1 (ws.length-1) x hx
  obtain rfl:=e3
  refine r_ld (cell1 rd2) ?_
  refine r_teq (b:=kOpens) ?_
  have ho:decide (x=kOpens)=opn ws:=by unfold opn;rw [hlast];exact decide_eq_decide.2 ⟨λ h=>by rw [h],λ h=>by injection h⟩
  refine r_if (λ h1=>?_) (λ h1=>?_)
  ·refine r_are (y:=((ws.length-1:Nat):Int)) (by rw [IntKind.wrap_i64];omega) ?_
   refine r_slh (m:=ws.length-1) (by kernel_rfl) Tryz.sizeOf9 (by omega) (by simp only [List.length_cons] at hcw;omega) (by omega) ?_
   have hb:ws.dropLast=bod ws:=by unfold bod;rw [← ho,if_pos (decide_eq_true h1)]
   have hdl:ws.dropLast.length=ws.length-1:=List.length_dropLast
   refine cs_wp (hCX ⟨_,cw-1,by rw [hdl],by simp only [List.length_cons] at hcw;omega,by simp only [big];omega,?_⟩ (by omega) (λ a ha=>hwsl a (List.dropLast_subset ws ha))) hz (hKK ho hb)
   intro j y hj
   rw [List.dropLast_eq_take,List.getElem?_take] at hj
   split at hj
   ·exact hY1 j y hj
   ·cases hj
  ·have hb:ws=bod ws:=by unfold bod;rw [← ho,if_neg (by simpa using h1)]
   exact cs_wp (hCX hrest (by omega) hwsl) hz (hKK ho hb)
 ·have hws:ws=[]:=List.eq_nil_of_length_eq_zero (by omega)
  subst hws
  exact cs_wp (o:=false) (hCX hrest (by omega) hwsl) hz (hKK rfl rfl)
end
end Go.Proofs.YtppodgdhdddfkaaGreatDoor.Cg
