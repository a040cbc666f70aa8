import Derived.Test.YtppodgdhdddfkaaGreatDoorQMg
import Derived.Test.YtppodgdhdddfkaaGreatDoorQMd
import Derived.Test.YtppodgdhdddfkaaGreatDoorQMk
import Derived.Tactics
import Derived.Tactics2
import Derived.Defers
import Derived.Recover
import Derived.Laws.Pointers
import Derived.WideLaws
set_option linter.unusedVariables false
set_option linter.unusedSimpArgs false
namespace Go.Proofs.YtppodgdhdddfkaaGreatDoor.Cg
open Go Go.RowKit Go.Proofs.YtppodgdhdddfkaaGreatDoor.Sx
open Go.Proofs.YtppodgdhdddfkaaGreatDoor.Bi (mixed take_s Has_t rHas_t)
open Go.Proofs.YtppodgdhdddfkaaGreatDoor.Cf
def cutCh (x:GChannel):GChannel:=⟨x.label,x.lanes.take 18,x.receivers.take 18⟩
theorem take_map_s {α β:Type} (f:α→β) {l:List α} {m:Nat} {x:α} (h:l[m]? = some x):(l.take (m+1)).map f=(l.take m).map f++[f x]:=by
 rw [List.take_add_one,h,List.map_append];rfl
theorem mn {α:Type} (xs:List α) (k:Nat):∃ m:Nat,(if (k:Int) < (xs.length:Int) then (k:Int) else (xs.length:Int))=m∧m=(xs.take k).length∧m≤xs.length:=by
 by_cases h:(k:Int) < (xs.length:Int)
 ·exact ⟨k,by rw [if_pos h],by rw [List.length_take];omega,by omega⟩
 ·exact ⟨xs.length,by rw [if_neg h],by rw [List.length_take];omega,Nat.le_refl _⟩
section
variable {Z:ZP} {w:World}
theorem Echan:El Tryz.prog 25 87 3 56 (.agg #[I 0,.slice none 0 0,.slice none 0 0]):=⟨by kernel_rfl,by kernel_rfl,Tryz.sizeOf87,Tryz.zeroValue87,rfl⟩
end
end Go.Proofs.YtppodgdhdddfkaaGreatDoor.Cg
set_option linter.unusedVariables false
set_option linter.unusedSimpArgs false
namespace Go.Proofs.YtppodgdhdddfkaaGreatDoor.Cg
open Go Go.RowKit Go.Proofs.YtppodgdhdddfkaaGreatDoor.Sx
open Go.Proofs.YtppodgdhdddfkaaGreatDoor.Bi (mixed take_s Has_t rHas_t)
open Go.Proofs.YtppodgdhdddfkaaGreatDoor.Cf
def idxT (n:Nat) (v x1:Value):T:=lnT v λ v7=>.loop [(I 0),(I 0)] (λ z1=>biT true .lss (nv z1 0) v7 λ v9=>gi v9 (ixT n v (nv z1 0) λ v14=>.ldn n v14 λ v15=>clT x1 [v15] λ v16=>gi v16 (.ret (nv z1 0)) (biT false .add (nv z1 0) (I 1) λ v18=>.again [v18,(nv z1 1)])) (.brk 0 [(nv z1 0),(nv z1 1)])) (λ i1 z1=>bq i1 0 (.ret (I (-1))) (.bad))
def idxP {α:Type} (p:α→Bool) (xs:List α):Int:=match xs.findIdx? p with | some i=>i | none=>-1
theorem idx_wp {α:Type} {e:Rl α} {P:Program} {Z:ZP} {R:Value→World→Prop} {w:World} {A:List Nat→List Value→World→Prop} {B:List Nat→Nat→List Value→World→Prop} {X:Option Addr} {cp g n:Nat} {cap:Array Value} {xs:List α} (p:α→Bool) (hr:Rw e w X xs) (hb:xs.length≤big) (hn:e.n=n)
  (hcall:∀ w1 es x,Fr [] w w1→e.r w1 es x→Cz P g (.agg es.toArray :: cap.toList) w1 (λ r w'=>r=.bool (p x)∧Fr [] w1 w') Z) (k:∀ w',Fr [] w w'→R (I (idxP p xs)) w'):wp P Z R [] (idxT n (.slice X xs.length cp) (.func (.func g) #[] cap)) w A B:=by
 subst hn
 simp only [big] at hb
 refine r_loop (λ (i:Nat)=>[I (i:Int),I 0]) (λ i w'=>i≤xs.length∧(∀ (j:Nat) y,j < i→xs[j]? = some y→p y=false)∧Fr [] w w') (λ i=>xs.length-i) 0 ⟨Nat.zero_le _,λ _ _ h=>by omega,Fr.refl _ _⟩ rfl ?_
 rintro i w1 ⟨hi,hno,F⟩
 refine r_if (λ h=>?_) (λ h=>?_)
 ·obtain ⟨y,hy⟩:=gt (xs:=xs) (j:=i) (by omega)
  obtain ⟨ad,es,rfl,rd,e3⟩:=(hr.up F) i y hy
  refine r_ob ⟨by omega,by omega⟩ ?_
  refine r_ldn rd ?_
  refine r_call (hcall w1 es y F e3) ?_
  rintro _ w2 ⟨rfl,f2⟩
  refine r_ifb (λ e=>?_) (λ e=>?_)
  ·refine r_ret ?_
   have hlt:i < xs.length:=(List.getElem?_eq_some_iff.1 hy).1
   have:idxP p xs=i:=by
    unfold idxP
    rw [(List.findIdx?_eq_some_iff_getElem).2 ⟨hlt,by rw [← (List.getElem?_eq_some_iff.1 hy).2] at e;exact e,λ j hj=>by rw [Bool.not_eq_true];exact hno j _ hj (List.getElem?_eq_getElem (by omega))⟩]
   have k2:=k w2 (F.trans f2)
   rw [this] at k2
   exact k2
  ·refine r_ar (by omega) ?_
   refine r_ag (i+1) ⟨by omega,λ j y' hj hy'=>?_,F.trans f2⟩ (by omega) rfl
   rcases Nat.lt_or_ge j i with h' | h'
   ·exact hno j y' h' hy'
   ·obtain rfl:j=i:=by omega
    rw [hy] at hy';cases hy';exact e
 ·refine r_brk (r_ret ?_)
  have:idxP p xs = -1:=by
   unfold idxP
   rw [List.findIdx?_eq_none_iff.2 (λ x hx=>by
    obtain ⟨j,hj⟩:=List.getElem?_of_mem hx
    have:=(List.getElem?_eq_some_iff.1 hj).1
    exact hno j x (by omega) hj)]
  have k2:=k w1 F
  rw [this] at k2
  exact k2
theorem idx_ge {α:Type} (p:α→Bool) (xs:List α):decide (0≤idxP p xs)=xs.any p:=by
 unfold idxP
 cases h:xs.findIdx? p with
 | none =>
  have:=List.findIdx?_eq_none_iff.1 h
  have e:xs.any p=false:=by rw [List.any_eq_false];intro x hx;simp [this x hx]
  rw [e];rfl
 | some i =>
  obtain ⟨hl,hp,_⟩:=List.findIdx?_eq_some_iff_getElem.1 h
  have e:xs.any p=true:=List.any_eq_true.2 ⟨_,List.getElem_mem hl,hp⟩
  rw [e]
  simp
section
variable {Z:ZP} {w:World}
def manyCh (x:GChannel):Bool:=decide (16 < x.lanes.length) || decide (16 < x.receivers.length)
def manyP (c:GConf):Bool:=decide (16 < c.flows.length) || decide (16 < c.tenants.length) || decide (32 < c.channels.length) || decide (16 < c.gates.length) || decide (64 < c.frame.length) || c.channels.any manyCh
theorem manyCh_t {es:List Value} {x:GChannel} (h:rChannel.r w es x):Cz Tryz.prog 142 [.agg es.toArray] w (λ r w'=>r=.bool (manyCh x)∧Fr [] w w') Z:=by
 obtain ⟨L1,d1,L2,d2,rfl,q1,q2⟩:=oChannel h
 refine go mixed Tryz.func142 Tryz.call142 rfl (Tr.e142 _) ?_
 refine b_box (Bx.nil w) (λ v1 w1 H=>?_)
 refine b_ld H 0 rfl rfl ?_
 refine r_if (λ h=>?_) (λ h=>?_)
 ·exact b_ret H (λ F=>⟨congrArg Value.bool (by unfold manyCh;simp;omega),F⟩)
 ·refine b_ld H 0 rfl rfl ?_
  have e:decide ((16:Int) < (x.receivers.length:Int))=manyCh x:=by
   have h1:¬ 16 < x.lanes.length:=by omega
   have h2:decide ((16:Int) < (x.receivers.length:Int))=decide (16 < x.receivers.length):=decide_eq_decide.2 (by omega)
   unfold manyCh
   rw [h2,decide_eq_false h1,Bool.false_or]
  exact b_ret H (λ F=>⟨congrArg Value.bool e,F⟩)
theorem many_t {cs:List Value} {c:GConf} (hc:rConf.r w cs c):Cz Tryz.prog 97 [.agg cs.toArray] w (λ r w'=>r=.bool (manyP c)∧Fr [] w w') Z:=by
 obtain ⟨A0,c0,A1,c1,A2,c2,A3,c3,A4,c4,rfl,k0,k1,k2,k3,k4⟩:=oConf hc
 refine go mixed Tryz.func97 Tryz.call97 rfl (Tr.e97 _) ?_
 refine b_box (Bx.nil w) (λ v1 w1 H=>?_)
 refine b_ld H 0 rfl rfl ?_
 refine r_if (λ h=>b_ret H (λ F=>⟨congrArg Value.bool (by unfold manyP;simp;omega),F⟩)) (λ h0=>?_)
 refine b_ld H 0 rfl rfl ?_
 refine r_if (λ h=>b_ret H (λ F=>⟨congrArg Value.bool (by unfold manyP;simp;omega),F⟩)) (λ h1=>?_)
 refine b_ld H 0 rfl rfl ?_
 refine r_if (λ h=>b_ret H (λ F=>⟨congrArg Value.bool (by unfold manyP;simp;omega),F⟩)) (λ h2=>?_)
 refine b_ld H 0 rfl rfl ?_
 refine r_if (λ h=>b_ret H (λ F=>⟨congrArg Value.bool (by unfold manyP;simp;omega),F⟩)) (λ h3=>?_)
 refine b_ld H 0 rfl rfl ?_
 refine r_if (λ h=>b_ret H (λ F=>⟨congrArg Value.bool (by unfold manyP;simp;omega),F⟩)) (λ h4=>?_)
 refine b_ld H 0 rfl rfl ?_
 refine b_call (v:=.bool (c.channels.any manyCh)) H ?_ (λ w2 H=>b_ret H (λ F=>⟨congrArg Value.bool (by unfold manyP;simp;omega),F⟩))
 refine go mixed Tryz.func141 Tryz.call141 rfl (Tr.e141 _ _) ?_
 refine r_call (Q:=λ r w'=>r=I (idxP manyCh c.channels)∧Fr [] w1 w') ?_ ?_
 ·refine go mixed Tryz.func177 Tryz.call177 rfl (Tr.e177 _ _) ?_
  exact idx_wp (e:=rChannel) manyCh (k2.2.2.up H.F) k2.2.1 rfl (λ w1 es x F h=>manyCh_t h) (λ w' F=>⟨rfl,F⟩)
 ·rintro _ w2 ⟨rfl,F⟩
  exact r_ret ⟨congrArg Value.bool (idx_ge _ _),F⟩
end
end Go.Proofs.YtppodgdhdddfkaaGreatDoor.Cg
set_option linter.unusedVariables false
set_option linter.unusedSimpArgs false
namespace Go.Proofs.YtppodgdhdddfkaaGreatDoor.Cg
open Go Go.RowKit Go.Proofs.YtppodgdhdddfkaaGreatDoor.Sx
open Go.Proofs.YtppodgdhdddfkaaGreatDoor.Bi (mixed take_s Has_t rHas_t Nw List_t)
open Go.Proofs.YtppodgdhdddfkaaGreatDoor.Cf
open Go.Proofs.YtppodgdhdddfkaaGreatDoor.Sg
def kFlows:Bs:=[102,108,111,119,115]
def kTen:Bs:=[116,101,110,97,110,116]
def kCh:Bs:=[99,104,97,110,110,101,108]
def kLane:Bs:=[108,97,110,101]
def kRec:Bs:=[114,101,99,101,105,118,101,114]
def kGate:Bs:=[103,97,116,101]
def kFrame:Bs:=[102,114,97,109,101]
def kBud:Bs:=[98,117,100,103,101,116]
def flowL (f:Int):Bs:=kFlows++nums (Bt.memI (BitVec.ofInt 64 f))
def tenL (t:GTenant):Bs:=kTen++nums [t.label,t.quota]
def laneL (l:GLane):Bs:=(kLane++nums [l.tenant,l.credit])++opB l.opens
def recL (r:GReceiver):Bs:=(kRec++nums [r.tenant])++opB r.opens
def chL (x:GChannel):List Bs:=((kCh++nums [x.label]) :: x.lanes.map laneL)++x.receivers.map recL
def gateL (g:GGate):Bs:=kGate++nums [g.frm,g.til,g.room]
def lines1 (c:GConf):List Bs:=c.flows.map flowL++c.tenants.map tenL
def lines2 (c:GConf):List Bs:=lines1 c++c.channels.flatMap chL
def lines3 (c:GConf):List Bs:=lines2 c++c.gates.map gateL
def linesP (c:GConf):List Bs:=lines3 c++[kFrame++nums c.frame,kBud++nums [c.budget,c.requests,c.pending]]
structure In64 (c:GConf):Prop where
 fl:Wf c
 te:∀ t∈c.tenants,in64 t.label∧in64 t.quota
 ch:∀ x∈c.channels,in64 x.label∧(∀ l∈x.lanes,in64 l.tenant∧in64 l.credit)∧∀ r∈x.receivers,in64 r.tenant
 ga:∀ g∈c.gates,in64 g.frm∧in64 g.til∧in64 g.room
 fr:∀ z∈c.frame,in64 z
 bu:in64 c.budget∧in64 c.requests∧in64 c.pending
theorem few {c:GConf} (h:manyP c=false):c.flows.length≤16∧c.tenants.length≤16∧c.channels.length≤32∧c.gates.length≤16∧c.frame.length≤64∧∀ x∈c.channels,x.lanes.length≤16∧x.receivers.length≤16:=by
 unfold manyP at h
 simp only [Bool.or_eq_false_iff,decide_eq_false_iff_not,List.any_eq_false,Nat.not_lt] at h
 obtain ⟨⟨⟨⟨⟨h0,h1⟩,h2⟩,h3⟩,h4⟩,h5⟩:=h
 refine ⟨h0,h1,h2,h3,h4,λ x hx=>?_⟩
 have:=h5 x hx
 unfold manyCh at this
 simp only [Bool.or_eq_true,decide_eq_true_eq,not_or,Nat.not_lt] at this
 exact this
theorem chs_len:∀ (l:List GChannel),(∀ x∈l,x.lanes.length≤16∧x.receivers.length≤16)→(l.flatMap chL).length≤33 * l.length:=by
 intro l
 induction l with
 | nil=>intro _;simp
 | cons x r ih =>
  intro h
  have h1:=h x (by simp)
  have h2:=ih (λ y hy=>h y (by simp [hy]))
  rw [List.flatMap_cons,List.length_append]
  have:(chL x).length=1+x.lanes.length+x.receivers.length:=by simp [chL];omega
  rw [List.length_cons]
  omega
section
variable {Z:ZP} {w:World}
theorem Estr:El Tryz.prog 71 9 1 16 (.string ⟨#[]⟩):=⟨by kernel_rfl,by kernel_rfl,Tryz.sizeOf9,Tryz.zeroValue9,rfl⟩
theorem plainT:Plain rT:=λ _ _ _ _ h=>h
theorem sl_blk {T:Nat} {b:Nat} {l:List Int} (h:Blk w b T (l.map I)) (hb:l.length≤big):Sl (rI .i64) w (.slice (some ⟨b,0,none⟩) l.length l.length) l:=by
 refine ⟨_,_,rfl,Nat.le_refl _,hb,λ j x hj=>⟨_,[I x],rfl,⟨rfl,λ i v hv=>?_⟩,rfl⟩⟩
 match i,hv with
 | 0,hv =>
  simp only [List.getElem?_cons_zero,Option.some.injEq] at hv
  subst hv
  rw [addA_addA]
  show w.cell? ⟨b,0+(j * 1+0),none⟩=_
  rw [show 0+(j * 1+0)=j by omega]
  exact h.cell (by rw [List.getElem?_map,hj];rfl)
 | i+1,hv=>simp at hv
theorem nw_sl {w0:World} {v:Value} {l:List Int} (h:Nw w0 w v l) (hb:l.length≤big):Sl (rI .i64) w v l:=by
 have h2:Or (rI .i64) 3 0 [] w v l:=⟨_,h.1,λ j x hj w' f=>by
  show ((ints l).drop (j * 1)).take 1=[I x]
  have:(ints l)[j]? = some (I x):=by unfold ints;rw [List.getElem?_map,hj];rfl
  rw [Nat.mul_one]
  obtain ⟨hl,he⟩:=List.getElem?_eq_some_iff.1 this
  rw [List.drop_eq_getElem_cons hl,he]
  rfl⟩
 exact h2.row hb
def StL (ls:List Bs):Nat→List Value→Nat→Prop:=λ m vs m'=>∃ z,ls[m]? = some z∧vs=[Tx z]∧m'=m+1
theorem take_flat {α β:Type} (f:α→List β) {l:List α} {m:Nat} {x:α} (h:l[m]? = some x):(l.take (m+1)).flatMap f=(l.take m).flatMap f++f x:=by
 rw [take_s h,List.flatMap_append];simp
theorem memI_in64 (s:BitVec 64):∀ n∈Bt.memI s,in64 n:=by
 intro n hn
 unfold Bt.memI Bt.mem at hn
 obtain ⟨j,hj,rfl⟩:=List.mem_map.1 hn
 have:=List.mem_range.1 (List.mem_filter.1 hj).1
 unfold in64
 omega
theorem line_len {c:GConf} (hi:In64 c) (hm:manyP c=false):∀ l∈linesP c,l.length≤2000:=by
 obtain ⟨m0,m1,m2,m3,m4,m5⟩:=few hm
 have hop:∀ b,(opB b).length≤6:=λ b=>by unfold opB;split<;>simp
 have go:∀ (k:Bs) (ns:List Int),k.length≤10→ns.length≤64→(∀ n∈ns,in64 n)→(k++nums ns).length≤1900:=λ k ns h1 h2 h3=>by
  have:=nums_len ns h3
  rw [List.length_append];omega
 intro l hl
 simp only [linesP,lines3,lines2,lines1,List.mem_append,List.mem_map,List.mem_flatMap,List.mem_cons,List.not_mem_nil,or_false] at hl
 rcases hl with (((⟨z,hz,rfl⟩ | ⟨z,hz,rfl⟩) | ⟨x,hx,hl⟩) | ⟨z,hz,rfl⟩) | rfl | rfl
 ·refine Nat.le_trans (go kFlows _ (by decide) ?_ (memI_in64 _)) (by omega)
  unfold Bt.memI Bt.mem;rw [List.length_map];exact Nat.le_trans (List.length_filter_le _ _) (by simp)
 ·exact Nat.le_trans (go kTen _ (by decide) (by simp) (by simpa using hi.te z hz)) (by omega)
 ·obtain ⟨x1,x2,x3⟩:=hi.ch x hx
  simp only [chL,List.mem_append,List.mem_cons,List.mem_map] at hl
  rcases hl with (rfl | ⟨z,hz,rfl⟩) | ⟨z,hz,rfl⟩
  ·exact Nat.le_trans (go kCh _ (by decide) (by simp) (by simpa using x1)) (by omega)
  ·have h1:=go kLane [z.tenant,z.credit] (by decide) (by simp) (by simpa using x2 z hz)
   have h2:=hop z.opens
   unfold laneL
   rw [List.length_append];omega
  ·have h1:=go kRec [z.tenant] (by decide) (by simp) (by simpa using x3 z hz)
   have h2:=hop z.opens
   unfold recL
   rw [List.length_append];omega
 ·exact Nat.le_trans (go kGate _ (by decide) (by simp) (by simpa using hi.ga z hz)) (by omega)
 ·exact Nat.le_trans (go kFrame _ (by decide) m4 hi.fr) (by omega)
 ·exact Nat.le_trans (go kBud _ (by decide) (by simp) (by simpa using hi.bu)) (by omega)
theorem tx_blk {T b:Nat} {S:List Nat} {l:List Bs} (h:Blk w b T (l.map Tx)):RwO S rT w (some ⟨b,0,none⟩) l:=by
 refine λ j x hj=>⟨_,[Tx x],rfl,⟨rfl,λ i v hv=>?_⟩,λ _ _=>rfl⟩
 match i,hv with
 | 0,hv =>
  simp only [List.getElem?_cons_zero,Option.some.injEq] at hv
  subst hv
  rw [addA_addA]
  show w.cell? ⟨b,0+(j * 1+0),none⟩=_
  rw [show 0+(j * 1+0)=j by omega]
  exact h.cell (by rw [List.getElem?_map,hj];rfl)
 | i+1,hv=>simp at hv
def tlL (x0 v a b:Value):T:=.hv (Instr.buildSlice 71 2 [(0,a),(1,b)].toArray) λ v135=>.hv (Builtin.append_ #[71,71] 71 [v,v135].toArray) λ v136=>lnT v136 λ v138=>.loop [(I 0)] (λ z7=>biT true .lss (nv z7 0) v138 λ v140=>gi v140 (ixT 1 v136 (nv z7 0) λ v141=>.ld v141 λ v142=>.pu (binOp .add 9 v142 (.string {data:=#[10]})) λ v145=>clT x0 [v145] λ v146=>notT v146 λ v147=>gi v147 (.ret (.tuple [].toArray)) (biT false .add (nv z7 0) (I 1) λ v148=>.again [v148])) (.brk 12 [(nv z7 0)])) (λ i7 z7=>bq i7 12 (.ret (.tuple [].toArray)) (.bad))
theorem tlL_wp {w0:World} {v:Value} {pre:List Bs} {a b:Bs} {L:Nat} {J:List Nat→Nat→World→Prop} {K:List Nat→World→Prop} {A:List Nat→List Value→World→Prop} {B:List Nat→Nat→List Value→World→Prop} (hl:∀ l∈pre++[a,b],l.length≤2000) (hp:pre.length≤3000) (RG:Rg Tryz.prog L (StL ((pre++[a,b]).map (λ l=>l++[10]))) J K)
  (HO:Or rT 9 w0.heap.size [] w v pre) (F:Fr [] w0 w) (h0:J [] 0 w0):wp Tryz.prog Z (λ _ w'=>∃ V,J V (pre++[a,b]).length w'∨K V w') [] (tlL (.func (.yield L) #[] #[]) v (Tx a) (Tx b)) w A B:=by
 refine r_new (v:=.slice (some ⟨w.heap.size,0,none⟩) 2 2) (T:=9) (cs:=[Tx a,Tx b]) (by kernel_rfl) (λ bb w1 hbb B1 f1=>?_)
 subst hbb
 have F1:=F.trans f1
 refine r_apps (xs:=[a,b]) Estr (HO.fr0 f1) rfl (tx_blk B1) (by simp only [big,List.length_cons,List.length_nil];omega) F1.size (λ v' w2 g1 g2 g3=>?_)
 have F2:=F1.trans_new g2 (λ q hq=>.inr (HO.lt q hq).1)
 obtain ⟨ls,hls⟩:∃ ls,ls=pre++[a,b]:=⟨_,rfl⟩
 rw [← hls] at g1 RG hl ⊢
 have hlen:ls.length≤3002:=by rw [hls,List.length_append];simp only [List.length_cons,List.length_nil];omega
 obtain ⟨X,cc,rfl⟩:∃ X cc,v'=.slice X ls.length cc:=by
  obtain ⟨X,cc,e,_⟩:=g1.row (by simp only [big];omega)
  exact ⟨X,cc,e⟩
 refine r_loop (λ (i:Nat)=>[I (i:Int)]) (λ i W=>i≤ls.length∧Or rT 9 w0.heap.size [] W (.slice X ls.length cc) ls∧J (Value.slice X ls.length cc).ownBlock.toList i W) (λ i=>ls.length-i) 0 ⟨Nat.zero_le _,g1,RG.rowO h0 g1 (Nat.le_refl _) F2⟩ rfl ?_
 rintro i W ⟨hi,HW,hJ⟩
 refine r_if (λ h=>?_) (λ h=>?_)
 ·obtain ⟨z,hz⟩:=gt (xs:=ls) (j:=i) (by omega)
  obtain ⟨X',c',e,_,_,hr⟩:=HW.row (by simp only [big];omega)
  cases e
  obtain ⟨ad,es,rfl,rd,e3⟩:=hr i z hz
  obtain rfl:=e3
  refine r_ob ⟨by omega,by omega⟩ ?_
  refine r_ld (cell1 rd) ?_
  have hz2:=hl z (List.mem_of_getElem? hz)
  refine r_cat (a:=z) (b:=[10]) (by simp;omega) ?_
  refine r_yld (RG.yd _ i (i+1) _ _ hJ (λ q hq=>(HW.lt q hq).2) ⟨_,by rw [List.getElem?_map,hz];rfl,rfl,rfl⟩) ?_
  rintro v w3 ⟨⟨rfl,hJ2⟩ | ⟨rfl,hK⟩,_,hkeep⟩
  ·refine r_ar (z:=(i:Int)+1) (by omega) ?_
   exact r_ag (i+1) ⟨by omega,HW.keepP plainT hkeep,hJ2⟩ (by omega) rfl
  ·exact r_ret ⟨_,.inr hK⟩
 ·have:i=ls.length:=by omega
  subst this
  exact r_brk (r_ret ⟨_,.inl hJ⟩)
theorem lines1_it {cs:List Value} {c:GConf} {b T0:Nat} (hc:rConf.r w cs c) (hi:In64 c) (G:GW w) (hm:manyP c=false) {L:Nat} {J:List Nat→Nat→World→Prop} {K:List Nat→World→Prop} (RG:Rg Tryz.prog L (StL ((linesP c).map (λ l=>l++[10]))) J K) (hb:Blk w b T0 cs) (h0:J [] 0 w) :
  Cz Tryz.prog 143 [.func (.yield L) #[] #[],Pt b 0] w (λ _ w'=>∃ V,J V (linesP c).length w'∨K V w') Z:=by
 obtain ⟨A0,c0,A1,c1,A2,c2,A3,c3,A4,c4,rfl,k0,k1,k2,k3,k4⟩:=oConf hc
 obtain ⟨m0,m1,m2,m3,m4,m5⟩:=few hm
 refine go mixed Tryz.func143 Tryz.call143 rfl (Tr.e143 _ _) ?_
 refine r_ld (hb.cell rfl) ?_
 refine r_loop (λ (s:Nat × Value)=>[I (s.1:Int),s.2]) (λ s w'=>s.1≤c.flows.length∧Or rT 9 w.heap.size [] w' s.2 ((c.flows.take s.1).map flowL)∧Fr [] w w') (λ s=>c.flows.length-s.1) (0,.slice none 0 0) ⟨Nat.zero_le _,Or.nil,Fr.refl _ _⟩ rfl ?_
 rintro ⟨i,v⟩ w1 ⟨hi1,HO,F⟩
 dsimp only at hi1 HO
 refine r_if (λ h=>?_) (λ h=>?_)
 ·dsimp only at h
  obtain ⟨z,hz⟩:=gt (xs:=c.flows) (j:=i) (by omega)
  obtain ⟨ad,es,rfl,rd,e3⟩:=(k0.2.2.up F) i z hz
  obtain rfl:=e3
  refine r_ob ⟨by dsimp only;omega,by dsimp only;omega⟩ ?_
  refine r_ld (cell1 rd) ?_
  have hu:Value.int .u64 z=U (BitVec.ofInt 64 z):=by
   obtain ⟨z1,z2⟩:=hi.fl z (List.mem_of_getElem? hz)
   show _=Value.int .u64 (((BitVec.ofInt 64 z).toNat:Nat):Int)
   rw [BitVec.toNat_ofInt]
   congr 1
   omega
  rw [hu]
  refine r_call (List_t _) ?_
  rintro r w2 ⟨hr,f2⟩
  have hk:(Bt.memI (BitVec.ofInt 64 z)).length≤64:=by unfold Bt.memI Bt.mem;rw [List.length_map];exact Nat.le_trans (List.length_filter_le _ _) (by simp)
  refine r_call (line_t kFlows (nw_sl hr (by simp only [big];omega)) (λ n hn=>?_) (by omega) (by simp [kFlows]) ((G.up F).up f2)) ?_
  ·exact memI_in64 _ n hn
  rintro _ w3 ⟨rfl,f3⟩
  have F3:=(F.trans f2).trans f3
  refine r_appL (x:=flowL z) (es:=[Tx (flowL z)]) Estr ((HO.fr0 f2).fr0 f3) (λ _ _=>rfl) (by simp only [big];simp;omega) F3.size (λ v' w4 g1 g2 g3=>?_)
  refine r_ar (by dsimp only;omega) ?_
  refine r_ag (s:=(i,v)) (i+1,v') ⟨by dsimp only;omega,?_,F3.trans_new g2 (λ q hq=>.inr (HO.lt q hq).1)⟩ (by dsimp only;omega) rfl
  dsimp only
  rw [take_map_s flowL hz]
  exact g1
 ·dsimp only at h
  obtain rfl:i=c.flows.length:=by omega
  rw [List.take_length] at HO
  refine r_brk ?_
  clear hi1
  refine r_ld ((hb.fr0 F).cell rfl) ?_
  refine r_loop (λ (s:Nat × Value)=>[I (s.1:Int),s.2]) (λ s w'=>s.1≤c.tenants.length∧Or rT 9 w.heap.size [] w' s.2 (c.flows.map flowL++(c.tenants.take s.1).map tenL)∧Fr [] w w') (λ s=>c.tenants.length-s.1) (0,v) ⟨Nat.zero_le _,by simpa using HO,F⟩ rfl ?_
  rintro ⟨i,v⟩ w1 ⟨hi1,HO,F⟩
  dsimp only at hi1 HO
  refine r_if (λ h=>?_) (λ h=>?_)
  ·dsimp only at h
   obtain ⟨z,hz⟩:=gt (xs:=c.tenants) (j:=i) (by omega)
   obtain ⟨ad,es,rfl,rd,e3⟩:=(k1.2.2.up F) i z hz
   obtain rfl:=e3
   have hz2:=hi.te z (List.mem_of_getElem? hz)
   refine r_ob ⟨by dsimp only;omega,by dsimp only;omega⟩ ?_
   refine r_ldn rd ?_
   refine b_as (cs:=eTenant z) (zs:=[I 0,I 0]) (n:=2) (Bx.nil w1) Tryz.zeroValue82 Tryz.sizeOf82 (iTenant z) (λ v7 w2 H=>?_)
   refine b_ld H 0 rfl rfl ?_
   refine b_ld H 0 rfl rfl ?_
   refine r_new (v:=.slice (some ⟨w2.heap.size,0,none⟩) 2 2) (T:=3) (cs:=[I z.label,I z.quota]) (by kernel_rfl) (λ bb w3 hbb B3 f3=>?_)
   subst hbb
   refine r_call (line_t kTen (sl_blk (l:=[z.label,z.quota]) B3 (by simp [big])) (by simpa using hz2) (by simp) (by simp [kTen]) (G.up ((F.trans H.F).trans f3))) ?_
   rintro _ w4 ⟨rfl,f4⟩
   have F4:=((F.trans H.F).trans f3).trans f4
   refine r_appL (x:=tenL z) (es:=[Tx (tenL z)]) Estr (HO.fr0 ((H.F.trans f3).trans f4)) (λ _ _=>rfl) (by simp only [big];simp;omega) F4.size (λ v' w5 g1 g2 g3=>?_)
   refine r_ar (by dsimp only;omega) ?_
   refine r_ag (s:=(i,v)) (i+1,v') ⟨by dsimp only;omega,?_,F4.trans_new g2 (λ q hq=>.inr (HO.lt q hq).1)⟩ (by dsimp only;omega) rfl
   dsimp only
   rw [take_map_s tenL hz,← List.append_assoc]
   exact g1
  dsimp only at h
  obtain rfl:i=c.tenants.length:=by omega
  rw [List.take_length] at HO
  refine r_brk ?_
  clear hi1 h
  have HO:Or rT 9 w.heap.size [] w1 v (lines1 c):=HO
  have l1:(lines1 c).length≤32:=by simp [lines1];omega
  refine r_ld ((hb.fr0 F).cell rfl) ?_
  refine r_loop (λ (s:Nat × Value)=>[I (s.1:Int),s.2]) (λ s w'=>s.1≤c.channels.length∧Or rT 9 w.heap.size [] w' s.2 (lines1 c++(c.channels.take s.1).flatMap chL)∧Fr [] w w') (λ s=>c.channels.length-s.1) (0,v) ⟨Nat.zero_le _,by simpa using HO,F⟩ rfl ?_
  rintro ⟨i,v⟩ w1 ⟨hi1,HO,F⟩
  dsimp only at hi1 HO
  refine r_if (λ h=>?_) (λ h=>?_)
  ·dsimp only at h
   obtain ⟨x,hx⟩:=gt (xs:=c.channels) (j:=i) (by omega)
   obtain ⟨ad,es,rfl,rd,e3⟩:=k2.2.2 i x hx
   obtain ⟨L1,d1,L2,d2,rfl,q1,q2⟩:=oChannel e3
   obtain ⟨x1,x2,x3⟩:=hi.ch x (List.mem_of_getElem? hx)
   obtain ⟨y1,y2⟩:=m5 x (List.mem_of_getElem? hx)
   have hlen:((c.channels.take i).flatMap chL).length≤33 * 32:=by
    have:=chs_len (c.channels.take i) (λ y hy=>m5 y (List.mem_of_mem_take hy))
    rw [List.length_take] at this
    omega
   refine r_ob ⟨by dsimp only;omega,by dsimp only;omega⟩ ?_
   refine r_ldn (rd.fr F) ?_
   refine b_as (cs:=[I x.label,.slice L1 x.lanes.length d1,.slice L2 x.receivers.length d2]) (zs:=[I 0,.slice none 0 0,.slice none 0 0]) (n:=3) (Bx.nil w1) Tryz.zeroValue87 Tryz.sizeOf87 (by intro v hv;simp only [List.mem_cons,List.not_mem_nil,or_false] at hv;rcases hv with rfl | rfl | rfl<;>rfl) (λ v9 w2 H=>?_)
   refine b_ld H 0 rfl rfl ?_
   refine r_new (v:=.slice (some ⟨w2.heap.size,0,none⟩) 1 1) (T:=3) (cs:=[I x.label]) (by kernel_rfl) (λ bb w3 hbb B3 f3=>?_)
   subst hbb
   refine r_call (line_t kCh (sl_blk (l:=[x.label]) B3 (by simp [big])) (by simpa using x1) (by simp) (by simp [kCh]) (G.up ((F.trans H.F).trans f3))) ?_
   rintro _ w4 ⟨rfl,f4⟩
   have F4:=((F.trans H.F).trans f3).trans f4
   refine r_appL (x:=kCh++nums [x.label]) (es:=[Tx (kCh++nums [x.label])]) Estr (HO.fr0 ((H.F.trans f3).trans f4)) (λ _ _=>rfl) (by rw [List.length_append];simp only [big];omega) F4.size (λ v' w5 g1 g2 g3=>?_)
   have F5:=F4.trans_new g2 (λ q hq=>.inr (HO.lt q hq).1)
   have n9:v9∉v.ownBlock.toList:=λ hq=>by have:=(HO.lt v9 hq).2;have:=H.ge (i:=0) rfl;omega
   have B9:=(((H.blk (i:=0) rfl).fr0 f3).fr0 f4).fr g2 n9
   have n9':v9∉v'.ownBlock.toList:=λ hq=>by
    rcases g3 _ hq with h' | h'
    ·exact n9 h'
    ·have:=(((H.blk (i:=0) rfl).fr0 f3).fr0 f4).lt
     omega
   clear H g2 g3 f3 f4 B3
   obtain ⟨pre,hpre⟩:∃ pre,pre=lines1 c++(c.channels.take i).flatMap chL++[kCh++nums [x.label]]:=⟨_,rfl⟩
   have hpl:pre.length≤2000:=by rw [hpre,List.length_append,List.length_append];simp only [List.length_singleton];omega
   rw [← hpre] at g1
   refine r_ld (B9.cell rfl) ?_
   refine r_loop (λ (s:Nat × Value)=>[I (s.1:Int),s.2]) (λ s w'=>s.1≤x.lanes.length∧Or rT 9 w.heap.size [] w' s.2 (pre++(x.lanes.take s.1).map laneL)∧Fr [] w w'∧Blk w' v9 87 [I x.label,.slice L1 x.lanes.length d1,.slice L2 x.receivers.length d2]∧v9∉s.2.ownBlock.toList) (λ s=>x.lanes.length-s.1) (0,v') ⟨Nat.zero_le _,by simpa using g1,F5,B9,n9'⟩ rfl ?_
   rintro ⟨j,u⟩ w6 ⟨hj1,HO6,F6,B9,n9⟩
   dsimp only at hj1 HO6 n9
   refine r_if (λ h2=>?_) (λ h2=>?_)
   ·dsimp only at h2
    obtain ⟨z,hz⟩:=gt (xs:=x.lanes) (j:=j) (by omega)
    obtain ⟨ad,es,rfl,rd,e3⟩:=(q1.2.2.up F6) j z hz
    obtain rfl:=e3
    have hz2:=x2 z (List.mem_of_getElem? hz)
    refine r_ob ⟨by dsimp only;omega,by dsimp only;omega⟩ ?_
    refine r_ldn rd ?_
    refine b_as (cs:=eLane z) (zs:=[I 0,I 0,B false]) (n:=3) (Bx.nil w6) Tryz.zeroValue145 Tryz.sizeOf145 (iLane z) (λ v11 w7 H=>?_)
    refine b_dr H (λ w7 H=>?_)
    refine b_ld H 0 rfl rfl ?_
    refine b_ld H 0 rfl rfl ?_
    refine b_ld H 0 rfl rfl ?_
    refine r_new (v:=.slice (some ⟨w7.heap.size,0,none⟩) 2 2) (T:=3) (cs:=[I z.tenant,I z.credit]) (by kernel_rfl) (λ bb w8 hbb B3 f3=>?_)
    subst hbb
    have H8:=H.fr f3
    refine b_chk H8 0 rfl rfl ?_
    refine r_call (line_t kLane (sl_blk (l:=[z.tenant,z.credit]) B3 (by simp [big])) (by simpa using hz2) (by simp) (by simp [kLane]) (G.up (F6.trans H8.F))) ?_
    rintro _ w9 ⟨rfl,f4⟩
    have H9:=H8.fr f4
    refine b_chk H9 0 rfl rfl ?_
    refine r_call (opens_t z.opens) ?_
    rintro _ w10 ⟨rfl,rfl⟩
    have hln:=nums_len [z.tenant,z.credit] (by simpa using hz2)
    have hop:(opB z.opens).length≤6:=by unfold opB;split<;>simp
    simp only [List.length_cons,List.length_nil] at hln
    refine r_cat (by simp [kLane];omega) ?_
    have F9:=F6.trans H9.F
    refine r_appL (x:=laneL z) (es:=[Tx (laneL z)]) Estr (HO6.fr0 H9.F) (λ _ _=>rfl) (by rw [List.length_append,List.length_map,List.length_take];simp only [big];omega) F9.size (λ u' w11 g1 g2 g3=>?_)
    refine r_ar (by dsimp only;omega) ?_
    refine r_ag (s:=(j,u)) (j+1,u') ⟨by dsimp only;omega,?_,F9.trans_new g2 (λ q hq=>.inr (HO6.lt q hq).1),(B9.fr0 H9.F).fr g2 n9,?_⟩ (by dsimp only;omega) rfl
    ·dsimp only
     rw [take_map_s laneL hz,← List.append_assoc]
     exact g1
    ·intro hq
     rcases g3 _ hq with h' | h'
     ·exact n9 h'
     ·have:=(B9.fr0 H9.F).lt
      omega
   dsimp only at h2
   obtain rfl:j=x.lanes.length:=by omega
   rw [List.take_length] at HO6
   clear hj1 h2 g1
   refine r_brk ?_
   obtain ⟨pre2,hpre2⟩:∃ pre2,pre2=pre++x.lanes.map laneL:=⟨_,rfl⟩
   have hpl2:pre2.length≤2016:=by rw [hpre2,List.length_append,List.length_map];omega
   rw [← hpre2] at HO6
   refine r_ld (B9.cell rfl) ?_
   refine r_loop (λ (s:Nat × Value)=>[I (s.1:Int),s.2]) (λ s w'=>s.1≤x.receivers.length∧Or rT 9 w.heap.size [] w' s.2 (pre2++(x.receivers.take s.1).map recL)∧Fr [] w w') (λ s=>x.receivers.length-s.1) (0,u) ⟨Nat.zero_le _,by simpa using HO6,F6⟩ rfl ?_
   rintro ⟨j,u⟩ w6 ⟨hj1,HO6,F6⟩
   dsimp only at hj1 HO6
   refine r_if (λ h2=>?_) (λ h2=>?_)
   ·dsimp only at h2
    obtain ⟨z,hz⟩:=gt (xs:=x.receivers) (j:=j) (by omega)
    obtain ⟨ad,es,rfl,rd,e3⟩:=(q2.2.2.up F6) j z hz
    obtain rfl:=e3
    have hz2:=x3 z (List.mem_of_getElem? hz)
    refine r_ob ⟨by dsimp only;omega,by dsimp only;omega⟩ ?_
    refine r_ldn rd ?_
    refine b_as (cs:=eReceiver z) (zs:=[I 0,B false]) (n:=2) (Bx.nil w6) Tryz.zeroValue147 Tryz.sizeOf147 (iReceiver z) (λ v11 w7 H=>?_)
    refine b_dr H (λ w7 H=>?_)
    refine b_ld H 0 rfl rfl ?_
    refine b_ld H 0 rfl rfl ?_
    refine r_new (v:=.slice (some ⟨w7.heap.size,0,none⟩) 1 1) (T:=3) (cs:=[I z.tenant]) (by kernel_rfl) (λ bb w8 hbb B3 f3=>?_)
    subst hbb
    have H8:=H.fr f3
    refine b_chk H8 0 rfl rfl ?_
    refine r_call (line_t kRec (sl_blk (l:=[z.tenant]) B3 (by simp [big])) (by simpa using hz2) (by simp) (by simp [kRec]) (G.up (F6.trans H8.F))) ?_
    rintro _ w9 ⟨rfl,f4⟩
    have H9:=H8.fr f4
    refine b_chk H9 0 rfl rfl ?_
    refine r_call (opens_t z.opens) ?_
    rintro _ w10 ⟨rfl,rfl⟩
    have hln:=nums_len [z.tenant] (by simpa using hz2)
    have hop:(opB z.opens).length≤6:=by unfold opB;split<;>simp
    simp only [List.length_cons,List.length_nil] at hln
    refine r_cat (by simp [kRec];omega) ?_
    have F9:=F6.trans H9.F
    refine r_appL (x:=recL z) (es:=[Tx (recL z)]) Estr (HO6.fr0 H9.F) (λ _ _=>rfl) (by rw [List.length_append,List.length_map,List.length_take];simp only [big];omega) F9.size (λ u' w11 g1 g2 g3=>?_)
    refine r_ar (by dsimp only;omega) ?_
    refine r_ag (s:=(j,u)) (j+1,u') ⟨by dsimp only;omega,?_,F9.trans_new g2 (λ q hq=>.inr (HO6.lt q hq).1)⟩ (by dsimp only;omega) rfl
    dsimp only
    rw [take_map_s recL hz,← List.append_assoc]
    exact g1
   dsimp only at h2
   obtain rfl:j=x.receivers.length:=by omega
   rw [List.take_length] at HO6
   refine r_brk ?_
   refine r_ar (by dsimp only;omega) ?_
   refine r_ag (s:=(i,v)) (i+1,u) ⟨by dsimp only;omega,?_,F6⟩ (by dsimp only;omega) rfl
   dsimp only
   rw [take_flat chL hx]
   have:lines1 c++((c.channels.take i).flatMap chL++chL x)=pre2++x.receivers.map recL:=by rw [hpre2,hpre];simp [chL]
   rw [this]
   exact HO6
  dsimp only at h
  obtain rfl:i=c.channels.length:=by omega
  rw [List.take_length] at HO
  refine r_brk ?_
  clear hi1 h
  have HO:Or rT 9 w.heap.size [] w1 v (lines2 c):=HO
  have l2:(lines2 c).length≤2000:=by
   have:=chs_len c.channels m5
   unfold lines2
   rw [List.length_append]
   omega
  refine r_ld ((hb.fr0 F).cell rfl) ?_
  refine r_loop (λ (s:Nat × Value)=>[I (s.1:Int),s.2]) (λ s w'=>s.1≤c.gates.length∧Or rT 9 w.heap.size [] w' s.2 (lines2 c++(c.gates.take s.1).map gateL)∧Fr [] w w') (λ s=>c.gates.length-s.1) (0,v) ⟨Nat.zero_le _,by simpa using HO,F⟩ rfl ?_
  rintro ⟨i,v⟩ w1 ⟨hi1,HO,F⟩
  dsimp only at hi1 HO
  refine r_if (λ h=>?_) (λ h=>?_)
  ·dsimp only at h
   obtain ⟨z,hz⟩:=gt (xs:=c.gates) (j:=i) (by omega)
   obtain ⟨ad,es,rfl,rd,e3⟩:=(k3.2.2.up F) i z hz
   obtain rfl:=e3
   have hz2:=hi.ga z (List.mem_of_getElem? hz)
   refine r_ob ⟨by dsimp only;omega,by dsimp only;omega⟩ ?_
   refine r_ldn rd ?_
   refine b_as (cs:=eGate z) (zs:=[I 0,I 0,I 0]) (n:=3) (Bx.nil w1) Tryz.zeroValue89 Tryz.sizeOf89 (iGate z) (λ v7 w2 H=>?_)
   refine b_ld H 0 rfl rfl ?_
   refine b_ld H 0 rfl rfl ?_
   refine b_ld H 0 rfl rfl ?_
   refine r_new (v:=.slice (some ⟨w2.heap.size,0,none⟩) 3 3) (T:=3) (cs:=[I z.frm,I z.til,I z.room]) (by kernel_rfl) (λ bb w3 hbb B3 f3=>?_)
   subst hbb
   refine r_call (line_t kGate (sl_blk (l:=[z.frm,z.til,z.room]) B3 (by simp [big])) (by simpa using hz2) (by simp) (by simp [kGate]) (G.up ((F.trans H.F).trans f3))) ?_
   rintro _ w4 ⟨rfl,f4⟩
   have F4:=((F.trans H.F).trans f3).trans f4
   refine r_appL (x:=gateL z) (es:=[Tx (gateL z)]) Estr (HO.fr0 ((H.F.trans f3).trans f4)) (λ _ _=>rfl) (by rw [List.length_append,List.length_map,List.length_take];simp only [big];omega) F4.size (λ v' w5 g1 g2 g3=>?_)
   refine r_ar (by dsimp only;omega) ?_
   refine r_ag (s:=(i,v)) (i+1,v') ⟨by dsimp only;omega,?_,F4.trans_new g2 (λ q hq=>.inr (HO.lt q hq).1)⟩ (by dsimp only;omega) rfl
   dsimp only
   rw [take_map_s gateL hz,← List.append_assoc]
   exact g1
  dsimp only at h
  obtain rfl:i=c.gates.length:=by omega
  rw [List.take_length] at HO
  refine r_brk ?_
  clear hi1 h
  have HO:Or rT 9 w.heap.size [] w1 v (lines3 c):=HO
  have l3:(lines3 c).length≤2016:=by unfold lines3;rw [List.length_append,List.length_map];omega
  refine r_dr (λ w2 f2=>?_)
  have F2:=F.trans f2
  have HO2:=HO.fr0 f2
  clear HO F f2
  have B2:=hb.fr0 F2
  refine r_ld (B2.cell rfl) ?_
  refine r_ld (B2.cell rfl) ?_
  refine r_ld (B2.cell rfl) ?_
  refine r_ld (B2.cell rfl) ?_
  have hl:=line_len hi hm
  have fin:∀ {w3:World},Or rT 9 w.heap.size [] w3 v (lines3 c)→Fr [] w w3→wp Tryz.prog Z (λ _ w'=>∃ V,J V (linesP c).length w'∨K V w') [] (tlL (.func (.yield L) #[] #[]) v (Tx (kFrame++nums c.frame)) (Tx (kBud++nums [c.budget,c.requests,c.pending]))) w3 nA nB:=
   λ H3 F3=>tlL_wp hl (by omega) RG H3 F3 h0
  have hb3:∀ n∈[c.budget,c.requests,c.pending],in64 n:=by simpa using hi.bu
  refine ⟨?_,?_⟩
  ·refine r_call (line_t kFrame ⟨A4,c4,rfl,k4.1,k4.2.1,k4.2.2.up F2⟩ hi.fr (by omega) (by simp [kFrame]) (G.up F2)) ?_
   rintro _ w3 ⟨rfl,f3⟩
   have B3:=B2.fr0 f3
   refine r_chk (B3.cell rfl) ?_
   refine r_chk (B3.cell rfl) ?_
   refine r_chk (B3.cell rfl) ?_
   refine r_new (v:=.slice (some ⟨w3.heap.size,0,none⟩) 3 3) (T:=3) (cs:=[I c.budget,I c.requests,I c.pending]) (by kernel_rfl) (λ bb w4 hbb B4 f4=>?_)
   subst hbb
   refine r_chk ((B3.fr0 f4).cell rfl) ?_
   refine r_call (line_t kBud (sl_blk (l:=[c.budget,c.requests,c.pending]) B4 (by simp [big])) hb3 (by simp) (by simp [kBud]) (G.up ((F2.trans f3).trans f4))) ?_
   rintro _ w5 ⟨rfl,f5⟩
   exact fin (((HO2.fr0 f3).fr0 f4).fr0 f5) (((F2.trans f3).trans f4).trans f5)
  ·refine r_new (v:=.slice (some ⟨w2.heap.size,0,none⟩) 3 3) (T:=3) (cs:=[I c.budget,I c.requests,I c.pending]) (by kernel_rfl) (λ bb w4 hbb B4 f4=>?_)
   subst hbb
   refine r_chk ((B2.fr0 f4).cell rfl) ?_
   refine r_call (line_t kFrame ⟨A4,c4,rfl,k4.1,k4.2.1,k4.2.2.up (F2.trans f4)⟩ hi.fr (by omega) (by simp [kFrame]) (G.up (F2.trans f4))) ?_
   rintro _ w3 ⟨rfl,f3⟩
   have B3:=(B2.fr0 f4).fr0 f3
   refine r_chk (B3.cell rfl) ?_
   refine r_chk (B3.cell rfl) ?_
   refine r_chk (B3.cell rfl) ?_
   refine r_call (line_t kBud (sl_blk (l:=[c.budget,c.requests,c.pending]) (B4.fr0 f3) (by simp [big])) hb3 (by simp) (by simp [kBud]) (G.up ((F2.trans f4).trans f3))) ?_
   rintro _ w5 ⟨rfl,f5⟩
   exact fin (((HO2.fr0 f4).fr0 f3).fr0 f5) (((F2.trans f4).trans f3).trans f5)
end
end Go.Proofs.YtppodgdhdddfkaaGreatDoor.Cg
set_option linter.unusedVariables false
set_option linter.unusedSimpArgs false
namespace Go.Proofs.YtppodgdhdddfkaaGreatDoor.Cg
open Go Go.RowKit Go.Proofs.YtppodgdhdddfkaaGreatDoor.Sx
open Go.Proofs.YtppodgdhdddfkaaGreatDoor.Bi (mixed take_s Has_t rHas_t Nw List_t)
open Go.Proofs.YtppodgdhdddfkaaGreatDoor.Cf
open Go.Proofs.YtppodgdhdddfkaaGreatDoor.Sg
def nlL (c:GConf):List Bs:=(linesP c).map (λ l=>l++[10])
def strP (c:GConf):Bs:=(nlL c).flatten
def textP (c:GConf):Bs × Int:=if manyP c=true then ([],3) else if 65536 < (strP c).length then ([],2) else (strP c,0)
theorem flat_len:∀ (ls:List Bs) (k:Nat),(∀ l∈ls,l.length≤k)→ls.flatten.length≤k * ls.length:=by
 intro ls k
 induction ls with
 | nil=>intro _;simp
 | cons l r ih =>
  intro h
  have h1:=h l (by simp)
  have h2:=ih (λ m hm=>h m (by simp [hm]))
  rw [List.flatten_cons,List.length_append,List.length_cons,Nat.mul_succ]
  omega
theorem lines_few {c:GConf} (hm:manyP c=false):(linesP c).length≤2018:=by
 obtain ⟨m0,m1,m2,m3,m4,m5⟩:=few hm
 have:=chs_len c.channels m5
 simp only [linesP,lines3,lines2,lines1,List.length_append,List.length_map,List.length_cons,List.length_nil]
 omega
section
variable {Z:ZP} {w:World}
theorem lines_t {cs:List Value} {c:GConf} (hc:rConf.r w cs c):Cz Tryz.prog 98 [.agg cs.toArray] w (λ r w'=>∃ b,r=.func (.func 143) [].toArray [Pt b 0].toArray∧Blk w' b 29 cs∧w.heap.size≤b∧Fr [] w w') Z:=by
 refine go mixed Tryz.func98 Tryz.call98 rfl (Tr.e98 _) ?_
 exact r_box (λ b w' hb B f=>r_ret ⟨b,rfl,B,by omega,f⟩)
theorem Text_t {cs:List Value} {c:GConf} (hc:rConf.r w cs c) (hi:In64 c) (G:GW w):Cz Tryz.prog 59 [.agg cs.toArray] w (λ r w'=>r=.tuple #[Tx (textP c).1,I (textP c).2]∧Fr [] w w') Z:=by
 have hlc:=rConf.len hc
 refine go mixed Tryz.func59 Tryz.call59 rfl (Tr.e59 _) ?_
 refine b_box (Bx.nil w) (λ v1 w1 H=>?_)
 refine b_ldn H 0 rfl ?_ hlc
 refine b_call (v:=.bool (manyP c)) H (many_t (rConf.up H.F hc)) (λ w2 H=>?_)
 refine r_ifb (λ hm=>b_ret H (λ F=>⟨by simp [textP,hm],F⟩)) (λ hm=>?_)
 refine b_al (zs:=[.pointer none,.slice none 0 0]) H Tryz.zeroValue111 (λ v4 w3 H=>?_)
 refine b_ldn H 1 rfl ?_ hlc
 refine r_call (lines_t (rConf.up H.F hc)) ?_
 rintro _ w4 ⟨b,rfl,Bb,hble,f4⟩
 have hbne:b≠v4:=by have:=(H.blk (i:=0) rfl).lt;omega
 have hvb:v4≠b:=hbne.symm
 have H:=H.fr f4
 have hl:=line_len hi hm
 have hfew:=lines_few hm
 have hnl:∀ l∈nlL c,l.length≤2001:=λ l h=>by
  obtain ⟨z,hz,rfl⟩:=List.mem_map.1 h
  have:=hl z hz
  simp;omega
 have hnl2:(nlL c).length=(linesP c).length:=by unfold nlL;rw [List.length_map]
 have hv4:=H.ge (i:=0) rfl
 have hv4l:=(H.blk (i:=0) rfl).lt
 refine r_rf (StL (nlL c)) (λ n bs W=>∃ v,Bd w.heap.size W v4 v ((nlL c).take n).flatten∧bs=v4 :: v.ownBlock.toList∧Fr [v4] w4 W∧∀ q∈v.ownBlock.toList,w4.heap.size≤q) (λ _ _ _=>False) 0 (linesP c).length [v4] Tryz.call143 ?_ ?_ ?_ ?_ ?_ ?_ ?_ ?_ ?_
 ·exact ⟨.slice none 0 0,Bd.new (H.blk (i:=0) rfl) hv4,rfl,(Fr.refl [] w4).of0,by simp [Value.ownBlock]⟩
 ·rintro n bs W W' S ⟨v,h1,rfl,h3,h4⟩ f hS
  exact ⟨v,h1.st f (λ hq=>(hS v4 hq).1 (by simp)) (λ q hq hv=>(hS q hq).1 (List.mem_cons_of_mem _ hv)),rfl,h3.trans_new f (λ q hq=>.inr (hS q hq).2),h4⟩
 ·intro j bs W W' S h;exact h.elim
 ·rintro n bs W ⟨v,h1,rfl,h3,h4⟩
  refine ⟨λ q hq=>?_,h3.size⟩
  rcases List.mem_cons.1 hq with rfl | hq
  ·obtain ⟨_,_,hb⟩:=h1.bl;exact hb.lt
  ·exact (own_lt h1.ow q hq).2
 ·intro j bs W h;exact h.elim
 ·rintro L a0 b0 n n' xs bs W hLb hwL hLW ⟨v,h1,rfl,h3,h4⟩ hLa ⟨z,hz,rfl,rfl⟩
  refine ⟨rfl,?_⟩
  refine r_rb hLa (λ w7 f7 hL7=>?_)
  have h17:=h1.st f7 (λ hq=>hLb (by simp at hq;simp [hq])) (λ q hq hv=>hLb (by simp at hq;subst hq;simp [hv]))
  have hn:n < (nlL c).length:=(List.getElem?_eq_some_iff.1 hz).1
  have hz2:=hnl z (List.mem_of_getElem? hz)
  have hfl:=flat_len ((nlL c).take n) 2001 (λ l h=>hnl l (List.mem_of_mem_take h))
  rw [List.length_take] at hfl
  have hmn:min n (nlL c).length≤2018:=by omega
  have hmn2:=Nat.mul_le_mul_left 2001 hmn
  have hbase:w.heap.size≤w7.heap.size:=by have:=H.F.size;have:=h3.size;have:=f7.size;omega
  refine r_call (WriteString_t h17 z (by simp only [big];omega) hbase) ?_
  rintro _ w8 ⟨rfl,v',h18,f8,hq8⟩
  have hL8:w8.heap[L]? = some b0:=(f8.keep L (Array.getElem?_eq_some_iff.1 hL7).1 (λ hq=>hLb hq)).trans hL7
  refine ⟨⟨v4 :: v'.ownBlock.toList,⟨v',?_,rfl,?_,λ q hq=>?_⟩,λ q hq=>?_⟩,?_,hL8⟩
  ·rw [take_s hz,List.flatten_append];simpa using h18
  ·refine (h3.trans_new f7 (λ q hq=>.inr (by simp at hq;omega))).trans_new f8 (λ q hq=>?_)
   rcases List.mem_cons.1 hq with rfl | hq
   ·exact .inl (by simp)
   ·exact .inr (h4 q hq)
  ·rcases hq8 q hq with h | h
   ·exact h4 q h
   ·have:=h3.size;have:=f7.size;omega
  ·rcases List.mem_cons.1 hq with rfl | hq
   ·exact .inl (by simp)
   ·rcases hq8 q hq with h | h
    ·exact .inl (List.mem_cons_of_mem _ h)
    ·exact .inr (Nat.le_trans f7.size h)
  ·exact (f7.mono (by simp)).trans (f8.mono (λ q hq=>List.mem_cons_of_mem _ hq))
 ·intro L D J K w1' RG hJ h0
  obtain ⟨bs,v,h1,_,h3,h4⟩:=hJ _ _ _ h0
  have F1:=H.F.trans_new h3 (λ q hq=>.inr (by simp at hq;omega))
  have h:=lines1_it (Z:=ZD [D] Z) (rConf.up F1 hc) hi (G.up F1) hm RG (Bb.fr h3 (by simpa using Ne.symm hvb)) h0
  exact h
 ·rintro D bs W ⟨v,h1,rfl,h3,h4⟩ hDb hwD hD
  have F1:=H.F.trans_new h3 (λ q hq=>.inr (by simp at hq;omega))
  rw [show (nlL c).take (linesP c).length=nlL c by rw [← hnl2,List.take_length]] at h1
  have e:(strP c).length=(nlL c).flatten.length:=rfl
  refine r_call (Len_t h1) ?_
  rintro _ w5 ⟨rfl,rfl⟩
  refine r_if (λ h=>?_) (λ h=>?_)
  ·refine r_ret1 hD (λ w' f=>⟨?_,F1.trans_new f (λ q hq=>.inr (by simp at hq;omega))⟩)
   have h':65536 < (strP c).length:=by omega
   simp [textP,hm,h']
  ·refine r_call (String_t h1) ?_
   rintro _ w6 ⟨rfl,f6⟩
   have hDv:D∉v.ownBlock.toList:=λ hq=>hDb (List.mem_cons_of_mem _ hq)
   refine r_ret1 (dkeep hD f6 hDv) (λ w' f=>⟨?_,(F1.trans_new f6 (λ q hq=>.inr (by have:=h4 q hq;have:=H.F.size;omega))).trans_new f (λ q hq=>.inr (by simp at hq;omega))⟩)
   have h':¬ 65536 < (strP c).length:=by omega
   have e2:textP c=(strP c,0):=by unfold textP;rw [hm,if_neg (by simp),if_neg h']
   rw [e2]
   rfl
 ·intro D bs W j h;exact h.elim
end
end Go.Proofs.YtppodgdhdddfkaaGreatDoor.Cg
set_option linter.unusedVariables false
set_option linter.unusedSimpArgs false
namespace Go.Proofs.YtppodgdhdddfkaaGreatDoor.Cg
open Go Go.RowKit Go.Proofs.YtppodgdhdddfkaaGreatDoor.Sx
open Go.Proofs.YtppodgdhdddfkaaGreatDoor.Bi (mixed take_s Has_t rHas_t Nw List_t one_t)
open Go.Proofs.YtppodgdhdddfkaaGreatDoor.Cf
open Go.Proofs.YtppodgdhdddfkaaGreatDoor.Sg
def badE:PanicEntry:={ v:=.iface 169 (.agg #[]),recovered:=false }
def ZB (p:Prop) (S:List Nat) (w:World):ZP:=λ cs w'=>p∧cs=[badE]∧Fr S w w'
def atoiP (a:Bs):Option Int:=match Lib.atoiAll a with | .ok v=>some v | _=>none
section
variable {P:Program} {Z:ZP} {R:Value→World→Prop} {w:World} {A:List Nat→List Value→World→Prop} {B:List Nat→Nat→List Value→World→Prop} {ds:List Nat} {k:Value→T} {t:T}
theorem r_panb (h:ZD ds Z [badE] w):wp P Z R ds (.pan (Instr.panic (.iface 169 (.agg #[])))) w A B:=⟨_,rfl,h⟩
theorem r_callZ {f:Nat} {vs:List Value} {Q:Value→World→Prop} {Y:ZP} (h:Cz P f vs w Q Y) (hk:∀ v w',Q v w'→wp P Z R ds (k v) w' A B) (hz:∀ c w',Y c w'→ZD ds Z c w'):wp P Z R ds (.call f vs k) w A B:=
 ⟨h.1,h.2.mono λ e w' he=>by cases e with
  | returned v=>exact hk v w' he
  | panicked c=>exact hz c w' he
  | outgrown=>exact he⟩
theorem r_nnil {ty:Nat} {x:Operand} (c:Value) (hu:P.underlying ty=some (.interface (P.methodsAt ty))) (hk:wp P Z R ds (k (.bool false)) w A B):wp P Z R ds (.pu (do eqGuard .neq ty x (.const c) .nilIface .nilIface;binOp .neq ty .nilIface .nilIface) k) w A B:=by
 refine r_pus (λ w'=>?_) hk
 rw [eqGuard_nil_constR]
 simp only [Sem.run_bind,Sem.run_pure,Result.andThen_ok]
 exact run_neq_nil_nil w' ty hu
theorem r_nheld {ty u:Nat} {x y:Operand} {v:Value} (hu:P.underlying ty=some (.interface (P.methodsAt ty))) (hk:wp P Z R ds (k (.bool true)) w A B):wp P Z R ds (.pu (do eqGuard .neq ty x y (.iface u v) .nilIface;binOp .neq ty (.iface u v) .nilIface) k) w A B:=by
 refine r_pus (λ w'=>?_) hk
 have e0:(eqGuard .neq ty x y (.iface u v) .nilIface).run P w'=.ok () w':=by unfold eqGuard;rfl
 simp only [Sem.run_bind,e0,Result.andThen_ok]
 exact run_neq_held_nil w' ty u v hu
end
section
variable {w:World}
theorem number_t (a:Bs) (hl:a.length≤100000) (G:GW w):Cz Tryz.prog 182 [Tx a] w (λ r w'=>∃ v,atoiP a=some v∧r=I v∧Fr [] w w') (ZB (atoiP a=none) [] w):=by
 refine go mixed Tryz.func182 Tryz.call182 rfl (Tr.e182 _) ?_
 refine r_call (Atoi_t a (by omega) G.e) ?_
 rintro _ w1 ⟨F,⟨v,hv,rfl⟩ | ⟨hv,z,t,p,rfl⟩⟩
 ·refine r_nnil _ (by kernel_rfl) ?_
  exact r_ret ⟨v,by unfold atoiP;rw [hv],rfl,F⟩
 ·refine r_nheld (by kernel_rfl) ?_
  refine r_panb ⟨?_,rfl,F⟩
  unfold atoiP
  split
  ·rename_i v h;exact absurd h (hv v)
  ·rfl
def kinds:Bs:=[32,102,108,111,119,115,32,116,101,110,97,110,116,32,99,104,97,110,110,101,108,32,108,97,110,101,32,114,101,99,101,105,118,101,114,32,103,97,116,101,32,102,114,97,109,101,32,98,117,100,103,101,116,32]
def rankI (a:Bs):Int:=if Lib.index kinds ([32]++a++[32]) < 0 then 0 else if a=[] then 0 else ((kinds.take (Lib.index kinds ([32]++a++[32])+1).toNat).count 32:Nat)
theorem idx_fit:∀ (s p:Bs),Lib.index s p = -1∨(0≤Lib.index s p∧Lib.index s p+p.length≤s.length):=by
 intro s p
 induction s with
 | nil =>
  unfold Lib.index
  cases p with
  | nil=>right;simp
  | cons b r=>left;rfl
 | cons b l ih =>
  unfold Lib.index
  split
  ·rename_i h
   right
   have:=(List.isPrefixOf_iff_prefix.1 h).length_le
   omega
  ·rcases ih with h | ⟨h,h2⟩
   ·left;rw [h];rfl
   ·right
    have hne:¬ (Lib.index l p == -1)=true:=λ e=>by have:=eq_of_beq e;omega
    rw [if_neg hne,List.length_cons]
    omega
variable {Z:ZP}
theorem rank_t (a:Bs) (hl:a.length≤100000) (G:GW w):Cz Tryz.prog 154 [Tx a] w (λ r w'=>r=I (rankI a)∧w'=w) Z:=by
 refine go mixed Tryz.func154 Tryz.call154 rfl (Tr.e154 _) ?_
 refine r_cat (a:=[32]) (by simp;omega) ?_
 refine r_cat (b:=[32]) (by simp;omega) ?_
 refine r_call (Sg.Index_t kinds ([32]++a++[32]) (by decide) G.m) ?_
 rintro _ w1 ⟨rfl,rfl⟩
 have h1:=idx_fit kinds ([32]++a++[32])
 have hpl:([32]++a++[32]).length=a.length+2:=by simp
 have hk:kinds.length=54:=rfl
 refine r_if (λ h=>?_) (λ h=>?_)
 ·exact r_ret ⟨by unfold rankI;rw [if_pos h],rfl⟩
 ·refine r_teq (b:=[]) ?_
  refine r_if (λ h2=>?_) (λ h2=>?_)
  ·exact r_ret ⟨by unfold rankI;rw [if_neg h,if_pos h2],rfl⟩
  ·refine r_ar (by omega) ?_
   refine r_tslh (a:=kinds) Tryz.underlying9 (Lib.index kinds ([32]++a++[32])+1).toNat (by omega) (by omega) ?_
   refine r_call (Count1_t _ 32) ?_
   rintro _ w2 ⟨rfl,rfl⟩
   exact r_ret ⟨by unfold rankI;rw [if_neg h,if_neg h2],rfl⟩
def followsI (was n:Int):Bool:=if n=0 then false else if n=4 then decide (was=3∨was=4) else if n=5 then decide (3≤was∧was≤5) else if n=3 then decide (was≤5) else if n=7 then decide (was < 7) else if n=8 then decide (was=7) else decide (was≤n)
theorem follows_t {p T0:Nat} {cs:List Value} {was:Int} (h:Blk w p T0 cs) (h8:cs[8]? = some (I was)) (n:Int):Cz Tryz.prog 155 [Pt p 0,I n] w (λ r w'=>r=.bool (followsI was n)∧w'=w) Z:=by
 refine go mixed Tryz.func155 Tryz.call155 rfl (Tr.e155 _ _) ?_
 have hc:=h.cell h8
 refine r_if (λ e=>r_ret ⟨by unfold followsI;rw [if_pos e],rfl⟩) (λ e0=>?_)
 refine r_if (λ e=>?_) (λ e4=>?_)
 ·refine r_ld hc ?_
  refine r_if (λ h3=>r_ret ⟨by unfold followsI;rw [if_neg e0,if_pos e];simp [h3],rfl⟩) (λ h3=>?_)
  refine r_ld hc ?_
  exact r_ret ⟨by unfold followsI;rw [if_neg e0,if_pos e];simp [h3],rfl⟩
 refine r_if (λ e=>?_) (λ e5=>?_)
 ·refine r_ld hc ?_
  refine r_if (λ h3=>?_) (λ h3=>r_ret ⟨by unfold followsI;rw [if_neg e0,if_neg e4,if_pos e];simp;omega,rfl⟩)
  refine r_ld hc ?_
  exact r_ret ⟨by unfold followsI;rw [if_neg e0,if_neg e4,if_pos e];simp [h3],rfl⟩
 refine r_if (λ e=>?_) (λ e3=>?_)
 ·refine r_ld hc ?_
  exact r_ret ⟨by unfold followsI;rw [if_neg e0,if_neg e4,if_neg e5,if_pos e],rfl⟩
 refine r_if (λ e=>?_) (λ e7=>?_)
 ·refine r_ld hc ?_
  exact r_ret ⟨by unfold followsI;rw [if_neg e0,if_neg e4,if_neg e5,if_neg e3,if_pos e],rfl⟩
 refine r_if (λ e=>?_) (λ e8=>?_)
 ·refine r_ld hc ?_
  exact r_ret ⟨by unfold followsI;rw [if_neg e0,if_neg e4,if_neg e5,if_neg e3,if_neg e7,if_pos e],rfl⟩
 refine r_ld hc ?_
 exact r_ret ⟨by unfold followsI;rw [if_neg e0,if_neg e4,if_neg e5,if_neg e3,if_neg e7,if_neg e8],rfl⟩
def numsP:List Bs→Option (List Int)
 | []=>some []
 | a :: r=>match atoiP a,numsP r with | some v,some l=>some (v :: l) | _,_=>none
theorem numsP_none {ls:List Bs} {i:Nat} {a:Bs} (h:ls[i]? = some a) (ha:atoiP a=none):numsP ls=none:=by
 induction ls generalizing i with
 | nil=>simp at h
 | cons b r ih =>
  unfold numsP
  cases i with
  | zero=>simp at h;subst h;rw [ha]
  | succ i=>rw [ih (i:=i) (by simpa using h)];cases atoiP b<;>rfl
theorem numsP_take {ls:List Bs} {i:Nat} {a:Bs} {v:Int} {l:List Int} (h:ls[i]? = some a) (ha:atoiP a=some v) (hl:numsP (ls.take i)=some l):numsP (ls.take (i+1))=some (l++[v]):=by
 induction ls generalizing i l with
 | nil=>simp at h
 | cons b r ih =>
  cases i with
  | zero =>
   simp at h;subst h
   simp [numsP] at hl;subst hl
   simp [numsP,ha]
  | succ i =>
   simp only [List.take_succ_cons,numsP] at hl ⊢
   cases hb:atoiP b with
   | none=>rw [hb] at hl;simp at hl
   | some vb =>
    cases hr:numsP (r.take i) with
    | none=>rw [hb,hr] at hl;simp at hl
    | some lr =>
     rw [hb,hr] at hl
     simp at hl;subst hl
     rw [ih (i:=i) (by simpa using h) hr]
     rfl
theorem numbers_t {v:Value} {ls:List Bs} (hv:Sl rT w v ls) (n:Nat) (hl:ls.length≤100000) (hw:∀ a∈ls,a.length≤100000) (G:GW w):Cz Tryz.prog 156 [v,I n] w
  (λ r w'=>∃ l,n≤ls.length∧numsP ls=some l∧Or (rI .i64) 3 w.heap.size [] w' r l∧Fr [] w w') (ZB (ls.length < n∨numsP ls=none) [] w):=by
 obtain ⟨X,c,rfl,hc,_,hr⟩:=hv
 refine go mixed Tryz.func156 Tryz.call156 rfl (Tr.e156 _ _) ?_
 refine r_if (λ h=>?_) (λ h=>?_)
 ·exact r_panb ⟨.inl (by omega),rfl,Fr.refl _ _⟩
 refine r_loop (λ (s:Nat × Value × List Int)=>[I (s.1:Int),s.2.1]) (λ s w'=>s.1≤ls.length∧numsP (ls.take s.1)=some s.2.2∧s.2.2.length≤s.1∧Or (rI .i64) 3 w.heap.size [] w' s.2.1 s.2.2∧Fr [] w w') (λ s=>ls.length-s.1) (0,.slice none 0 0,[]) ⟨Nat.zero_le _,rfl,Nat.le_refl _,Or.nil,Fr.refl _ _⟩ rfl ?_
 rintro ⟨i,u,l⟩ w1 ⟨hi,hp,hll,HO,F⟩
 dsimp only at hi hp hll HO
 refine r_if (λ h2=>?_) (λ h2=>?_)
 ·dsimp only at h2
  obtain ⟨z,hz⟩:=gt (xs:=ls) (j:=i) (by omega)
  obtain ⟨ad,es,rfl,rd,e3⟩:=(hr.up F) i z hz
  obtain rfl:=e3
  refine r_ob ⟨by dsimp only;omega,by dsimp only;omega⟩ ?_
  refine r_ld (cell1 rd) ?_
  refine r_callZ (number_t z (hw z (List.mem_of_getElem? hz)) (G.up F)) ?_ ?_
  ·rintro _ w2 ⟨x,hx,rfl,f2⟩
   refine r_appL (x:=x) (es:=[I x]) Bi.Eint (HO.fr0 f2) (λ _ _=>rfl) (by simp only [big];omega) (F.trans f2).size (λ u' w3 g1 g2 g3=>?_)
   refine r_ar (by dsimp only;omega) ?_
   refine r_ag (s:=(i,u,l)) (i+1,u',l++[x]) ⟨by dsimp only;omega,numsP_take hz hx hp,by simp;omega,g1,(F.trans f2).trans_new g2 (λ q hq=>.inr (HO.lt q hq).1)⟩ (by dsimp only;omega) rfl
  ·rintro cs w2 ⟨hx,rfl,f2⟩
   exact ⟨.inr (numsP_none hz hx),rfl,F.trans f2⟩
 ·dsimp only at h2
  obtain rfl:i=ls.length:=by omega
  rw [List.take_length] at hp
  exact r_brk (r_ret ⟨l,by omega,hp,HO,F⟩)
end
end Go.Proofs.YtppodgdhdddfkaaGreatDoor.Cg
set_option linter.unusedVariables false
set_option linter.unusedSimpArgs false
namespace Go.Proofs.YtppodgdhdddfkaaGreatDoor.Cg
open Go Go.RowKit Go.Proofs.YtppodgdhdddfkaaGreatDoor.Sx
open Go.Proofs.YtppodgdhdddfkaaGreatDoor.Bi (mixed take_s Has_t rHas_t Nw List_t one_t)
open Go.Proofs.YtppodgdhdddfkaaGreatDoor.Cf
open Go.Proofs.YtppodgdhdddfkaaGreatDoor.Sg
def okB (l:List Int):Bool:=l.all (λ n=>decide (0≤n∧n < 64))
def ofB (l:List Int):BitVec 64:=l.foldl (λ s n=>s ||| ((1#64) <<< n.toNat)) 0#64
section
variable {Z:ZP} {w:World}
theorem Of_t {v:Value} {l:List Int} (hv:Sl (rI .i64) w v l) (hb:l.length≤100000):Cz Tryz.prog 157 [v] w (λ r w'=>r=.tuple #[U (if okB l=true then ofB l else 0#64),I (if okB l=true then 0 else 10)]∧Fr [] w w') Z:=by
 obtain ⟨X,c,rfl,hc,_,hr⟩:=hv
 refine go mixed Tryz.func157 Tryz.call157 rfl (Tr.e157 _) ?_
 have bad:∀ {i:Nat} {z:Int},l[i]? = some z → ¬ (0≤z∧z < 64) → ¬ okB l=true:=λ hz hn h=>hn (by simpa using List.all_eq_true.1 h _ (List.mem_of_getElem? hz))
 refine r_loop (λ (i:Nat)=>[I (i:Int),U (ofB (l.take i)),I 0,U 0#64]) (λ i w'=>i≤l.length∧(∀ j z,j < i→l[j]? = some z→0≤z∧z < 64)∧Fr [] w w') (λ i=>l.length-i) 0 ⟨Nat.zero_le _,λ _ _ h=>by omega,Fr.refl _ _⟩ rfl ?_
 rintro i w1 ⟨hi,hok,F⟩
 refine r_if (λ h=>?_) (λ h=>?_)
 ·obtain ⟨z,hz⟩:=gt (xs:=l) (j:=i) (by omega)
  obtain ⟨ad,es,rfl,rd,e3⟩:=(hr.up F) i z hz
  obtain rfl:=e3
  refine r_ob ⟨by omega,by omega⟩ ?_
  refine r_ld (cell1 rd) ?_
  refine r_if (λ h1=>?_) (λ h1=>?_)
  ·have:=bad hz (by omega)
   exact r_ret ⟨by rw [if_neg this,if_neg this];rfl,F⟩
  refine r_if (λ h2=>?_) (λ h2=>?_)
  ·have:=bad hz (by omega)
   exact r_ret ⟨by rw [if_neg this,if_neg this];rfl,F⟩
  obtain ⟨m,rfl⟩:∃ m:Nat,z=m:=⟨z.toNat,by omega⟩
  refine r_call (one_t (i:=m) (by omega)) ?_
  rintro _ w2 ⟨rfl,rfl⟩
  refine r_or ?_
  refine r_ar (by omega) ?_
  refine r_ag (i+1) ⟨by omega,λ j z' hj hz'=>?_,F⟩ (by omega) ?_
  ·rcases Nat.lt_or_ge j i with h' | h'
   ·exact hok j z' h' hz'
   ·obtain rfl:j=i:=by omega
    rw [hz] at hz';cases hz';omega
  ·have e:ofB (l.take (i+1))=ofB (l.take i) ||| ((1#64) <<< m):=by
    unfold ofB
    rw [take_s hz,List.foldl_append]
    rfl
   rw [e]
   rfl
 ·have:i=l.length:=by omega
  subst this
  have hall:okB l=true:=List.all_eq_true.2 (λ z hz=>by
   obtain ⟨j,hj⟩:=List.getElem?_of_mem hz
   have:=hok j z (List.getElem?_eq_some_iff.1 hj).1 hj
   simpa using this)
  refine r_brk (r_ret ⟨?_,F⟩)
  rw [if_pos hall,if_pos hall]
  show Value.tuple [U (ofB (l.take l.length)),I 0].toArray=_
  rw [List.take_length]
def linesOf (a:Bs):List Bs:=match a with
 | []=>[]
 | b :: r=>let i:=Lib.indexByte (b :: r) 10
  if 0≤i then ((b :: r).take (i.toNat+1)) :: linesOf ((b :: r).drop (i.toNat+1)) else [b :: r]
termination_by a.length
decreasing_by simp;omega
theorem ib_fit:∀ (s:Bs) (c:UInt8),Lib.indexByte s c = -1∨(0≤Lib.indexByte s c∧Lib.indexByte s c < s.length):=by
 intro s c
 induction s with
 | nil=>left;rfl
 | cons b l ih =>
  unfold Lib.indexByte
  split
  ·right;simp
  ·rcases ih with h | ⟨h,h2⟩
   ·left;rw [h];rfl
   ·right
    have hne:¬ (Lib.indexByte l c == -1)=true:=λ e=>by have:=eq_of_beq e;omega
    rw [if_neg hne,List.length_cons]
    omega
theorem Lines_t (a:Bs):Cz Tryz.prog 33 [Tx a] w (λ r w'=>∃ b,r=.func (.func 72) [].toArray [Pt b 0].toArray∧Blk w' b 9 [Tx a]∧b=w.heap.size∧Fr [] w w') Z:=by
 refine go mixed Tryz.func33 Tryz.call33 rfl (Tr.e33 _) ?_
 exact r_box (λ b w' hb B f=>r_ret ⟨b,rfl,B,hb,f⟩)
theorem linesOf_ne {a:Bs} (h:a≠[]):linesOf a=if 0≤Lib.indexByte a 10 then a.take ((Lib.indexByte a 10).toNat+1) :: linesOf (a.drop ((Lib.indexByte a 10).toNat+1)) else [a]:=by
 cases a with
 | nil=>exact absurd rfl h
 | cons b r=>rw [linesOf]
theorem Lines1_it {a:Bs} {b:Nat} {L:Nat} {J:List Nat→Nat→World→Prop} {K:List Nat→World→Prop} (RG:Rg Tryz.prog L (StL (linesOf a)) J K) (hb:Blk w b 9 [Tx a]) (ha:a.length≤9000000) (h0:J [b] 0 w) :
  Cz Tryz.prog 72 [.func (.yield L) #[] #[],Pt b 0] w (λ _ w'=>∃ V,J V (linesOf a).length w'∨K V w') Z:=by
 refine go mixed Tryz.func72 Tryz.call72 rfl (Tr.e72 _ _) ?_
 refine r_loop (λ (_:Nat × Bs)=>[]) (λ s W=>(linesOf a).drop s.1=linesOf s.2∧s.1≤(linesOf a).length∧s.2.length≤9000000∧Blk W b 9 [Tx s.2]∧J [b] s.1 W) (λ s=>s.2.length) (0,a) ⟨rfl,Nat.zero_le _,ha,hb,h0⟩ rfl ?_
 rintro ⟨n,r⟩ W ⟨hd,hnl,hrl,hB,hJ⟩
 dsimp only at hd hnl hrl hB hJ
 refine r_ld (hB.cell rfl) ?_
 refine r_tlen Tryz.underlying9 ?_
 refine r_if (λ h=>?_) (λ h=>?_)
 ·have hne:r≠[]:=by rintro rfl;simp at h
  have hl:=linesOf_ne hne
  have at0:∀ {x:Bs} {ls:List Bs},linesOf r=x :: ls→(linesOf a)[n]? = some x∧(linesOf a).drop (n+1)=ls:=λ e=>by
   rw [e] at hd
   refine ⟨?_,?_⟩
   ·have:=congrArg (λ l=>l[0]?) hd
    simpa using this
   ·rw [← List.drop_drop,hd];rfl
  refine r_ld (hB.cell rfl) ?_
  refine r_call (IndexByte_t r 10) ?_
  rintro _ w1 ⟨rfl,rfl⟩
  have hf:=ib_fit r 10
  refine r_if (λ h1=>?_) (λ h1=>?_)
  ·rw [if_pos h1] at hl
   obtain ⟨e1,e2⟩:=at0 hl
   refine r_dr (λ w2 f2=>?_)
   have hB2:=hB.fr0 f2
   have hJ2:=(RG.js n).1 _ _ _ hJ (f2.mono (by simp))
   refine r_ld (hB2.cell rfl) ?_
   refine r_ar (by omega) ?_
   refine r_tslh Tryz.underlying9 ((Lib.indexByte r 10).toNat+1) (by omega) (by omega) ?_
   refine r_ld (hB2.cell rfl) ?_
   refine r_ar (by omega) ?_
   refine r_tsll Tryz.underlying9 ((Lib.indexByte r 10).toNat+1) (by omega) (by omega) ?_
   refine r_st1 hB2 Tryz.sizeOf9 (λ w3 hB3 f3=>?_)
   have hJ3:=(RG.js n).1 _ _ _ hJ2 f3
   refine r_yld (RG.yd _ n (n+1) _ _ hJ3 (λ q hq=>by simp at hq;subst hq;exact hB3.lt) ⟨_,e1,rfl,rfl⟩) ?_
   rintro v w4 ⟨⟨rfl,hJ4⟩ | ⟨rfl,hK⟩,hsz,hkeep⟩
   ·refine r_ag (s:=(n,r)) (n+1,r.drop ((Lib.indexByte r 10).toNat+1)) ⟨e2,(List.getElem?_eq_some_iff.1 e1).1,by simp;omega,(hkeep b (by simp)).trans hB3,hJ4⟩ (by dsimp only;rw [List.length_drop];omega) rfl
   ·exact r_ret ⟨_,.inr hK⟩
  ·rw [if_neg h1] at hl
   obtain ⟨e1,e2⟩:=at0 hl
   refine r_ld (hB.cell rfl) ?_
   refine r_st1 hB Tryz.sizeOf9 (λ w3 hB3 f3=>?_)
   have hJ3:=(RG.js n).1 _ _ _ hJ f3
   refine r_yld (RG.yd _ n (n+1) _ _ hJ3 (λ q hq=>by simp at hq;subst hq;exact hB3.lt) ⟨_,e1,rfl,rfl⟩) ?_
   rintro v w4 ⟨⟨rfl,hJ4⟩ | ⟨rfl,hK⟩,hsz,hkeep⟩
   ·refine r_ag (s:=(n,r)) (n+1,[]) ⟨by rw [e2,linesOf],(List.getElem?_eq_some_iff.1 e1).1,by simp,(hkeep b (by simp)).trans hB3,hJ4⟩ (by dsimp only;simp;omega) rfl
   ·exact r_ret ⟨_,.inr hK⟩
 ·obtain rfl:r=[]:=by
   have:r.length=0:=by omega
   simpa using this
  rw [linesOf] at hd
  have:n=(linesOf a).length:=by
   have:=congrArg List.length hd
   rw [List.length_drop,List.length_nil] at this
   omega
  subst this
  exact r_brk (r_ret ⟨_,.inl hJ⟩)
end
end Go.Proofs.YtppodgdhdddfkaaGreatDoor.Cg
set_option linter.unusedVariables false
set_option linter.unusedSimpArgs false
namespace Go.Proofs.YtppodgdhdddfkaaGreatDoor.Cg
open Go Go.RowKit Go.Proofs Go.Proofs.YtppodgdhdddfkaaGreatDoor.Sx
set_option maxRecDepth 100000
theorem catch_idle (p:Addr) (w:World) :
  CallsD Tryz.prog 117 #[.pointer (some p)] .returning w λ e u' w'=>e=.returned (.tuple #[])∧u'=.returning∧w'=w:=by
 refine callsD_of_wpS Tryz.func117 rfl λ c₀ cs hu=>?_
 apply wpS_seq
 apply wpS_region
 simp [wpOpsS,go_sem,recoverD,hu,Tryz.ntmps117,Exit.thenS]
 apply wpS_seq
 apply wpS_region
 simp [wpOpsS,go_sem,recoverD,hu,Exit.thenS]
 refine wpS_cond (t:=false) (by simp [Act.eval,Array.replicate]) ?_
 simp only [Bool.false_eq_true,if_false]
 refine wpS_of_wp (wp_skip ?_)
 cases c₀
 simp_all [bodyPostS,results,Tryz.results117]
theorem hal (w:World):(Instr.alloc 169 true (.tuple #[])).run Tryz.prog w=.ok (.pointer (some ⟨w.heap.size,0,none⟩)) (w.alloc (.cells #[] 169)):=by kernel_rfl
theorem hst (w:World) (q:Nat):(Instr.storeAt 169 (.pointer (some ⟨q,0,none⟩)) (.agg #[])).run Tryz.prog w=.ok () w:=by kernel_rfl
theorem hta (w:World):(Instr.typeAssert (.iface 169 (.agg #[])) 20 169 true).run Tryz.prog w=.ok (.tuple #[.agg #[],.bool true]) w:=by kernel_rfl
theorem catch_bad (p:Addr) (x:Bool) (older:List PanicEntry) (w:World) (hc:w.cell? p=some (.bool x)) (hz:w.frozen? p=false) (hl:p.block < w.heap.size) :
  CallsD Tryz.prog 117 #[.pointer (some p)] (.panicking ({ v:=.iface 169 (.agg #[]),recovered:=false } :: older)) w λ e u' w' =>
   e=.returned (.tuple #[])∧u'=.panicking ({ v:=.iface 169 (.agg #[]),recovered:=true } :: older)∧w'=(w.alloc (.cells #[] 169)).setCell p (.bool false):=by
 have t20:Tryz.prog.underlying 20=some (.interface (Tryz.prog.methodsAt 20)):=by kernel_rfl
 have hn:=λ w=>run_neq_held_nil (P:=Tryz.prog) w 20 169 (.agg #[]) t20
 refine callsD_of_wpS Tryz.func117 rfl λ c₀ cs hu=>?_
 apply wpS_seq
 apply wpS_region
 simp [wpOpsS,go_sem,recoverD,hu,Tryz.ntmps117,Exit.thenS]
 apply wpS_seq
 apply wpS_region
 simp [wpOpsS,go_sem,recoverD,Exit.thenS,hn]
 refine wpS_cond (t:=true) (by simp [Act.eval,Array.replicate]) ?_
 simp only [if_true]
 apply wpS_seq
 apply wpS_seq
 apply wpS_region
 simp [wpOpsS,go_sem,recoverD,Exit.thenS,hal,hst,hta]
 apply wpS_seq
 apply wpS_region
 simp [wpOpsS,go_sem,recoverD,Exit.thenS]
 refine wpS_cond (t:=false) (by simp [Act.eval,Array.replicate]) ?_
 simp only [Bool.false_eq_true,if_false]
 refine wpS_of_wp (wp_skip ?_)
 have hc':(w.alloc (.cells #[] 169)).cell? p=some (.bool x):=by
  unfold World.cell? at hc ⊢
  rw [show (w.alloc (.cells #[] 169)).heap[p.block]? = w.heap[p.block]? from Go.RowKit.Below.heap_alloc _ _ _ hl]
  exact hc
 have hz':(w.alloc (.cells #[] 169)).frozen? p=false:=by
  unfold World.frozen? at hz ⊢
  rw [show (w.alloc (.cells #[] 169)).heap[p.block]? = w.heap[p.block]? from Go.RowKit.Below.heap_alloc _ _ _ hl]
  exact hz
 simp only [Exit.thenS]
 apply wpS_region
 simp [wpOpsS,go_sem,hc',hz',bodyPostS,results,Tryz.results117]
theorem takes_calls (r s:Value) (w:World) (Q Y:World→Prop)
  (h:Calls Tryz.prog 118 #[r,s] (w.alloc (.cells #[.bool false] 4)) λ e w'=>w.heap.size < w'.heap.size∧w'.heap[w.heap.size]? = some (.cells #[.bool false] 4 (0,0))∧((e=.returned (.tuple #[])∧Q w')∨(e=.panicked [badE]∧Y w'))) :
  Calls Tryz.prog 71 #[r,s] w λ e w2=>(e=.returned (.bool true)∧∃ w1,Q w1∧w2=w1.setCell ⟨w.heap.size,0,none⟩ (.bool true))∨(e=.returned (.bool false)∧∃ w1,Y w1∧w2=(w1.alloc (.cells #[] 169)).setCell ⟨w.heap.size,0,none⟩ (.bool false)):=by
 have hmf:∀ (fn:Fn) (first cap:Array Value) (w:World),(Instr.makeFunc fn first cap).run Tryz.prog w=.ok (.func fn first cap) w:=λ _ _ _ _=>rfl
 have h':Calls Tryz.prog 118 #[r,s] (w.alloc (.cells #[.bool false] 4)) λ e w'=>w.heap.size < w'.heap.size∧w'.cell? ⟨w.heap.size,0,none⟩=some (.bool false)∧w'.frozen? ⟨w.heap.size,0,none⟩=false∧((e=.returned (.tuple #[])∧Q w')∨(e=.panicked [badE]∧Y w')):=
  h.mono λ e w' ⟨h1,h2,h3⟩=>⟨h1,by simp [World.cell?,h2],by simp [World.frozen?,h2],h3⟩
 clear h
 go_enter_defers Tryz.func71,Tryz.ntmps71
 go_wp2_with (go_at_call 118;refine h'.mono ?_;rintro e w' ⟨hlt,hc,hz,⟨rfl,hq⟩ | ⟨rfl,hy⟩⟩)
 ·refine leaves_cons (f:=117) (args:=#[.pointer (some ⟨w.heap.size,0,none⟩)]) (by simp) (by simp [go_sem]) ?_
  refine (catch_idle ⟨w.heap.size,0,none⟩ _).mono ?_
  rintro e u' w'' ⟨rfl,rfl,rfl⟩
  have hc2:(w'.setCell ⟨w.heap.size,0,none⟩ (.bool true)).cell? ⟨w.heap.size,0,none⟩=some (.bool true):=World.cell?_setCell_same _ _ _ hc
  simp [Leaves,settle,results,Tryz.results71,go_sem,hc2]
  exact ⟨w',hq,rfl⟩
 ·refine leaves_cons (f:=117) (args:=#[.pointer (some ⟨w.heap.size,0,none⟩)]) (by simp) (by simp [go_sem]) ?_
  refine (catch_bad ⟨w.heap.size,0,none⟩ false [] _ hc hz hlt).mono ?_
  rintro e u' w'' ⟨rfl,rfl,rfl⟩
  have hc1:(w'.alloc (.cells #[] 169)).cell? ⟨w.heap.size,0,none⟩=some (.bool false):=by
   unfold World.cell? at hc ⊢
   rw [show (w'.alloc (.cells #[] 169)).heap[w.heap.size]? = w'.heap[w.heap.size]? from Go.RowKit.Below.heap_alloc _ _ _ hlt]
   exact hc
  have hc2:((w'.alloc (.cells #[] 169)).setCell ⟨w.heap.size,0,none⟩ (.bool false)).cell? ⟨w.heap.size,0,none⟩=some (.bool false):=World.cell?_setCell_same _ _ _ hc1
  simp [Leaves,settle,results,Tryz.results71,go_sem,hc2]
  exact ⟨w',hy,rfl⟩
end Go.Proofs.YtppodgdhdddfkaaGreatDoor.Cg
