import Derived.Test.YtppodgdhdddfkaaGreatDoorQMr
set_option linter.unusedVariables false
set_option linter.unusedSimpArgs false
namespace Go.Proofs.YtppodgdhdddfkaaGreatDoor.Cg
set_option maxRecDepth 100000
open Go Go.RowKit Go.Proofs.YtppodgdhdddfkaaGreatDoor.Sx
open Go.Proofs.YtppodgdhdddfkaaGreatDoor.Bi (mixed take_s rList_t)
open Go.Proofs.YtppodgdhdddfkaaGreatDoor.Cf
open Go.Proofs.YtppodgdhdddfkaaGreatDoor.Sg
section
variable {Z:ZP} {S:List Nat} {w0 w w1:World} {A:List Nat→List Value→World→Prop} {B:List Nat→Nat→List Value→World→Prop} {cs:List Value} {c:GConf} {v2 v4 ci:Nat} {k l:Bs} {ws:List Bs} {vw vk:Value} {ai:Addr} {o:Bool} {q:Option (GConf × Bs)}
theorem acs_wp (X:AX S w0 w cs v2 v4 k ws vw ai) (hc:CO S w0 cs c) (hm:manyP c=false) {is:Int} (hk:k=wordOf is) (h1:1≤is) (h8:is≤8) (hq:q=addQ is ws o c) (hv:vk=I ((c.channels.length:Int)-1)) (hch:is=4∨is=5→c.channels≠[]):wp Tryz.prog Z (AddR S w0 q l) [] (Ad.cs (Tx l) (Pt v2 0) (Pt v4 0) vw (.slice (some ai) (ws.map intP++[0,0,0]).length ci) vk (.bool o)) w A B:=by
 obtain ⟨Xw,cw,rfl,_,_,hr⟩:=X.W
 obtain ⟨aw,es,rfl,rd,e3⟩:=hr 0 k rfl
 obtain rfl:=e3
 refine r_ob ⟨by decide,by simp⟩ ?_
 refine r_ld (cell1 rd) ?_
 have h:is=1∨is=2∨is=3∨is=4∨is=5∨is=6∨is=7∨is=8:=by omega
 rcases h with rfl | rfl | rfl | rfl | rfl | rfl | rfl | rfl
 ·obtain rfl:k=kFlows:=hk
  refine r_teq (a:=kFlows) (b:=kFlows) ?_
  refine r_if (λ _=>?_) (λ e=>absurd rfl e)
  exact aflows_wp X hc hm hq
 ·obtain rfl:k=kTen:=hk
  refine r_teq (a:=kTen) (b:=kFlows) ?_
  refine r_if (λ e=>absurd e (by decide)) (λ _=>?_)
  refine r_teq (a:=kTen) (b:=kTen) ?_
  refine r_if (λ _=>?_) (λ e=>absurd rfl e)
  exact aten_wp X hc hm hq
 ·obtain rfl:k=kCh:=hk
  refine r_teq (a:=kCh) (b:=kFlows) ?_
  refine r_if (λ e=>absurd e (by decide)) (λ _=>?_)
  refine r_teq (a:=kCh) (b:=kTen) ?_
  refine r_if (λ e=>absurd e (by decide)) (λ _=>?_)
  refine r_teq (a:=kCh) (b:=kCh) ?_
  refine r_if (λ _=>?_) (λ e=>absurd rfl e)
  exact ach_wp X hc hm hq
 ·obtain rfl:k=kLane:=hk
  refine r_teq (a:=kLane) (b:=kFlows) ?_
  refine r_if (λ e=>absurd e (by decide)) (λ _=>?_)
  refine r_teq (a:=kLane) (b:=kTen) ?_
  refine r_if (λ e=>absurd e (by decide)) (λ _=>?_)
  refine r_teq (a:=kLane) (b:=kCh) ?_
  refine r_if (λ e=>absurd e (by decide)) (λ _=>?_)
  refine r_teq (a:=kLane) (b:=kLane) ?_
  refine r_if (λ _=>?_) (λ e=>absurd rfl e)
  obtain ⟨cs0,x,hcx⟩:∃ cs0 x,c.channels=cs0++[x]:=⟨_,_,(List.dropLast_concat_getLast (hch (by decide))).symm⟩
  have hvk:vk=I (cs0.length:Int):=by rw [hv,hcx,List.length_append];simp
  subst hvk
  exact alane_wp X hc hm hcx hq
 ·obtain rfl:k=kRec:=hk
  refine r_teq (a:=kRec) (b:=kFlows) ?_
  refine r_if (λ e=>absurd e (by decide)) (λ _=>?_)
  refine r_teq (a:=kRec) (b:=kTen) ?_
  refine r_if (λ e=>absurd e (by decide)) (λ _=>?_)
  refine r_teq (a:=kRec) (b:=kCh) ?_
  refine r_if (λ e=>absurd e (by decide)) (λ _=>?_)
  refine r_teq (a:=kRec) (b:=kLane) ?_
  refine r_if (λ e=>absurd e (by decide)) (λ _=>?_)
  refine r_teq (a:=kRec) (b:=kRec) ?_
  refine r_if (λ _=>?_) (λ e=>absurd rfl e)
  obtain ⟨cs0,x,hcx⟩:∃ cs0 x,c.channels=cs0++[x]:=⟨_,_,(List.dropLast_concat_getLast (hch (by decide))).symm⟩
  have hvk:vk=I (cs0.length:Int):=by rw [hv,hcx,List.length_append];simp
  subst hvk
  exact arecv_wp X hc hm hcx hq
 ·obtain rfl:k=kGate:=hk
  refine r_teq (a:=kGate) (b:=kFlows) ?_
  refine r_if (λ e=>absurd e (by decide)) (λ _=>?_)
  refine r_teq (a:=kGate) (b:=kTen) ?_
  refine r_if (λ e=>absurd e (by decide)) (λ _=>?_)
  refine r_teq (a:=kGate) (b:=kCh) ?_
  refine r_if (λ e=>absurd e (by decide)) (λ _=>?_)
  refine r_teq (a:=kGate) (b:=kLane) ?_
  refine r_if (λ e=>absurd e (by decide)) (λ _=>?_)
  refine r_teq (a:=kGate) (b:=kRec) ?_
  refine r_if (λ e=>absurd e (by decide)) (λ _=>?_)
  refine r_teq (a:=kGate) (b:=kGate) ?_
  refine r_if (λ _=>?_) (λ e=>absurd rfl e)
  exact agate_wp X hc hm hq
 ·obtain rfl:k=kFrame:=hk
  refine r_teq (a:=kFrame) (b:=kFlows) ?_
  refine r_if (λ e=>absurd e (by decide)) (λ _=>?_)
  refine r_teq (a:=kFrame) (b:=kTen) ?_
  refine r_if (λ e=>absurd e (by decide)) (λ _=>?_)
  refine r_teq (a:=kFrame) (b:=kCh) ?_
  refine r_if (λ e=>absurd e (by decide)) (λ _=>?_)
  refine r_teq (a:=kFrame) (b:=kLane) ?_
  refine r_if (λ e=>absurd e (by decide)) (λ _=>?_)
  refine r_teq (a:=kFrame) (b:=kRec) ?_
  refine r_if (λ e=>absurd e (by decide)) (λ _=>?_)
  refine r_teq (a:=kFrame) (b:=kGate) ?_
  refine r_if (λ e=>absurd e (by decide)) (λ _=>?_)
  refine r_teq (a:=kFrame) (b:=kFrame) ?_
  refine r_if (λ _=>?_) (λ e=>absurd rfl e)
  exact aframe_wp X hc hq
 ·obtain rfl:k=kBud:=hk
  refine r_teq (a:=kBud) (b:=kFlows) ?_
  refine r_if (λ e=>absurd e (by decide)) (λ _=>?_)
  refine r_teq (a:=kBud) (b:=kTen) ?_
  refine r_if (λ e=>absurd e (by decide)) (λ _=>?_)
  refine r_teq (a:=kBud) (b:=kCh) ?_
  refine r_if (λ e=>absurd e (by decide)) (λ _=>?_)
  refine r_teq (a:=kBud) (b:=kLane) ?_
  refine r_if (λ e=>absurd e (by decide)) (λ _=>?_)
  refine r_teq (a:=kBud) (b:=kRec) ?_
  refine r_if (λ e=>absurd e (by decide)) (λ _=>?_)
  refine r_teq (a:=kBud) (b:=kGate) ?_
  refine r_if (λ e=>absurd e (by decide)) (λ _=>?_)
  refine r_teq (a:=kBud) (b:=kFrame) ?_
  refine r_if (λ e=>absurd e (by decide)) (λ _=>?_)
  refine r_teq (a:=kBud) (b:=kBud) ?_
  refine r_if (λ _=>?_) (λ e=>absurd rfl e)
  exact abud_wp X hc hq
theorem intP_0:intP [48]=0:=by decide
theorem opn_last {k z:Bs} {ws:List Bs} (hz:(k :: ws)[ws.length]? = some z):(z=kOpens→decide (1 < ((k :: ws).length:Int))=opn ws)∧(z≠kOpens→false=opn ws):=by
 unfold opn
 cases ws with
 | nil=>exact ⟨λ _=>rfl,λ _=>rfl⟩
 | cons y r =>
  have hl:(y :: r).getLast? = some z:=by
   rw [List.getLast?_eq_getElem?]
   simpa using hz
  rw [hl]
  refine ⟨λ h=>?_,λ h=>?_⟩
  ·rw [decide_eq_true (by simp;omega),h];simp
  ·simp [h]
theorem add_t (hc:CO S w cs c) (hS:∀ q∈S,q < w.heap.size) (hm:manyP c=false) (l:Bs) (hl:l.length≤80000) {is:Int} (hsp:splitP 32 l=k :: ws) (hk:k=wordOf is) (h1:1≤is) (h8:is≤8) (hch:is=4∨is=5→c.channels≠[]):Cz Tryz.prog 81 [.agg cs.toArray,Tx l] w (AddR S w (addQ is ws (opn ws) c) l) Z:=by
 have hc0:=hc
 obtain ⟨A0,c0,A1,c1,A2,c2,A3,c3,A4,c4,rfl,k0,k1,k2,k3,k4⟩:=oConf hc.now
 obtain ⟨m0,m1,m2,m3,m4,m5⟩:=few hm
 obtain ⟨s1,s2⟩:=splitP_len 32 l
 rw [hsp] at s1 s2
 have s1:ws.length+1≤l.length+1:=s1
 refine go mixed Tryz.func81 Tryz.call81 rfl (Tr.e81 _ _) ?_
 refine r_box (cs:=[.slice A0 c.flows.length c0,.slice A1 c.tenants.length c1,.slice A2 c.channels.length c2,.slice A3 c.gates.length c3,.slice A4 c.frame.length c4,I c.budget,I c.requests,I c.pending]) (λ v2 w1 e2 B2 f1=>?_)
 refine r_al (zs:=zC) Tryz.zeroValue29 (λ v4 w2 e4 B4 f2=>?_)
 refine r_call (rsplit_t l 32 (by omega)) ?_
 rintro vw w3 ⟨HW,F3⟩
 rw [hsp] at HW
 have hbw:(k :: ws).length≤big:=by simp only [big,List.length_cons];omega
 have W3:=HW.row hbw
 obtain ⟨Xw,cw,rfl,hcw,_,hrw⟩:=W3
 refine r_bs0 (e:=rT) (S:=[]) Estr (λ v w4 HO f4 _=>?_)
 refine r_apps (xs:=k :: ws) Estr HO rfl (Rw.off hrw f4 (λ q hq=>(HO.lt q (by simpa using hq)).1)) (by simp only [big,List.length_cons,List.length_nil];omega) f4.size (λ v5 w5 H5 f5 g5=>?_)
 have G35:Fr [] w3 w5:=f4.trans_new f5 (λ q hq=>.inr (HO.lt q hq).1)
 refine r_new (v:=.slice (some ⟨w5.heap.size,0,none⟩) 3 3) (T:=9) (cs:=[Tx [48],Tx [48],Tx [48]]) (by kernel_rfl) (λ b6 w6 e6 B6 f6=>?_)
 rw [← e6]
 have hr6:Rw rT w6 (some ⟨b6,0,none⟩) [[48],[48],[48]]:=rw_blk (enc:=λ l=>[Tx l]) (l:=[[48],[48],[48]]) B6
 refine r_apps (xs:=[[48],[48],[48]]) Estr (H5.fr0 f6) rfl (λ j x hj=>let ⟨a,es,h1,h2,h3⟩:=hr6 j x hj;⟨a,es,h1,h2,λ _ _=>h3⟩) (by simp only [big,List.nil_append,List.length_cons,List.length_nil];omega) (G35.trans f6).size (λ v7 w7 H7 f7 g7=>?_)
 have G37:Fr [] w3 w7:=(G35.trans f6).trans_new f7 (λ q hq=>.inr (H5.lt q hq).1)
 have W7:Sl rT w7 v7 (k :: (ws++[[48],[48],[48]])):=H7.row (by simp only [big,List.nil_append,List.length_append,List.length_cons,List.length_nil];omega)
 refine r_call (ints_t W7 (by simp;omega) (λ a ha=>?_)) ?_
 ·rcases List.mem_append.1 ha with ha | ha
  ·have:=s2 a (by simp [ha]);omega
  ·simp at ha;subst ha;decide
 rintro vi w8 ⟨HI,F8⟩
 have G38:Fr [] w3 w8:=G37.trans F8
 have G18:Fr [] w1 w8:=(f2.trans F3).trans G38
 have G28:Fr [] w2 w8:=F3.trans G38
 have hvs:(ws++[[48],[48],[48]]).map intP=ws.map intP++[0,0,0]:=by rw [List.map_append];simp [intP_0]
 rw [hvs] at HI
 have hbi:(ws.map intP++[0,0,0]).length≤big:=by simp only [big];simp;omega
 have z2:=f1.size
 have z4:=B4.lt
 have z3:=F3.size
 have z7:=G37.size
 have z2':=B2.lt
 have HN:=or_ints HI
 have hli:(ws.map intP++[0,0,0]).length=ws.length+3:=by simp
 obtain ⟨X2,d2,rfl,_⟩:=own_int HN
 have row:∀ w',Fr [v2,v4] w8 w'→Sl (rI .i64) w' (.slice X2 (ws.map intP++[0,0,0]).length d2) (ws.map intP++[0,0,0]):=λ w' f=>by
  have:=own_head (n:=(ws.map intP++[0,0,0]).length) (own_f HN f (λ q hq hs=>by
   have h1:=(own_lt HN q hq).1
   have:=f2.size
   simp at hs
   rcases hs with rfl | rfl<;>omega)) (Nat.le_refl _) (by omega)
  rwa [List.take_length] at this
 obtain ⟨ai,rfl⟩:∃ ai,X2=some ai:=by
  obtain ⟨_,_,e,_,_,r⟩:=row w8 ((Fr.refl [] w8).mono (by simp))
  cases e
  obtain ⟨a,_,ea,_⟩:=r 0 _ (List.getElem?_eq_getElem (by omega))
  exact ⟨a,ea⟩
 have X:AX S w w8 [.slice A0 c.flows.length c0,.slice A1 c.tenants.length c1,.slice A2 c.channels.length c2,.slice A3 c.gates.length c3,.slice A4 c.frame.length c4,I c.budget,I c.requests,I c.pending] v2 v4 k ws (.slice Xw (k :: ws).length cw) ai:={
  F:=f1.trans G18
  hS:=hS
  g2:=by omega
  g4:=by omega
  ne:=by omega
  B2:=B2.fr0 G18
  B4:=B4.fr0 G28
  W:=⟨Xw,cw,rfl,hcw,hbw,hrw.up G38⟩
  N:=λ j z hj w' f=>by
   obtain ⟨_,_,e,_,_,r⟩:=row w' f
   cases e
   obtain ⟨a,es,ea,rd,e3⟩:=r j z hj
   obtain rfl:=e3
   cases ea
   exact cell1 rd
  wl:=by omega
  ww:=λ a ha=>by have:=s2 a (by simp [ha]);omega }
 have E:∀ o,o=opn ws→wp Tryz.prog Z (AddR S w (addQ is ws (opn ws) c) l) [] (Ad.cs (Tx l) (Pt v2 0) (Pt v4 0) (.slice Xw (k :: ws).length cw) (.slice (some ai) (ws.map intP++[0,0,0]).length d2) (I ((c.channels.length:Int)-1)) (.bool o)) w8 (λ _ _ _=>False) (λ _ _ _ _=>False):=by
  rintro _ rfl
  exact acs_wp X hc0 hm hk h1 h8 rfl rfl hch
 refine r_ld (X.B2.cell (o:=2) rfl) ?_
 refine r_ar (by omega) ?_
 refine r_ar (by simp only [List.length_cons];omega) ?_
 obtain ⟨z,hz⟩:=gt (xs:=k :: ws) (j:=ws.length) (by simp)
 obtain ⟨aw,es,rfl,rd,e3⟩:=(hrw.up G38) ws.length z hz
 obtain rfl:=e3
 obtain ⟨o1,o2⟩:=opn_last hz
 refine r_ob ⟨by simp only [List.length_cons];omega,by simp only [List.length_cons];omega⟩ ?_
 refine r_ld (v:=Tx z) (by rw [show (((k :: ws).length:Int)-1).toNat=ws.length by simp];exact cell1 rd) ?_
 refine r_teq (a:=z) (b:=kOpens) ?_
 refine r_if (λ e=>?_) (λ e=>?_)
 ·exact E _ (o1 e)
 ·exact E _ (o2 e)
end
end Go.Proofs.YtppodgdhdddfkaaGreatDoor.Cg
set_option linter.unusedVariables false
set_option linter.unusedSimpArgs false
namespace Go.Proofs.YtppodgdhdddfkaaGreatDoor.Cg
set_option maxRecDepth 100000
open Go Go.RowKit Go.Proofs.YtppodgdhdddfkaaGreatDoor.Sx
open Go.Proofs.YtppodgdhdddfkaaGreatDoor.Cf
open Go.Proofs.YtppodgdhdddfkaaGreatDoor.Sg
theorem int_back:∀ (ns:List Int),(∀ n∈ns,in64 n)→(ns.map Lib.itoa).map intP=ns:=by
 intro ns
 induction ns with
 | nil=>intro _;rfl
 | cons n r ih =>
  intro h
  rw [List.map_cons,List.map_cons,intP_itoa n (h n (by simp)),ih (λ m hm=>h m (by simp [hm]))]
theorem kind_no {is:Int} (h1:1≤is) (h8:is≤8):(32:UInt8)∉wordOf is∧rankI (wordOf is)=is:=by
 have h:is=1∨is=2∨is=3∨is=4∨is=5∨is=6∨is=7∨is=8:=by omega
 rcases h with rfl | rfl | rfl | rfl | rfl | rfl | rfl | rfl<;>decide
theorem words_at {l k:Bs} {ws:List Bs} (hsp:splitP 32 l=k :: ws) {ns:List Int} {o:Bool} (h:(k++nums ns)++opB o=l):ws=ns.map Lib.itoa++if o=true then [kOpens] else []:=by
 have hk:(32:UInt8)∉k:=by have:=split_no (c:=32) (a:=l) k (by rw [hsp];simp);exact this
 have hw:∀ x∈(ns.map Lib.itoa++if o=true then [kOpens] else []),(32:UInt8)∉x:=by
  intro x hx
  rcases List.mem_append.1 hx with hx | hx
  ·exact words_no x hx
  ·cases o with
   | true=>simp at hx;subst hx;decide
   | false=>simp at hx
 rw [← h,numsO_join,split_join hk hw] at hsp
 injection hsp with _ e
 exact e.symm
theorem words_at0 {l k:Bs} {ws:List Bs} (hsp:splitP 32 l=k :: ws) {ns:List Int} (h:k++nums ns=l):ws=ns.map Lib.itoa:=by
 have:=words_at (ns:=ns) (o:=false) hsp (by rw [← h];simp [opB])
 simpa using this
theorem len2 {v:List Int} (h:2≤v.length):∃ a b r,v=a :: b :: r:=by
 match v,h with
 | a :: b :: r,_=>exact ⟨a,b,r,rfl⟩
theorem len1 {v:List Int} (h:1≤v.length):∃ a r,v=a :: r:=by
 match v,h with
 | a :: r,_=>exact ⟨a,r,rfl⟩
theorem len3 {v:List Int} (h:3≤v.length):∃ a b d r,v=a :: b :: d :: r:=by
 match v,h with
 | a :: b :: d :: r,_=>exact ⟨a,b,d,r,rfl⟩
theorem case_add {is:Int} (h1:1≤is) (h8:is≤8) {l:Bs} {ws:List Bs} {c c':GConf} (hsp:splitP 32 l=wordOf is :: ws) (h:caseP is (wordOf is) (bod ws) (opn ws) c=some (c',l)):addQ is ws (opn ws) c=some (c',l):=by
 have h0:is=1∨is=2∨is=3∨is=4∨is=5∨is=6∨is=7∨is=8:=by omega
 rcases h0 with rfl | rfl | rfl | rfl | rfl | rfl | rfl | rfl
 ·change splitP 32 l=kFlows :: ws at hsp
  unfold caseP at h
  rw [if_pos rfl] at h
  obtain ⟨v,hv,h⟩:=Option.bind_eq_some_iff.1 h
  obtain ⟨hl,hv64⟩:=numsN_ok hv
  unfold addQ
  rw [if_pos rfl]
  by_cases hok:okB v=true
  ·rw [if_pos hok] at h
   injection h with h;injection h with ha hb
   have e:=words_at0 hsp hb
   subst e
   rw [int_back _ in64_bit,if_pos (mem_ok _),ofB_mem,← ha,← hb]
   rfl
  ·rw [if_neg hok] at h;cases h
 ·change splitP 32 l=kTen :: ws at hsp
  unfold caseP at h
  rw [if_neg (by decide),if_pos rfl] at h
  obtain ⟨v,hv,h⟩:=Option.bind_eq_some_iff.1 h
  obtain ⟨hl,hv64⟩:=numsN_ok hv
  unfold addQ
  rw [if_neg (by decide),if_pos rfl]
  injection h with h;injection h with ha hb
  obtain ⟨x,y,r,rfl⟩:=len2 hl
  have ix:=hv64 x (by simp)
  have iy:=hv64 y (by simp)
  rw [show (x :: y :: r).take 2=[x,y] from rfl] at hb
  have e:=words_at0 hsp hb
  subst e
  rw [← ha,← hb]
  simp [wordOf,nums,num,intP_itoa x ix,intP_itoa y iy]
 ·change splitP 32 l=kCh :: ws at hsp
  unfold caseP at h
  rw [if_neg (by decide),if_neg (by decide),if_pos rfl] at h
  obtain ⟨v,hv,h⟩:=Option.bind_eq_some_iff.1 h
  obtain ⟨hl,hv64⟩:=numsN_ok hv
  unfold addQ
  rw [if_neg (by decide),if_neg (by decide),if_pos rfl]
  injection h with h;injection h with ha hb
  obtain ⟨x,r,rfl⟩:=len1 hl
  have ix:=hv64 x (by simp)
  rw [show (x :: r).take 1=[x] from rfl] at hb
  have e:=words_at0 hsp hb
  subst e
  rw [← ha,← hb]
  simp [wordOf,nums,num,intP_itoa x ix]
 ·change splitP 32 l=kLane :: ws at hsp
  unfold caseP at h
  rw [if_neg (by decide),if_neg (by decide),if_neg (by decide),if_pos rfl] at h
  obtain ⟨v,hv,h⟩:=Option.bind_eq_some_iff.1 h
  obtain ⟨hl,hv64⟩:=numsN_ok hv
  unfold addQ
  rw [if_neg (by decide),if_neg (by decide),if_neg (by decide),if_pos rfl]
  injection h with h;injection h with ha hb
  obtain ⟨x,y,r,rfl⟩:=len2 hl
  have ix:=hv64 x (by simp)
  have iy:=hv64 y (by simp)
  rw [show (x :: y :: r).take 2=[x,y] from rfl] at hb
  generalize opn ws=o at ha hb ⊢
  have e:=words_at hsp hb
  subst e
  rw [← ha,← hb]
  simp [wordOf,nums,num,intP_itoa x ix,intP_itoa y iy]
 ·change splitP 32 l=kRec :: ws at hsp
  unfold caseP at h
  rw [if_neg (by decide),if_neg (by decide),if_neg (by decide),if_neg (by decide),if_pos rfl] at h
  obtain ⟨v,hv,h⟩:=Option.bind_eq_some_iff.1 h
  obtain ⟨hl,hv64⟩:=numsN_ok hv
  unfold addQ
  rw [if_neg (by decide),if_neg (by decide),if_neg (by decide),if_neg (by decide),if_pos rfl]
  injection h with h;injection h with ha hb
  obtain ⟨x,r,rfl⟩:=len1 hl
  have ix:=hv64 x (by simp)
  rw [show (x :: r).take 1=[x] from rfl] at hb
  generalize opn ws=o at ha hb ⊢
  have e:=words_at hsp hb
  subst e
  rw [← ha,← hb]
  simp [wordOf,nums,num,intP_itoa x ix]
 ·change splitP 32 l=kGate :: ws at hsp
  unfold caseP at h
  rw [if_neg (by decide),if_neg (by decide),if_neg (by decide),if_neg (by decide),if_neg (by decide),if_pos rfl] at h
  obtain ⟨v,hv,h⟩:=Option.bind_eq_some_iff.1 h
  obtain ⟨hl,hv64⟩:=numsN_ok hv
  unfold addQ
  rw [if_neg (by decide),if_neg (by decide),if_neg (by decide),if_neg (by decide),if_neg (by decide),if_pos rfl]
  injection h with h;injection h with ha hb
  obtain ⟨x,y,z,r,rfl⟩:=len3 hl
  have ix:=hv64 x (by simp)
  have iy:=hv64 y (by simp)
  have iz:=hv64 z (by simp)
  rw [show (x :: y :: z :: r).take 3=[x,y,z] from rfl] at hb
  have e:=words_at0 hsp hb
  subst e
  rw [← ha,← hb]
  simp [wordOf,nums,num,intP_itoa x ix,intP_itoa y iy,intP_itoa z iz]
 ·change splitP 32 l=kFrame :: ws at hsp
  unfold caseP at h
  rw [if_neg (by decide),if_neg (by decide),if_neg (by decide),if_neg (by decide),if_neg (by decide),if_neg (by decide),if_pos rfl] at h
  obtain ⟨v,hv,h⟩:=Option.bind_eq_some_iff.1 h
  obtain ⟨hl,hv64⟩:=numsN_ok hv
  unfold addQ
  rw [if_neg (by decide),if_neg (by decide),if_neg (by decide),if_neg (by decide),if_neg (by decide),if_neg (by decide),if_pos rfl]
  injection h with h;injection h with ha hb
  have e:=words_at0 hsp hb
  subst e
  rw [int_back _ hv64,← ha,← hb]
  rfl
 ·change splitP 32 l=kBud :: ws at hsp
  unfold caseP at h
  rw [if_neg (by decide),if_neg (by decide),if_neg (by decide),if_neg (by decide),if_neg (by decide),if_neg (by decide),if_neg (by decide),if_pos rfl] at h
  obtain ⟨v,hv,h⟩:=Option.bind_eq_some_iff.1 h
  obtain ⟨hl,hv64⟩:=numsN_ok hv
  unfold addQ
  rw [if_neg (by decide),if_neg (by decide),if_neg (by decide),if_neg (by decide),if_neg (by decide),if_neg (by decide),if_neg (by decide)]
  injection h with h;injection h with ha hb
  obtain ⟨x,y,z,r,rfl⟩:=len3 hl
  have ix:=hv64 x (by simp)
  have iy:=hv64 y (by simp)
  have iz:=hv64 z (by simp)
  rw [show (x :: y :: z :: r).take 3=[x,y,z] from rfl] at hb
  have e:=words_at0 hsp hb
  subst e
  rw [← ha,← hb]
  simp [wordOf,nums,num,intP_itoa x ix,intP_itoa y iy,intP_itoa z iz]
theorem add_take {is:Int} (h1:1≤is) (h8:is≤8) {s:RS} {l:Bs} {ws:List Bs} {c':GConf} {o:Bool} (hf:followsI s.was is=true) (h:addQ is ws o s.c=some (c',l)) (hm:manyP c'=false):takeP s l=some ⟨c',is⟩:=by
 obtain ⟨hk,hr⟩:=kind_no h1 h8
 have h0:is=1∨is=2∨is=3∨is=4∨is=5∨is=6∨is=7∨is=8:=by omega
 have i0:=val_64 ws 0 (by decide)
 have i1:=val_64 ws 1 (by decide)
 have i2:=val_64 ws 2 (by decide)
 have i3:∀ z∈ws.map intP,in64 z:=λ z hz=>vals64 ws z (List.mem_append.2 (.inl hz))
 rcases h0 with rfl | rfl | rfl | rfl | rfl | rfl | rfl | rfl
 ·unfold addQ at h
  rw [if_pos rfl] at h
  by_cases hok:okB (ws.map intP)=true
  ·rw [if_pos hok] at h
   injection h with h;injection h with ha hb
   subst hb
   refine take_line0 hk hr hf ?_ hm
   unfold caseP
   rw [if_pos rfl,numsN_itoa in64_bit (Nat.zero_le _)]
   show (if okB (Bt.memI (ofB (ws.map intP)))=true then _ else _)=_
   rw [if_pos (mem_ok _),ofB_mem,← ha]
  ·rw [if_neg hok] at h;cases h
 ·unfold addQ at h
  rw [if_neg (by decide),if_pos rfl] at h
  injection h with h;injection h with ha hb
  generalize (ws.map intP++[0,0,0]).getD 0 0=n0 at i0 ha hb
  generalize (ws.map intP++[0,0,0]).getD 1 0=n1 at i1 ha hb
  have h64:∀ z∈[n0,n1],in64 z:=by intro z hz;simp only [List.mem_cons,List.not_mem_nil,or_false] at hz;rcases hz with rfl | rfl<;>assumption
  obtain rfl:kTen++nums [n0,n1]=l:=by rw [← hb];simp [nums]
  refine take_line0 hk hr hf ?_ hm
  unfold caseP
  rw [if_neg (by decide),if_pos rfl,numsN_itoa (n:=2) h64 (Nat.le_refl _),← ha]
  rfl
 ·unfold addQ at h
  rw [if_neg (by decide),if_neg (by decide),if_pos rfl] at h
  injection h with h;injection h with ha hb
  generalize (ws.map intP++[0,0,0]).getD 0 0=n0 at i0 ha hb
  have h64:∀ z∈[n0],in64 z:=by intro z hz;simp only [List.mem_cons,List.not_mem_nil,or_false] at hz;subst hz;assumption
  obtain rfl:kCh++nums [n0]=l:=by rw [← hb];simp [nums]
  refine take_line0 hk hr hf ?_ hm
  unfold caseP
  rw [if_neg (by decide),if_neg (by decide),if_pos rfl,numsN_itoa (n:=1) h64 (Nat.le_refl _),← ha]
  rfl
 ·unfold addQ at h
  rw [if_neg (by decide),if_neg (by decide),if_neg (by decide),if_pos rfl] at h
  injection h with h;injection h with ha hb
  generalize (ws.map intP++[0,0,0]).getD 0 0=n0 at i0 ha hb
  generalize (ws.map intP++[0,0,0]).getD 1 0=n1 at i1 ha hb
  have h64:∀ z∈[n0,n1],in64 z:=by intro z hz;simp only [List.mem_cons,List.not_mem_nil,or_false] at hz;rcases hz with rfl | rfl<;>assumption
  obtain rfl:(kLane++nums [n0,n1])++opB o=l:=by rw [← hb];simp [nums]
  refine take_line hk hr hf ?_ hm
  unfold caseP
  rw [if_neg (by decide),if_neg (by decide),if_neg (by decide),if_pos rfl,numsN_itoa (n:=2) h64 (Nat.le_refl _),← ha]
  rfl
 ·unfold addQ at h
  rw [if_neg (by decide),if_neg (by decide),if_neg (by decide),if_neg (by decide),if_pos rfl] at h
  injection h with h;injection h with ha hb
  generalize (ws.map intP++[0,0,0]).getD 0 0=n0 at i0 ha hb
  have h64:∀ z∈[n0],in64 z:=by intro z hz;simp only [List.mem_cons,List.not_mem_nil,or_false] at hz;subst hz;assumption
  obtain rfl:(kRec++nums [n0])++opB o=l:=by rw [← hb];simp [nums]
  refine take_line hk hr hf ?_ hm
  unfold caseP
  rw [if_neg (by decide),if_neg (by decide),if_neg (by decide),if_neg (by decide),if_pos rfl,numsN_itoa (n:=1) h64 (Nat.le_refl _),← ha]
  rfl
 ·unfold addQ at h
  rw [if_neg (by decide),if_neg (by decide),if_neg (by decide),if_neg (by decide),if_neg (by decide),if_pos rfl] at h
  injection h with h;injection h with ha hb
  generalize (ws.map intP++[0,0,0]).getD 0 0=n0 at i0 ha hb
  generalize (ws.map intP++[0,0,0]).getD 1 0=n1 at i1 ha hb
  generalize (ws.map intP++[0,0,0]).getD 2 0=n2 at i2 ha hb
  have h64:∀ z∈[n0,n1,n2],in64 z:=by intro z hz;simp only [List.mem_cons,List.not_mem_nil,or_false] at hz;rcases hz with rfl | rfl | rfl<;>assumption
  obtain rfl:kGate++nums [n0,n1,n2]=l:=by rw [← hb];simp [nums]
  refine take_line0 hk hr hf ?_ hm
  unfold caseP
  rw [if_neg (by decide),if_neg (by decide),if_neg (by decide),if_neg (by decide),if_neg (by decide),if_pos rfl,numsN_itoa (n:=3) h64 (Nat.le_refl _),← ha]
  rfl
 ·unfold addQ at h
  rw [if_neg (by decide),if_neg (by decide),if_neg (by decide),if_neg (by decide),if_neg (by decide),if_neg (by decide),if_pos rfl] at h
  injection h with h;injection h with ha hb
  subst hb
  refine take_line0 hk hr hf ?_ hm
  unfold caseP
  rw [if_neg (by decide),if_neg (by decide),if_neg (by decide),if_neg (by decide),if_neg (by decide),if_neg (by decide),if_pos rfl,numsN_itoa i3 (Nat.zero_le _),← ha]
  rfl
 ·unfold addQ at h
  rw [if_neg (by decide),if_neg (by decide),if_neg (by decide),if_neg (by decide),if_neg (by decide),if_neg (by decide),if_neg (by decide)] at h
  injection h with h;injection h with ha hb
  generalize (ws.map intP++[0,0,0]).getD 0 0=n0 at i0 ha hb
  generalize (ws.map intP++[0,0,0]).getD 1 0=n1 at i1 ha hb
  generalize (ws.map intP++[0,0,0]).getD 2 0=n2 at i2 ha hb
  have h64:∀ z∈[n0,n1,n2],in64 z:=by intro z hz;simp only [List.mem_cons,List.not_mem_nil,or_false] at hz;rcases hz with rfl | rfl | rfl<;>assumption
  obtain rfl:kBud++nums [n0,n1,n2]=l:=by rw [← hb];simp [nums]
  refine take_line0 hk hr hf ?_ hm
  unfold caseP
  rw [if_neg (by decide),if_neg (by decide),if_neg (by decide),if_neg (by decide),if_neg (by decide),if_neg (by decide),if_neg (by decide),if_pos rfl,numsN_itoa (n:=3) h64 (Nat.le_refl _),← ha]
  rfl
def stepR (s:RS) (l:Bs):Option RS:=
 if followsI s.was (rankI ((splitP 32 l).headD []))=true then
  match addQ (rankI ((splitP 32 l).headD [])) (splitP 32 l).tail (opn (splitP 32 l).tail) s.c with
  | some (c',own)=>if own=l∧manyP c'=false then some ⟨c',rankI ((splitP 32 l).headD [])⟩ else none
  | none=>none
 else none
theorem split_cons2 (l:Bs):splitP 32 l=(splitP 32 l).headD [] :: (splitP 32 l).tail:=by
 cases h:splitP 32 l with
 | nil=>exact absurd h (splitP_ne 32 l)
 | cons y r=>rfl
theorem stepR_eq (s:RS) (l:Bs):stepR s l=takeP s l:=by
 have hsp:=split_cons2 l
 have hkno:=head_no l
 unfold stepR
 by_cases hf:followsI s.was (rankI ((splitP 32 l).headD []))=true
 ·rw [if_pos hf]
  have hn:rankI ((splitP 32 l).headD [])≠0:=by
   intro e
   rw [e] at hf
   simp [followsI] at hf
  obtain ⟨hw,h1,h8⟩:=rank_word hkno hn
  generalize hk:(splitP 32 l).headD []=k at *
  generalize hws:(splitP 32 l).tail=ws at *
  apply Option.ext
  intro s'
  constructor
  ·intro h
   cases ha:addQ (rankI k) ws (opn ws) s.c with
   | none=>rw [ha] at h;cases h
   | some p =>
    obtain ⟨c',own⟩:=p
    rw [ha] at h
    dsimp only at h
    by_cases hc:own=l∧manyP c'=false
    ·rw [if_pos hc] at h
     cases h
     obtain ⟨rfl,hm⟩:=hc
     exact add_take h1 h8 hf ha hm
    ·rw [if_neg hc] at h;cases h
  ·intro h
   obtain ⟨hm,hwas,_,p,hp,hl,hc⟩:=takeP_ok h
   rw [hk,hws] at hp
   rw [hk] at hwas
   rw [hwas] at hp
   obtain ⟨c',own⟩:=p
   dsimp only at hl hc
   subst hl
   have ha:addQ (rankI k) ws (opn ws) s.c=some (c',own):=by
    refine case_add (is:=rankI k) h1 h8 ?_ ?_
    ·rw [← hw];exact hsp
    ·rw [← hw];exact hp
   rw [ha]
   dsimp only
   rw [if_pos ⟨rfl,by rw [hc];exact hm⟩,← hwas,hc]
 ·rw [if_neg hf]
  unfold takeP takeK
  rw [if_neg hf]
end Go.Proofs.YtppodgdhdddfkaaGreatDoor.Cg
set_option linter.unusedVariables false
set_option linter.unusedSimpArgs false
namespace Go.Proofs.YtppodgdhdddfkaaGreatDoor.Cg
set_option maxRecDepth 100000
open Go Go.RowKit Go.Proofs.YtppodgdhdddfkaaGreatDoor.Sx
open Go.Proofs.YtppodgdhdddfkaaGreatDoor.Bi (mixed take_s rList_t)
open Go.Proofs.YtppodgdhdddfkaaGreatDoor.Cf
open Go.Proofs.YtppodgdhdddfkaaGreatDoor.Sg
theorem first_nl (a:Bs) (h:(10:UInt8)∈a):∃ l r,a=l++10 :: r∧(10:UInt8)∉l:=by
 induction a with
 | nil=>cases h
 | cons b t ih =>
  by_cases hb:b=10
  ·subst hb;exact ⟨[],t,rfl,by simp⟩
  ·have ht:(10:UInt8)∈t:=by rcases List.mem_cons.1 h with e | e;exact absurd e.symm hb;exact e
   obtain ⟨l,r,rfl,hl⟩:=ih ht
   exact ⟨b :: l,r,rfl,by simp only [List.mem_cons,not_or];exact ⟨λ e=>hb e.symm,hl⟩⟩
theorem no_nl {a:Bs} (h:(10:UInt8)∉a):linesOf a=if a=[] then [] else [a]:=by
 by_cases ha:a=[]
 ·subst ha;simp [linesOf]
 ·rw [if_neg ha,linesOf_ne ha,if_neg]
  have:∀ (a:Bs),(10:UInt8)∉a→Lib.indexByte a 10 = -1:=by
   intro a
   induction a with
   | nil=>intro _;rfl
   | cons b l ih =>
    intro h
    simp only [List.mem_cons,not_or] at h
    rw [Lib.indexByte,if_neg (by simp;exact λ e=>h.1 e.symm),ih h.2]
    rfl
  rw [this a h];omega
theorem lines_split:∀ (n:Nat) (a:Bs),a.length≤n→∃ ls z,splitP 10 a=ls++[z]∧linesOf a=ls.map (λ l=>l++[10])++(if z=[] then [] else [z])∧(10:UInt8)∉z:=by
 intro n
 induction n with
 | zero =>
  intro a ha
  have:a=[]:=List.eq_nil_of_length_eq_zero (by omega)
  subst this
  exact ⟨[],[],rfl,by simp [linesOf],by simp⟩
 | succ n ih =>
  intro a ha
  by_cases h:(10:UInt8)∈a
  ·obtain ⟨l,r,rfl,hl⟩:=first_nl a h
   obtain ⟨ls,z,h1,h2,h3⟩:=ih r (by simp at ha;omega)
   refine ⟨l :: ls,z,by rw [splitP_app hl,h1];rfl,?_,h3⟩
   rw [show l++10 :: r=l++[10]++r by simp,lines_app hl,h2]
   rfl
  ·exact ⟨[],a,by rw [splitP_no h];rfl,by rw [no_nl h];rfl,h⟩
theorem parse_fail {a:Bs} {n:Nat} {s:RS} {z:Bs} (ha:a.length≤65536) (h:foldP s0 ((linesOf a).take n)=some s) (hz:(linesOf a)[n]? = some z) (hn:stepP s z=none):parseP a=(c0,(n:Int),49):=by
 obtain ⟨h1,h2⟩:=fail_at h hz hn
 unfold parseP
 rw [if_neg (by omega),h1]
 dsimp only
 rw [h2]
theorem parse_end {a:Bs} {s:RS} (ha:a.length≤65536) (h:foldP s0 (linesOf a)=some s):parseP a=if s.was=8 then (s.c,0,0) else (c0,((linesOf a).length:Int),49):=by
 unfold parseP
 rw [if_neg (by omega),h]
 dsimp only
 rw [fail_no h]
theorem step_no {s:RS} {z:Bs} (h:(10:UInt8)∉z):stepP s z=none:=by
 unfold stepP
 rw [if_neg]
 rintro ⟨h1,_⟩
 have:=suf_inv h1
 exact h (by rw [this];simp)
theorem step_nl2 (s:RS) (l:Bs):stepP s (l++[10])=if s.was=8 then none else takeP s l:=by
 by_cases h:s.was=8
 ·unfold stepP;rw [if_neg (λ e=>e.2 h),if_pos h]
 ·rw [step_nl h,if_neg h]
theorem rkR_nn (k:Bs):0≤rkR k:=by
 unfold rkR
 repeat' split
 all_goals decide
theorem step_of {s:RS} {l k:Bs} {ws:List Bs} {c':GConf} {b:Bool} (hsp:splitP 32 l=k :: ws) (hf:followsI s.was (rankI k)=true) (hq:(∃ own,addQ (rankI k) ws (opn ws) s.c=some (c',own)∧b=(decide (own=l) && !manyP c'))∨(addQ (rankI k) ws (opn ws) s.c=none∧b=false)):takeP s l=if b=true then some ⟨c',rankI k⟩ else none:=by
 rw [← stepR_eq]
 unfold stepR
 rw [hsp]
 show (if followsI s.was (rankI k)=true then (match addQ (rankI k) ws (opn ws) s.c with
  | some (c',own)=>if own=l∧manyP c'=false then some (⟨c',rankI k⟩:RS) else none
  | none=>none) else none)=_
 rw [if_pos hf]
 rcases hq with ⟨own,h1,h2⟩ | ⟨h1,h2⟩
 ·rw [h1]
  dsimp only
  subst h2
  by_cases h3:own=l∧manyP c'=false
  ·rw [if_pos h3,if_pos (by simp [h3.1,h3.2])]
  ·rw [if_neg h3,if_neg (λ e=>h3 (by simpa using e))]
 ·rw [h1,h2];rfl
section
variable {Z:ZP} {w:World}
theorem rParse_tO (S0:List Nat) (hS0:∀ q∈S0,q < w.heap.size) (a:Bs) (ha:a.length≤9000000000000000000):Cz Tryz.prog 39 [Tx a] w (λ r w'=>∃ cs,r=.tuple #[.agg cs.toArray,I (parseP a).2.1,I (parseP a).2.2]∧Off S0 (λ w1=>rConf.r w1 cs (parseP a).1) w'∧Fr [] w w') Z:=by
 refine go mixed Tryz.func39 Tryz.call39 rfl (Tr.e39 _) ?_
 refine r_al (zs:=zC) Tryz.zeroValue29 (λ v2 w1 e2 B2 f1=>?_)
 have out:∀ {w':World} {n m:Int} {A:List Nat→List Value→World→Prop} {B:List Nat→Nat→List Value→World→Prop},Fr [] w1 w'→parseP a=(c0,n,m)→wp Tryz.prog Z (λ r w'=>∃ cs,r=.tuple #[.agg cs.toArray,I (parseP a).2.1,I (parseP a).2.2]∧Off S0 (λ w1=>rConf.r w1 cs (parseP a).1) w'∧Fr [] w w') [] (.ef (Instr.storeAt 29 (Pt v2 0) (.agg zC.toArray)) (.ldn 8 (Pt v2 0) λ r0=>.ret (.tuple [r0,I n,I m].toArray))) w' A B:=by
  intro w' n m A B F e
  refine r_stn (B2.fr0 F) Tryz.sizeOf29 one_zC (λ w2 B3 f3=>?_) rfl rfl rfl
  refine r_ldn (B3.rd rfl) ?_
  exact r_ret ⟨zC,by rw [e],by rw [e];exact λ _ _=>c0_r,(f1.trans F).st f3 (by omega)⟩
 refine r_tlen Tryz.underlying9 ?_
 refine r_if (λ h=>out (Fr.refl _ _) (by unfold parseP;rw [if_pos (by omega)])) (λ h=>?_)
 have hal:a.length≤65536:=by omega
 obtain ⟨ls,z,hs,hl,hz⟩:=lines_split _ a (Nat.le_refl _)
 obtain ⟨s1,s2⟩:=splitP_len 10 a
 refine r_call (rsplit_t a 10 (by omega)) ?_
 rintro vl w2 ⟨HL,F2⟩
 rw [hs] at HL s1 s2
 have s1:ls.length+1≤a.length+1:=by simpa using s1
 obtain ⟨Xl,cl,rfl,_,_,hr⟩:=HL.row (by simp only [big,List.length_append,List.length_cons,List.length_nil];omega)
 have hlen:((ls++[z]).length:Int)=ls.length+1:=by simp
 refine r_al (zs:=zC) Tryz.zeroValue29 (λ v6 w3 e6 B6 f3=>?_)
 have z2:=B2.lt
 have z3:=F2.size
 refine r_loop (λ (s:Nat × RS)=>[I (s.1:Int),I s.2.was,I 0,I 0]) (λ s w'=>s.1≤ls.length∧foldP s0 ((linesOf a).take s.1)=some s.2∧manyP s.2.c=false∧(3≤s.2.was∧s.2.was≤5→s.2.c.channels≠[])∧(∃ us,Blk w' v6 29 us∧CO (v2 :: v6 :: S0) w' us s.2.c)∧Fr [] w2 w') (λ s=>ls.length-s.1) (0,s0) ⟨Nat.zero_le _,rfl,by decide,by decide,⟨zC,B6,λ _ _=>c0_r,λ h=>absurd rfl h⟩,f3⟩ rfl ?_
 rintro ⟨i,s⟩ w4 ⟨hi,hf,hm,hch,⟨us,C6,HC⟩,F⟩
 dsimp only at hi hf hm hch HC
 have z4:=F.size
 have lu:us.length=8:=rConf.len HC.now
 have F14:Fr [] w1 w4:=F2.trans F
 refine r_ar (by omega) ?_
 refine r_if (λ h=>?_) (λ h=>?_)
 ·dsimp only at h
  obtain ⟨l,hli⟩:=gt (xs:=ls) (j:=i) (by omega)
  have hrow:(ls++[z])[i]? = some l:=by rw [List.getElem?_append_left (by omega)];exact hli
  have hlin:(linesOf a)[i]? = some (l++[10]):=by rw [hl,List.getElem?_append_left (by simp;omega),List.getElem?_map,hli];rfl
  have hll:l.length≤a.length:=s2 l (List.mem_of_getElem? hrow)
  obtain ⟨ad,es,rfl,rd,e3⟩:=(hr.up F) i l hrow
  obtain rfl:=e3
  refine r_ob ⟨by omega,by dsimp only;omega⟩ ?_
  refine r_ld (cell1 rd) ?_
  refine r_call (rsplit_t l 32 (by omega)) ?_
  rintro vw w5 ⟨HW,F5⟩
  have hsp:=split_cons2 l
  have hkno:=head_no l
  obtain ⟨t1,t2⟩:=splitP_len 32 l
  generalize (splitP 32 l).headD []=k at hsp hkno
  generalize (splitP 32 l).tail=ws at hsp
  rw [hsp] at HW t1
  obtain ⟨Xw,cw,rfl,_,_,hrw⟩:=HW.row (by simp only [big];omega)
  obtain ⟨aw,es,rfl,rdw,e3⟩:=hrw 0 k rfl
  obtain rfl:=e3
  refine r_ob ⟨by decide,by simp⟩ ?_
  refine r_ld (cell1 rdw) ?_
  refine r_call (rrank_t k) ?_
  rintro _ w6 ⟨rfl,rfl⟩
  refine r_call (rfollows_t s.was (rkR k) (rkR_nn k)) ?_
  rintro _ w6 ⟨rfl,rfl⟩
  rw [rkR_eq hkno]
  have F16:=F14.trans F5
  refine r_ifbn (λ hfo=>?_) (λ hfo=>?_)
  ·refine out F16 (parse_fail hal hf hlin ?_)
   rw [step_nl2]
   split
   ·rfl
   ·unfold takeP takeK;rw [hsp];show (if followsI s.was (rankI k)=true then _ else none)=none;rw [hfo];rfl
  refine r_if (λ h8=>?_) (λ h8=>?_)
  ·refine out F16 (parse_fail hal hf hlin ?_)
   rw [step_nl2,if_pos h8]
  have hn:rankI k≠0:=by
   intro e
   rw [e] at hfo
   simp [followsI] at hfo
  obtain ⟨hw,r1,r8⟩:=rank_word hkno hn
  have hch2:rankI k=4∨rankI k=5→s.c.channels≠[]:=by
   intro h45
   refine hch ?_
   rcases h45 with e | e
   ·rw [e] at hfo;simp [followsI] at hfo;omega
   ·rw [e] at hfo;simp [followsI] at hfo;omega
  refine r_dr (λ w7 f7=>?_)
  have F47:Fr [] w4 w7:=F5.trans f7
  have C7:=C6.fr0 F47
  have HC7:=HC.go F47 (λ q hq=>hq)
  have z7:=F47.size
  have z6:=C6.lt
  refine r_ldn (C7.rd lu) ?_
  refine r_ob ⟨by omega,by dsimp only;omega⟩ ?_
  refine r_ld (cell1 (rd.fr F47)) ?_
  refine ⟨?_,?_⟩
  ·refine r_call (add_t HC7 (λ q hq=>by simp at hq;rcases hq with rfl | rfl | hq<;>first | omega | (have:=hS0 q hq;omega)) hm l (by omega) hsp hw r1 r8 hch2) ?_
   rintro _ w8 ⟨us',c',b,rfl,HC8,F8,hq⟩
   refine r_al (zs:=zC) Tryz.zeroValue29 (λ v10 w9 e10 B10 f9=>?_)
   have F49:Fr [] w4 w9:=(F47.trans F8).trans f9
   have z8:=F8.size
   refine r_chkn ((C6.fr0 F49).rd lu) ?_
   refine r_chk (cell1 (rd.fr F49)) ?_
   have HC9:CO (v10 :: v2 :: v6 :: S0) w9 us' c':=HC8.new f9 (by omega)
   have lu':us'.length=8:=rConf.len HC9.now
   refine r_stn B10 Tryz.sizeOf29 (rConf.one HC9.now) (λ w10 D10 f10=>?_) rfl lu' rfl
   have HC10:CO (v10 :: v2 :: v6 :: S0) w10 us' c':=HC9.go2 f10 (λ q hq=>.inl (by simp at hq;simp [hq]))
   have F10:Fr [] w4 w10:=F49.trans_new f10 (λ q hq=>.inr (by simp at hq;omega))
   have hst:=step_of hsp hfo hq
   refine r_ifbn (λ hb=>?_) (λ hb=>?_)
   ·refine out (F14.trans F10) (parse_fail hal hf hlin ?_)
    rw [step_nl2,if_neg h8,hst,hb];rfl
   refine r_ldn (D10.rd lu') ?_
   refine r_stn (C6.fr0 F10) Tryz.sizeOf29 (rConf.one HC9.now) (λ w11 D11 f11=>?_) rfl lu' lu
   have HC11:CO (v10 :: v2 :: v6 :: S0) w11 us' c':=HC10.go2 f11 (λ q hq=>.inl (by simp at hq;simp [hq]))
   rw [hb,if_pos rfl] at hst
   refine r_ar (by dsimp only;omega) ?_
   refine r_ag (s:=(i,s)) (i+1,⟨c',rankI k⟩) ⟨by dsimp only;omega,?_,(takeP_ok hst).1,takeP_ch hst hch,⟨us',D11,HC11.go (Fr.refl _ _) (λ q hq=>List.mem_cons_of_mem _ hq)⟩,(F.trans F10).trans_new f11 (λ q hq=>.inr (by simp at hq;omega))⟩ (by dsimp only;omega) rfl
   dsimp only
   rw [List.take_add_one,hlin,Option.toList_some,foldP_snoc,hf,Option.bind_some,step_nl2,if_neg h8,hst]
  ·refine r_al (zs:=zC) Tryz.zeroValue29 (λ v10 w8 e10 B10 f8=>?_)
   have F48:Fr [] w4 w8:=F47.trans f8
   refine r_chkn ((C6.fr0 F48).rd lu) ?_
   refine r_chk (cell1 (rd.fr F48)) ?_
   have lt10:=B10.lt
   refine r_call (add_t (HC7.new f8 (b:=v10) (by omega)) (λ q hq=>by have:=f8.size;simp at hq;rcases hq with rfl | rfl | rfl | hq<;>first | omega | (have:=hS0 q hq;omega)) hm l (by omega) hsp hw r1 r8 hch2) ?_
   rintro _ w9 ⟨us',c',b,rfl,HC9,F9,hq⟩
   have F49:Fr [] w4 w9:=F48.trans F9
   have B10:=B10.fr0 F9
   have lu':us'.length=8:=rConf.len HC9.now
   refine r_stn B10 Tryz.sizeOf29 (rConf.one HC9.now) (λ w10 D10 f10=>?_) rfl lu' rfl
   have HC10:CO (v10 :: v2 :: v6 :: S0) w10 us' c':=HC9.go2 f10 (λ q hq=>.inl (by simp at hq;simp [hq]))
   have F10:Fr [] w4 w10:=F49.trans_new f10 (λ q hq=>.inr (by simp at hq;omega))
   have hst:=step_of hsp hfo hq
   refine r_ifbn (λ hb=>?_) (λ hb=>?_)
   ·refine out (F14.trans F10) (parse_fail hal hf hlin ?_)
    rw [step_nl2,if_neg h8,hst,hb];rfl
   refine r_ldn (D10.rd lu') ?_
   refine r_stn (C6.fr0 F10) Tryz.sizeOf29 (rConf.one HC9.now) (λ w11 D11 f11=>?_) rfl lu' lu
   have HC11:CO (v10 :: v2 :: v6 :: S0) w11 us' c':=HC10.go2 f11 (λ q hq=>.inl (by simp at hq;simp [hq]))
   rw [hb,if_pos rfl] at hst
   refine r_ar (by dsimp only;omega) ?_
   refine r_ag (s:=(i,s)) (i+1,⟨c',rankI k⟩) ⟨by dsimp only;omega,?_,(takeP_ok hst).1,takeP_ch hst hch,⟨us',D11,HC11.go (Fr.refl _ _) (λ q hq=>List.mem_cons_of_mem _ hq)⟩,(F.trans F10).trans_new f11 (λ q hq=>.inr (by simp at hq;omega))⟩ (by dsimp only;omega) rfl
   dsimp only
   rw [List.take_add_one,hlin,Option.toList_some,foldP_snoc,hf,Option.bind_some,step_nl2,if_neg h8,hst]
 ·dsimp only at h
  obtain rfl:i=ls.length:=by omega
  have hnn:((ls++[z]).length:Int)-1=ls.length:=by omega
  have hzl:z≠[]→(linesOf a)[ls.length]? = some z:=λ hne=>by rw [hl,if_neg hne,List.getElem?_append_right (by simp)];simp
  refine r_brk ?_
  refine r_if (λ h8=>?_) (λ h8=>?_)
  ·refine r_ar (by omega) ?_
   refine out F14 ?_
   rw [hnn]
   by_cases hne:z=[]
   ·subst hne
    rw [if_pos rfl,List.append_nil] at hl
    have hll:(linesOf a).length=ls.length:=by rw [hl,List.length_map]
    rw [List.take_of_length_le (by omega)] at hf
    rw [parse_end hal hf,if_neg h8,hll]
   ·exact parse_fail hal hf (hzl hne) (step_no hz)
  have h8:s.was=8:=Decidable.byContradiction h8
  refine r_ar (by omega) ?_
  obtain ⟨ad,es,rfl,rd,e3⟩:=(hr.up F) ls.length z (by simp)
  obtain rfl:=e3
  refine r_ob ⟨by omega,by omega⟩ ?_
  refine r_ld (v:=Tx z) (by rw [hnn,Int.toNat_natCast];exact cell1 rd) ?_
  refine r_tne (a:=z) (b:=[]) ?_
  refine r_if (λ hne=>?_) (λ hne=>?_)
  ·refine r_ar (by omega) ?_
   refine out F14 ?_
   rw [hnn]
   exact parse_fail hal hf (hzl hne) (step_no hz)
  obtain rfl:z=[]:=Decidable.byContradiction hne
  rw [if_pos rfl,List.append_nil] at hl
  have hll:(linesOf a).length=ls.length:=by rw [hl,List.length_map]
  rw [List.take_of_length_le (by omega)] at hf
  have e:parseP a=(s.c,0,0):=by rw [parse_end hal hf,if_pos h8]
  refine r_ldn (C6.rd lu) ?_
  refine r_stn (B2.fr0 F14) Tryz.sizeOf29 (rConf.one HC.now) (λ w5 D5 f5=>?_) rfl lu rfl
  refine r_ldn (D5.rd lu) ?_
  exact r_ret ⟨us,by rw [e],by rw [e];exact (HC.go2 f5 (λ q hq=>.inl (by simp at hq;simp [hq]))).off.go (Fr.refl [] _) (by simp) (λ q hq=>.inl (by simp [hq])),(f1.trans F14).st f5 (by omega)⟩
end
end Go.Proofs.YtppodgdhdddfkaaGreatDoor.Cg
set_option linter.unusedVariables false
set_option linter.unusedSimpArgs false
namespace Go.Proofs.YtppodgdhdddfkaaGreatDoor.Cg
open Go Go.RowKit Go.Proofs.YtppodgdhdddfkaaGreatDoor.Sx
open Go.Proofs.YtppodgdhdddfkaaGreatDoor.Bi (mixed take_s)
open Go.Proofs.YtppodgdhdddfkaaGreatDoor.Cf
open Go.Proofs.YtppodgdhdddfkaaGreatDoor.Sg
section
variable {Z:ZP} {w w0:World} {R:Value→World→Prop} {A:List Nat→List Value→World→Prop} {B:List Nat→Nat→List Value→World→Prop}
end
end Go.Proofs.YtppodgdhdddfkaaGreatDoor.Cg
