import Derived.Test.YtppodgdhdddfkaaGreatDoorQNb
import Derived.Test.YtppodgdhdddfkaaGreatDoorQMs
set_option linter.unusedVariables false
set_option linter.unusedSimpArgs false
namespace Go.Proofs.YtppodgdhdddfkaaGreatDoor.Sc
set_option maxRecDepth 100000
open Go Go.RowKit Go.Proofs.YtppodgdhdddfkaaGreatDoor.Sx
open Go.Proofs.YtppodgdhdddfkaaGreatDoor.Sg
open Go.Proofs.YtppodgdhdddfkaaGreatDoor.Bi (mixed take_s)
open Go.Proofs.YtppodgdhdddfkaaGreatDoor.Hd (WfB Ebyte Erow)
open Go.Proofs.YtppodgdhdddfkaaGreatDoor.Cg (mn toI r_callZ)
def poTl (x0:Value):T:=.call 19 [x0] λ v39=>exT 0 v39 λ v40=>exT 1 v39 λ v41=>.hv (Instr.alloc 42 true (.tuple #[])) λ v6=>.ef (Instr.storeAt 42 v6 v40) (biT true .neq v41 (I 0) λ v43=>gi v43 (.ret (.tuple [(.slice none 0 0),(.bool false)].toArray)) (.ldn 5 v6 λ v45=>.call 44 [v45] λ v46=>exT 0 v46 λ v47=>exT 1 v46 λ v48=>.ret (.tuple [v47,(.bool true)].toArray)))
section
variable {Z:ZP} {w w0:World} {R:Value→World→Prop} {A:List Nat→List Value→World→Prop} {B:List Nat→Nat→List Value→World→Prop}
theorem rdigit_t (c:UInt8):Cz Tryz.prog 166 [.int .u8 (c.toNat:Nat)] w (λ r w'=>r=I ((unD c).getD 16)∧w'=w) Z:=by
 refine go mixed Tryz.func166 Tryz.call166 rfl (Tr.e166 _) ?_
 have e:unD c=if 48≤c.toNat∧c.toNat≤57 then some ((c.toNat:Int)-48) else if 97≤c.toNat∧c.toNat≤102 then some ((c.toNat:Int)-87) else none:=rfl
 have rest:¬ (48≤c.toNat∧c.toNat≤57)→∀ {A:List Nat→List Value→World→Prop} {B:List Nat→Nat→List Value→World→Prop},wp Tryz.prog Z (λ r w'=>r=I ((unD c).getD 16)∧w'=w) [] (biT true .geq (.int .u8 (c.toNat:Nat)) (.int .u8 97) λ v15=>gi v15 (biT true .leq (.int .u8 (c.toNat:Nat)) (.int .u8 102) λ v18=>gi v18 (biT false .sub (.int .u8 (c.toNat:Nat)) (.int .u8 97) λ v21=>cvT .i64 v21 λ v22=>biT false .add v22 (I 10) λ v23=>.ret v23) (.ret (I 16))) (.ret (I 16))) w A B:=by
  intro hn A B
  rw [if_neg hn] at e
  refine r_if (λ h1=>?_) (λ h1=>?_)
  ·refine r_if (λ h2=>?_) (λ h2=>?_)
   ·rw [if_pos (by omega)] at e
    refine r_are (y:=(c.toNat:Int)-97) (by rw [u8w];omega) ?_
    refine r_are (y:=(c.toNat:Int)-97) (by rw [IntKind.wrap_i64];omega) ?_
    refine r_are (y:=(c.toNat:Int)-87) (by rw [IntKind.wrap_i64];omega) ?_
    exact r_ret ⟨by rw [e];rfl,rfl⟩
   ·rw [if_neg (by omega)] at e
    exact r_ret ⟨by rw [e];rfl,rfl⟩
  ·rw [if_neg (by omega)] at e
   exact r_ret ⟨by rw [e];rfl,rfl⟩
 refine r_if (λ h1=>?_) (λ h1=>?_)
 ·refine r_if (λ h2=>?_) (λ h2=>?_)
  ·rw [if_pos (by omega)] at e
   refine r_are (y:=(c.toNat:Int)-48) (by rw [u8w];omega) ?_
   refine r_are (y:=(c.toNat:Int)-48) (by rw [IntKind.wrap_i64];omega) ?_
   exact r_ret ⟨by rw [e];rfl,rfl⟩
  ·exact rest (by omega)
 ·exact rest (by omega)
def UhR (s:Bs) (w:World) (r:Value) (w':World):Prop:=((∃ v,r=.tuple #[v,.bool true]∧s≠[]∧∃ b,unhexP s=some b∧WfB b∧Or (rI .u8) 5 w.heap.size [] w' v b)∨((unhexP s=none∨s=[])∧r=.tuple #[.slice none 0 0,.bool false]))∧Fr [] w w'
theorem runhex_t (s:Bs) (hs:s.length≤9000000):Cz Tryz.prog 130 [Tx s] w (UhR s w) Z:=by
 refine go mixed Tryz.func130 Tryz.call130 rfl (Tr.e130 _) ?_
 refine r_tlen Tryz.underlying9 ?_
 refine r_if (λ h0=>?_) (λ h0=>?_)
 ·exact r_ret ⟨.inr ⟨.inr (List.eq_nil_of_length_eq_zero (by omega)),rfl⟩,Fr.refl _ _⟩
 have h3:s≠[]:=by rintro rfl;exact h0 rfl
 refine r_tlen Tryz.underlying9 ?_
 refine r_rem (by decide) ?_
 refine r_if (λ h=>?_) (λ h=>?_)
 ·refine r_ret ⟨.inr ⟨.inl (unhexP_odd s.length s (Nat.le_refl _) ?_),rfl⟩,Fr.refl _ _⟩
  rw [Int.tmod_eq_emod_of_nonneg (by omega)] at h
  omega
 have hev:s.length % 2=0:=by
  have h:=Classical.not_not.1 h
  rw [Int.tmod_eq_emod_of_nonneg (by omega)] at h
  omega
 refine r_loop (λ (x:Nat × Value)=>[I ((2 * x.1:Nat):Int),x.2,.bool false,.slice none 0 0]) (λ x W=>2 * x.1≤s.length∧Fr [] w W∧∃ b,b.length=x.1∧WfB b∧Or (rI .u8) 5 w.heap.size [] W x.2 b∧unhexP s=(unhexP (s.drop (2 * x.1))).map λ l=>b++l) (λ x=>s.length-2 * x.1) (0,.slice none 0 0) ⟨Nat.zero_le _,Fr.refl _ _,[],rfl,λ _ h=>(nomatch h),Or.nil,by simp⟩ rfl ?_
 rintro ⟨i,v⟩ W ⟨hi,F,b,hb,hwb,HO,hu⟩
 dsimp only at hi hb HO hu
 refine r_tlen Tryz.underlying9 ?_
 refine r_if (λ h4=>?_) (λ h4=>?_)
 ·dsimp only at h4
  obtain ⟨x,hx⟩:=gt (xs:=s) (j:=2 * i) (by omega)
  obtain ⟨y,hy⟩:=gt (xs:=s) (j:=2 * i+1) (by omega)
  have hdr:s.drop (2 * i)=x :: y :: s.drop (2 * (i+1)):=by
   rw [List.drop_eq_getElem_cons (by omega),List.drop_eq_getElem_cons (i:=2 * i+1) (by omega),show 2 * i+1+1=2 * (i+1) by omega,(List.getElem?_eq_some_iff.1 hx).2,(List.getElem?_eq_some_iff.1 hy).2]
  rw [hdr] at hu
  refine r_dr (λ W1 f1=>?_)
  refine r_tix (a:=s) Tryz.underlying9 (2 * i) rfl hx ?_
  refine r_ar (by dsimp only;omega) ?_
  refine r_tix (a:=s) Tryz.underlying9 (2 * i+1) (by dsimp only;omega) hy ?_
  refine r_call (rdigit_t x) ?_
  rintro _ _ ⟨rfl,rfl⟩
  refine r_call (rdigit_t y) ?_
  rintro _ _ ⟨rfl,rfl⟩
  have F1:=F.trans f1
  cases hd:unD x with
  | none =>
   refine r_ret ⟨.inr ⟨.inl (by rw [hu,unhexP_bad (.inl hd)];rfl),rfl⟩,F1⟩
  | some d =>
  have l1:=unD_lt hd
  refine r_if (λ h=>absurd h (by show ¬ (d > 15);omega)) (λ _=>?_)
  cases he:unD y with
  | none =>
   refine r_ret ⟨.inr ⟨.inl (by rw [hu,unhexP_bad (.inr he)];rfl),rfl⟩,F1⟩
  | some e =>
  have l2:=unD_lt he
  refine r_if (λ h=>absurd h (by show ¬ (e > 15);omega)) (λ _=>?_)
  refine r_ar (z:=16 * d) (by omega) ?_
  refine r_ar (z:=16 * d+e) (by omega) ?_
  refine r_are (y:=16 * d+e) (by rw [u8w];omega) ?_
  refine r_appL (x:=16 * d+e) (es:=[.int .u8 (16 * d+e)]) Ebyte (HO.fr0 f1) (λ _ _=>rfl) (by simp only [big];omega) F1.size (λ v' W4 O4 f4 o4=>?_)
  refine r_ar (by dsimp only;omega) ?_
  refine r_ag (s:=(i,v)) (i+1,v') ⟨by dsimp only;omega,F1.trans_new f4 (λ q hq=>.inr (HO.lt q hq).1),b++[16 * d+e],by simp [hb],?_,O4,?_⟩ (by dsimp only;omega) (by dsimp only;rw [show ((2 * (i+1):Nat):Int)=((2 * i:Nat):Int)+2 by omega];rfl)
  ·intro z hz
   rcases List.mem_append.1 hz with hz | hz
   ·exact hwb z hz
   ·simp at hz;subst hz;omega
  ·rw [hu,unhexP_two hd he]
   dsimp only
   cases unhexP (s.drop (2 * (i+1))) with
   | none=>rfl
   | some l=>simp
 ·dsimp only at h4
  rw [List.drop_of_length_le (by omega)] at hu
  refine r_brk (r_ret ⟨.inl ⟨v,rfl,h3,b,?_,hwb,HO⟩,F⟩)
  rw [hu,unhexP]
  simp
def PoR (s:Bs) (w:World) (r:Value) (w':World):Prop:=((∃ v b,r=.tuple #[v,.bool true]∧pieceP s=some b∧WfB b∧b.length≤16∧Sl (rI .u8) w' v b)∨(∃ v,r=.tuple #[v,.bool false]∧pieceP s=none))∧Fr [] w w'
theorem poTl_t (s:Bs) (hs:s.length≤9000000) (hp:pieceP s=if (parseRq s).2=0 then some (bytesQ (parseRq s).1) else none):wp Tryz.prog Z (PoR s w) [] (poTl (Tx s)) w A B:=by
 unfold poTl
 refine r_call (rParseRequest_t s hs) ?_
 rintro _ w1 ⟨rfl,f1⟩
 refine r_al (zs:=Hd.zReq) Tryz.zeroValue42 (λ v6 w2 e6 B6 f2=>?_)
 refine r_stn (cs:=eRequest (parseRq s).1) B6 Tryz.sizeOf42 (iRequest _) (λ w3 B7 f3=>?_)
 have F3:Fr [] w w3:=(f1.trans f2).trans_new f3 (λ q hq=>.inr (by simp at hq;have:=f1.size;omega))
 refine r_if (λ h=>?_) (λ h=>?_)
 ·exact r_ret ⟨.inr ⟨_,rfl,by rw [hp,if_neg h]⟩,F3⟩
 have h:=Classical.not_not.1 h
 obtain ⟨hq,hqt,hqw,_⟩:=parseRq_ok h
 refine r_ldn (B7.rd rfl) ?_
 refine r_call (rBytes_t (parseRq s).1 hqw) ?_
 rintro _ w4 ⟨vb,rfl,HO,f4⟩
 rw [if_pos hq] at HO
 exact r_ret ⟨.inl ⟨vb,_,rfl,by rw [hp,if_pos h],bytesQ_wf hqw,by rw [bytesQ_len];decide,HO.row (by rw [bytesQ_len];decide)⟩,F3.trans f4⟩
theorem pieceOf_t (s:Bs) (hs:s.length≤9000000):Cz Tryz.prog 84 [Tx s] w (PoR s w) Z:=by
 refine go mixed Tryz.func84 Tryz.call84 rfl (Tr.e84 _) ?_
 have hp:pieceP s=if s.take 4=kHex∧4 < s.length then (unhexP (s.drop 4)).bind λ b=>if b.length≤16∧pieceT b=s then some b else none
  else if (parseRq s).2=0 then some (bytesQ (parseRq s).1) else none:=rfl
 refine r_tlen Tryz.underlying9 ?_
 refine r_if (λ h4=>?_) (λ h4=>?_)
 rotate_left
 ·exact poTl_t s hs (by rw [hp,if_neg (λ h=>h4 (by omega))])
 refine r_tslh Tryz.underlying9 4 rfl (by omega) ?_
 refine r_teq (a:=s.take 4) (b:=kHex) ?_
 refine r_if (λ hk=>?_) (λ hk=>?_)
 rotate_left
 ·exact poTl_t s hs (by rw [hp,if_neg (λ h=>hk h.1)])
 rw [if_pos ⟨hk,by omega⟩] at hp
 refine r_tsll Tryz.underlying9 4 rfl (by omega) ?_
 refine r_call (runhex_t (s.drop 4) (by rw [List.length_drop];omega)) ?_
 rintro _ w1 ⟨⟨v,rfl,hne,b,hu,hwb,HO⟩ | ⟨hno,rfl⟩,f1⟩
 rotate_left
 ·refine r_ret ⟨.inr ⟨_,rfl,?_⟩,f1⟩
  rcases hno with h | h
  ·rw [hp,h];rfl
  ·have:=congrArg List.length h
   rw [List.length_drop,List.length_nil] at this
   omega
 rw [hu] at hp
 replace hp:pieceP s=if b.length≤16∧pieceT b=s then some b else none:=hp
 have hbl:=(unhexP_len _ _ (Nat.le_refl _) hu).1
 rw [List.length_drop] at hbl
 obtain ⟨X,c,rfl,x1,x2,x3⟩:=HO.row (by simp only [big];omega)
 refine r_if (λ h16=>?_) (λ h16=>?_)
 rotate_left
 ·exact r_ret ⟨.inr ⟨_,rfl,by rw [hp,if_neg (λ h=>h16 (by omega))]⟩,f1⟩
 refine r_call (rpiece_t x3 hwb (by omega) x1) ?_
 rintro _ w2 ⟨rfl,f2⟩
 refine r_teq ?_
 by_cases he:pieceT b=s
 ·rw [decide_eq_true he]
  exact r_ret ⟨.inl ⟨_,b,rfl,by rw [hp,if_pos ⟨by omega,he⟩],hwb,by omega,_,c,rfl,x1,x2,x3.up f2⟩,f1.trans f2⟩
 ·rw [decide_eq_false he]
  exact r_ret ⟨.inr ⟨_,rfl,by rw [hp,if_neg (λ h=>he h.2)]⟩,f1.trans f2⟩
end
end Go.Proofs.YtppodgdhdddfkaaGreatDoor.Sc
set_option linter.unusedVariables false
set_option linter.unusedSimpArgs false
namespace Go.Proofs.YtppodgdhdddfkaaGreatDoor.Sc
set_option maxRecDepth 100000
open Go Go.RowKit Go.Proofs.YtppodgdhdddfkaaGreatDoor.Sx
open Go.Proofs.YtppodgdhdddfkaaGreatDoor.Sg
open Go.Proofs.YtppodgdhdddfkaaGreatDoor.Bi (mixed take_s Eint)
open Go.Proofs.YtppodgdhdddfkaaGreatDoor.Hd (WfB Ebyte Erow)
open Go.Proofs.YtppodgdhdddfkaaGreatDoor.Cg (mn toI r_callZ plainT splitP splitP_len splitP_ne r_tne)
theorem cans_step {ws:List Bs} {k:Nat} {a:Bs} (ha:ws[k]? = some a):cans (ws.drop k)=match canI a,cans (ws.drop (k+1)) with | some v,some l=>some (v :: l) | _,_=>none:=by
 have hl:=List.getElem?_eq_some_iff.1 ha
 rw [List.drop_eq_getElem_cons hl.1,hl.2,cans]
 cases canI a<;>cases cans (ws.drop (k+1))<;>rfl
def pkTl (v2 v4 v9 v38:Value) (z1:List Value):T:=.dr (ixT 1 v9 (nv z1 0) λ v47=>.ld v47 λ v48=>.call 82 [v38] λ v44=>.chk none v47 v48 (.pu (do eqGuard .neq 9 (.tmp 44) (.tmp 48) v44 v48;binOp .neq 9 v44 v48) λ v49=>gi v49 (.ldn 2 v4 λ v50=>.ef (Instr.storeAt 76 v2 v50) (.ldn 2 v2 λ r0=>.ret (.tuple [r0,(B false)].toArray))) (faT 1 v4 λ v51=>.ld v51 λ v52=>.hv (Instr.buildSlice 27 1 [(0,v38)].toArray) λ v54=>.hv (Builtin.append_ #[27,27] 27 [v52,v54].toArray) λ v55=>faT 1 v4 λ v56=>.ef (Instr.storeAt 27 v56 v55) (biT false .add (nv z1 0) (I 1) λ v15=>.again [v15,(nv z1 1)]))))
def RpR (s:Bs) (w:World) (r:Value) (w':World):Prop:=((∃ cs t,r=.tuple #[.agg cs.toArray,.bool true]∧picksP s=some t∧Nu w w' (λ W=>rTick.r W cs t))∨(∃ cs:List Value,r=.tuple #[.agg cs.toArray,.bool false]∧cs.length=2∧(∀ v∈cs,v.oneCell'=true)∧picksP s=none))∧Fr [] w w'
section
variable {Z:ZP} {w w0:World} {R:Value→World→Prop} {A:List Nat→List Value→World→Prop} {B:List Nat→Nat→List Value→World→Prop}
theorem rpFail {s:Bs} {v2 v4:Nat} {cs zs:List Value} (H:Bx w0 w [(v4,76,cs),(v2,76,zs)]) (hl:cs.length=2) (hz:zs.length=2) (h1:∀ v∈cs,v.oneCell'=true) (hn:picksP s=none):wp Tryz.prog Z (RpR s w0) [] (.ldn 2 (Pt v4 0) λ v50=>.ef (Instr.storeAt 76 (Pt v2 0) v50) (.ldn 2 (Pt v2 0) λ r0=>.ret (.tuple [r0,(.bool false)].toArray))) w A B:=by
 refine b_ldn H 0 rfl ?_ hl
 refine r_stn (cs:=cs) (H.blk (i:=1) rfl) Tryz.sizeOf76 h1 (λ W1 B1 f1=>?_) rfl hl hz
 have H:=H.set (i:=1) rfl B1 f1
 refine b_ldn H 1 rfl ?_ hl
 exact b_ret H (λ F=>⟨.inr ⟨cs,rfl,hl,h1,hn⟩,F⟩)
theorem pkTl_t {s a:Bs} {ws:List Bs} {v2 v4 base i:Nat} {n:Int} {ps:List Int} {v9 u:Value} (H:Bx w0 w [(v4,76,[.slice none 0 0,u]),(v2,76,zT)])
  (HO:Or (rI .i64) 3 base [] w u ps) (HW:Or rT 9 base [] w v9 ws) (hd:∀ q∈u.ownBlock.toList,q∉v9.ownBlock.toList) (hbl:base≤w.heap.size) (hb0:w0.heap.size≤base) (h2:v2 < base) (h4:v4 < base) (ha:ws[i]? = some a) (hwl:ws.length≤10000000) (hpl:ps.length≤10000000) (hn:in64 n)
  (hno:Lib.itoa n≠a→picksP s=none)
  (hk:Lib.itoa n=a→∀ W' u',Bx w0 W' [(v4,76,[.slice none 0 0,u']),(v2,76,zT)]→Or (rI .i64) 3 base [] W' u' (ps++[n])→Or rT 9 base [] W' v9 ws→(∀ q∈u'.ownBlock.toList,q∉v9.ownBlock.toList)→base≤W'.heap.size→A [] [I ((i+1:Nat):Int),.bool false] W'):wp Tryz.prog Z (RpR s w0) [] (pkTl (Pt v2 0) (Pt v4 0) v9 (I n) [I (i:Int),.bool false]) w A B:=by
 unfold pkTl
 obtain ⟨X,c,rfl,_,_,hr⟩:=HW.row (by simp only [big];omega)
 obtain ⟨ad,es,rfl,rd,e3⟩:=hr i a ha
 obtain rfl:=e3
 have hil:=(List.getElem?_eq_some_iff.1 ha).1
 refine r_dr (λ W1 f1=>?_)
 have H:=H.fr f1
 have HO:=HO.fr0 f1
 have HW:=HW.fr0 f1
 refine r_ob ⟨by omega,by omega⟩ ?_
 refine r_ld (cell1 (rd.fr f1)) ?_
 refine r_call (rinteger_t n hn) ?_
 rintro _ W2 ⟨rfl,f2⟩
 have H:=H.fr f2
 have HO:=HO.fr0 f2
 have HW:=HW.fr0 f2
 have s1:=f1.size
 have s2:=f2.size
 refine r_chk (cell1 ((rd.fr f1).fr f2)) ?_
 refine r_tne ?_
 obtain ⟨Xu,cu,rfl,_⟩:=HO.row (by simp only [big];omega)
 refine r_if (λ hne=>?_) (λ hne=>?_)
 ·exact rpFail H rfl rfl (one_sl _ _ _ _ _ _) (hno hne)
 refine b_ld H 0 (j:=1) rfl rfl ?_
 refine r_appL (x:=n) (es:=[I n]) Eint HO (λ _ _=>rfl) (by simp only [big];omega) (by omega) (λ u' W4 O4 f4 o4=>?_)
 have hown:∀ q∈(Value.slice Xu ps.length cu).ownBlock.toList,base≤q:=λ q hq=>(HO.lt q hq).1
 have H:=H.frS f4 (λ q hq=>by have:=hown q hq;omega) (λ q hq p hp=>by
   have:=hown q hq
   simp only [List.mem_cons,List.not_mem_nil,or_false] at hp
   rcases hp with rfl | rfl<;>(dsimp only;omega))
 have hd':∀ q∈u'.ownBlock.toList,q∉(Value.slice (some ad) ws.length c).ownBlock.toList:=λ q hq hm=>by
  rcases o4 q hq with h | h
  ·exact hd q h hm
  ·have:=(HW.lt q hm).2;omega
 have HW:=HW.upP (S2:=[]) plainT f4 hd
 obtain ⟨X4,c4,rfl,_⟩:=O4.row (by simp only [big,List.length_append,List.length_singleton];omega)
 refine r_st1 (o:=1) (H.blk (i:=0) rfl) Tryz.sizeOf27 (λ W5 B5 f5=>?_)
 have H:=H.set (i:=0) rfl B5 f5
 have s4:=f4.size
 have s5:=f5.size
 have HW:=HW.upP (S2:=[]) plainT f5 (λ q hq hm=>by have:=(HW.lt q hm).1;simp at hq;omega)
 have O5:=O4.upP (S2:=[]) plainI f5 (λ q hq hm=>by have:=(O4.lt q hm).1;simp at hq;omega)
 refine r_ar (by omega) ?_
 exact hk (Classical.not_not.1 hne) W5 _ H O5 HW hd' (by omega)
theorem rpicks_t (s:Bs) (hl:s.length≤9000000):Cz Tryz.prog 40 [Tx s] w (RpR s w) Z:=by
 refine go mixed Tryz.func40 Tryz.call40 rfl (Tr.e40 _) ?_
 refine b_al (zs:=zT) (Bx.nil w) Tryz.zeroValue76 (λ v2 w1 H=>?_)
 refine b_al (zs:=zT) H Tryz.zeroValue76 (λ v4 w2 H=>?_)
 have g2:=(H.blk (i:=1) rfl).lt
 have g4:=(H.blk (i:=0) rfl).lt
 have s2:=H.F.size
 refine r_call (rsplit2_t s 32 hl) ?_
 rintro v9 w3 ⟨HW,f3⟩
 have H:=H.fr f3
 have hne:=splitP_ne 32 s
 have hsl:=splitP_len 32 s
 have epk:picksP s=if (splitP 32 s).headD []=kTick then (cans (splitP 32 s).tail).bind λ v=>if smallT ⟨[],v⟩=true then some ⟨[],v⟩ else none else none:=rfl
 generalize splitP 32 s=ws at HW hne hsl epk
 obtain ⟨w0',ws',rfl⟩:=List.exists_cons_of_ne_nil hne
 have epk:picksP s=if w0'=kTick then (cans ws').bind λ v=>if smallT ⟨[],v⟩=true then some ⟨[],v⟩ else none else none:=epk
 have hwl:(w0' :: ws').length=ws'.length+1:=rfl
 have hbad:cans ws'=none→picksP s=none:=λ h=>by rw [epk,h];split<;>rfl
 have sz3:=f3.size
 refine r_loop (λ (k:Nat)=>[I ((k+1:Nat):Int),.bool false]) (λ k W=>k≤ws'.length∧∃ u ps,Bx w W [(v4,76,[.slice none 0 0,u]),(v2,76,zT)]∧Or (rI .i64) 3 w2.heap.size [] W u ps∧Or rT 9 w2.heap.size [] W v9 (w0' :: ws')∧(∀ q∈u.ownBlock.toList,q∉v9.ownBlock.toList)∧w2.heap.size≤W.heap.size∧ps.length=k∧cans ws'=(cans (ws'.drop k)).map (λ l=>ps++l)) (λ k=>ws'.length-k) 0 ⟨Nat.zero_le _,.slice none 0 0,[],H,Or.nil,HW,by simp [Value.ownBlock],sz3,rfl,by simp⟩ rfl ?_
 clear H HW
 rintro k W ⟨hk,u,ps,H,HO,HW,hd,hsz,hpl,hc⟩
 obtain ⟨X9,c9,rfl,_,_,hr⟩:=HW.row (by simp only [big];omega)
 refine r_if (λ h=>?_) (λ h=>?_)
 ·obtain ⟨a,ha'⟩:=gt (xs:=ws') (j:=k) (by omega)
  have ha:(w0' :: ws')[k+1]? = some a:=ha'
  have hstep:=cans_step ha'
  have hal:=hsl.2 a (List.mem_of_getElem? ha)
  obtain ⟨ad,es,rfl,rd,e3⟩:=hr (k+1) a ha
  obtain rfl:=e3
  have hno:Lib.itoa (intR a)≠a→picksP s=none:=λ hne=>hbad (by
   rw [hc,hstep]
   have:canI a=none:=by unfold canI;rw [if_neg hne]
   rw [this];rfl)
  have hyes:Lib.itoa (intR a)=a→cans ws'=(cans (ws'.drop (k+1))).map (λ l=>(ps++[intR a])++l):=λ he=>by
   rw [hc,hstep]
   have:canI a=some (intR a):=by unfold canI;rw [if_pos he]
   rw [this]
   cases cans (ws'.drop (k+1))<;>simp
  refine r_ob ⟨by omega,by omega⟩ ?_
  refine r_ld (cell1 rd) ?_
  refine r_tlen Tryz.underlying9 ?_
  have fin:a.head? ≠ some 45→intR a=toI (numR a):=λ h=>by unfold intR;rw [if_neg h]
  have hnum:numAt (w0' :: ws') (k+1)=(numR a:Int):=by unfold numAt;rw [ha]
  have hrow:Rw rT W (some ad) (w0' :: ws'):=hr
  refine r_if (λ h1=>?_) (λ h1=>?_)
  ·obtain ⟨b,r,rfl⟩:∃ b r,a=b :: r:=by
    cases a with
    | nil=>exact absurd h1 (by simp)
    | cons b r=>exact ⟨b,r,rfl⟩
   refine r_ob ⟨by omega,by omega⟩ ?_
   refine r_ld (cell1 rd) ?_
   refine r_tix Tryz.underlying9 (a:=b :: r) 0 rfl rfl ?_
   refine r_if (λ h45=>?_) (λ h45=>?_)
   ·have hb:b=45:=UInt8.toNat_inj.1 (by show b.toNat=45;omega)
    subst hb
    refine r_ob ⟨by omega,by omega⟩ ?_
    refine r_ld (cell1 rd) ?_
    refine r_tsll Tryz.underlying9 (a:=45 :: r) 1 rfl (by simp) ?_
    refine r_bs1 (cs:=[Tx r]) Cg.Estr (λ b6 W6 e6 B6 f6=>?_) rfl rfl
    have hrow1:Rw rT W6 (some ⟨b6,0,none⟩) [r]:=rwBlk B6 (λ j x hj=>by
     match j,hj with
     | 0,hj=>cases hj;rfl)
    refine r_call (rnum_t hrow1 0 (by decide) (λ x hx=>by simp only [List.mem_singleton] at hx;subst hx;simp at hal;omega)) ?_
    rintro _ _ ⟨rfl,rfl⟩
    have hn0:numAt [r] 0=(numR r:Int):=rfl
    have hlt:=numR_lt r
    rw [hn0]
    refine Cg.r_negU ?_
    have e64:∀ z:Int,IntKind.u64.wrap z=z % 18446744073709551616:=λ z=>rfl
    refine r_are (y:=intR (45 :: r)) ?_ ?_
    ·have e:intR (45 :: r)=toI ((18446744073709551616-numR r) % 18446744073709551616):=rfl
     rw [e64,toI_wrap (by omega),e]
     congr 1
     omega
    ·exact pkTl_t (H.fr f6) (HO.fr0 f6) (HW.fr0 f6) hd (by have:=f6.size;omega) s2 g2 g4 ha (by omega) (by omega) (intR_64 _) hno (λ he W' u' H' HO' HW' hd' hs'=>⟨k+1,rfl,by omega,rfl,by omega,u',_,H',HO',HW',hd',hs',by simp [hpl],hyes he⟩)
   ·refine r_call (rnum_t hrow (k+1) (by omega) (λ x hx=>by have:=hsl.2 x hx;omega)) ?_
    rintro _ _ ⟨rfl,rfl⟩
    have hlt:=numR_lt (b :: r)
    rw [hnum]
    refine r_are (y:=intR (b :: r)) ?_ ?_
    ·rw [toI_wrap (by omega),fin (by rintro h;apply h45;cases h;rfl),Int.toNat_natCast]
    ·exact pkTl_t H HO HW hd (by omega) s2 g2 g4 ha (by omega) (by omega) (intR_64 _) hno (λ he W' u' H' HO' HW' hd' hs'=>⟨k+1,rfl,by omega,rfl,by omega,u',_,H',HO',HW',hd',hs',by simp [hpl],hyes he⟩)
  ·obtain rfl:a=[]:=List.eq_nil_of_length_eq_zero (by omega)
   refine r_call (rnum_t hrow (k+1) (by omega) (λ x hx=>by have:=hsl.2 x hx;omega)) ?_
   rintro _ _ ⟨rfl,rfl⟩
   have hlt:=numR_lt []
   rw [hnum]
   refine r_are (y:=intR []) ?_ ?_
   ·rw [toI_wrap (by omega),fin (by rintro h;cases h),Int.toNat_natCast]
   ·exact pkTl_t H HO HW hd (by omega) s2 g2 g4 ha (by omega) (by omega) (intR_64 _) hno (λ he W' u' H' HO' HW' hd' hs'=>⟨k+1,rfl,by omega,rfl,by omega,u',_,H',HO',HW',hd',hs',by simp [hpl],hyes he⟩)
 ·obtain rfl:k=ws'.length:=by omega
  rw [List.drop_length] at hc
  have hc:cans ws'=some ps:=by rw [hc];simp [cans]
  refine r_brk ?_
  refine r_dr (λ W1 f1=>?_)
  have H:=H.fr f1
  have HO:=HO.fr0 f1
  have s1:=f1.size
  obtain ⟨Xu,cu,rfl,_⟩:=HO.row (by simp only [big];omega)
  obtain ⟨ad,es,rfl,rd,e3⟩:=hr 0 w0' rfl
  obtain rfl:=e3
  have tick:∀ {W2:World},Fr [v2] W1 W2→Nu w W2 (λ W=>rTick.r W [.slice none 0 0,.slice Xu ps.length cu] ⟨[],ps⟩):=λ f2 W3 S f3 hS=>by
   have HO2:=HO.upP (S2:=[]) plainI f2 (λ q hq hm=>by have:=(HO.lt q hm).1;simp at hq;omega)
   have HO3:=HO2.upP (S2:=[]) plainI f3 (λ q hq hm=>by have:=HO2.lt q hm;rcases hS q hq with h | h<;>omega)
   obtain ⟨_,_,e0,m1,m2,m3⟩:=HO3.row (by simp only [big];omega)
   cases e0
   exact mTick (x:=⟨[],ps⟩) ⟨Nat.le_refl _,Nat.zero_le _,λ j x hj=>(nomatch hj)⟩ ⟨m1,m2,m3⟩
  refine b_ldn H 0 rfl ?_
  refine r_ob ⟨by decide,by omega⟩ ?_
  refine r_ld (cell1 (rd.fr f1)) ?_
  refine r_teq (a:=w0') (b:=kTick) ?_
  refine r_if (λ hk=>?_) (λ hk=>?_)
  ·rw [if_pos hk,hc] at epk
   replace epk:picksP s=if smallT ⟨[],ps⟩=true then some ⟨[],ps⟩ else none:=epk
   refine b_ldn H 0 rfl ?_
   refine r_call (rsmallTick_t (tick (Fr.refl _ _)).now) ?_
   rintro _ W2 ⟨rfl,f2⟩
   have H:=H.fr f2
   refine r_chkn (n:=2) ((H.blk (i:=0) rfl).rd rfl) ?_
   refine r_stn (cs:=[.slice none 0 0,.slice Xu ps.length cu]) (H.blk (i:=1) rfl) Tryz.sizeOf76 (one_sl _ _ _ _ _ _) (λ W3 B3 f3=>?_)
   have H:=H.set (i:=1) rfl B3 f3
   refine b_ldn H 1 rfl ?_
   have hN:=tick ((f2.mono (by simp)).trans f3)
   by_cases hs:smallT ⟨[],ps⟩=true
   ·rw [hs]
    rw [if_pos hs] at epk
    exact b_ret H (λ F=>⟨.inl ⟨_,_,rfl,epk,hN⟩,F⟩)
   ·have hs2:smallT ⟨[],ps⟩=false:=by cases h:smallT ⟨[],ps⟩ with | true=>exact absurd h hs | false=>rfl
    rw [hs2]
    rw [if_neg hs] at epk
    exact b_ret H (λ F=>⟨.inr ⟨_,rfl,rfl,one_sl _ _ _ _ _ _,epk⟩,F⟩)
  ·rw [if_neg hk] at epk
   refine r_chkn (n:=2) ((H.blk (i:=0) rfl).rd rfl) ?_
   refine r_stn (cs:=[.slice none 0 0,.slice Xu ps.length cu]) (H.blk (i:=1) rfl) Tryz.sizeOf76 (one_sl _ _ _ _ _ _) (λ W3 B3 f3=>?_)
   have H:=H.set (i:=1) rfl B3 f3
   refine b_ldn H 1 rfl ?_
   exact b_ret H (λ F=>⟨.inr ⟨_,rfl,rfl,one_sl _ _ _ _ _ _,epk⟩,F⟩)
end
end Go.Proofs.YtppodgdhdddfkaaGreatDoor.Sc
set_option linter.unusedVariables false
set_option linter.unusedSimpArgs false
namespace Go.Proofs.YtppodgdhdddfkaaGreatDoor.Sc
set_option maxRecDepth 100000
open Go Go.RowKit Go.Proofs.YtppodgdhdddfkaaGreatDoor.Sx
open Go.Proofs.YtppodgdhdddfkaaGreatDoor.Sg
open Go.Proofs.YtppodgdhdddfkaaGreatDoor.Bi (mixed take_s Eint)
open Go.Proofs.YtppodgdhdddfkaaGreatDoor.Hd (WfB Ebyte Erow)
open Go.Proofs.YtppodgdhdddfkaaGreatDoor.Cg (mn toI r_callZ plainT splitP splitP_len splitP_ne r_tne RwO.go)
def rmL (v2 v4 v17 v51:Value):T:=.hv (Instr.buildSlice 74 0 [].toArray) λ v56=>faT 0 v2 λ v57=>.ld v57 λ v58=>.hv (Builtin.append_ #[74,74] 74 [v56,v58].toArray) λ v59=>.loop [v59] (λ z1=>lnT (nv z1 0) λ v61=>biT true .leq v61 v17 λ v63=>gi v63 (.hv (Instr.buildSlice 74 1 [(0,(.slice none 0 0))].toArray) λ v65=>.hv (Builtin.append_ #[74,74] 74 [(nv z1 0),v65].toArray) λ v66=>.again [v66]) (.brk 0 [(nv z1 0)])) (λ i1 z1=>bq i1 0 (ixT 1 (nv z1 0) v17 λ v69=>.ld v69 λ v70=>lnT v70 λ v71=>.pu (binOp .rem 3 v71 (I 16)) λ v72=>biT true .neq v72 (I 0) λ v73=>gi v73 (.ldn 2 v2 λ v74=>.ef (Instr.storeAt 76 v4 v74) (.ldn 2 v4 λ r0=>.ret (.tuple [r0,(B false)].toArray))) (.hv (Instr.buildSlice 48 0 [].toArray) λ v77=>ixT 1 (nv z1 0) v17 λ v80=>.ld v80 λ v81=>.hv (Builtin.append_ #[48,48] 48 [v77,v81].toArray) λ v82=>.hv (Builtin.append_ #[48,48] 48 [v82,v51].toArray) λ v84=>ixT 1 (nv z1 0) v17 λ v85=>.ef (Instr.storeAt 48 v85 v84) (faT 1 v2 λ v87=>.ld v87 λ v88=>bdT [(0,(nv z1 0)),(1,v88)] [(.slice none 0 0),(.slice none 0 0)] λ v89=>.hv (Instr.alloc 76 true (.tuple #[])) λ v11=>.ef (Instr.storeAt 76 v11 (.agg v89.toArray)) (.dr (.ldn 2 v11 λ v90=>.ldn 2 v11 λ v91=>.call 83 [v91] λ v92=>.chk (some 2) v11 v90 (.ef (Instr.storeAt 76 v4 v90) (.ldn 2 v4 λ r0=>.ret (.tuple [r0,v92].toArray)))))))) (.bad))
theorem canI_num {h:Bs} (e:Lib.itoa ((numR h % 1000:Nat):Int)=h):canI h=some ((numR h % 1000:Nat):Int):=by
 have:=canI_itoa (n:=((numR h % 1000:Nat):Int)) (by unfold in64;omega)
 rw [e] at this
 exact this
theorem canI_not {h:Bs} (e:Lib.itoa ((numR h % 1000:Nat):Int)≠h) {v:Int} (hc:canI h=some v):¬ (0≤v∧v < 16):=by
 rintro ⟨h1,h2⟩
 obtain ⟨k1,k2⟩:=canI_ok hc
 have k3:=numR_nat (n:=v) ⟨h1,by omega⟩
 have k4:natB v=Lib.itoa v:=by
  unfold natB Lib.itoa
  rw [if_neg (by omega)]
 rw [k4,k1] at k3
 apply e
 rw [show ((numR h % 1000:Nat):Int)=v by omega]
 exact k1
def RmR (S:List Nat) (w0:World) (t:GTick) (s:Bs) (r:Value) (w':World):Prop:=((∃ cs x,r=.tuple #[.agg cs.toArray,.bool true]∧moreP t s=some x∧TO S w' cs x)∨(∃ cs:List Value,r=.tuple #[.agg cs.toArray,.bool false]∧cs.length=2∧(∀ v∈cs,v.oneCell'=true)∧moreP t s=none))∧Fr [] w0 w'
section
variable {Z:ZP} {w w0:World} {R:Value→World→Prop} {A:List Nat→List Value→World→Prop} {B:List Nat→Nat→List Value→World→Prop}
theorem rmFail {S:List Nat} {t:GTick} {s:Bs} {v2 v4:Nat} {cs zs:List Value} (H:Bx w0 w [(v4,76,zs),(v2,76,cs)]) (hl:cs.length=2) (hz:zs.length=2) (h1:∀ v∈cs,v.oneCell'=true) (hn:moreP t s=none):wp Tryz.prog Z (RmR S w0 t s) [] (.ldn 2 (Pt v2 0) λ v50=>.ef (Instr.storeAt 76 (Pt v4 0) v50) (.ldn 2 (Pt v4 0) λ r0=>.ret (.tuple [r0,(.bool false)].toArray))) w A B:=by
 refine b_ldn H 1 rfl ?_ hl
 refine r_stn (cs:=cs) (H.blk (i:=0) rfl) Tryz.sizeOf76 h1 (λ W1 B1 f1=>?_) rfl hl hz
 have H:=H.set (i:=0) rfl B1 f1
 refine b_ldn H 0 rfl ?_ hl
 exact b_ret H (λ F=>⟨.inr ⟨cs,rfl,hl,h1,hn⟩,F⟩)
theorem rmL_wp {S:List Nat} {t:GTick} {s:Bs} {n v2 v4 c0 c1 cb:Nat} {A0 A1 Bb:Option Addr} {bp:By} {W:World} (H:Bx w0 W [(v4,76,zT),(v2,76,[.slice A0 t.bytes.length c0,.slice A1 t.picks.length c1])])
  (hT:TO S w0 [.slice A0 t.bytes.length c0,.slice A1 t.picks.length c1] t) (hP1:t.picks.length≤c1) (hB:Sl (rI .u8) W (.slice Bb bp.length cb) bp) (hbl:bp.length≤1000)
  (hn:n < 16) (hln:t.bytes.length≤n+1) (hsm:smallT t=true) (hmr:moreP t s=moreT t n bp) (hS:∀ q∈S,q < w0.heap.size) :
  wp Tryz.prog Z (RmR S w0 t s) [] (rmL (Pt v2 0) (Pt v4 0) (I n) (.slice Bb bp.length cb)) W A B:=by
 unfold rmL
 obtain ⟨q1,q2,q3⟩:=small_parts hsm
 obtain ⟨hR,hP⟩:=to_parts hT
 obtain ⟨_,_,e0,b1,b2,b3⟩:=hB
 cases e0
 have hN:=H.N
 simp only [List.map_cons,List.map_nil,List.nodup_cons,List.mem_cons,List.not_mem_nil,or_false,not_or] at hN
 obtain ⟨n42,_⟩:=hN
 have l4:=(H.blk (i:=0) rfl).lt
 have l2:=(H.blk (i:=1) rfl).lt
 have g4:=H.ge (i:=0) rfl
 have g2:=H.ge (i:=1) rfl
 have hs0:=H.F.size
 have hR2:RwO (v4 :: v2 :: S) (rL (rI .u8)) W A0 t.bytes:=RwO.go hR H.F (λ q hq=>by
  rcases List.mem_cons.1 hq with rfl | hq
  ·exact .inr g4
  ·rcases List.mem_cons.1 hq with rfl | hq
   ·exact .inr g2
   ·exact .inl hq)
 have bx_own:∀ {W1 W2:World} {O:List Nat} {csv:List Value},Bx w0 W1 [(v4,76,csv),(v2,76,[.slice A0 t.bytes.length c0,.slice A1 t.picks.length c1])]→(∀ q∈O,W.heap.size≤q)→Fr O W1 W2→Bx w0 W2 [(v4,76,csv),(v2,76,[.slice A0 t.bytes.length c0,.slice A1 t.picks.length c1])]:=by
  intro W1 W2 O csv hH hO f
  refine hH.frS f (λ q hq=>by have:=hO q hq;omega) (λ q hq p hp=>?_)
  have:=hO q hq
  simp only [List.mem_cons,List.not_mem_nil,or_false] at hp
  rcases hp with rfl | rfl<;>(dsimp only;omega)
 refine r_bs0 (e:=rL (rI .u8)) (S:=v4 :: v2 :: S) Erow (λ v5 w2 HV f2 hv5=>?_)
 have H:=H.fr f2
 refine b_ld H 1 (j:=0) rfl rfl ?_
 refine r_apps (xs:=t.bytes) Erow HV rfl (RwO.go hR2 f2 (λ q hq=>?_)) (by simp only [big] at *;simp;omega) f2.size (λ v7 w3 HO f3 o3=>?_)
 ·rcases List.mem_append.1 hq with hq | hq
  ·exact .inr (HV.lt q hq).1
  ·exact .inl hq
 rw [List.nil_append] at HO
 have H:=bx_own H (λ q hq=>(HV.lt q hq).1) f3
 have F3:Fr [] W w3:=f2.trans_new f3 (λ q hq=>.inr (HV.lt q hq).1)
 refine r_loop (λ (x:Nat × Value)=>[x.2]) (λ x W'=>Fr [] W W'∧Bx w0 W' [(v4,76,zT),(v2,76,[.slice A0 t.bytes.length c0,.slice A1 t.picks.length c1])]∧Or (rL (rI .u8)) 48 W.heap.size (v4 :: v2 :: S) W' x.2 (t.bytes++List.replicate x.1 [])∧(x.1=0∨t.bytes.length+x.1≤n+1)) (λ x=>n+1-(t.bytes.length+x.1)) (0,v7) ⟨F3,H,by simpa using HO,.inl rfl⟩ rfl ?_
 clear HO H
 rintro ⟨m,u⟩ W1 ⟨Fb,H,HO,hm⟩
 dsimp only at HO hm
 have hlx:(t.bytes++List.replicate m ([]:By)).length=t.bytes.length+m:=by simp
 obtain ⟨X,cx,rfl,x1,x2,x3⟩:=HO.row (by rw [hlx];simp only [big];omega)
 refine r_if (λ h=>?_) (λ h=>?_)
 ·rw [hlx] at h
  refine r_appL (x:=[]) (es:=[.slice none 0 0]) Erow HO (λ _ _=>Sl.nil.r) (by rw [hlx];simp only [big];omega) Fb.size (λ u' W2 O2 f2 o2=>?_)
  have hown:=λ q hq=>(HO.lt q hq).1
  have H:=bx_own H hown f2
  have ex:(t.bytes++List.replicate m ([]:By))++[[]]=t.bytes++List.replicate (m+1) []:=by rw [List.append_assoc,← List.replicate_succ']
  rw [ex] at O2
  exact r_ag (s:=(m,_)) (m+1,u') ⟨Fb.trans_new f2 (λ q hq=>.inr (hown q hq)),H,O2,.inr (by dsimp only;omega)⟩ (by dsimp only;omega) rfl
 ·rw [hlx] at h
  have eg:t.bytes++List.replicate m []=grow t.bytes n:=by unfold grow;congr 2;omega
  rw [eg] at HO hlx x1 x2 x3 ⊢
  obtain ⟨xn,e1,e2,e3⟩:=grow_at (bs:=t.bytes) (n:=n) (by omega)
  obtain ⟨g,cap,e0⟩:=Or.isS HO (by omega)
  cases e0
  have emr:moreT t n bp=if xn.length % 16≠0 then none else if smallT ⟨(grow t.bytes n).set n (xn++bp),t.picks⟩=true then some ⟨(grow t.bytes n).set n (xn++bp),t.picks⟩ else none:=by unfold moreT;rw [e2]
  rw [emr] at hmr
  have hglen:(grow t.bytes n).length≤17:=by rw [hlx];rcases hm with rfl | hm<;>omega
  have hxl:xn.length≤1024:=by
   have hmem:=List.mem_of_getElem? e1
   unfold grow at hmem
   rcases List.mem_append.1 hmem with h | h
   ·exact q3 xn h
   ·rw [(List.mem_replicate.1 h).2];simp
  refine r_brk ?_
  obtain ⟨ad,es,e4,rd,Y,cy,rfl,y1,y2,y3⟩:=x3 n xn e1
  cases e4
  refine r_ob ⟨by omega,by omega⟩ ?_
  refine r_ld (cell1 rd) ?_
  refine r_rem (by decide) ?_
  refine r_if (λ h1=>?_) (λ h1=>?_)
  ·rw [if_pos (by rw [Int.tmod_eq_emod_of_nonneg (by omega)] at h1;omega)] at hmr
   exact rmFail H rfl rfl (one_sl _ _ _ _ _ _) hmr
  rw [if_neg (by rw [Int.tmod_eq_emod_of_nonneg (by omega)] at h1;omega)] at hmr
  have sW1:=Fb.size
  have lgW:=(HO.lt g (by simp [Value.ownBlock])).2
  refine r_bs0 (e:=rI .u8) (S:=[]) Ebyte (λ v77 W2 HV f2 hv5=>?_)
  refine r_ob ⟨by omega,by omega⟩ ?_
  refine r_ld (cell1 (rd.fr f2)) ?_
  refine r_apps (xs:=xn) Ebyte HV rfl (Cg.RwO.plain plainI (y3.up f2)) (by simp only [big,List.length_nil];omega) f2.size (λ v82 W3 O3 f3 o3=>?_)
  rw [List.nil_append] at O3
  have F13:Fr [] W1 W3:=f2.trans_new f3 (λ q hq=>.inr (HV.lt q hq).1)
  refine r_apps (xs:=bp) Ebyte O3 rfl (Cg.RwO.plain plainI (b3.up (Fb.trans F13))) (by simp only [big];omega) F13.size (λ v84 W4 On f4 o4=>?_)
  have F14:Fr [] W1 W4:=F13.trans_new f4 (λ q hq=>.inr (O3.lt q hq).1)
  have H:=H.fr F14
  have HO:=HO.fr0 F14
  have s14:=F14.size
  have l4':=(H.blk (i:=0) rfl).lt
  refine r_ob ⟨by omega,by omega⟩ ?_
  have hnl:(xn++bp).length≤big:=by rw [List.length_append];simp only [big];omega
  have hgl:=HO.lt g (by simp [Value.ownBlock])
  have lwS:∀ q∈(g :: v4 :: v2 :: S),q < W1.heap.size:=by
   intro q hq
   simp only [List.mem_cons] at hq
   rcases hq with rfl | rfl | rfl | hq
   ·exact lgW
   ·omega
   ·omega
   ·have:=hS q hq;omega
  have hoff:Off (g :: v4 :: v2 :: S) (λ w=>(rL (rI .u8)).r w [v84] (xn++bp)) W4:=λ W f=>((On.upP (S2:=[]) plainI f (λ q hq hq2=>by have:=lwS q hq;have:=(On.lt q hq2).1;omega)).row hnl).r
  obtain ⟨Xn,cn,rfl,_⟩:=On.row hnl
  refine r_stO1 (e:=rL (rI .u8)) n HO rfl e3 (by omega) hoff Tryz.sizeOf48 (λ w5 HO5 f5=>?_)
  have H:=bx_own H (O:=[g]) (λ q hq=>by simp at hq;omega) f5
  obtain ⟨xs',hxs'⟩:∃ xs',xs'=(grow t.bytes n).set n (xn++bp):=⟨_,rfl⟩
  have hxl':xs'.length=(grow t.bytes n).length:=by rw [hxs',List.length_set]
  rw [← hxs'] at HO5 hmr
  have tk:∀ {S'} W',Or (rL (rI .u8)) 48 W.heap.size S' W' (.slice (some ⟨g,0,none⟩) (grow t.bytes n).length cx) xs'→Rw (rI .i64) W' A1 t.picks→rTick.r W' [.slice (some ⟨g,0,none⟩) (grow t.bytes n).length cx,.slice A1 t.picks.length c1] ⟨xs',t.picks⟩:=λ W hO hp=>by
   obtain ⟨X5,c5,e5,z1,z2,z3⟩:=hO.row (by rw [hxl'];simp only [big];omega)
   rw [hxl'] at e5
   cases e5
   have hm:=mTick (x:=⟨xs',t.picks⟩) ⟨z1,z2,z3⟩ ⟨hP1,by simp only [big];omega,hp⟩
   rw [show (⟨xs',t.picks⟩:GTick).bytes.length=(grow t.bytes n).length from hxl'] at hm
   exact hm
  have hPW:∀ W,Fr S w0 W→Rw (rI .i64) W A1 t.picks:=λ W f=>hP W f
  refine b_ld H 1 (j:=1) rfl rfl ?_
  refine r_al (zs:=zT) Tryz.zeroValue76 (λ v11 w6 e11 B11 f6=>?_)
  have H:=H.fr f6
  refine r_stn (cs:=[.slice (some ⟨g,0,none⟩) (grow t.bytes n).length cx,.slice A1 t.picks.length c1]) B11 Tryz.sizeOf76 (one_sl _ _ _ _ _ _) (λ w7 B12 f7=>?_)
  have s5:=f5.size
  have s6:=f6.size
  have s7:=f7.size
  have H:=bx_own H (O:=[v11]) (λ q hq=>by simp at hq;omega) f7
  have f57:Fr [v11] w5 w7:=(f6.mono (by simp)).trans f7
  have HO7:=HO5.up f57 (λ q hq hm=>by simp at hq;have:=(HO5.lt q hm).2;omega) (λ q hq=>.inr (by simp at hq;omega))
  refine r_dr (λ w8 f8=>?_)
  have H:=H.fr f8
  have HO8:=HO7.fr0 f8
  have B12:=B12.fr0 f8
  refine r_ldn (B12.rd rfl) ?_
  refine r_ldn (B12.rd rfl) ?_
  refine r_call (rsmallTick_t (tk w8 HO8 (hPW w8 (H.F.mono (by simp))))) ?_
  rintro _ w9 ⟨rfl,f9⟩
  have H:=H.fr f9
  have HO9:=HO8.fr0 f9
  refine r_chkn (n:=2) ((B12.fr0 f9).rd rfl) ?_
  refine r_stn (cs:=[.slice (some ⟨g,0,none⟩) (grow t.bytes n).length cx,.slice A1 t.picks.length c1]) (H.blk (i:=0) rfl) Tryz.sizeOf76 (one_sl _ _ _ _ _ _) (λ w10 B10 f10=>?_)
  have H:=H.set (i:=0) rfl B10 f10
  have hg4:W.heap.size≤g:=hgl.1
  have HO10:=HO9.up f10 (λ q hq hm=>by simp [Value.ownBlock] at hq hm;omega) (λ q hq=>.inl (by simp at hq;subst hq;simp))
  refine b_ldn H 0 rfl ?_
  by_cases hs:smallT ⟨xs',t.picks⟩=true
  ·rw [hs]
   rw [if_pos hs] at hmr
   refine b_ret H (λ F=>⟨.inl ⟨_,⟨xs',t.picks⟩,rfl,hmr,λ W fW=>?_⟩,F⟩)
   exact tk W (HO10.up fW (λ q hq hm=>by simp [Value.ownBlock] at hm;have:=hS q hq;omega) (λ q hq=>.inl (by simp [hq]))) (hPW W ((F.mono (by simp)).trans fW))
  ·have hs2:smallT ⟨xs',t.picks⟩=false:=by cases h:smallT ⟨xs',t.picks⟩ with | true=>exact absurd h hs | false=>rfl
   rw [hs2]
   rw [if_neg hs] at hmr
   exact b_ret H (λ F=>⟨.inr ⟨_,rfl,rfl,one_sl _ _ _ _ _ _,hmr⟩,F⟩)
theorem rmore_t {S:List Nat} {cs:List Value} {t:GTick} (hT:TO S w cs t) (hS:∀ q∈S,q < w.heap.size) (hsm:smallT t=true) (s:Bs) (hl:s.length≤9000000):Cz Tryz.prog 41 [.agg cs.toArray,Tx s] w (RmR S w t s) Z:=by
 obtain ⟨A0,c0,A1,c1,rfl,k0,k1⟩:=oTick hT.now
 obtain ⟨q1,q2,q3⟩:=small_parts hsm
 refine go mixed Tryz.func41 Tryz.call41 rfl (Tr.e41 _ _) ?_
 refine b_box (cs:=[.slice A0 t.bytes.length c0,.slice A1 t.picks.length c1]) (Bx.nil w) (λ v2 w1 H=>?_)
 refine b_al (zs:=zT) H Tryz.zeroValue76 (λ v4 w2 H=>?_)
 refine r_call (rsplit2_t s 32 hl) ?_
 rintro v13 w3 ⟨HW,f3⟩
 have H:=H.fr f3
 have hne:=splitP_ne 32 s
 have hsl:=splitP_len 32 s
 have emr:moreP t s=if (splitP 32 s).length < 2 then none else (canI ((splitP 32 s).headD [])).bind λ n=>if 0≤n∧n < 16∧(t.bytes.length:Int)-1≤n then (pieceP (s.drop (((splitP 32 s).headD []).length+1))).bind (moreT t n.toNat) else none:=rfl
 have hcut:2≤(splitP 32 s).length→((splitP 32 s).headD []).length+1≤s.length:=λ h=>by
  rcases idx_split 32 s with ⟨h1,h2⟩ | ⟨i,h1,h2,h3,h4⟩
  ·rw [h2] at h;simp at h
  ·rw [h3,List.length_take];omega
 generalize splitP 32 s=ws at HW hne hsl emr hcut
 obtain ⟨h,ws',rfl⟩:=List.exists_cons_of_ne_nil hne
 have emr:moreP t s=if (h :: ws').length < 2 then none else (canI h).bind λ n=>if 0≤n∧n < 16∧(t.bytes.length:Int)-1≤n then (pieceP (s.drop (h.length+1))).bind (moreT t n.toNat) else none:=emr
 have hcut:2≤(h :: ws').length→h.length+1≤s.length:=hcut
 obtain ⟨X,c,rfl,_,_,hr⟩:=HW.row (by simp only [big];omega)
 obtain ⟨ad,es,rfl,rd,e3⟩:=hr 0 h rfl
 obtain rfl:=e3
 refine r_call (rnum_t hr 0 (by decide) (λ x hx=>by have:=hsl.2 x hx;omega)) ?_
 rintro _ _ ⟨rfl,rfl⟩
 have hn0:numAt (h :: ws') 0=(numR h:Int):=rfl
 have hlt:=numR_lt h
 have hhl:=hsl.2 h (by simp)
 rw [hn0]
 refine r_rem (by decide) ?_
 refine r_are (y:=((numR h % 1000:Nat):Int)) (by rw [Int.tmod_eq_emod_of_nonneg (by omega),IntKind.wrap_i64];omega) ?_
 refine r_dr (λ w4 f4=>?_)
 have H:=H.fr f4
 refine r_if (λ h2=>?_) (λ h2=>?_)
 ·exact rmFail H rfl rfl (one_sl _ _ _ _ _ _) (by rw [emr,if_pos (by omega)])
 rw [if_neg (by omega)] at emr
 have hcut:=hcut (by omega)
 refine r_ob ⟨by decide,by omega⟩ ?_
 refine r_ld (cell1 (rd.fr f4)) ?_
 refine r_call (rinteger_t _ (by unfold in64;omega)) ?_
 rintro _ w5 ⟨rfl,f5⟩
 have H:=H.fr f5
 have F5:=f4.trans f5
 refine r_chk (cell1 (rd.fr F5)) ?_
 refine r_tne ?_
 refine r_if (λ hne=>?_) (λ hne=>?_)
 ·refine rmFail H rfl rfl (one_sl _ _ _ _ _ _) ?_
  rw [emr]
  cases hc:canI h with
  | none=>rfl
  | some v =>
   have:=canI_not hne hc
   exact if_neg (λ hh=>this ⟨hh.1,hh.2.1⟩)
 rw [canI_num (Classical.not_not.1 hne)] at emr
 generalize numR h % 1000=N at emr
 replace emr:moreP t s=if 0≤(N:Int)∧(N:Int) < 16∧(t.bytes.length:Int)-1≤(N:Int) then (pieceP (s.drop (h.length+1))).bind (moreT t N) else none:=emr
 refine r_if (λ h4=>?_) (λ h4=>?_)
 ·exact rmFail H rfl rfl (one_sl _ _ _ _ _ _) (by rw [emr,if_neg (by omega)])
 refine b_ld H 1 (j:=0) rfl rfl ?_
 refine r_ar (by omega) ?_
 refine r_if (λ h5=>?_) (λ h5=>?_)
 ·exact rmFail H rfl rfl (one_sl _ _ _ _ _ _) (by rw [emr,if_neg (by omega)])
 rw [if_pos (by omega)] at emr
 refine r_ob ⟨by decide,by omega⟩ ?_
 refine r_ld (cell1 (rd.fr F5)) ?_
 refine r_tlen Tryz.underlying9 ?_
 refine r_ar (by omega) ?_
 refine r_tsll Tryz.underlying9 (a:=s) (h.length+1) (by omega) (by omega) ?_
 refine r_call (pieceOf_t (s.drop (h.length+1)) (by rw [List.length_drop];omega)) ?_
 rintro _ w6 ⟨⟨vb,b,rfl,hpb,hwb,hbl,hsb⟩ | ⟨vb,rfl,hno⟩,f6⟩
 rotate_left
 ·exact rmFail (H.fr f6) rfl rfl (one_sl _ _ _ _ _ _) (by rw [emr,hno];rfl)
 rw [hpb] at emr
 obtain ⟨Xb,cb,rfl,z1,z2,z3⟩:=hsb
 exact rmL_wp (H.fr f6) hT k1.1 ⟨_,_,rfl,z1,z2,z3⟩ (by omega) (by omega) (by omega) hsm emr hS
end
end Go.Proofs.YtppodgdhdddfkaaGreatDoor.Sc
set_option linter.unusedVariables false
set_option linter.unusedSimpArgs false
namespace Go.Proofs.YtppodgdhdddfkaaGreatDoor.Sc
set_option maxRecDepth 100000
open Go Go.RowKit Go.Proofs.YtppodgdhdddfkaaGreatDoor.Sx
open Go.Proofs.YtppodgdhdddfkaaGreatDoor.Sg
open Go.Proofs.YtppodgdhdddfkaaGreatDoor.Bi (mixed take_s Eint)
open Go.Proofs.YtppodgdhdddfkaaGreatDoor.Cg (splitP splitP_len splitP_ne linesOf lines_split lines_back)
def nlW (l:Bs):Bs:=l++[10]
theorem nl_take (l:Bs):(nlW l).take 6=kBudget↔l.take 6=kBudget:=by
 unfold nlW
 by_cases h:6≤l.length
 ·rw [List.take_append_of_le_length h]
 ·have h1:¬ l.take 6=kBudget:=λ e=>by
   have:=congrArg List.length e
   rw [List.length_take] at this
   simp [kBudget] at this
   omega
  refine ⟨λ e=>?_,λ e=>absurd e h1⟩
  have e2:(l++[10]:Bs)=kBudget:=by rw [← e];exact (List.take_of_length_le (by simp;omega)).symm
  have:=congrArg List.getLast? e2
  simp [kBudget] at this
theorem headN_map (ls:List Bs):headN (ls.map nlW)=headN ls:=by
 induction ls with
 | nil=>rfl
 | cons l r ih =>
  rw [List.map_cons,headN,headN,ih]
  by_cases h:l.take 6=kBudget
  ·rw [if_pos h,if_pos ((nl_take l).2 h)]
  ·rw [if_neg h,if_neg (λ e=>h ((nl_take l).1 e))]
theorem headN_bd (ls:List Bs):headN ls≤ls.length:=by
 induction ls with
 | nil=>exact Nat.le_refl _
 | cons l r ih =>
  rw [headN]
  split
  ·simp
  ·simp;exact ih
theorem headN_in:∀ (ls:List Bs),(∃ l∈ls,l.take 6=kBudget)→∀ qs,headN (ls++qs)=headN ls:=by
 intro ls
 induction ls with
 | nil=>rintro ⟨l,h,_⟩;exact (nomatch h)
 | cons l r ih =>
  rintro ⟨x,hx,hk⟩ qs
  rw [List.cons_append,headN,headN]
  by_cases h:l.take 6=kBudget
  ·rw [if_pos h,if_pos h]
  ·rw [if_neg h,if_neg h,ih ⟨x,(by rcases List.mem_cons.1 hx with rfl | hx;exact absurd hk h;exact hx),hk⟩]
theorem headN_out:∀ (ls:List Bs),(¬ ∃ l∈ls,l.take 6=kBudget)→∀ qs,headN (ls++qs)=ls.length+headN qs:=by
 intro ls
 induction ls with
 | nil=>intro _ qs;simp
 | cons l r ih =>
  intro hn qs
  rw [List.cons_append,headN,if_neg (λ h=>hn ⟨l,by simp,h⟩),ih (λ ⟨x,hx,hk⟩=>hn ⟨x,by simp [hx],hk⟩),List.length_cons]
  omega
theorem map_in {ls:List Bs}:(∃ l∈ls.map nlW,l.take 6=kBudget)↔∃ l∈ls,l.take 6=kBudget:=by
 constructor
 ·rintro ⟨l,h,hk⟩
  obtain ⟨x,hx,rfl⟩:=List.mem_map.1 h
  exact ⟨x,hx,(nl_take x).1 hk⟩
 ·rintro ⟨l,h,hk⟩
  exact ⟨nlW l,List.mem_map.2 ⟨l,h,rfl⟩,(nl_take l).2 hk⟩
def sumL (ls:List Bs):Nat:=(ls.map (λ l=>l.length+1)).sum
theorem sumL_nl (ls:List Bs):(ls.map nlW).flatten.length=sumL ls:=by
 unfold sumL
 induction ls with
 | nil=>rfl
 | cons l r ih =>
  rw [List.map_cons,List.flatten_cons,List.length_append,ih,List.map_cons,List.sum_cons]
  unfold nlW
  rw [List.length_append,List.length_singleton]
theorem head_split (s:Bs):∃ ls z,splitP 10 s=ls++[z]∧(10:UInt8)∉z∧s.take (min (sumL ((splitP 10 s).take (headN (splitP 10 s)))) s.length)=((linesOf s).take (headN (linesOf s))).flatten ∧
  ((headN (splitP 10 s)≤ls.length∧headN (linesOf s)=headN (splitP 10 s)∧(linesOf s).drop (headN (linesOf s))=(ls.drop (headN (splitP 10 s))).map nlW++(if z=[] then [] else [z]))∨(headN (splitP 10 s)=ls.length+1∧(linesOf s).drop (headN (linesOf s))=[])):=by
 obtain ⟨ls,z,hs,hl,hz⟩:=lines_split _ s (Nat.le_refl _)
 have hl:linesOf s=ls.map nlW++(if z=[] then [] else [z]):=hl
 have hb:=lines_back _ s (Nat.le_refl _)
 refine ⟨ls,z,hs,hz,?_⟩
 have htot:s.length=sumL ls+z.length:=by
  rw [← hb,hl,List.flatten_append,List.length_append,sumL_nl]
  by_cases hz0:z=[]
  ·subst hz0;rfl
  ·rw [if_neg hz0];simp
 have hpre:∀ k,k≤ls.length→s.take (sumL (ls.take k))=((ls.map nlW).take k).flatten:=λ k hk=>by
  rw [← List.map_take,← sumL_nl]
  conv=>lhs;rw [← hb]
  rw [hl,← List.take_append_drop k (ls.map nlW),List.append_assoc,List.flatten_append,← List.map_take]
  exact List.take_left' rfl
 have hle:∀ k,sumL (ls.take k)≤sumL ls:=λ k=>by
  have:sumL ls=sumL (ls.take k)+sumL (ls.drop k):=by
   unfold sumL
   rw [← List.sum_append,← List.map_append,List.take_append_drop]
  omega
 rw [hs,hl]
 by_cases hf:∃ l∈ls,l.take 6=kBudget
 ·have hbd:=headN_bd ls
  rw [headN_in ls hf,headN_in _ (map_in.2 hf),headN_map]
  refine ⟨?_,.inl ⟨hbd,rfl,?_⟩⟩
  ·rw [List.take_append_of_le_length hbd,Nat.min_eq_left (by have:=hle (headN ls);omega),hpre _ hbd,List.take_append_of_le_length (by rw [List.length_map];exact hbd)]
  ·rw [List.drop_append_of_le_length (by rw [List.length_map];exact hbd),List.map_drop]
 ·have h1:headN [z]=1:=by
   rw [headN]
   split<;>rfl
  rw [headN_out ls hf,headN_out _ (λ h=>hf (map_in.1 h)),h1,List.length_map]
  have hL:headN (if z=[] then [] else [z])=(if z=[] then ([]:List Bs) else [z]).length:=by
   split
   ·rfl
   ·exact h1
  rw [hL]
  have hLl:ls.length+(if z=[] then ([]:List Bs) else [z]).length=(ls.map nlW++(if z=[] then [] else [z])).length:=by rw [List.length_append,List.length_map]
  rw [hLl,List.take_length,List.drop_length]
  refine ⟨?_,.inr ⟨rfl,rfl⟩⟩
  have e1:(ls++[z]).take (ls.length+1)=ls++[z]:=List.take_of_length_le (by simp)
  have hsum:sumL (ls++[z])=sumL ls+z.length+1:=by
   unfold sumL
   rw [List.map_append,List.sum_append]
   simp;omega
  rw [e1,hsum,Nat.min_eq_right (by omega),List.take_length,← hl,hb]
theorem headN_drop {ls:List Bs} {i:Nat} {l:Bs} (h:ls[i]? = some l):headN (ls.drop i)=if l.take 6=kBudget then 1 else headN (ls.drop (i+1))+1:=by
 have hl:=List.getElem?_eq_some_iff.1 h
 rw [List.drop_eq_getElem_cons hl.1,hl.2,headN]
theorem addP_nl (l:List GTick) (p:Bs):addP l (nlW p)=if (splitP 32 p).headD []=kTick then (if l.length < 4096 then (picksP p).map (λ t=>l++[t]) else none)
  else match l.getLast? with
   | none=>none
   | some t=>(moreP t p).map (λ x=>l.dropLast++[x]):=by
 have h1:Lib.hasSuffix (nlW p) [10]=true:=by
  unfold Lib.hasSuffix
  exact List.isSuffixOf_iff_suffix.2 ⟨p,rfl⟩
 have h2:Lib.trimSuffix (nlW p) [10]=p:=by
  unfold Lib.trimSuffix
  rw [if_pos h1]
  unfold nlW
  simp
 unfold addP
 rw [if_pos h1,h2]
 cases l.getLast?<;>rfl
theorem addP_pick {l:List GTick} {p:Bs} {t:GTick} (h:picksP p=some t) (hl:l.length < 4096):addP l (nlW p)=some (l++[t]):=by
 have hk:(splitP 32 p).headD []=kTick:=by
  unfold picksP at h
  split at h
  ·assumption
  ·cases h
 rw [addP_nl,if_pos hk,if_pos hl,h]
 rfl
theorem more_tick {t:GTick} {p:Bs} (h:(splitP 32 p).headD []=kTick):moreP t p=none:=by
 unfold moreP
 split
 ·rfl
 ·rw [h]
  have:canI kTick=none:=by
   rw [canI_atoi]
   have:Cg.atoiP kTick=none:=by decide
   rw [this]
  rw [this];rfl
theorem addP_more {l:List GTick} {p:Bs} (h:picksP p=none∨4096≤l.length):addP l (nlW p)=match l.getLast? with
   | none=>none
   | some t=>(moreP t p).map (λ x=>l.dropLast++[x]):=by
 rw [addP_nl]
 by_cases hk:(splitP 32 p).headD []=kTick
 ·rw [if_pos hk]
  have e1:(if l.length < 4096 then (picksP p).map (λ t=>l++[t]) else none)=none:=by
   rcases h with h | h
   ·rw [h];split<;>rfl
   ·rw [if_neg (by omega)]
  rw [e1]
  cases l.getLast? with
  | none=>rfl
  | some t=>show none=(moreP t p).map _;rw [more_tick hk];rfl
 ·rw [if_neg hk]
theorem addP_end {l:List GTick} {z:Bs} (h:(10:UInt8)∉z):addP l z=none:=by
 unfold addP
 rw [if_neg]
 unfold Lib.hasSuffix
 intro e
 exact h ((List.isSuffixOf_iff_suffix.1 e).subset (by simp))
section
variable {Z:ZP} {w w0:World} {R:Value→World→Prop} {A:List Nat→List Value→World→Prop} {B:List Nat→Nat→List Value→World→Prop}
theorem rhead_t {X:Option Addr} {c:Nat} {ws:List Bs} (hr:Rw rT w X ws) (hl:ws.length≤1000000000):Cz Tryz.prog 38 [.slice X ws.length c] w (λ r w'=>r=I (headN ws:Nat)∧w'=w) Z:=by
 refine go mixed Tryz.func38 Tryz.call38 rfl (Tr.e38 _) ?_
 refine r_loop (λ (i:Nat)=>[I (i:Int),I 0]) (λ i W=>i≤ws.length∧W=w∧headN ws=i+headN (ws.drop i)) (λ i=>ws.length-i) 0 ⟨Nat.zero_le _,rfl,by simp⟩ rfl ?_
 rintro i _ ⟨hi,rfl,hh⟩
 refine r_if (λ h=>?_) (λ h=>?_)
 ·obtain ⟨l,hli⟩:=gt (xs:=ws) (j:=i) (by omega)
  rw [headN_drop hli] at hh
  obtain ⟨ad,es,rfl,rd,e3⟩:=hr i l hli
  obtain rfl:=e3
  refine r_ob ⟨by omega,by omega⟩ ?_
  refine r_ld (cell1 rd) ?_
  refine r_tlen Tryz.underlying9 ?_
  have next:¬ l.take 6=kBudget→headN ws=(i+1)+headN (ws.drop (i+1)):=λ hn=>by rw [if_neg hn] at hh;omega
  refine r_if (λ h6=>?_) (λ h6=>?_)
  ·refine r_ob ⟨by omega,by omega⟩ ?_
   refine r_ld (cell1 rd) ?_
   refine r_tslh Tryz.underlying9 6 rfl (by omega) ?_
   refine r_teq (a:=l.take 6) (b:=kBudget) ?_
   refine r_if (λ hk=>?_) (λ hk=>?_)
   ·rw [if_pos hk] at hh
    refine r_ar (by omega) ?_
    exact r_ret ⟨by rw [hh];rfl,rfl⟩
   ·refine r_ar (by omega) ?_
    exact r_ag (i+1) ⟨by omega,rfl,next hk⟩ (by omega) rfl
  ·refine r_ar (by omega) ?_
   refine r_ag (i+1) ⟨by omega,rfl,next (λ e=>?_)⟩ (by omega) rfl
   have:=congrArg List.length e
   rw [List.length_take] at this
   simp [kBudget] at this
   omega
 ·obtain rfl:i=ws.length:=by omega
  rw [List.drop_length] at hh
  refine r_brk (r_ret ⟨?_,rfl⟩)
  rw [hh];rfl
end
end Go.Proofs.YtppodgdhdddfkaaGreatDoor.Sc
set_option linter.unusedVariables false
set_option linter.unusedSimpArgs false
namespace Go.Proofs.YtppodgdhdddfkaaGreatDoor.Sc
set_option maxRecDepth 100000
open Go Go.RowKit Go.Proofs.YtppodgdhdddfkaaGreatDoor.Sx
open Go.Proofs.YtppodgdhdddfkaaGreatDoor.Sg
open Go.Proofs.YtppodgdhdddfkaaGreatDoor.Bi (mixed take_s Eint)
open Go.Proofs.YtppodgdhdddfkaaGreatDoor.Hd (Etick)
open Go.Proofs.YtppodgdhdddfkaaGreatDoor.Cg (splitP splitP_len splitP_ne linesOf zC c0_r one_zC c0 parseP rParse_tO)
def erT (v2:Value) (z2:List Value):T:=bdT [] [(.slice none 0 0),(.slice none 0 0),(.slice none 0 0),(.slice none 0 0),(.slice none 0 0),(I 0),(I 0),(I 0)] λ v123=>.ef (Instr.storeAt 29 v2 (.agg v123.toArray)) (.ldn 8 v2 λ r0=>.ret (.tuple [r0,(.slice none 0 0),(nv z2 0),(I 260)].toArray))
def psT (v2 v18 v119 v120:Value) (z2:List Value):T:=.ef (Instr.storeAt 76 v18 v119) (notT v120 λ v122=>gi v122 (erT v2 z2) (lnT (nv z2 1) λ v127=>biT false .sub v127 (I 1) λ v128=>.ldn 2 v18 λ v129=>ixT 2 (nv z2 1) v128 λ v130=>.ef (Instr.storeAt 76 v130 v129) (biT false .add (nv z2 0) (I 1) λ v63=>.again [v63,(nv z2 1),(nv z2 2),(nv z2 3),(nv z2 4)])))
def pmT (v2 v25:Value) (z2:List Value):T:=.dr (lnT (nv z2 1) λ v110=>biT false .sub v110 (I 1) λ v111=>ixT 2 (nv z2 1) v111 λ v112=>.ldn 2 v112 λ v113=>ixT 1 v25 (nv z2 0) λ v116=>.ld v116 λ v117=>.amb (.call 41 [v113,v117] λ v118=>exT 0 v118 λ v119=>exT 1 v118 λ v120=>.hv (Instr.alloc 76 true (.tuple #[])) λ v18=>.chk (some 2) v112 v113 (.chk none v116 v117 (psT v2 v18 v119 v120 z2))) (.hv (Instr.alloc 76 true (.tuple #[])) λ v18=>.chk (some 2) v112 v113 (.chk none v116 v117 (.call 41 [v113,v117] λ v118=>exT 0 v118 λ v119=>exT 1 v118 λ v120=>psT v2 v18 v119 v120 z2))))
def peT (v2 v25 v68:Value) (z2:List Value):T:=lnT (nv z2 1) λ v100=>biT true .eql v100 (I 0) λ v101=>gi v101 (erT v2 z2) (gi v68 (erT v2 z2) (pmT v2 v25 z2))
def ppT (v2 v25 v68:Value) (z2:List Value):T:=ixT 1 v25 (nv z2 0) λ v80=>.ld v80 λ v81=>.call 40 [v81] λ v82=>exT 0 v82 λ v83=>exT 1 v82 λ v84=>.hv (Instr.alloc 76 true (.tuple #[])) λ v16=>.ef (Instr.storeAt 76 v16 v83) (gi v84 (notT v68 λ v88=>gi v88 (lnT (nv z2 1) λ v92=>biT true .lss v92 (I 4096) λ v93=>gi v93 (.ldn 2 v16 λ v96=>.hv (Instr.buildSlice 30 1 [(0,v96)].toArray) λ v97=>.hv (Builtin.append_ #[30,30] 30 [(nv z2 1),v97].toArray) λ v98=>biT false .add (nv z2 0) (I 1) λ v63=>.again [v63,v98,(nv z2 2),(nv z2 3),(nv z2 4)]) (peT v2 v25 v68 z2)) (peT v2 v25 v68 z2)) (peT v2 v25 v68 z2))
def z5 (i:Nat) (v:Value):List Value:=[I (i:Int),v,I 0,I 0,.slice none 0 0]
section
variable {Z:ZP} {w w0 w8:World} {R:Value→World→Prop} {A:List Nat→List Value→World→Prop} {B:List Nat→Nat→List Value→World→Prop}
theorem er_wp {s:Bs} {v2 v10 i:Nat} {v:Value} {cs:List Value} (H:Bx w0 w [(v10,29,cs),(v2,29,zC)]) (hp:parseS s=(c0,[],(i:Int),260)):wp Tryz.prog Z (PaR w0 s) [] (erT (Pt v2 0) (z5 i v)) w A B:=by
 unfold erT
 refine b_stn (cs:=zC) H 1 rfl Tryz.sizeOf29 one_zC (λ w2 H=>?_)
 refine b_ldn H 1 rfl ?_
 exact b_ret H (λ F=>⟨zC,.slice none 0 0,by rw [hp];rfl,by rw [hp];exact c0_r,by rw [hp];exact Sl.nil,F⟩)
theorem set_last {l:List GTick} {k:Nat} (hk:l.length=k+1) (x:GTick):l.set k x=l.dropLast++[x]:=by
 apply List.ext_getElem?
 intro i
 rw [List.getElem?_set,List.getElem?_append,List.length_dropLast,hk,Nat.add_sub_cancel]
 rcases Nat.lt_trichotomy i k with h | h | h
 ·rw [if_neg (by omega),if_pos h,List.getElem?_dropLast,if_pos (by omega)]
 ·subst h
  rw [if_pos rfl,if_pos (by omega),if_neg (by omega),Nat.sub_self];rfl
 ·rw [if_neg (by omega),if_neg (by omega),List.getElem?_eq_none (by omega),List.getElem?_eq_none (by simp;omega)]
theorem ps_wp {s p:Bs} {v2 v10 v18 i k g cap:Nat} {t:GTick} {l:List GTick} {cs us:List Value} {ok:Bool} (H8:Bx w0 w8 [(v10,29,cs),(v2,29,zC)]) (F:Fr [] w8 w) (HO:Or rTick 76 w8.heap.size (v18 :: [v2]) w (.slice (some ⟨g,0,none⟩) l.length cap) l) (hk:l.length=k+1) (hll:l.length≤4096) (B18:Blk w v18 76 zT) (h18:w8.heap.size≤v18) (n18:v18≠g)
  (hus:us.length=2) (h1:∀ v∈us,v.oneCell'=true)
  (hm:(ok=true∧∃ x,moreP t p=some x∧TO (g :: v18 :: [v2]) w us x)∨(ok=false∧moreP t p=none)) (hi:i≤100000000)
  (herr:moreP t p=none→parseS s=(c0,[],(i:Int),260))
  (hgo:∀ x,moreP t p=some x→∀ W' v',Fr [] w8 W'→Or rTick 76 w8.heap.size [v2] W' v' (l.dropLast++[x])→A [] (z5 (i+1) v') W') :
  wp Tryz.prog Z (PaR w0 s) [] (psT (Pt v2 0) (Pt v18 0) (.agg us.toArray) (.bool ok) (z5 i (.slice (some ⟨g,0,none⟩) l.length cap))) w A B:=by
 unfold psT
 refine r_stn (cs:=us) B18 Tryz.sizeOf76 h1 (λ w1 B1 f1=>?_) rfl hus rfl
 have F1:=F.trans_new f1 (λ q hq=>.inr (by simp at hq;omega))
 rcases hm with ⟨rfl,x,hx,hT⟩ | ⟨rfl,hno⟩
 ·have HO1:=HO.up f1 (λ q hq hm=>by simp [Value.ownBlock] at hq hm;omega) (λ q hq=>.inl (by simp at hq;simp [hq]))
  have hT1:TO (g :: v18 :: [v2]) w1 us x:=hT.go f1 (λ q hq=>.inl (by simp at hq;simp [hq])) (λ q hq=>.inl hq)
  refine r_ar (by omega) ?_
  refine r_ldn (B1.rd hus) ?_
  have ek:((l.length:Int)-1)=((k:Nat):Int):=by omega
  rw [ek]
  refine r_ob ⟨by omega,by omega⟩ ?_
  refine r_stOn (e:=rTick) k HO1 hus (by omega) (by show 0+k * 2=k * 2;omega) hT1 h1 Tryz.sizeOf76 (λ w2 HO2 f2=>?_)
  rw [set_last hk x] at HO2
  have hg:=(HO1.lt g (by simp [Value.ownBlock])).1
  refine r_ar (by omega) ?_
  exact hgo x hx w2 _ (F1.trans_new f2 (λ q hq=>.inr (by simp at hq;omega))) (Or.upS HO2 (Fr.refl [] _) (by simp) (by simp) (λ q hq=>.inl (List.mem_cons_of_mem _ hq)))
 ·exact er_wp (H8.fr F1) (herr hno)
theorem pm_wp {s p:Bs} {v2 v10 i c:Nat} {X:Option Addr} {v:Value} {t:GTick} {l:List GTick} {ws:List Bs} {cs:List Value} (H8:Bx w0 w8 [(v10,29,cs),(v2,29,zC)]) (F:Fr [] w8 w) (HO:Or rTick 76 w8.heap.size [v2] w v l) (ht:l.getLast? = some t) (hall:∀ t∈l,smallT t=true) (hll:l.length≤4096)
  (hr:Rw rT w8 X ws) (hp:ws[i]? = some p) (hpl:p.length≤9000000) (hi:i≤100000000)
  (herr:moreP t p=none→parseS s=(c0,[],(i:Int),260))
  (hgo:∀ x,moreP t p=some x→∀ W' v',Fr [] w8 W'→Or rTick 76 w8.heap.size [v2] W' v' (l.dropLast++[x])→A [] (z5 (i+1) v') W') :
  wp Tryz.prog Z (PaR w0 s) [] (pmT (Pt v2 0) (.slice X ws.length c) (z5 i v)) w A B:=by
 unfold pmT
 have hlb:l.length≤big:=by simp only [big];omega
 have hne:l≠[]:=by rintro rfl;cases ht
 obtain ⟨k,hk⟩:∃ k,l.length=k+1:=⟨l.length-1,by have:=List.length_pos_iff.2 hne;omega⟩
 have hlast:l[k]? = some t:=by rw [List.getLast?_eq_getElem?,hk] at ht;exact ht
 obtain ⟨g,cap,rfl⟩:=Or.isS HO (by omega)
 have l2:=(H8.blk (i:=1) rfl).lt
 have hil:=(List.getElem?_eq_some_iff.1 hp).1
 refine r_dr (λ w1 f1=>?_)
 have HO:=HO.fr0 f1
 have F1:=F.trans f1
 refine r_ar (by omega) ?_
 have ek:((l.length:Int)-1)=((k:Nat):Int):=by omega
 show wp _ _ _ _ (ixT 2 (.slice (some ⟨g,0,none⟩) l.length cap) (I ((l.length:Int)-1)) _) _ _ _
 rw [ek]
 refine r_ob ⟨by omega,by omega⟩ ?_
 obtain ⟨es,rd,hoff⟩:=Or.at HO hlast
 have hel:=rTick.len hoff.now
 have ea:(⟨g,0+((k:Nat):Int).toNat * 2,none⟩:Addr)=⟨g,k * rTick.n,none⟩:=by
  show (⟨g,0+k * 2,none⟩:Addr)=⟨g,k * 2,none⟩
  rw [Nat.zero_add]
 have rd':Rd w1 2 ⟨g,0+((k:Nat):Int).toNat * 2,none⟩ es:=by rw [ea];exact rd
 refine r_ldn (n:=2) (cs:=es) rd' ?_
 obtain ⟨ad,es2,rfl,rdw,e3⟩:=hr i p hp
 obtain rfl:=e3
 refine r_ob ⟨by omega,by omega⟩ ?_
 refine r_ld (cell1 (rdw.fr F1)) ?_
 have hg:=HO.lt g (by simp [Value.ownBlock])
 have sz1:=F1.size
 have hsm:=hall t (List.mem_of_getElem? hlast)
 refine ⟨?_,?_⟩
 ·refine r_call (rmore_t (S:=g :: [v2]) hoff (λ q hq=>by simp at hq;omega) hsm p hpl) ?_
  rintro r w2 ⟨hm,f2⟩
  have sz2:=f2.size
  have fin:∀ (us:List Value) (ok:Bool),us.length=2→(∀ v∈us,v.oneCell'=true)→((ok=true∧∃ x,moreP t p=some x∧TO (g :: [v2]) w2 us x)∨(ok=false∧moreP t p=none))→wp Tryz.prog Z (PaR w0 s) [] (.hv (Instr.alloc 76 true (.tuple #[])) λ v18=>.chk (some 2) (Pt g (0+((k:Nat):Int).toNat * 2)) (.agg es.toArray) (.chk none (.pointer (some (addA ad (i * 1)))) (Tx p) (psT (Pt v2 0) v18 (.agg us.toArray) (.bool ok) (z5 i (.slice (some ⟨g,0,none⟩) l.length cap))))) w2 A B:=by
   intro us ok h2 h1 hm
   refine r_al (zs:=zT) Tryz.zeroValue76 (λ v18 w3 e18 B18 f3=>?_)
   have f13:=f2.trans f3
   refine r_chkn (n:=2) (rd'.fr f13) ?_
   refine r_chk (cell1 (rdw.fr (F1.trans f13))) ?_
   have HO3:=Or.goS (S2:=v18 :: [v2]) (HO.fr0 f2) f3 (λ q hq=>by
    rcases List.mem_cons.1 hq with rfl | hq
    ·exact .inr (by omega)
    ·exact .inl hq)
   refine ps_wp H8 (F1.trans f13) HO3 hk hll B18 (by omega) (by omega) h2 h1 ?_ hi herr hgo
   rcases hm with ⟨h,x,hx,hT⟩ | h
   ·exact .inl ⟨h,x,hx,hT.go f3 (by simp) (λ q hq=>by
     simp only [List.mem_cons,List.not_mem_nil,or_false] at hq
     rcases hq with rfl | rfl | rfl
     ·exact .inl (by simp)
     ·exact .inr (by omega)
     ·exact .inl (by simp))⟩
   ·exact .inr h
  rcases hm with ⟨us,x,rfl,hx,hT⟩ | ⟨us,rfl,h2,h1,hno⟩
  ·exact fin us true (rTick.len hT.now) (rTick.one hT.now) (.inl ⟨rfl,x,hx,hT⟩)
  ·exact fin us false h2 h1 (.inr ⟨rfl,hno⟩)
 ·refine r_al (zs:=zT) Tryz.zeroValue76 (λ v18 w2 e18 B18 f2=>?_)
  refine r_chkn (n:=2) (rd'.fr f2) ?_
  refine r_chk (cell1 (rdw.fr (F1.trans f2))) ?_
  have sz2:=B18.lt
  have HO2:=Or.goS (S2:=v18 :: [v2]) HO f2 (λ q hq=>by
   rcases List.mem_cons.1 hq with rfl | hq
   ·exact .inr (by omega)
   ·exact .inl hq)
  have hoff2:TO (g :: v18 :: [v2]) w2 es t:=hoff.go f2 (by simp) (λ q hq=>by
   simp only [List.mem_cons,List.not_mem_nil,or_false] at hq
   rcases hq with rfl | rfl | rfl
   ·exact .inl (by simp)
   ·exact .inr (by omega)
   ·exact .inl (by simp))
  refine r_call (rmore_t (S:=g :: v18 :: [v2]) hoff2 (λ q hq=>by simp at hq;omega) hsm p hpl) ?_
  rintro r w3 ⟨hm,f3⟩
  rcases hm with ⟨us,x,rfl,hx,hT⟩ | ⟨us,rfl,h2,h1,hno⟩
  ·exact ps_wp (ok:=true) H8 ((F1.trans f2).trans f3) (HO2.fr0 f3) hk hll (B18.fr0 f3) (by omega) (by omega) (rTick.len hT.now) (rTick.one hT.now) (.inl ⟨rfl,x,hx,hT⟩) hi herr hgo
  ·exact ps_wp (ok:=false) H8 ((F1.trans f2).trans f3) (HO2.fr0 f3) hk hll (B18.fr0 f3) (by omega) (by omega) h2 h1 (.inr ⟨rfl,hno⟩) hi herr hgo
theorem pe_wp {s p:Bs} {v2 v10 i c:Nat} {X:Option Addr} {v:Value} {l:List GTick} {ws:List Bs} {cs:List Value} (last:Bool) (H8:Bx w0 w8 [(v10,29,cs),(v2,29,zC)]) (F:Fr [] w8 w) (HO:Or rTick 76 w8.heap.size [v2] w v l) (hall:∀ t∈l,smallT t=true) (hll:l.length≤4096)
  (hr:Rw rT w8 X ws) (hp:ws[i]? = some p) (hpl:p.length≤9000000) (hi:i≤100000000)
  (herr:(l=[]∨last=true∨∃ t,l.getLast? = some t∧moreP t p=none)→parseS s=(c0,[],(i:Int),260))
  (hgo:last=false→∀ t x,l.getLast? = some t→moreP t p=some x→∀ W' v',Fr [] w8 W'→Or rTick 76 w8.heap.size [v2] W' v' (l.dropLast++[x])→A [] (z5 (i+1) v') W') :
  wp Tryz.prog Z (PaR w0 s) [] (peT (Pt v2 0) (.slice X ws.length c) (.bool last) (z5 i v)) w A B:=by
 unfold peT
 obtain ⟨Xv,cv,rfl,_⟩:=HO.row (by simp only [big];omega)
 refine r_if (λ h=>?_) (λ h=>?_)
 ·exact er_wp (H8.fr F) (herr (.inl (List.eq_nil_of_length_eq_zero (by omega))))
 refine r_ifb (λ hl=>?_) (λ hl=>?_)
 ·exact er_wp (H8.fr F) (herr (.inr (.inl hl)))
 have hne:l≠[]:=by rintro rfl;exact h rfl
 obtain ⟨t,ht⟩:∃ t,l.getLast? = some t:=⟨l.getLast hne,List.getLast?_eq_some_getLast hne⟩
 exact pm_wp H8 F HO ht hall hll hr hp hpl hi (λ hno=>herr (.inr (.inr ⟨t,ht,hno⟩))) (λ x hx=>hgo hl t x ht hx)
theorem pp_wp {s p:Bs} {v2 v10 i c:Nat} {X:Option Addr} {v:Value} {l:List GTick} {ws:List Bs} {cs:List Value} (last:Bool) (H8:Bx w0 w8 [(v10,29,cs),(v2,29,zC)]) (F:Fr [] w8 w) (HO:Or rTick 76 w8.heap.size [v2] w v l) (hall:∀ t∈l,smallT t=true) (hll:l.length≤4096)
  (hr:Rw rT w8 X ws) (hp:ws[i]? = some p) (hpl:p.length≤9000000) (hi:i≤100000000)
  (hpick:∀ t,picksP p=some t→l.length < 4096→last=false→∀ W' v',Fr [] w8 W'→Or rTick 76 w8.heap.size [v2] W' v' (l++[t])→A [] (z5 (i+1) v') W')
  (herr:(last=true∨picksP p=none∨4096≤l.length)→(l=[]∨last=true∨∃ t,l.getLast? = some t∧moreP t p=none)→parseS s=(c0,[],(i:Int),260))
  (hgo:(picksP p=none∨4096≤l.length)→last=false→∀ t x,l.getLast? = some t→moreP t p=some x→∀ W' v',Fr [] w8 W'→Or rTick 76 w8.heap.size [v2] W' v' (l.dropLast++[x])→A [] (z5 (i+1) v') W') :
  wp Tryz.prog Z (PaR w0 s) [] (ppT (Pt v2 0) (.slice X ws.length c) (.bool last) (z5 i v)) w A B:=by
 unfold ppT
 have hil:=(List.getElem?_eq_some_iff.1 hp).1
 obtain ⟨ad,es2,rfl,rdw,e3⟩:=hr i p hp
 obtain rfl:=e3
 refine r_ob ⟨by omega,by omega⟩ ?_
 refine r_ld (cell1 (rdw.fr F)) ?_
 refine r_call (rpicks_t p hpl) ?_
 have l2:=(H8.blk (i:=1) rfl).lt
 have sz:=F.size
 rintro r w1 ⟨⟨us,t,rfl,hpk,hN⟩ | ⟨us,rfl,h2,h1,hno⟩,f1⟩
 ·have h2:=rTick.len hN.now
  refine r_al (zs:=zT) Tryz.zeroValue76 (λ v16 w2 e16 B16 f2=>?_)
  refine r_stn (cs:=us) B16 Tryz.sizeOf76 (rTick.one hN.now) (λ w3 B17 f3=>?_) rfl h2 rfl
  have sz1:=f1.size
  have f13:Fr [v16] w1 w3:=(f2.mono (by simp)).trans f3
  have hN3:=hN.go f13 (λ q hq=>.inr (by simp at hq;omega))
  have F3:Fr [] w w3:=(f1.trans f2).trans_new f3 (λ q hq=>.inr (by simp at hq;omega))
  have HO3:=HO.fr0 F3
  obtain ⟨Xv,cv,rfl,_⟩:=HO3.row (by simp only [big];omega)
  refine r_ifbn (b:=last) (λ hl=>?_) (λ hl=>?_)
  ·refine r_if (λ h4=>?_) (λ h4=>?_)
   ·refine r_ldn (B17.rd h2) ?_
    refine r_appL (x:=t) (es:=us) Etick HO3 (hN3.off (λ q hq=>?_)) (by simp only [big];omega) (by have:=F3.size;omega) (λ v' w4 O4 f4 o4=>?_) rfl h2
    ·rcases List.mem_append.1 hq with hq | hq
     ·exact .inl (HO.lt q hq).2
     ·simp at hq;subst hq;exact .inl (by omega)
    refine r_ar (by omega) ?_
    exact hpick t hpk (by omega) hl w4 v' ((F.trans F3).trans_new f4 (λ q hq=>.inr (HO3.lt q hq).1)) O4
   ·exact pe_wp last H8 (F.trans F3) HO3 hall hll hr hp hpl hi (herr (.inr (.inr (by omega)))) (hgo (.inr (by omega)))
  ·exact pe_wp last H8 (F.trans F3) HO3 hall hll hr hp hpl hi (herr (.inl hl)) (λ h=>by rw [hl] at h;cases h)
 ·refine r_al (zs:=zT) Tryz.zeroValue76 (λ v16 w2 e16 B16 f2=>?_)
  refine r_stn (cs:=us) B16 Tryz.sizeOf76 h1 (λ w3 B17 f3=>?_) rfl h2 rfl
  have sz1:=f1.size
  have F3:Fr [] w w3:=(f1.trans f2).trans_new f3 (λ q hq=>.inr (by simp at hq;omega))
  have HO3:=HO.fr0 F3
  exact pe_wp last H8 (F.trans F3) HO3 hall hll hr hp hpl hi (herr (.inr (.inl hno))) (hgo (.inl hno))
end
end Go.Proofs.YtppodgdhdddfkaaGreatDoor.Sc
set_option linter.unusedVariables false
set_option linter.unusedSimpArgs false
namespace Go.Proofs.YtppodgdhdddfkaaGreatDoor.Sc
set_option maxRecDepth 100000
open Go Go.RowKit Go.Proofs.YtppodgdhdddfkaaGreatDoor.Sx
open Go.Proofs.YtppodgdhdddfkaaGreatDoor.Sg
open Go.Proofs.YtppodgdhdddfkaaGreatDoor.Bi (mixed take_s Eint)
open Go.Proofs.YtppodgdhdddfkaaGreatDoor.Cg (splitP splitP_len splitP_ne linesOf zC c0_r one_zC c0 parseP rParse_tO plainT)
theorem sumL_snoc (ls:List Bs) (l:Bs):sumL (ls++[l])=sumL ls+(l.length+1):=by
 unfold sumL
 rw [List.map_append,List.sum_append]
 simp
theorem sumL_bd {M:Nat}:∀ (ls:List Bs),(∀ l∈ls,l.length≤M)→sumL ls≤(M+1) * ls.length:=by
 intro ls
 induction ls with
 | nil=>intro _;exact Nat.zero_le _
 | cons l r ih =>
  intro h
  have h1:=h l (by simp)
  have h2:=ih (λ x hx=>h x (by simp [hx]))
  have e:sumL (l :: r)=(l.length+1)+sumL r:=by unfold sumL;simp
  rw [e,List.length_cons,Nat.mul_add,Nat.mul_one]
  omega
section
variable {Z:ZP} {w w0 w8:World} {R:Value→World→Prop} {A:List Nat→List Value→World→Prop} {B:List Nat→Nat→List Value→World→Prop}
theorem rParse26_t (s:Bs) (hsb:s.length≤9223372036854775807):Cz Tryz.prog 12 [Tx s] w (PaR w s) Z:=by
 refine go mixed Tryz.func12 Tryz.call12 rfl (Tr.e12 _) ?_
 refine b_al (zs:=zC) (Bx.nil w) Tryz.zeroValue29 (λ v2 w1 H=>?_)
 refine r_tlen Tryz.underlying9 ?_
 refine r_if (λ h=>?_) (λ h=>?_)
 ·refine b_stn (cs:=zC) H 0 rfl Tryz.sizeOf29 one_zC (λ w5 H=>?_)
  refine b_ldn H 0 rfl ?_
  have e:parseS s=(c0,[],0,2):=by unfold parseS;rw [if_pos (by omega)]
  exact b_ret H (λ F=>⟨zC,.slice none 0 0,by rw [e],by rw [e];exact c0_r,by rw [e];exact Sl.nil,F⟩)
 have hlen:s.length≤4194304:=by omega
 obtain ⟨ls,z,hs,hz,htk,hcase⟩:=head_split s
 have hsl:=splitP_len 10 s
 have epar:parseS s=if (parseP ((linesOf s).take (headN (linesOf s))).flatten).2.2≠0 then (c0,[],(parseP ((linesOf s).take (headN (linesOf s))).flatten).2.1,(parseP ((linesOf s).take (headN (linesOf s))).flatten).2.2)
   else match foldA [] ((linesOf s).drop (headN (linesOf s))) with
    | some l=>((parseP ((linesOf s).take (headN (linesOf s))).flatten).1,l,0,0)
    | none=>(c0,[],((headN (linesOf s)+failA [] ((linesOf s).drop (headN (linesOf s))):Nat):Int),260):=by
  unfold parseS
  rw [if_neg (by omega)]
  try rfl
 refine r_call (rsplit2_t s 10 (by omega)) ?_
 rintro v25 w2 ⟨HW,f2⟩
 have H:=H.fr f2
 have hwl:(splitP 10 s).length=ls.length+1:=by rw [hs];simp
 rw [← htk] at epar
 generalize hws:splitP 10 s=ws at *
 have hbd:=headN_bd ws
 have hsum:=sumL_bd ws hsl.2
 have hsumk:∀ k,sumL (ws.take k)≤17592194433025:=λ k=>by
  have:sumL ws=sumL (ws.take k)+sumL (ws.drop k):=by
   unfold sumL
   rw [← List.sum_append,← List.map_append,List.take_append_drop]
  have:(s.length+1) * ws.length≤4194305 * 4194305:=Nat.mul_le_mul (by omega) (by omega)
  omega
 obtain ⟨X,c,rfl,_,_,hr⟩:=HW.row (by simp only [big];omega)
 refine r_call (rhead_t hr (by omega)) ?_
 rintro _ w3 ⟨rfl,rfl⟩
 generalize hn:headN ws=n at *
 refine r_loop (λ (k:Nat)=>[I (k:Int),I ((sumL (ws.take k):Nat):Int)]) (λ k W=>k≤n∧W=w3) (λ k=>n-k) 0 ⟨Nat.zero_le _,rfl⟩ rfl ?_
 rintro k _ ⟨hk,rfl⟩
 refine r_if (λ h2=>?_) (λ h2=>?_)
 ·obtain ⟨l,hl⟩:=gt (xs:=ws) (j:=k) (by omega)
  have hll:=hsl.2 l (List.mem_of_getElem? hl)
  obtain ⟨ad,es,rfl,rd,e3⟩:=hr k l hl
  obtain rfl:=e3
  have hk1:=hsumk k
  refine r_ob ⟨by omega,by omega⟩ ?_
  refine r_ld (cell1 rd) ?_
  refine r_tlen Tryz.underlying9 ?_
  refine r_ar (by omega) ?_
  refine r_ar (by omega) ?_
  refine r_ar (by omega) ?_
  refine r_ag (s:=k) (k+1) ⟨by omega,rfl⟩ (by omega) ?_
  rw [take_s hl,sumL_snoc]
  have:((sumL (ws.take k)+(l.length+1):Nat):Int)=(sumL (ws.take k):Int)+(l.length:Int)+1:=by omega
  rw [this]
  rfl
 obtain rfl:k=n:=by omega
 refine r_brk ?_
 refine r_tlen Tryz.underlying9 ?_
 refine r_min ?_
 have emin:(if (s.length:Int) < ((sumL (ws.take k):Nat):Int) then (s.length:Int) else ((sumL (ws.take k):Nat):Int))=((min (sumL (ws.take k)) s.length:Nat):Int):=by
  split<;>omega
 rw [emin]
 refine r_tslh Tryz.underlying9 (min (sumL (ws.take k)) s.length) rfl (Nat.min_le_right _ _) ?_
 generalize hhd:s.take (min (sumL (ws.take k)) s.length)=hd at *
 have l2:=(H.blk (i:=0) rfl).lt
 have g2:=H.ge (i:=0) rfl
 refine r_call (rParse_tO [v2] (λ q hq=>by simp at hq;omega) hd (by rw [← hhd,List.length_take];omega)) ?_
 rintro _ w7 ⟨cs,rfl,hconf,f7⟩
 have H:=H.fr f7
 have hcl:=rConf.len hconf.now
 have hone:=rConf.one hconf.now
 refine r_as (cs:=cs) (zs:=zC) (n:=8) (λ v10 w8 e8 B8 f8=>?_) Tryz.zeroValue29 Tryz.sizeOf29 hone (hl:=hcl)
 have H8:=H.add e8 B8 f8
 have hconf8:Off [v2] (λ w1=>rConf.r w1 cs (parseP hd).1) w8:=hconf.go f8 (by simp) (λ q hq=>.inl hq)
 refine r_if (λ hne=>?_) (λ hne=>?_)
 ·refine b_stn (cs:=zC) H8 1 rfl Tryz.sizeOf29 one_zC (λ w9 H=>?_)
  refine b_ldn H 1 rfl ?_
  rw [if_pos hne] at epar
  exact b_ret H (λ F=>⟨zC,.slice none 0 0,by rw [epar];rfl,by rw [epar];exact c0_r,by rw [epar];exact Sl.nil,F⟩)
 rw [if_neg hne] at epar
 have hr8:Rw rT w8 X ws:=(hr.up f7).up f8
 generalize hD:(linesOf s).drop (headN (linesOf s))=D at *
 have l28:=(H8.blk (i:=1) rfl).lt
 have fin:∀ {W:World} {v:Value} {l:List GTick} {A:List Nat→List Value→World→Prop} {B:List Nat→Nat→List Value→World→Prop},Fr [] w8 W→Or rTick 76 w8.heap.size [v2] W v l→foldA [] D=some l→l.length≤4096→wp Tryz.prog Z (PaR w s) [] (.ldn 8 (Pt v10 0) λ v131=>.ef (Instr.storeAt 29 (Pt v2 0) v131) (.ldn 8 (Pt v2 0) λ r0=>.ret (.tuple [r0,v,(I 0),(I 0)].toArray))) W A B:=by
  intro W v l A B F HO hf hll
  have H:=H8.fr F
  refine b_ldn H 0 rfl ?_ hcl
  refine r_stn (cs:=cs) (H.blk (i:=1) rfl) Tryz.sizeOf29 hone (λ W2 B2 f2=>?_) rfl hcl rfl
  have H:=H.set (i:=1) rfl B2 f2
  refine b_ldn H 1 rfl ?_ hcl
  rw [hf] at epar
  have HO2:=HO.up f2 (λ q hq hm=>by have:=(HO.lt q hm).1;simp at hq;omega) (λ q hq=>.inl hq)
  exact b_ret H (λ F0=>⟨cs,v,by rw [epar],by rw [epar];exact hconf8 W2 ((F.mono (by simp)).trans f2),by rw [epar];exact HO2.row (by simp only [big];omega),F0⟩)
 refine r_loop (λ (x:Nat × Value × List GTick)=>z5 (k+x.1) x.2.1) (λ x W=>Fr [] w8 W∧Or rTick 76 w8.heap.size [v2] W x.2.1 x.2.2∧foldA [] (D.take x.1)=some x.2.2∧((k≤ls.length∧k+x.1≤ls.length)∨(k=ls.length+1∧x.1=0))) (λ x=>ls.length+1-(k+x.1)) (0,.slice none 0 0,[]) ⟨Fr.refl _ _,Or.nil,rfl,?_⟩ rfl ?_
 ·rcases hcase with ⟨h,_⟩ | ⟨h,_⟩
  ·exact .inl ⟨h,h⟩
  ·exact .inr ⟨h,rfl⟩
 rintro ⟨m,v,l⟩ W ⟨F,HO,hf,hm⟩
 dsimp only at HO hf hm
 obtain ⟨hall,hll⟩:=foldA_small hf ⟨λ t ht=>(nomatch ht),Nat.zero_le _⟩
 refine r_if (λ h4=>?_) (λ h4=>?_)
 ·have h4:k+m < ls.length+1:=by
   have h4:((k+m:Nat):Int) < (ws.length:Int):=h4
   omega
  obtain ⟨hkl,hkm⟩:k≤ls.length∧k+m≤ls.length:=by rcases hm with h | ⟨h,h'⟩<;>omega
  have hcA:headN (linesOf s)=k∧D=(ls.drop k).map nlW++(if z=[] then [] else [z]):=by
   rcases hcase with ⟨_,h1,h2⟩ | ⟨h,_⟩
   ·exact ⟨h1,h2⟩
   ·omega
  obtain ⟨hhk,hDe⟩:=hcA
  rw [hhk] at epar
  obtain ⟨p,hp⟩:=gt (xs:=ws) (j:=k+m) (by omega)
  have hpl:=hsl.2 p (List.mem_of_getElem? hp)
  have hdl:((ls.drop k).map nlW).length=ls.length-k:=by rw [List.length_map,List.length_drop]
  have bad:∀ y,D[m]? = some y→addP l y=none→parseS s=(c0,[],((k+m:Nat):Int),260):=λ y hy hno=>by
   obtain ⟨k1,k2⟩:=failA_at hf hy hno
   rw [epar,k1,k2]
  have step:∀ y x,D[m]? = some y→addP l y=some x→foldA [] (D.take (m+1))=some x:=λ y x hy hx=>by
   rw [take_s hy,foldA_snoc,hf];exact hx
  refine r_ar (by omega) ?_
  refine r_if (λ hla=>?_) (λ hla=>?_)
  ·have hla:((k+m:Nat):Int)=(ws.length:Int)-1:=hla
   have hkm2:k+m=ls.length:=by omega
   have hpz:p=z:=by
    rw [hs,hkm2,List.getElem?_append_right (Nat.le_refl _),Nat.sub_self] at hp
    cases hp;rfl
   subst hpz
   obtain ⟨ad,es,rfl,rd,e3⟩:=hr8 (k+m) p hp
   obtain rfl:=e3
   refine r_ob ⟨by omega,by omega⟩ ?_
   refine r_ld (cell1 (rd.fr F)) ?_
   refine r_teq (a:=p) (b:=[]) ?_
   refine r_if (λ h0=>?_) (λ h0=>?_)
   ·refine r_brk ?_
    refine fin F HO ?_ hll
    rw [h0,if_pos rfl,List.append_nil] at hDe
    rw [List.take_of_length_le (by rw [hDe,hdl];omega)] at hf
    exact hf
   ·rw [if_neg h0] at hDe
    have hy:D[m]? = some p:=by
     rw [hDe,List.getElem?_append_right (by rw [hdl];omega),hdl,show m-(ls.length-k)=0 by omega];rfl
    have hT:decide (((k+m:Nat):Int)=(ws.length:Int)-1)=true:=decide_eq_true hla
    exact pp_wp (decide (((k+m:Nat):Int)=(ws.length:Int)-1)) H8 F HO hall hll hr8 hp (by omega) (by omega) (λ t _ _ h=>by rw [hT] at h;cases h) (λ _ _=>bad p hy (addP_end hz)) (λ _ h=>by rw [hT] at h;cases h)
  ·have hla:¬ ((k+m:Nat):Int)=(ws.length:Int)-1:=hla
   have hkm2:k+m < ls.length:=by omega
   have hpl2:ls[k+m]? = some p:=by rw [hs,List.getElem?_append_left hkm2] at hp;exact hp
   have hy:D[m]? = some (nlW p):=by
    rw [hDe,List.getElem?_append_left (by rw [hdl];omega),List.getElem?_map,List.getElem?_drop,hpl2];rfl
   have hT:decide (((k+m:Nat):Int)=(ws.length:Int)-1)=false:=decide_eq_false hla
   have nx:∀ x W' v',Fr [] w8 W'→Or rTick 76 w8.heap.size [v2] W' v' x→addP l (nlW p)=some x→∃ s':Nat × Value × List GTick,z5 (k+s'.1) s'.2.1=z5 (k+m+1) v'∧ls.length+1-(k+s'.1) < ls.length+1-(k+m)∧([]:List Nat)=[]∧Fr [] w8 W'∧Or rTick 76 w8.heap.size [v2] W' s'.2.1 s'.2.2∧foldA [] (D.take s'.1)=some s'.2.2∧((k≤ls.length∧k+s'.1≤ls.length)∨(k=ls.length+1∧s'.1=0)):=λ x W' v' F' HO' hx=>⟨(m+1,v',x),rfl,by dsimp only;omega,rfl,F',HO',step _ _ hy hx,.inl ⟨hkl,by dsimp only;omega⟩⟩
   refine pp_wp (decide (((k+m:Nat):Int)=(ws.length:Int)-1)) H8 F HO hall hll hr8 hp (by omega) (by omega) (λ t hpk hl _ W' v' F' HO'=>nx _ W' v' F' HO' (addP_pick hpk hl)) (λ h1 h2=>bad _ hy ?_) (λ h1 _ t x ht hx W' v' F' HO'=>nx _ W' v' F' HO' (by rw [addP_more h1,ht];show (moreP t p).map _=_;rw [hx];rfl))
   have h1:picksP p=none∨4096≤l.length:=by
    rcases h1 with h | h
    ·rw [hT] at h;cases h
    ·exact h
   rw [addP_more h1]
   rcases h2 with rfl | h | ⟨t,ht,hno⟩
   ·rfl
   ·rw [hT] at h;cases h
   ·rw [ht]
    show (moreP t p).map _=none
    rw [hno];rfl
 ·have h4:¬ k+m < ls.length+1:=by
   intro h
   apply h4
   show ((k+m:Nat):Int) < (ws.length:Int)
   omega
  obtain ⟨hk1,rfl⟩:k=ls.length+1∧m=0:=by rcases hm with h | h;omega;exact h
  have hDe:D=[]:=by
   rcases hcase with ⟨h,_⟩ | ⟨_,h⟩
   ·omega
   ·exact h
  refine r_brk ?_
  exact fin F HO (by rw [hDe] at hf ⊢;exact hf) hll
end
end Go.Proofs.YtppodgdhdddfkaaGreatDoor.Sc
set_option linter.unusedVariables false
set_option linter.unusedSimpArgs false
namespace Go.Proofs.YtppodgdhdddfkaaGreatDoor.Sc
set_option maxRecDepth 100000
open Go Go.RowKit Go.Proofs.YtppodgdhdddfkaaGreatDoor.Sx
open Go.Proofs.YtppodgdhdddfkaaGreatDoor.Sg
open Go.Proofs.YtppodgdhdddfkaaGreatDoor.Bi (mixed)
open Go.Proofs.YtppodgdhdddfkaaGreatDoor.Cg (zC c0_r one_zC c0 parseP linesOf)
theorem parseS_wf (s:Bs):(∀ t∈(parseS s).2.1,WfG t∧smallT t=true)∧(parseS s).2.1.length≤4096:=by
 unfold parseS
 split
 ·exact ⟨λ t ht=>(nomatch ht),Nat.zero_le _⟩
 ·split
  ·exact ⟨λ t ht=>(nomatch ht),Nat.zero_le _⟩
  ·split
   ·rename_i l hl
    obtain ⟨h1,h2⟩:=foldA_small hl ⟨λ t ht=>(nomatch ht),Nat.zero_le _⟩
    exact ⟨λ t ht=>⟨foldA_wf hl (λ t ht=>(nomatch ht)) t ht,h1 t ht⟩,h2⟩
   ·exact ⟨λ t ht=>(nomatch ht),Nat.zero_le _⟩
section
variable {Z:ZP} {w w0:World} {R:Value→World→Prop} {A:List Nat→List Value→World→Prop} {B:List Nat→Nat→List Value→World→Prop}
theorem short_t (s:Bs):Cz Tryz.prog 10 [Tx s] w (λ r w'=>r=Tx (s.take 5000)∧w'=w) Z:=by
 refine go mixed Tryz.func10 Tryz.call10 rfl (Tr.e10 _) ?_
 refine r_tlen Tryz.underlying9 ?_
 refine r_if (λ h=>?_) (λ h=>?_)
 ·refine r_tslh Tryz.underlying9 5000 rfl (by omega) ?_
  exact r_ret ⟨rfl,rfl⟩
 ·exact r_ret ⟨by rw [List.take_of_length_le (by omega)],rfl⟩
theorem parses26_t (G:SW w) (s:Bs):Cz Tryz.prog 3 [Tx s] w (λ r w'=>r=.bool true∧Fr [] w w') Z:=by
 refine go mixed Tryz.func3 Tryz.call3 rfl (Tr.e3 _) ?_
 refine r_call (short_t s) ?_
 rintro _ _ ⟨rfl,rfl⟩
 have hs:(s.take 5000).length≤5000:=by rw [List.length_take];omega
 generalize s.take 5000=s at hs
 obtain ⟨hwf,hpl⟩:=parseS_wf s
 refine r_call (sParse_t s (by omega) G) ?_
 rintro _ w1 ⟨cs,v,rfl,hc,hv,f1⟩
 have hcl:=rConf.len hc
 refine r_as (cs:=cs) (zs:=zC) (n:=8) (λ v3 w2 e3 B3 f2=>?_) Tryz.zeroValue29 Tryz.sizeOf29 (rConf.one hc) (hl:=hcl)
 refine r_call (rParse26_t s (by omega)) ?_
 rintro _ w3 ⟨ds,u,rfl,hd,hu,f3⟩
 have hdl:=rConf.len hd
 refine r_as (cs:=ds) (zs:=zC) (n:=8) (λ v7 w4 e7 B7 f4=>?_) Tryz.zeroValue29 Tryz.sizeOf29 (rConf.one hd) (hl:=hdl)
 have f24:=f3.trans f4
 refine r_ldn ((B3.fr0 f24).rd hcl) ?_
 refine r_ldn (B7.rd hdl) ?_
 have hc4:=rConf.up (f2.trans f24) hc
 refine r_call (Cg.rSame_t hc4 (rConf.up f4 hd)) ?_
 rintro _ w5 ⟨rfl,f5⟩
 rw [decide_eq_true rfl]
 obtain ⟨X,c,rfl,x1,x2,x3⟩:=hv.up ((f2.trans f24).trans f5)
 obtain ⟨Y,d,rfl,y1,y2,y3⟩:=hu.up (f4.trans f5)
 refine r_call (rJust_t x3 y3 x2 (λ t ht=>(hwf t ht).1.b)) ?_
 rintro _ w6 ⟨rfl,f6⟩
 refine r_if (λ _=>?_) (λ h=>absurd rfl h)
 refine r_if (λ _=>?_) (λ h=>absurd rfl h)
 have F:=(((f1.trans f2).trans f24).trans f5).trans f6
 exact r_call (awake_t (G.up F)) (λ v w' h=>r_ret ⟨h.1,F.trans h.2⟩)
theorem parses_c (W:World) (G:SW W) (s:ByteArray) (hs:s.size≤reachBytes):Cl Tryz.prog 3 [.string s] W (λ r w'=>r=.bool true∧Fr [] W w'):=by
 have h:=parses26_t (Z:=λ _ _=>False) G s.data.toList
 exact h.cl
end
end Go.Proofs.YtppodgdhdddfkaaGreatDoor.Sc
