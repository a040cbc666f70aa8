import Derived.Test.YtppodgdhdddfkaaGreatDoorQMc
import Derived.Test.YtppodgdhdddfkaaGreatDoorQTr
set_option linter.unusedVariables false
set_option linter.unusedSimpArgs false
namespace Go.Proofs.YtppodgdhdddfkaaGreatDoor.Bi
open Go Go.RowKit Go.Proofs.YtppodgdhdddfkaaGreatDoor.Sx
theorem mixed:Tryz.prog.follows .mixedOrders=true:=by kernel_rfl
section
variable {Z:ZP} {w:World}
theorem one_t {i:Nat} (hi:i < 64):Cz Tryz.prog 183 [I i] w (λ r w'=>r=U ((1#64) <<< i)∧w'=w) Z:=by
 refine go mixed Tryz.func183 Tryz.call183 rfl (Tr.e183 _) ?_
 refine r_cu (by omega) ?_
 refine r_shl1 hi ?_
 exact r_ret ⟨rfl,rfl⟩
theorem Has_t (s:BitVec 64) (i:Int):Cz Tryz.prog 201 [U s,I i] w (λ r w'=>r=B (Bt.has s i)∧w'=w) Z:=by
 refine go mixed Tryz.func201 Tryz.call201 rfl (Tr.e201 _ _) ?_
 unfold Bt.has
 refine r_if (λ h0=>?_) (λ h0=>?_)
 ·refine r_if (λ h1=>?_) (λ h1=>?_)
  ·obtain ⟨n,rfl⟩:∃ n:Nat,i=n:=⟨i.toNat,by omega⟩
   have hn:n < 64:=by omega
   refine r_call (one_t hn) ?_
   rintro _ w1 ⟨rfl,rfl⟩
   refine r_and ?_
   refine r_ret ⟨?_,rfl⟩
   rw [decide_eq_true (show 0≤(n:Int)∧(n:Int) < 64 by omega),Bool.true_and,Int.toNat_natCast,← Bt.and1 s hn]
  ·exact r_ret ⟨by rw [decide_eq_false (λ h=>h1 h.2)];rfl,rfl⟩
 ·exact r_ret ⟨by rw [decide_eq_false (λ h=>h0 h.1)];rfl,rfl⟩
theorem has_nat (s:BitVec 64) {i:Nat} (hi:i < 64):Bt.has s (i:Int)=s.getLsbD i:=by
 unfold Bt.has
 rw [decide_eq_true (show 0≤(i:Int)∧(i:Int) < 64 by omega)]
 simp
theorem All1_it {s:BitVec 64} {b T0:Nat} {L:Nat} {J:List Nat→Nat→World→Prop} {K:List Nat→World→Prop} (RG:Rg Tryz.prog L (St (Bt.memI s)) J K) (hb:∀ V m w,J V m w→Blk w b T0 [U s]) (h0:J [] 0 w) :
  Cz Tryz.prog 200 [.func (.yield L) #[] #[],Pt b 0] w (λ _ w'=>∃ V,J V (Bt.memI s).length w'∨K V w') Z:=by
 refine go mixed Tryz.func200 Tryz.call200 rfl (Tr.e200 _ _) ?_
 refine r_loop (λ (i:Nat)=>[I (i:Int)]) (λ i w'=>i≤64∧J [] (Bt.cnt s i) w') (λ i=>64-i) 0 ⟨Nat.zero_le _,h0⟩ rfl ?_
 rintro i w1 ⟨hi,hJ⟩
 refine r_if (λ h=>?_) (λ h=>?_)
 ·have hi2:i < 64:=by omega
  refine r_ld ((hb _ _ _ hJ).cell rfl) ?_
  refine r_call (Has_t s i) ?_
  rintro _ w2 ⟨rfl,rfl⟩
  rw [has_nat s hi2]
  have hc:=Bt.cnt_succ s i
  refine r_ifb (λ hs=>?_) (λ hs=>?_)
  ·rw [if_pos hs] at hc
   refine r_yld (RG.yd [] _ _ _ _ hJ (by simp) ⟨_,Bt.cnt_at hi2 hs,rfl,rfl⟩) ?_
   rintro v w3 ⟨⟨rfl,hJ2⟩ | ⟨rfl,hK⟩,_,_⟩
   ·refine r_ar (z:=(i:Int)+1) (by omega) ?_
    exact r_ag (i+1) ⟨by omega,by rw [hc];exact hJ2⟩ (by omega) rfl
   ·exact r_ret ⟨[],.inr hK⟩
  ·rw [if_neg (by rw [hs];simp),Nat.add_zero] at hc
   refine r_ar (by omega) ?_
   exact r_ag (i+1) ⟨by omega,by rw [hc];exact hJ⟩ (by omega) rfl
 ·have:i=64:=by omega
  subst this
  rw [Bt.cnt_all] at hJ
  exact r_brk (r_ret ⟨[],.inl hJ⟩)
theorem All_t (s:BitVec 64):Cz Tryz.prog 178 [U s] w (λ r w'=>∃ b,r=.func (.func 200) [].toArray [Pt b 0].toArray∧b=w.heap.size∧Blk w' b 40 [U s]∧Fr [] w w') Z:=by
 refine go mixed Tryz.func178 Tryz.call178 rfl (Tr.e178 _) ?_
 refine r_box (cs:=[U s]) (λ b w1 hb Bb f=>?_)
 exact r_ret ⟨b,rfl,hb,Bb,f⟩
theorem Eint:El Tryz.prog 27 3 1 8 (I 0):=⟨by kernel_rfl,by kernel_rfl,Tryz.sizeOf3,Tryz.zeroValue3,rfl⟩
def Nw (w w':World) (v:Value) (xs:List Int):Prop:=w'.ownsRow 0 3 1 v xs.length (ints xs)∧∀ q∈v.ownBlock.toList,w.heap.size≤q
theorem take_s {α:Type} {l:List α} {m:Nat} {x:α} (h:l[m]? = some x):l.take (m+1)=l.take m++[x]:=by
 rw [List.take_add_one,h];rfl
theorem List_t (s:BitVec 64):Cz Tryz.prog 145 [U s] w (λ r w'=>Nw w w' r (Bt.memI s)∧Fr [] w w') Z:=by
 refine go mixed Tryz.func145 Tryz.call145 rfl (Tr.e145 _) ?_
 refine r_al Tryz.zeroValue27 (λ c w1 hc Bc f1=>?_)
 refine r_call (All_t s) ?_
 rintro _ w2 ⟨b,rfl,hb,Bb,f2⟩
 have F2:=f1.trans f2
 have hc1:=Bc.lt
 have hc2:c < w2.heap.size:=(Bc.fr0 f2).lt
 have hb2:b < w2.heap.size:=Bb.lt
 have hbc:b≠c:=by omega
 refine ⟨_,_,rfl,Tryz.call200,(λ L o h=>by cases h),λ L0 D a0 b0 w3 hL0 hL1 f3 hLa hD=>?_⟩
 obtain ⟨hD0,hDL,hD1,hDd⟩:=hD
 obtain ⟨ks,hks⟩:∃ ks,ks=Bt.memI s:=⟨_,rfl⟩
 have hkl:ks.length≤64:=by rw [hks];unfold Bt.memI Bt.mem;rw [List.length_map];exact Nat.le_trans (List.length_filter_le _ _) (by simp)
 rw [← hks]
 refine ⟨Nat,St ks,λ U m W=>∃ vc,(Blk W c 27 [vc]∧W.ownsRow 0 3 1 vc (ks.take m).length (ints (ks.take m))∧c∉vc.ownBlock.toList)∧(∀ q∈c :: vc.ownBlock.toList,q∉U)∧(∀ q∈U,w2.heap.size≤q)∧(∀ q∈vc.ownBlock.toList,w2.heap.size≤q)∧Fr [c] w2 W,λ _ _ _=>False,0,ks.length,?_,?_,?_,?_,?_,?_,?_⟩
 ·refine ⟨.slice none 0 0,⟨(Bc.fr0 f2).fr0 f3,own_nil _ _ _,by simp [Value.ownBlock]⟩,λ q hq=>?_,λ q hq=>?_,by simp [Value.ownBlock],f3.mono (by simp)⟩
  ·simp [Value.ownBlock] at hq;subst hq;simp [u0];omega
  ·simp [u0] at hq;rcases hq with rfl | rfl<;>assumption
 ·intro m
  refine ⟨?_,?_⟩
  ·rintro V W W' ⟨vc,⟨p1,p2,p3⟩,h1,h2,h3,F⟩ g
   exact ⟨vc,⟨p1.fr g (h1 c (by simp)),own_f p2 g (λ q hq=>h1 q (by simp [hq])),p3⟩,h1,h2,h3,F.trans_new g (λ q hq=>.inr (h2 q hq))⟩
  ·rintro V W x ⟨vc,⟨p1,p2,p3⟩,h1,h2,h3,F⟩ hx
   have hlt:∀ q∈c :: vc.ownBlock.toList,q < W.heap.size:=λ q hq=>by
    rcases List.mem_cons.1 hq with rfl | hq
    ·exact p1.lt
    ·exact (own_lt p2 q hq).2
   refine ⟨vc,⟨p1,p2,p3⟩,λ q hq hU=>?_,λ q hq=>?_,h3,F⟩
   ·rcases List.mem_cons.1 hU with rfl | hU
    ·have:=hlt _ hq;omega
    ·exact h1 q hq hU
   ·rcases List.mem_cons.1 hq with rfl | hq
    ·exact Nat.le_trans F.size hx
    ·exact h2 q hq
 ·exact λ _=>⟨λ _ _ _ h _=>h,λ _ _ _ h _=>h⟩
 ·rintro V m m' _ W hLU _ hUs ⟨vc,⟨p1,p2,p3⟩,h1,h2,h3,F⟩ hLW ⟨x,hx,rfl,rfl⟩
  refine ⟨rfl,?_⟩
  have hcL:c≠L0:=λ e=>h1 c (by simp) (e ▸ hLU)
  refine r_rb hLW (λ Wb fb hLb=>?_)
  have q1:=p1.fr fb (by simpa using hcL)
  have q2:=own_f p2 fb (λ q hq e=>by simp at e;subst e;exact h1 _ (by simp [hq]) hLU)
  refine r_ld (q1.cell rfl) ?_
  refine r_bs1 Eint (λ e w5 he Be f5=>?_)
  have hm:m < ks.length:=(List.getElem?_eq_some_iff.1 hx).1
  refine r_appO Eint (own_fr0 q2 f5) (m:=1) (news:=[I x]) rfl (by simp) (λ ad he j u hj=>?_) (one1 rfl) (by simp only [big];simp;omega) (Nat.zero_le _) (λ v' w6 HO f6 hob=>?_)
  ·cases he;exact Be.rd.2 j u hj
  have hB6:=(q1.fr0 f5).fr f6 p3
  have hO:∀ q∈v'.ownBlock.toList,q∈vc.ownBlock.toList∨Wb.heap.size≤q:=λ q hq=>by
   rcases hob with h | h
   ·exact .inl (h ▸ hq)
   ·rw [h] at hq;simp at hq;subst hq;exact .inr f5.size
  have hnb:c∉v'.ownBlock.toList:=λ hq=>by
   rcases hO c hq with h | h
   ·exact p3 h
   ·have:=q1.lt;omega
  obtain ⟨X,cp,rfl,_⟩:=own_slice HO
  refine r_st1 hB6 Tryz.sizeOf27 (λ w7 B7 f7=>?_)
  have G:Fr (c :: vc.ownBlock.toList) Wb w7:=((f5.mono (by simp)).trans (f6.mono (λ q hq=>List.mem_cons_of_mem _ hq))).trans (f7.mono (by simp))
  refine ⟨⟨_,⟨B7,?_,hnb⟩,λ q hq hU=>?_,h2,λ q hq=>?_,?_⟩,Kp.of fb G ((G.keep L0 (Array.getElem?_eq_some_iff.1 hLb).1 (λ e=>h1 L0 e hLU)).trans hLb) (λ q hq e=>h1 q e hq) hUs⟩
  ·have:=own_f HO f7 (λ q hq hb=>hnb (by simp at hb;rw [← hb];exact hq))
   rw [take_s hx]
   simpa [ints] using this
  ·rcases List.mem_cons.1 hq with rfl | hq
   ·exact h1 _ (by simp) hU
   ·rcases hO q hq with h | h
    ·exact h1 q (by simp [h]) hU
    ·have:=hUs q hU;have:=fb.size;omega
  ·rcases hO q hq with h | h
   ·exact h3 q h
   ·exact Nat.le_trans (Nat.le_trans F.size fb.size) h
  ·refine (F.trans_new fb (λ q hq=>.inr (h2 q (by simp at hq;subst hq;exact hLU)))).trans_new G (λ q hq=>?_)
   rcases List.mem_cons.1 hq with rfl | hq
   ·exact .inl (by simp)
   ·exact .inr (h3 q hq)
 ·intro J K' RG hJI hJ0 _
  rw [hks] at RG ⊢
  refine All1_it (T0:=40) RG (λ V m W hJ=>?_) hJ0
  obtain ⟨_,_,_,_,_,F⟩:=hJI _ _ _ hJ
  exact Bb.fr F (by simpa using hbc)
 ·rintro V W ⟨vc,⟨p1,p2,p3⟩,h1,h2,h3,Fc⟩ hDW
  rw [List.take_length] at p2
  refine r_ld (p1.cell rfl) ?_
  refine r_ret1 hDW (λ w5 f5=>⟨⟨own_f p2 f5 (λ q hq e=>?_),λ q hq=>Nat.le_trans F2.size (h3 q hq)⟩,?_⟩)
  ·exact own_nd p2 hDW q hq (by simpa using e)
  ·exact (F2.trans_new Fc (λ q hq=>.inr (by simp at hq;omega))).trans_new f5 (λ q hq=>.inr (by simp at hq;subst hq;exact Nat.le_trans F2.size hD0))
 ·rintro V W j h;exact h.elim
end
end Go.Proofs.YtppodgdhdddfkaaGreatDoor.Bi
set_option linter.unusedVariables false
set_option linter.unusedSimpArgs false
namespace Go.Proofs.YtppodgdhdddfkaaGreatDoor.Bi
open Go Go.RowKit Go.Proofs.YtppodgdhdddfkaaGreatDoor.Sx
section
variable {P:Program} {Z:ZP} {R:Value→World→Prop} {w:World} {A:List Nat→List Value→World→Prop} {B:List Nat→Nat→List Value→World→Prop} {ds:List Nat} {k:Value→T} {t:TypeId} {a:BitVec 64}
theorem r_quo2 (h:wp P Z R ds (k (U (a >>> 1))) w A B):wp P Z R ds (.pu (binOp .quo t (U a) (.int .u64 2)) k) w A B:=by
 have hv:IntKind.u64.wrap (((a.toNat:Nat):Int).tdiv 2)=(((a >>> 1).toNat:Nat):Int):=by
  have h:=a.isLt
  rw [Bt.wrap_u,BitVec.toNat_ushiftRight,Nat.shiftRight_eq_div_pow,Int.tdiv_eq_ediv_of_nonneg (by omega)]
  omega
 have e:(Op.intDiv .quo .u64 ((a.toNat:Nat):Int) 2:Sem Value)=pure (U (a >>> 1)):=by
  unfold Op.intDiv
  rw [if_neg (by decide)]
  show (pure (.int .u64 (IntKind.u64.wrap (((a.toNat:Nat):Int).tdiv 2))):Sem Value)=_
  rw [hv]
 exact ⟨_,λ w'=>by rw [binOp_quo,e];rfl,h⟩
theorem r_rem2 (h:wp P Z R ds (k (.int .u64 (if a.getLsbD 0=true then 1 else 0))) w A B):wp P Z R ds (.pu (binOp .rem t (U a) (.int .u64 2)) k) w A B:=by
 have hv:((a.toNat:Nat):Int).tmod 2=if a.getLsbD 0=true then 1 else 0:=by
  rw [Int.tmod_eq_emod_of_nonneg (by omega)]
  have:a.getLsbD 0=decide (a.toNat % 2=1):=by
   show a.toNat.testBit 0=_
   rw [Nat.testBit_zero]
  rw [this]
  by_cases e:a.toNat % 2=1
  ·simp [e];omega
  ·simp [e];omega
 refine r_pu (o:=⟨none,.binOp .rem t (.const (U a)) (.const (.int .u64 2)) 0,0, "",#[],none⟩) (v:=.int .u64 (if a.getLsbD 0=true then 1 else 0)) (λ w'=>?_) h rfl
 have:=x_rem (P:=P) (l:=[]) (w:=w') (d:=none) (ty:=0) (t:=t) (pos:= "") (af:=#[]) (g:=none) (x:=.const (U a)) (y:=.const (.int .u64 2)) (ty2:=0) (k:=.u64) (a:=((a.toNat:Nat):Int)) (b:=2) rfl rfl (by decide)
 rw [hv] at this
 exact this
end
section
variable {Z:ZP} {w:World}
theorem rHas_t (s:BitVec 64) (i:Int):Cz Tryz.prog 150 [U s,I i] w (λ r w'=>r=B (Bt.has s i)∧w'=w) Z:=by
 refine go mixed Tryz.func150 Tryz.call150 rfl (Tr.e150 _ _) ?_
 unfold Bt.has
 refine r_if (λ h0=>?_) (λ h0=>?_)
 ·exact r_ret ⟨by rw [decide_eq_false (λ h=>by omega)];rfl,rfl⟩
 refine r_if (λ h1=>?_) (λ h1=>?_)
 ·exact r_ret ⟨by rw [decide_eq_false (λ h=>by omega)];rfl,rfl⟩
 obtain ⟨n,rfl⟩:∃ n:Nat,i=n:=⟨i.toNat,by omega⟩
 rw [decide_eq_true (show 0≤(n:Int)∧(n:Int) < 64 by omega),Bool.true_and,Int.toNat_natCast]
 refine r_loop (λ (j:Nat)=>[U (s >>> j),I ((n:Int)-j)]) (λ j w'=>j≤n∧w'=w) (λ j=>n-j) 0 ⟨Nat.zero_le _,rfl⟩ (by simp) ?_
 rintro j w1 ⟨hj,rfl⟩
 refine r_if (λ h=>?_) (λ h=>?_)
 ·replace h:0 < (n:Int)-j:=h
  refine r_quo2 ?_
  refine r_ar (by show -9223372036854775808≤(n:Int)-j-1∧(n:Int)-j-1≤_;omega) ?_
  exact r_ag (j+1) ⟨by omega,rfl⟩ (by omega) (show [U (s >>> (j+1)),I ((n:Int)-((j+1:Nat):Int))]=[U ((s >>> j) >>> 1),I ((n:Int)-j-1)] by rw [← BitVec.shiftRight_add,show (n:Int)-((j+1:Nat):Int)=(n:Int)-j-1 by omega])
 ·replace h:¬ 0 < (n:Int)-j:=h
  have:j=n:=by omega
  subst this
  refine r_brk ?_
  refine r_rem2 ?_
  refine r_ret ⟨?_,rfl⟩
  have e:(s >>> j).getLsbD 0=s.getLsbD j:=by simp
  rw [e]
  cases s.getLsbD j<;>rfl
def pre (s:BitVec 64) (i:Nat):List Int:=((List.range i).filter (λ j=>s.getLsbD j)).map (λ j:Nat=>(j:Int))
theorem pre_succ (s:BitVec 64) (i:Nat):pre s (i+1)=pre s i++if s.getLsbD i=true then [(i:Int)] else []:=by
 unfold pre
 rw [List.range_succ,List.filter_append,List.map_append]
 congr 1
 by_cases h:s.getLsbD i=true<;>simp [h]
theorem pre_len (s:BitVec 64) (i:Nat):(pre s i).length≤i:=by
 unfold pre
 rw [List.length_map]
 exact Nat.le_trans (List.length_filter_le _ _) (by simp)
theorem rList_t (s:BitVec 64):Cz Tryz.prog 107 [U s] w (λ r w'=>Nw w w' r (Bt.memI s)∧Fr [] w w') Z:=by
 refine go mixed Tryz.func107 Tryz.call107 rfl (Tr.e107 _) ?_
 refine r_loop (λ (t:Nat × Value)=>[I (t.1:Int),t.2]) (λ t w'=>t.1≤64∧Nw w w' t.2 (pre s t.1)∧Fr [] w w') (λ t=>64-t.1) (0,.slice none 0 0) ⟨Nat.zero_le _,⟨own_nil _ _ _,by simp [Value.ownBlock]⟩,Fr.refl _ _⟩ rfl ?_
 rintro ⟨i,u⟩ w1 ⟨hi,hu,F⟩
 dsimp only at hi hu F
 have hp:=pre_succ s i
 have hl:=pre_len s i
 refine r_if (λ h=>?_) (λ h=>?_)
 ·have hi2:i < 64:=by
   have h:(i:Int) < 64:=h
   omega
  refine r_call (rHas_t s i) ?_
  rintro _ w2 ⟨rfl,rfl⟩
  rw [has_nat s hi2]
  refine r_ifb (λ hs=>?_) (λ hs=>?_)
  ·rw [if_pos hs] at hp
   refine r_bs1 Eint (cs:=[I (i:Int)]) (λ c w3 hc Bc f3=>?_)
   refine r_appO Eint (own_fr0 hu.1 f3) (m:=1) (news:=[I (i:Int)]) rfl (by simp) (λ ad he j v hj=>?_) (one1 rfl) (by simp only [big];omega) (Nat.zero_le _) (λ v' w4 HO f4 hob=>?_)
   ·cases he;exact Bc.rd.2 j v hj
   refine r_ar (by show -9223372036854775808≤(i:Int)+1∧(i:Int)+1≤_;omega) ?_
   refine r_ag (i+1,v') ⟨by dsimp only;omega,?_,(F.trans f3).trans_new f4 (λ q hq=>.inr (hu.2 q hq))⟩ (by dsimp only;omega) rfl
   dsimp only
   rw [hp]
   refine ⟨by simpa [ints] using HO,λ q hq=>?_⟩
   rcases hob with h' | h'
   ·exact hu.2 q (h' ▸ hq)
   ·rw [h'] at hq;simp at hq;subst hq;exact Nat.le_trans F.size f3.size
  ·rw [if_neg (by rw [hs];simp),List.append_nil] at hp
   refine r_ar (by show -9223372036854775808≤(i:Int)+1∧(i:Int)+1≤_;omega) ?_
   exact r_ag (i+1,u) ⟨by dsimp only;omega,by dsimp only;rw [hp];exact hu,F⟩ (by dsimp only;omega) rfl
 ·have:i=64:=by
   have h:¬ (i:Int) < 64:=h
   omega
  subst this
  exact r_brk (r_ret ⟨hu,F⟩)
end
end Go.Proofs.YtppodgdhdddfkaaGreatDoor.Bi
set_option linter.unusedVariables false
set_option linter.unusedSimpArgs false
namespace Go.Proofs.YtppodgdhdddfkaaGreatDoor.Bi
open Go Go.RowKit Go.Proofs.YtppodgdhdddfkaaGreatDoor.Sx
def RU (w:World) (X:Option Addr) (bs:List (BitVec 64)):Prop:=∀ (j:Nat) b,bs[j]? = some b→∃ ad,X=some ad∧w.cell? (addA ad (j * 1))=some (U b)
def okRow (n:Nat) (b:BitVec 64):Bool:=(List.range 64).all (λ j=>!b.getLsbD j || decide (j < n))
def chk (bs:List (BitVec 64)):Int:=if 64 < bs.length then 3 else if bs.all (okRow bs.length)=true then 0 else 10
section
variable {Z:ZP} {w:World}
end
end Go.Proofs.YtppodgdhdddfkaaGreatDoor.Bi
set_option linter.unusedVariables false
set_option linter.unusedSimpArgs false
namespace Go.Proofs.YtppodgdhdddfkaaGreatDoor.Bi
open Go Go.RowKit Go.Proofs.YtppodgdhdddfkaaGreatDoor.Sx
section
variable {P:Program} {Z:ZP} {R:Value→World→Prop} {w:World} {A:List Nat→List Value→World→Prop} {B:List Nat→Nat→List Value→World→Prop} {ds:List Nat} {k:Value→T}
end
def zr:List (BitVec 64):=List.replicate 64 0#64
def padR (bs:List (BitVec 64)):List (BitVec 64):=bs++List.replicate (64-bs.length) 0#64
section
variable {Z:ZP} {w:World}
end
end Go.Proofs.YtppodgdhdddfkaaGreatDoor.Bi
set_option linter.unusedVariables false
set_option linter.unusedSimpArgs false
namespace Go.Proofs.YtppodgdhdddfkaaGreatDoor.Bi
open Go Go.RowKit Go.Proofs.YtppodgdhdddfkaaGreatDoor.Sx
abbrev Rs:=List (BitVec 64)
def at_ (r:Rs) (i:Nat):BitVec 64:=(r[i]?).getD 0#64
def s1 (r:Rs):Nat→Rs
 | 0=>r
 | i+1=>(s1 r i).set i (at_ (s1 r i) i ||| ((1#64) <<< i))
def inn (r:Rs) (way:Nat):Nat→Rs
 | 0=>r
 | i+1=>if (at_ (inn r way i) i).getLsbD way=true then (inn r way i).set i (at_ (inn r way i) i ||| at_ (inn r way i) way) else inn r way i
def s2 (r:Rs) (n:Nat):Nat→Rs
 | 0=>r
 | w+1=>inn (s2 r n w) w n
def closed (r:Rs) (n:Nat):Rs:=s2 (s1 r n) n n
theorem at_some {r:Rs} {i:Nat} (h:i < r.length):r[i]? = some (at_ r i):=by unfold at_;rw [List.getElem?_eq_getElem h];rfl
section
variable {Z:ZP} {w:World}
theorem Eu64:El Tryz.prog 23 40 1 8 (.int .u64 0):=⟨by kernel_rfl,by kernel_rfl,Tryz.sizeOf40,Tryz.zeroValue40,rfl⟩
end
end Go.Proofs.YtppodgdhdddfkaaGreatDoor.Bi
set_option linter.unusedVariables false
set_option linter.unusedSimpArgs false
namespace Go.Proofs.YtppodgdhdddfkaaGreatDoor.Bi
open Go Go.RowKit Go.Proofs.YtppodgdhdddfkaaGreatDoor.Sx
def Pol (r:Rs) (n:Nat):Prop:=(∀ i,i < n→(at_ r i).getLsbD i=true)∧∀ i j,i < n→j < n→(at_ r i).getLsbD j=true→∀ k,(at_ r j).getLsbD k=true→(at_ r i).getLsbD k=true
section
variable {Z:ZP} {w:World}
end
end Go.Proofs.YtppodgdhdddfkaaGreatDoor.Bi
set_option linter.unusedVariables false
set_option linter.unusedSimpArgs false
namespace Go.Proofs.YtppodgdhdddfkaaGreatDoor.Bi
open Go Go.RowKit Go.Proofs.YtppodgdhdddfkaaGreatDoor.Sx
section
variable {Z:ZP} {w:World}
def clo (bs:Rs):Rs:=(closed (padR bs) bs.length).take bs.length
theorem chk_le {bs:Rs} (h:chk bs=0):bs.length≤64:=by
 unfold chk at h
 split at h
 ·cases h
 ·omega
def shp (bs:Rs):Int:=if 16 < bs.length then 3 else if bs.length=0 then 1 else chk bs
def polB (bs:Rs):Bool:=(List.range bs.length).all λ i=>(at_ bs i).getLsbD i && (List.range bs.length).all λ j=>!(at_ bs i).getLsbD j || decide ((((at_ bs j &&& ~~~(at_ bs i)).toNat:Nat):Int)=0)
def polE (bs:Rs):Int:=if shp bs=0 then (if polB bs=true then 0 else 20) else shp bs
theorem polB_iff {bs:Rs}:polB bs=true↔Pol bs bs.length:=by
 unfold polB Pol
 rw [List.all_eq_true]
 constructor
 ·intro h
  refine ⟨λ i hi=>(Bool.and_eq_true_iff.1 (h i (List.mem_range.2 hi))).1,λ i j hi hj hb k hk=>?_⟩
  have:=List.all_eq_true.1 (Bool.and_eq_true_iff.1 (h i (List.mem_range.2 hi))).2 j (List.mem_range.2 hj)
  rw [hb,Bool.not_true,Bool.false_or] at this
  exact (Bt.andn_zero _ _).1 (of_decide_eq_true this) k (BitVec.lt_of_getLsbD hk) hk
 ·rintro ⟨h1,h2⟩ i hi
  have hi:=List.mem_range.1 hi
  refine Bool.and_eq_true_iff.2 ⟨h1 i hi,List.all_eq_true.2 (λ j hj=>?_)⟩
  have hj:=List.mem_range.1 hj
  cases hb:(at_ bs i).getLsbD j with
  | false=>rfl
  | true=>rw [Bool.not_true,Bool.false_or];exact decide_eq_true ((Bt.andn_zero _ _).2 (λ k _ hk=>h2 i j hi hj hb k hk))
end
end Go.Proofs.YtppodgdhdddfkaaGreatDoor.Bi
set_option linter.unusedVariables false
set_option linter.unusedSimpArgs false
namespace Go.Proofs.YtppodgdhdddfkaaGreatDoor.Bi
open Go Go.RowKit Go.Proofs.YtppodgdhdddfkaaGreatDoor.Sx
def Ob (w:World) (v v':Value):Prop:=v'.ownBlock=v.ownBlock∨∃ g,v'.ownBlock=some g∧w.heap.size≤g
section
variable {Z:ZP} {w:World}
def more (bs:Rs) (i:Nat):BitVec 64:=at_ (clo bs) i &&& ~~~(at_ bs i)
end
end Go.Proofs.YtppodgdhdddfkaaGreatDoor.Bi
set_option linter.unusedVariables false
set_option linter.unusedSimpArgs false
namespace Go.Proofs.YtppodgdhdddfkaaGreatDoor.Bi
open Go Go.RowKit Go.Proofs.YtppodgdhdddfkaaGreatDoor.Sx
section
variable {Z:ZP} {w:World}
end
end Go.Proofs.YtppodgdhdddfkaaGreatDoor.Bi
