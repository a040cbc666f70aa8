import Derived.Test.YtppodgdhdddfkaaGreatDoorQMb
import Derived.Test.YtppodgdhdddfkaaGreatDoorQMa
set_option linter.unusedVariables false
set_option linter.unusedSimpArgs false
namespace Go.Proofs.YtppodgdhdddfkaaGreatDoor.Sx
open Go Go.RowKit
section
variable {P:Program} {Z:ZP} {R:Value→World→Prop} {r:Option Nat} {n:Nat} {df:List Deferred} {A':List Nat→List Value→World→Prop} {B':List Nat→Nat→List Value→World→Prop} {ds:List Nat}
variable {ops:List Oper} {listed:Array Bool} {A:Nat} {u:List Nat} {l:Env} {S:PS} {a:Act} {w:World}
theorem wf_nd (h:wfR ops (ancs ops [])=true):nodupB (dsts ops)=true∧readsOk ops (ancs ops []) 0 ops=true∧(∀ o∈ops,noDef o=true)∧lowB 0 ops=true:=by
 unfold wfR at h
 simp only [Bool.and_eq_true] at h
 exact ⟨h.1.1.1,h.1.1.2,List.all_eq_true.1 h.1.2,h.2⟩
theorem Us.drop_nd {o:Oper} {d e:Nat} (h:d∉u):d∉dropU o u:=by
 unfold dropU
 split
 ·exact λ hm=>h (List.mem_filter.1 hm).1
 ·exact h
theorem Iv.ahead (H:Iv P n df ops listed A u l S a w) (hwf:wfR ops (ancs ops [])=true) {i:Nat} {o:Oper} (ho:ops[i]? = some o) (hA:A.testBit i=false) (hp:∀ m,(pm o).testBit m=true→A.testBit m=true) (hlt:isLt P ops (ancs ops []) i o=true)
  {k:List Nat→Env→T} (hw:wp P Z R ds (dgo P n ops u l o k) w A' B'):∃ u' l' S',Iv P n df ops listed (A ||| 2 ^ i) u' l' S' a w∧wp P Z R ds (k u' l') w A' B'∧(∀ e,o.dst≠some e→find l' e=find l e):=by
 obtain ⟨hnd,hrd,hdef,hlow⟩:=wf_nd hwf
 obtain ⟨d,v,u',l',hd,hdn,hk,hl,hway⟩:=light (hdef o (List.mem_of_getElem? ho)) hlt H.us hw
 have hne:∀ e,o.dst≠some e→find l' e=find l e:=λ e he=>by rw [hl,if_neg (λ h=>he (by rw [hd,h]))]
 have hdd:find l' d=some v:=by rw [hl,if_pos rfl]
 have hlo:listed.getD i false=false:=by
  cases hc:listed.getD i false with
  | false=>rfl
  | true=>rw [H.a1 i hc] at hA;cases hA
 have hself:d∉readsOf ops o:=by
  intro hm
  have h1:=noWar (lt_war hlt hd) i o ho hm
  rw [Nat.zero_add] at h1
  have:=anc_in (C:=λ m=>A.testBit m=true) H.a2 i o ho hp i h1
  rw [hA] at this
  cases this
 have hbit:∀ j,(A ||| 2 ^ i).testBit j=true↔A.testBit j=true∨i=j:=λ j=>by rw [tb_or,Bool.or_eq_true,decide_eq_true_eq]
 refine ⟨u',l',S++[(i,d,v)],⟨H.sz,λ j hj=>(hbit j).2 (.inl (H.a1 j hj)),?_,?_,H.lc,?_,?_,?_,?_,?_,?_⟩,hk,hne⟩
 ·intro j hj
  rcases (hbit j).1 hj with h | rfl
  ·exact H.aN j h
  ·exact (List.getElem?_eq_some_iff.1 ho).1
 ·intro j q hq hj m hm
  rcases (hbit j).1 hj with h | rfl
  ·exact (hbit m).2 (.inl (H.a2 j q hq h m hm))
  ·rw [ho] at hq;obtain rfl:=Option.some.inj hq;exact (hbit m).2 (.inl (hp m hm))
 ·intro j q hq hj hno
  rcases (hbit j).1 hj with h | rfl
  ·exact H.a3 j q hq h hno
  ·rw [ho] at hq;obtain rfl:=Option.some.inj hq;exact hlt
 ·
  have e:patch (S++[(i,d,v)]) a=(patch S a).put (some d) v:=by unfold patch;rw [List.foldl_append];rfl
  rw [e]
  refine ⟨by simpa [Act.put] using H.ag.size,H.ag.defs,λ t x ht=>?_⟩
  rw [hl] at ht
  by_cases h:d=t
  ·subst h
   rw [if_pos rfl] at ht
   obtain rfl:=Option.some.inj ht
   have:d < (patch S a).tmps.size:=by rw [H.ag.size];exact hdn
   simp [Act.put,this]
  ·rw [if_neg h] at ht
   have:=H.ag.look t x ht
   simpa [Act.put,Array.getElem?_setIfInBounds_ne h] using this
 ·rcases hway with ⟨rfl,_⟩ | ⟨rfl,rfl,_⟩
  ·exact H.us.drop hne
  ·exact H.us.skip hne (λ e he=>by rw [hd] at he;injection he with he;subst he;exact hdd)
 ·intro p hp'
  rcases List.mem_append.1 hp' with h | h
  ·obtain ⟨q,h1,h2,h3,h4,h5,h6⟩:=H.s1 p h
   have hnd':d∉readsOf ops q:=by
    intro hm
    have e1:=noWar (lt_war hlt hd) p.1 q h1 hm
    rw [Nat.zero_add] at e1
    have:=anc_in (C:=λ m=>A.testBit m=true) H.a2 p.1 q h1 (H.a2 p.1 q h1 h3) i e1
    rw [hA] at this
    cases this
   have hdp:p.2.1≠d:=by
    intro e
    have:=dst_inj hnd p.1 i q o d h1 ho (by rw [h4,e]) hd
    rw [this,hA] at h3
    cases h3
   refine ⟨q,h1,h2,(hbit _).2 (.inl h3),h4,h5,h6.fr (λ t ht=>hne t (λ e=>?_)) (hne _ (λ e=>?_)) (λ hu=>?_)⟩
   ·rw [hd] at e;injection e with e;subst e;exact hnd' ht
   ·rw [hd] at e;injection e with e;exact hdp e.symm
   ·rcases hway with ⟨rfl,_⟩ | ⟨rfl,_,_⟩
    ·exact Us.drop_nd (e:=0) hu
    ·unfold skips
     rw [hd]
     simp only [List.singleton_append,List.mem_cons,not_or]
     exact ⟨hdp,hu⟩
  ·obtain rfl:=List.mem_singleton.1 h
   refine ⟨o,ho,hlo,(hbit _).2 (.inr rfl),hd,hdn,?_⟩
   have base:Pend P n ops l' u' w o d v:=by
    refine ⟨hdd,?_⟩
    have hr:∀ t∈readsOf ops o,find l' t=find l t:=λ t ht=>hne t (λ e=>by rw [hd] at e;injection e with e;subst e;exact hself ht)
    have hx:∀ x∈o.op.operands,ev l' x=ev l x:=λ x hx=>by
     cases x with
     | tmp t=>exact hr t (op_read hx)
     | _=>rfl
    rcases hway with ⟨rfl,hg,hv⟩ | ⟨rfl,rfl,j,b,e,g,h1,h2,h3,h4,h5⟩
    ·refine .inl ⟨?_,?_,λ ρ w' hf hl=>hv ρ w' (λ x hx' y hy=>hf x hx' y (by rw [hx x hx'];exact hy)) hl⟩
     ·unfold dropU
      rw [hd]
      intro hm
      have:=(List.mem_filter.1 hm).2
      simp [Nat.beq_refl] at this
     ·rcases hg with hg | ⟨j,b,e,h1,h2,h3,h4⟩
      ·exact .inl hg
      ·exact .inr ⟨j,b,e,h1,h2,h3,by rw [hr e (g_read h1 h2)];exact h4⟩
    ·exact .inr ⟨rfl,j,b,e,g,h1,h2,h3,by rw [hr e (g_read h1 h2)];exact h4,h5⟩
   exact base
 ·intro j hj hno
  rcases (hbit j).1 hj with h | rfl
  ·obtain ⟨p,hp',he⟩:=H.s2 j h hno
   exact ⟨p,List.mem_append_left _ hp',he⟩
  ·exact ⟨(i,d,v),by simp,rfl⟩
 ·rw [List.map_append,List.nodup_append]
  refine ⟨H.s3,by simp,λ x hx y hy e=>?_⟩
  simp at hy
  subst hy
  subst e
  obtain ⟨p,hp',he⟩:=List.mem_map.1 hx
  obtain ⟨q,_,_,h3,_⟩:=H.s1 p hp'
  rw [he,hA] at h3
  cases h3
theorem Iv.sat (hwf:wfR ops (ancs ops [])=true) {k:Env→T} {l0:Env}:∀ (f A:Nat) (u:List Nat) (l:Env) (S:PS),Iv P n df ops listed A u l S a w→wp P Z R ds (dreg P n ops (ancs ops []) f A u l k) w A' B'→(∀ t,t∉dsts ops→find l t=find l0 t) →
  ∃ f A u l S,Iv P n df ops listed A u l S a w∧wp P Z R ds (dreg P n ops (ancs ops []) f A u l k) w A' B'∧(∀ t,t∉dsts ops→find l t=find l0 t)∧(rdy A 0 ops).find? (λ p=>isLt P ops (ancs ops []) p.1 p.2)=none:=by
 intro f
 induction f with
 | zero=>intro A u l S _ hw;exact hw.elim
 | succ f ih =>
  intro A u l S H hw h0
  cases hf:(rdy A 0 ops).find? (λ p=>isLt P ops (ancs ops []) p.1 p.2) with
  | none=>exact ⟨f+1,A,u,l,S,H,hw,h0,hf⟩
  | some p =>
   obtain ⟨i,o⟩:=p
   have h1:=List.find?_some hf
   obtain ⟨j,h2,h3,h4,h5⟩:=mem_rdy.1 (List.mem_of_find?_eq_some hf)
   rw [Nat.zero_add] at h2
   subst h2
   have hw2:wp P Z R ds (dgo P n ops u l o λ u' l'=>dreg P n ops (ancs ops []) f (A ||| 2 ^ i) u' l' k) w A' B':=by
    unfold dreg at hw
    rw [hf] at hw
    exact hw
   obtain ⟨u',l',S',H',hw3,hl⟩:=H.ahead hwf h3 h4 (sub_iff.1 h5) h1 hw2
   exact ih _ _ _ _ H' hw3 (λ t ht=>(hl t (λ e=>ht (mem_dsts.2 ⟨i,o,h3,e⟩))).trans (h0 t ht))
theorem eval_patch (S:PS) (a:Act) {x:Operand} (h:∀ t,x=.tmp t→t∉keysS S):a.eval x=(patch S a).eval x:=by
 cases x with
 | tmp t =>
  have:=patch_get S a t (h t rfl)
  simp only [Act.eval,Array.getD_eq_getD_getElem?,this]
 | _=>rfl
theorem wanted_patch {o:Oper} (S:PS) (a:Act) (h:∀ t∈readsOf ops o,t∉keysS S):Region.wanted o (yielded ops.toArray a.tmps)=Region.wanted o (yielded ops.toArray (patch S a).tmps):=by
 unfold Region.wanted
 cases hg:o.guard with
 | none=>rfl
 | some p =>
  obtain ⟨j,b⟩:=p
  simp only [yielded]
  have h1:ops.toArray[j]? = nth ops j:=by rw [List.getElem?_toArray,← nth_eq]
  rw [h1]
  cases he:(nth ops j).bind (·.dst) with
  | none=>rfl
  | some e=>simp only [Option.bind_some,patch_get S a e (h e (g_read hg he))]
theorem chks_ok {anc:Nat} {t:T}:∀ {rs:List Oper} {k:Nat},wp P Z R ds (chks P l u anc A k rs t) w A' B'→wp P Z R ds t w A' B' ∧
  ∀ (i:Nat) (q:Oper),rs[i]? = some q→isLd q.op=true→noDef q=true→A.testBit (k+i)=true→anc.testBit (k+i)=false→∀ d,q.dst=some d→d∉u→∀ v,find l d=some v→VR P l q v w:=by
 intro rs
 induction rs with
 | nil=>intro k h;exact ⟨h,λ i q hq=>by simp at hq⟩
 | cons q r ih =>
  intro k h
  have next:wp P Z R ds (chks P l u anc A (k+1) r t) w A' B'→(isLd q.op=true→noDef q=true→A.testBit k=true→anc.testBit k=false→∀ d,q.dst=some d→d∉u→∀ v,find l d=some v→VR P l q v w) →
    wp P Z R ds t w A' B'∧∀ (i:Nat) (q':Oper),(q :: r)[i]? = some q'→isLd q'.op=true→noDef q'=true→A.testBit (k+i)=true→anc.testBit (k+i)=false→∀ d,q'.dst=some d→d∉u→∀ v,find l d=some v→VR P l q' v w:=by
   intro h0 h1
   obtain ⟨h2,h3⟩:=ih h0
   refine ⟨h2,λ i q' hq=>?_⟩
   cases i with
   | zero=>simp at hq;subst hq;simpa using h1
   | succ i=>rw [show k+(i+1)=k+1+i by omega];exact h3 i q' (by simpa using hq)
  obtain ⟨dst,op,ty,pos,af,g⟩:=q
  by_cases hl:isLd op=true
  ·obtain ⟨t0,x,rfl⟩:=isLd_some hl
   cases dst with
   | none=>exact next h (λ _ _ _ _ d hd=>by cases hd)
   | some d =>
    unfold chks at h
    simp only at h
    split at h
    ·split at h
     ·rename_i ha
      obtain ⟨p,hp,h⟩:=vT_ok h
      obtain ⟨v,hv,⟨ad,e1,e2⟩,h9⟩:=vT_ok h
      subst e1
      refine next h9 (λ _ hnd _ _ d' hd' _ v' hv'=>?_)
      injection hd' with hd'
      subst hd'
      have hv:find l d=some v:=hv
      rw [hv] at hv'
      obtain rfl:=Option.some.inj hv'
      refine VR.of hnd (λ ρ w' hf hl=>?_)
      rw [hl rfl]
      simp only [execOp,hf x _ hp]
      exact run_v (loadVar1 ha e2)
     ·rename_i m ha hs
      obtain ⟨p,hp,h⟩:=vT_ok h
      obtain ⟨v,hv,⟨ad,cs,e1,e2,e3⟩,h9⟩:=vT_ok h
      subst e1
      refine next h9 (λ _ hnd _ _ d' hd' _ v' hv'=>?_)
      injection hd' with hd'
      subst hd'
      have hv:find l d=some v:=hv
      rw [hv] at hv'
      obtain rfl:=Option.some.inj hv'
      subst e2
      refine VR.of hnd (λ ρ w' hf hl=>?_)
      rw [hl rfl]
      simp only [execOp,hf x _ hp]
      exact run_v (loadVarn ha hs e3)
     ·exact h.elim
    ·rename_i hne
     refine next h (λ _ _ hA hB d' hd' hu v' _=>?_)
     injection hd' with hd'
     subst hd'
     exact (hne hA hB (by simpa using hu)).elim
  ·refine next ?_ (λ h2=>absurd h2 hl)
   unfold chks at h
   cases op<;>first | exact h | exact absurd rfl hl
def cnt (x:Array Bool):Nat:=x.toList.countP (λ b=>!b)
theorem cnt_set {x:Array Bool} {i:Nat} (hi:i < x.size) (hf:x.getD i false=false):cnt (x.setIfInBounds i true)+1=cnt x:=by
 unfold cnt
 have h1:x.toList[i]'(by simpa using hi)=false:=by
  rw [Array.getD_eq_getD_getElem?,Array.getElem?_eq_getElem hi] at hf
  simpa using hf
 have h2:0 < x.toList.countP (λ b=>!b):=List.countP_pos_iff.2 ⟨false,by rw [← h1];exact List.getElem_mem _,rfl⟩
 rw [Array.toList_setIfInBounds,List.countP_set (by simpa using hi),h1]
 simp only [Bool.not_false,Bool.not_true,if_true,Bool.false_eq_true,if_false]
 omega
theorem cnt_zero {x:Array Bool} (h:cnt x=0) {i:Nat} (hi:i < x.size):x.getD i true=true:=by
 unfold cnt at h
 have:=List.countP_eq_zero.1 h (x.toList[i]'(by simpa using hi)) (List.getElem_mem _)
 rw [Array.getD_eq_getD_getElem?,Array.getElem?_eq_getElem hi]
 simpa using this
theorem ready_iff (hs:listed.size=ops.length) {i:Nat}:i∈Region.ready .any ops.toArray listed↔∃ o,ops[i]? = some o∧listed.getD i false=false∧∀ m,(pm o).testBit m=true→listed.getD m false=true:=by
 rw [mem_ready]
 constructor
 ·rintro ⟨h1,o,h2,h3⟩
  have h2:ops[i]? = some o:=by simpa using h2
  have hi:=(List.getElem?_eq_some_iff.1 h2).1
  refine ⟨o,h2,?_,λ m hm=>?_⟩
  ·simp only [Array.getD_eq_getD_getElem?] at h1 ⊢
   rw [Array.getElem?_eq_getElem (by omega)] at h1 ⊢
   exact h1
  ·obtain ⟨e,he,hb,rfl⟩:=pm_iff.1 hm
   exact h3 e (by simpa using he) hb
 ·rintro ⟨o,h2,h1,h3⟩
  have hi:=(List.getElem?_eq_some_iff.1 h2).1
  refine ⟨?_,o,by simpa using h2,λ e he hb=>h3 e.on (pm_iff.2 ⟨e,by simpa using he,hb,rfl⟩)⟩
  simp only [Array.getD_eq_getD_getElem?] at h1 ⊢
  rw [Array.getElem?_eq_getElem (by omega)] at h1 ⊢
  exact h1
theorem Iv.pend (H:Iv P n df ops listed A u l S a w) (hwf:wfR ops (ancs ops [])=true) {i:Nat} {o:Oper} (ho:ops[i]? = some o) (hno:listed.getD i false=false) (hp:∀ m,(pm o).testBit m=true→listed.getD m false=true) (hA:A.testBit i=true)
  {K:Act→World→Prop} {Q:Exit→Act→World→Prop} (hK:∀ a' S',Iv P n df ops (listed.setIfInBounds i true) A u l S' a' w→K a' w):Wn P r ops.toArray o a w K Q:=by
 obtain ⟨p,hpS,he⟩:=H.s2 i hA hno
 obtain ⟨q,h1,h2,h3,h4,h5,h6⟩:=H.s1 p hpS
 subst he
 rw [ho] at h1
 obtain rfl:=Option.some.inj h1
 obtain ⟨i,d,v⟩:=p
 simp only at ho hno hp hA h2 h3 h4 h5 h6 ⊢
 have hi:i < listed.size:=by rw [H.sz];exact (List.getElem?_eq_some_iff.1 ho).1
 have hrd:∀ t∈readsOf ops o,t∉keysS S:=λ t ht=>H.reads ho hp ht
 have I':Iv P n df ops (listed.setIfInBounds i true) A u l (S.filter (λ p=>!(Nat.beq p.1 i))) (a.put (some d) v) w:=by
  refine ⟨by simpa using H.sz,λ j hj=>?_,H.aN,H.a2,λ j q hq hj m hm=>?_,λ j q hq hAj hj=>?_,?_,H.us,λ p' hp'=>?_,λ j hj hjn=>?_,?_⟩
  ·rw [getD_set hi,Bool.or_eq_true,decide_eq_true_eq] at hj
   rcases hj with hj | rfl
   ·exact H.a1 j hj
   ·exact hA
  ·rw [getD_set hi,Bool.or_eq_true,decide_eq_true_eq] at hj ⊢
   rcases hj with hj | rfl
   ·exact .inl (H.lc j q hq hj m hm)
   ·rw [ho] at hq;obtain rfl:=Option.some.inj hq;exact .inl (hp m hm)
  ·rw [getD_set hi,Bool.or_eq_false_iff] at hj
   exact H.a3 j q hq hAj hj.1
  ·rw [patch_rm S a i d v hpS (H.keys hwf) H.s3];exact H.ag
  ·obtain ⟨h7,h8⟩:=List.mem_filter.1 hp'
   have hne:p'.1≠i:=by intro e;rw [e] at h8;simp [Nat.beq_refl] at h8
   obtain ⟨q,e1,e2,e3,e4⟩:=H.s1 p' h7
   exact ⟨q,e1,by rw [getD_set hi,e2,Bool.false_or,decide_eq_false (λ e=>hne e.symm)],e3,e4⟩
  ·rw [getD_set hi,Bool.or_eq_false_iff,decide_eq_false_iff_not] at hjn
   obtain ⟨p',e1,e2⟩:=H.s2 j hj hjn.1
   refine ⟨p',List.mem_filter.2 ⟨e1,?_⟩,e2⟩
   rw [e2]
   cases hb:Nat.beq j i with
   | false=>rfl
   | true=>exact absurd (Nat.eq_of_beq_eq_true hb).symm hjn.2
  ·exact List.Sublist.nodup (List.Sublist.map _ List.filter_sublist) H.s3
 have fin:=hK _ _ I'
 have hd:=(wf_nd hwf).2.2.1 o (List.mem_of_getElem? ho)
 unfold Wn
 rw [wanted_patch S a hrd]
 rcases h6.way with ⟨_,hg,hv⟩ | ⟨rfl,j,b,e,g,e1,e2,e3,e4,e5⟩
 ·have hwn:Region.wanted o (yielded ops.toArray (patch S a).tmps)=true:=by
   rcases hg with hg | ⟨j,b,e,e1,e2,e3,e4⟩
   ·exact wanted_none hg
   ·rw [wanted_some e1 e2 e3 H.ag e4];exact beq_self_eq_true b
  rw [if_pos hwn]
  obtain ⟨dst,op,ty,pos,af,g⟩:=o
  simp only at h4
  subst h4
  exact in_val hd (hv a.eval w (λ x hx y hy=>by rw [eval_patch S a (λ t e=>hrd t (op_read (e ▸ hx)))];exact H.ag.fits x y hy) (λ _=>rfl)) fin
 ·have hwn:Region.wanted o (yielded ops.toArray (patch S a).tmps)=false:=by rw [wanted_some e1 e2 e3 H.ag e4,e5]
  rw [if_neg (by rw [hwn];simp)]
  refine ⟨λ _ _=>trivial,?_⟩
  rw [h4]
  exact fin
end
end Go.Proofs.YtppodgdhdddfkaaGreatDoor.Sx
set_option linter.unusedVariables false
set_option linter.unusedSimpArgs false
namespace Go.Proofs.YtppodgdhdddfkaaGreatDoor.Sx
open Go Go.RowKit
section
variable {P:Program} {Z:ZP} {R:Value→World→Prop} {r:Option Nat} {n:Nat} {df:List Deferred} {A':List Nat→List Value→World→Prop} {B':List Nat→Nat→List Value→World→Prop} {ds:List Nat}
section
variable {ops:List Oper} {listed:Array Bool} {A:Nat} {u:List Nat} {l:Env} {S:PS} {a:Act} {w:World}
theorem Iv.heavy (H:Iv P n df ops listed A u l S a w) (hwf:wfR ops (ancs ops [])=true) {i f:Nat} {o:Oper} {k:Env→T} (ho:ops[i]? = some o) (hno:listed.getD i false=false) (hp:∀ m,(pm o).testBit m=true→listed.getD m false=true) (hA:A.testBit i=false)
  {K:Act→World→Prop} {Q:Exit→Act→World→Prop} (hO:∀ b u,¬ Q .outgrown b u) (hQ:∀ c b w',Q (.panic c) (patch S b) w'→Q (.panic c) b w') (hZ:∀ c b w',b.defers=df→ZD ds Z c w'→Q (.panic c) b w')
  (hw:wp P Z R ds (dgo P n ops u l o λ u' l'=>chks P l' u' ((ancs ops []).getD i 0) A 0 ops (dreg P n ops (ancs ops []) f (A ||| 2 ^ i) u' l' k)) w A' B')
  (hK:∀ a' w' u' l',Iv P n df ops (listed.setIfInBounds i true) (A ||| 2 ^ i) u' l' S a' w'→(∀ e,o.dst≠some e→find l' e=find l e)→wp P Z R ds (dreg P n ops (ancs ops []) f (A ||| 2 ^ i) u' l' k) w' A' B'→K a' w'):Wn P r ops.toArray o a w K Q:=by
 obtain ⟨hnd,hrd,hdef,hlow⟩:=wf_nd hwf
 have hd0:=hdef o (List.mem_of_getElem? ho)
 have hi:i < listed.size:=by rw [H.sz];exact (List.getElem?_eq_some_iff.1 ho).1
 have hreads:∀ t∈readsOf ops o,t∉keysS S:=λ t ht=>H.reads ho hp ht
 have hpA:∀ m,(pm o).testBit m=true→A.testBit m=true:=λ m hm=>H.a1 m (hp m hm)
 have hdst:∀ d,o.dst=some d→d∉keysS S:=by
  intro d hd hm
  obtain ⟨p,hpS,he⟩:=List.mem_map.1 hm
  obtain ⟨q,h1,h2,h3,h4,_⟩:=H.s1 p hpS
  have:=dst_inj hnd p.1 i q o d h1 ho (by rw [h4,he]) hd
  rw [this,hA] at h3
  cases h3
 have hbit:∀ j,(A ||| 2 ^ i).testBit j=true↔A.testBit j=true∨i=j:=λ j=>by rw [tb_or,Bool.or_eq_true,decide_eq_true_eq]
 have key:∀ (b:Act) (w':World) (u':List Nat) (l':Env),Ag (patch S b) n df l'→Us u' l'→(∀ e,o.dst≠some e→find l' e=find l e)→(u'=dropU o u∨u'=skips o++u) →
   wp P Z R ds (chks P l' u' ((ancs ops []).getD i 0) A 0 ops (dreg P n ops (ancs ops []) f (A ||| 2 ^ i) u' l' k)) w' A' B'→K b w':=by
  intro b w' u' l' hag hus hl hu hw'
  obtain ⟨hw2,hch⟩:=chks_ok hw'
  refine hK b w' u' l' ⟨by simpa using H.sz,λ j hj=>?_,λ j hj=>?_,λ j q hq hj m hm=>?_,λ j q hq hj m hm=>?_,λ j q hq hAj hj=>?_,hag,hus,λ p hpS=>?_,λ j hj hjn=>?_,H.s3⟩ hl hw2
  ·rw [getD_set hi,Bool.or_eq_true,decide_eq_true_eq] at hj
   rcases hj with hj | rfl
   ·exact (hbit j).2 (.inl (H.a1 j hj))
   ·exact (hbit _).2 (.inr rfl)
  ·rcases (hbit j).1 hj with h | rfl
   ·exact H.aN j h
   ·exact (List.getElem?_eq_some_iff.1 ho).1
  ·rcases (hbit j).1 hj with h | rfl
   ·exact (hbit m).2 (.inl (H.a2 j q hq h m hm))
   ·rw [ho] at hq;obtain rfl:=Option.some.inj hq;exact (hbit m).2 (.inl (hpA m hm))
  ·rw [getD_set hi,Bool.or_eq_true,decide_eq_true_eq] at hj ⊢
   rcases hj with hj | rfl
   ·exact .inl (H.lc j q hq hj m hm)
   ·rw [ho] at hq;obtain rfl:=Option.some.inj hq;exact .inl (hp m hm)
  ·rw [getD_set hi,Bool.or_eq_false_iff,decide_eq_false_iff_not] at hj
   rcases (hbit j).1 hAj with h | h
   ·exact H.a3 j q hq h hj.1
   ·exact absurd h hj.2
  ·obtain ⟨q,h1,h2,h3,h4,h5,h6⟩:=H.s1 p hpS
   have hpi:p.1≠i:=λ e=>by rw [e,hA] at h3;cases h3
   have hdq:o.dst≠some p.2.1:=λ e=>hdst _ e (List.mem_map_of_mem (f:=λ p:Nat × Nat × Value=>p.2.1) hpS)
   have hr:∀ t∈readsOf ops q,find l' t=find l t:=by
    intro t ht
    refine hl t (λ e=>?_)
    have h7:=readsOk_at hrd p.1 q h1 t ht
    rw [Nat.zero_add] at h7
    have h8:=rwOk_at h7 i o ho e
    rw [Nat.zero_add] at h8
    rcases h8 with h8 | h8 | h8
    ·have:=anc_in (C:=λ m=>A.testBit m=true) H.a2 p.1 q h1 (H.a2 p.1 q h1 h3) i h8
     rw [hA] at this;cases this
    ·have:=anc_in (C:=λ m=>listed.getD m false=true) H.lc i o ho hp p.1 h8
     rw [h2] at this;cases this
    ·exact hpi h8
   have hu9:p.2.1∉u→p.2.1∉u':=by
    intro h
    rcases hu with rfl | rfl
    ·exact Us.drop_nd (e:=0) h
    ·intro hm
     rcases List.mem_append.1 hm with hm | hm
     ·unfold skips at hm
      cases hd:o.dst with
      | none=>rw [hd] at hm;simp at hm
      | some d=>rw [hd] at hm;simp at hm;exact hdq (by rw [hd,hm])
     ·exact h hm
   have P1:=h6.fr hr (hl _ hdq) hu9
   have P2:Pend P n ops l' u' w' q p.2.1 p.2.2:=by
    refine ⟨P1.fd,?_⟩
    rcases P1.way with ⟨h7,h8,h9⟩ | h7
    ·refine .inl ⟨h7,h8,?_⟩
     by_cases hld:isLd q.op=true
     ·refine hch p.1 q h1 hld (hdef q (List.mem_of_getElem? h1)) (by rw [Nat.zero_add];exact h3) ?_ p.2.1 h4 h7 _ P1.fd
      rw [Nat.zero_add]
      cases hc:((ancs ops []).getD i 0).testBit p.1 with
      | false=>rfl
      | true =>
       have:=anc_in (C:=λ m=>listed.getD m false=true) H.lc i o ho hp p.1 hc
       rw [h2] at this;cases this
     ·exact λ ρ w'' hf _=>h9 ρ w'' hf (λ h=>absurd h hld)
    ·exact .inr h7
   exact ⟨q,h1,by rw [getD_set hi,h2,Bool.false_or,decide_eq_false (λ e=>hpi e.symm)],(hbit _).2 (.inl h3),h4,h5,P2⟩
  ·rw [getD_set hi,Bool.or_eq_false_iff,decide_eq_false_iff_not] at hjn
   rcases (hbit j).1 hj with h | h
   ·exact H.s2 j h hjn.1
   ·exact absurd h hjn.2
 have big:=dgo_ok (r:=r) (K:=λ c w'=>∃ u' l',Ag c n df l'∧Us u' l'∧(∀ e,o.dst≠some e→find l' e=find l e)∧(u'=dropU o u∨u'=skips o++u) ∧
   wp P Z R ds (chks P l' u' ((ancs ops []).getD i 0) A 0 ops (dreg P n ops (ancs ops []) f (A ||| 2 ^ i) u' l' k)) w' A' B') (Q:=Q) hd0 hw H.ag H.us (λ a' u' l' w' h1 h2 h3 h4 h5=>⟨u',l',h1,h2,h3,h4,h5⟩) (λ c w' hz=>hZ c _ w' H.ag.defs hz)
 unfold Wn at big ⊢
 rw [wanted_patch S a hreads]
 split at big
 ·rename_i hwn
  rw [if_pos hwn]
  have h1:=wpIn_patch hd0 (λ x hx=>eval_patch S a (λ t e=>hreads t (op_read (e ▸ hx)))) hdst hO hQ big
  exact Oper.wpIn_mono (λ b w' ⟨u',l',h1,h2,h3,h4,h5⟩=>key b w' u' l' h1 h2 h3 h4 h5) h1
 ·rename_i hwn
  rw [if_neg hwn]
  refine ⟨λ _ _=>trivial,?_⟩
  obtain ⟨_,u',l',h1,h2,h3,h4,h5⟩:=big
  rw [← patch_put' S a o.dst undef hdst] at h1
  exact key _ w u' l' h1 h2 h3 h4 h5
theorem dreg_any (hwf:wfR ops (ancs ops [])=true) {k:Env→T} {l0:Env} {Q:Exit→Act→World→Prop} (hN:∀ a l w,Ag a n df l→(∀ t,t∉dsts ops→find l t=find l0 t)→wp P Z R ds (k l) w A' B'→Q .normal a w) (hO:∀ b u,¬ Q .outgrown b u) (hQ:∀ S c b w',Q (.panic c) (patch S b) w'→Q (.panic c) b w')
  (hZ:∀ c b w',b.defers=df→ZD ds Z c w'→Q (.panic c) b w'):∀ (fu:Nat) (listed:Array Bool) (a:Act) (w:World),(∃ f A u l S,Iv P n df ops listed A u l S a w∧wp P Z R ds (dreg P n ops (ancs ops []) f A u l k) w A' B'∧∀ t,t∉dsts ops→find l t=find l0 t)→cnt listed≤fu →
  wpAnyIn (FR r) 0 P .any ops.toArray Q fu listed a w:=by
 have fin:∀ (listed:Array Bool) (a:Act) (w:World),(∃ f A u l S,Iv P n df ops listed A u l S a w∧wp P Z R ds (dreg P n ops (ancs ops []) f A u l k) w A' B'∧∀ t,t∉dsts ops→find l t=find l0 t)→Region.ready .any ops.toArray listed=[]→Q .normal a w:=by
  rintro listed a w ⟨f,A,u,l,S,H,hw,h0⟩ hr
  obtain ⟨f,A,u,l,S,H,hw,h0,hf⟩:=Iv.sat hwf f A u l S H hw h0
  have hlow:=(wf_nd hwf).2.2.2
  have hall:∀ i,A.testBit i=true→listed.getD i false=true:=by
   intro i
   induction i using Nat.strongRecOn with
   | _ i ih =>
    intro hA
    cases hc:listed.getD i false with
    | true=>rfl
    | false =>
     obtain ⟨p,hpS,rfl⟩:=H.s2 i hA hc
     obtain ⟨q,h1,h2,h3,_⟩:=H.s1 p hpS
     have:p.1∈Region.ready .any ops.toArray listed:=(ready_iff H.sz).2 ⟨q,h1,h2,λ m hm=>by
      have:=lowB_at hlow p.1 q h1 m hm
      exact ih m (by omega) (H.a2 p.1 q h1 h3 m hm)⟩
     rw [hr] at this
     cases this
  have hS:S=[]:=by
   cases S with
   | nil=>rfl
   | cons p r =>
    obtain ⟨q,h1,h2,h3,_⟩:=H.s1 p (by simp)
    rw [hall p.1 h3] at h2
    cases h2
  subst hS
  have hrd:rdy A 0 ops=[]:=by
   rw [List.eq_nil_iff_forall_not_mem]
   rintro ⟨i,o⟩ hm
   obtain ⟨j,h1,h2,h3,h4⟩:=mem_rdy.1 hm
   rw [Nat.zero_add] at h1
   subst h1
   have:i∈Region.ready .any ops.toArray listed:=(ready_iff H.sz).2 ⟨o,h2,(by
    cases hc:listed.getD i false with
    | false=>rfl
    | true=>rw [H.a1 i hc] at h3;cases h3),λ m hm=>hall m (sub_iff.1 h4 m hm)⟩
   rw [hr] at this
   cases this
  cases f with
  | zero=>exact hw.elim
  | succ f =>
   unfold dreg at hw
   rw [hf,hrd] at hw
   exact hN a l w H.ag h0 hw
 intro fu
 induction fu with
 | zero =>
  intro listed a w h hc
  have hr:Region.ready .any ops.toArray listed=[]:=by
   rw [List.eq_nil_iff_forall_not_mem]
   intro i hi
   obtain ⟨f,A,u,l,S,H,_⟩:=h
   obtain ⟨o,h1,h2,_⟩:=(ready_iff H.sz).1 hi
   have hlt:i < listed.size:=by rw [H.sz];exact (List.getElem?_eq_some_iff.1 h1).1
   have:=cnt_zero (Nat.le_zero.1 hc) hlt
   rw [Array.getD_eq_getD_getElem?,Array.getElem?_eq_getElem hlt] at this h2
   simp at this h2
   rw [this] at h2
   cases h2
  exact ⟨hr,fin listed a w h hr⟩
 | succ fu ih =>
  intro listed a w h hc
  refine ⟨fin listed a w h,λ i hi=>?_⟩
  obtain ⟨f,A,u,l,S,H,hw,h0⟩:=h
  obtain ⟨f,A,u,l,S,H,hw,h0,hf⟩:=Iv.sat hwf f A u l S H hw h0
  obtain ⟨o,ho,hno,hp⟩:=(ready_iff H.sz).1 hi
  have hlt:i < listed.size:=by rw [H.sz];exact (List.getElem?_eq_some_iff.1 ho).1
  have hcn:=cnt_set hlt hno
  have goal:Wn P r ops.toArray o a w (wpAnyIn (FR r) 0 P .any ops.toArray Q fu (listed.setIfInBounds i true)) Q:=by
   by_cases hA:A.testBit i=true
   ·exact H.pend hwf ho hno hp hA (λ a' S' H'=>ih _ a' w ⟨f,A,u,l,S',H',hw,h0⟩ (by omega))
   ·have hA:A.testBit i=false:=by simpa using hA
    have hm:(i,o)∈rdy A 0 ops:=mem_rdy.2 ⟨i,by omega,ho,hA,sub_iff.2 (λ m hm=>H.a1 m (hp m hm))⟩
    cases f with
    | zero=>exact hw.elim
    | succ f =>
     have hw2:wp P Z R ds (dgo P n ops u l o λ u' l'=>chks P l' u' ((ancs ops []).getD i 0) A 0 ops (dreg P n ops (ancs ops []) f (A ||| 2 ^ i) u' l' k)) w A' B':=by
      unfold dreg at hw
      rw [hf] at hw
      cases hr:rdy A 0 ops with
      | nil=>rw [hr] at hm;cases hm
      | cons q rs =>
       rw [hr] at hw hm
       exact ams_ok hw _ (List.mem_map.2 ⟨(i,o),hm,rfl⟩)
     exact H.heavy hwf ho hno hp hA hO (hQ S) hZ hw2 (λ a' w' u' l' H' hl hw'=>ih _ a' w' ⟨f,_,u',l',S,H',hw',λ t ht=>(hl t (λ e=>ht (mem_dsts.2 ⟨i,o,ho,e⟩))).trans (h0 t ht)⟩ (by omega))
  unfold Wn at goal
  unfold wpOpIn
  rw [show ops.toArray[i]? = some o by simpa using ho]
  exact goal
end
theorem find_keep {W:List Nat}:∀ {l:Env} {t:Nat},t∉W→find (keep l W) t=find l t:=by
 intro l
 induction l with
 | nil=>intro t _;rfl
 | cons p rest ih =>
  intro t ht
  obtain ⟨k,v⟩:=p
  unfold keep
  by_cases hk:W.contains k=true
  ·rw [List.filter_cons_of_neg (by simpa using hk)]
   have hne:k≠t:=by rintro rfl;exact ht (by simpa using hk)
   rw [find_ne v rest hne]
   exact ih ht
  ·rw [List.filter_cons_of_pos (by simpa using hk)]
   by_cases hkt:k=t
   ·subst hkt;rw [find_self,find_self]
   ·rw [find_ne v _ hkt,find_ne v rest hkt];exact ih ht
theorem find_keep_no {W:List Nat}:∀ {l:Env} {t:Nat},t∈W→find (keep l W) t=none:=by
 intro l
 induction l with
 | nil=>intro t _;rfl
 | cons p rest ih =>
  intro t ht
  obtain ⟨k,v⟩:=p
  unfold keep
  by_cases hk:W.contains k=true
  ·rw [List.filter_cons_of_neg (by simpa using hk)];exact ih ht
  ·rw [List.filter_cons_of_pos (by simpa using hk)]
   have hne:k≠t:=by rintro rfl;exact hk (by simpa using ht)
   rw [find_ne v _ hne];exact ih ht
theorem find_pairs {e:Env}:∀ {ks:List Nat} {i:Nat} {vs:List Value} {t:Nat} {v:Value},find (pairs ks i vs++e) t=some v→(∃ j,ks[j]? = some t∧v=nv vs (i+j))∨(t∉ks∧find e t=some v):=by
 intro ks
 induction ks with
 | nil=>intro i vs t v h;exact .inr ⟨by simp,h⟩
 | cons k ks ih =>
  intro i vs t v h
  have h:find ((k,nv vs i) :: (pairs ks (i+1) vs++e)) t=some v:=h
  by_cases hk:k=t
  ·subst hk
   rw [find_self] at h
   exact .inl ⟨0,rfl,by injection h with h;rw [Nat.add_zero,h]⟩
  ·rw [find_ne _ _ hk] at h
   rcases ih h with ⟨j,h1,h2⟩ | ⟨h1,h2⟩
   ·exact .inl ⟨j+1,by simpa using h1,by rw [h2];congr 1;omega⟩
   ·exact .inr ⟨by simp only [List.mem_cons,not_or];exact ⟨λ e=>hk e.symm,h1⟩,h2⟩
theorem nv_get:∀ {vs:List Value} {i:Nat} {v:Value},vs[i]? = some v→nv vs i=v:=by
 intro vs
 induction vs with
 | nil=>intro i v h;simp at h
 | cons c rest ih=>intro i v h;cases i with | zero=>simpa [nv] using h | succ i=>exact ih (by simpa using h)
theorem evl_get {l:Env}:∀ {ks:List Nat} {vs:List Value},evl l (ks.map .tmp)=some vs→∀ (j t:Nat),ks[j]? = some t→∃ v,vs[j]? = some v∧find l t=some v:=by
 intro ks
 induction ks with
 | nil=>intro vs _ j t h;simp at h
 | cons k ks ih =>
  intro vs h j t hj
  simp only [List.map_cons,evl] at h
  split at h
  ·rename_i v vs' h1 h2
   injection h with h
   subst h
   cases j with
   | zero=>simp at hj;subst hj;exact ⟨v,rfl,h1⟩
   | succ j=>simpa using ih h2 j t (by simpa using hj)
  ·cases h
theorem keysOf_sub {l:Env} {W:List Nat}:∀ t∈keysOf l W,t∈W:=λ t ht=>by
 unfold keysOf at ht
 simpa using (List.mem_filter.1 ht).2
theorem find_head {l0:Env} {ks W:List Nat} (hk:∀ t∈ks,t∈W) {vs:List Value} {t:Nat} (ht:t∉W):find (pairs ks 0 vs++keep l0 W) t=find (keep l0 W) t:=by
 cases h:find (pairs ks 0 vs++keep l0 W) t with
 | some v =>
  rcases find_pairs h with ⟨j,h1,_⟩ | ⟨_,h2⟩
  ·exact absurd (hk t (List.mem_of_getElem? h1)) ht
  ·exact h2.symm
 | none =>
  have gen:∀ (ks:List Nat) (i:Nat) (e:Env),find (pairs ks i vs++e) t=none→find e t=none:=by
   intro ks
   induction ks with
   | nil=>intro i e h;exact h
   | cons k ks ih =>
    intro i e h
    have h:find ((k,nv vs i) :: (pairs ks (i+1) vs++e)) t=none:=h
    by_cases hk:k=t
    ·subst hk;rw [find_self] at h;cases h
    ·rw [find_ne _ _ hk] at h;exact ih _ _ h
  exact (gen ks 0 _ h).symm
theorem Ag.head {l0 l:Env} {a:Act} {ks W:List Nat} {vs:List Value} (ha:Ag a n df l) (hv:evl l (ks.map .tmp)=some vs) (hk:∀ t,t∉W→find l t=find (keep l0 W) t):Ag a n df (pairs ks 0 vs++keep l0 W):=by
 refine ⟨ha.size,ha.defs,λ t v ht=>?_⟩
 rcases find_pairs ht with ⟨j,h1,h2⟩ | ⟨_,h2⟩
 ·obtain ⟨u,h3,h4⟩:=evl_get hv j t h1
  rw [Nat.zero_add,nv_get h3] at h2
  subst h2
  exact ha.look t _ h4
 ·by_cases hW:t∈W
  ·rw [find_keep_no hW] at h2;cases h2
  ·exact ha.look t v (by rw [hk t hW];exact h2)
def Lk (cx:Option (Nat × Obj)) (n:Nat) (df:List Deferred) (ds:List Nat) (C:Code) (l:Env) (N:List Nat→Env→World→Prop):Act→World→Prop:=λ a w=>∃ ds' l',(cx.isSome=true→ds'=ds)∧Ag a n (ds'.map mk++df) l'∧(∀ t,t∉wr C→find l' t=find l t)∧N ds' l' w
def Lr (cx:Option (Nat × Obj)) (n:Nat) (df:List Deferred) (ds:List Nat) (N:List Nat→Env→World→Prop):Act→World→Prop:=λ a w=>∃ ds' l',(cx.isSome=true→ds'=ds)∧Ag a n (ds'.map mk++df) l'∧N ds' l' w
def ky (Z:ZP) (cx:Option (Nat × Obj)) (df:List Deferred) (ds:List Nat) (N R:Act→World→Prop) (E:Nat→Act→World→Prop):Exit→Act→World→Prop
 | .normal,a,w=>N a w
 | .ret,a,w=>R a w
 | .exit i,a,w=>E i a w
 | .panic c,a,w=>∃ ds',(cx.isSome=true→ds'=ds)∧a.defers=ds'.map mk++df∧ZD ds' Z c w
 | _,_,_=>False
theorem ky_mono {cx:Option (Nat × Obj)} {ds ds2:List Nat} (hd:cx.isSome=true→ds2=ds) {N N' R R':Act→World→Prop} {E E':Nat→Act→World→Prop} (h1:∀ a w,N a w→N' a w) (h2:∀ a w,R a w→R' a w) (h3:∀ i a w,E i a w→E' i a w):∀ e a w,ky Z cx df ds2 N R E e a w→ky Z cx df ds N' R' E' e a w:=by
 intro e a w h
 cases e with
 | normal=>exact h1 a w h
 | ret=>exact h2 a w h
 | exit i=>exact h3 i a w h
 | panic c=>obtain ⟨d,g1,g2,g3⟩:=h;exact ⟨d,λ e=>(g1 e).trans (hd e),g2,g3⟩
 | goto l=>exact h
 | outgrown=>exact h
theorem Lk.mono {cx:Option (Nat × Obj)} {ds ds2:List Nat} {C C':Code} {l l2:Env} {N N':List Nat→Env→World→Prop} {a:Act} {w:World} (h:Lk cx n df ds2 C l2 N a w) (hd:cx.isSome=true→ds2=ds) (hw:∀ t,t∉wr C'→t∉wr C∧find l2 t=find l t) (hN:∀ ds l w,N ds l w→N' ds l w):Lk cx n df ds C' l N' a w:=by
 obtain ⟨d,l',g1,g2,g3,g4⟩:=h
 exact ⟨d,l',λ e=>(g1 e).trans (hd e),g2,λ t ht=>(g3 t (hw t ht).1).trans (hw t ht).2,hN _ _ _ g4⟩
theorem Lr.mono {cx:Option (Nat × Obj)} {ds ds2:List Nat} {N:List Nat→Env→World→Prop} {a:Act} {w:World} (h:Lr cx n df ds2 N a w) (hd:cx.isSome=true→ds2=ds):Lr cx n df ds N a w:=by
 obtain ⟨d,l',g1,g2,g4⟩:=h
 exact ⟨d,l',λ e=>(g1 e).trans (hd e),g2,g4⟩
theorem Stab.fr {I:List Nat→World→Prop} (h:Stab I) {U V:List Nat} {W W':World} (hI:I U W) (f:Fr V W W') (hs:∀ q∈V,q∈U):I U W':=h.1 U W W' hI (f.mono hs)
def m0 (cx:Option (Nat × Obj)) (D:Nat):List Deferred:=match cx with | none=>[mk D] | some _=>[]
theorem u1_some {cx:Option (Nat × Obj)} {D:Nat} {ds:List Nat} (h:cx.isSome=true):u1 cx D ds=ds:=by
 cases cx<;>first | rfl | cases h
theorem mem_u0 {cx:Option (Nat × Obj)} {L D:Nat}:L∈u0 cx L D:=by cases cx<;>simp [u0]
theorem nodupB_iff:∀ {ps:List Nat},nodupB ps=true→ps.Nodup:=by
 intro ps
 induction ps with
 | nil=>intro _;exact List.nodup_nil
 | cons p r ih =>
  intro h
  simp only [nodupB,Bool.and_eq_true,Bool.not_eq_true',List.contains_eq_mem,decide_eq_false_iff_not] at h
  exact List.nodup_cons.2 ⟨h.1,ih h.2⟩
theorem find_zip_no {t:Nat}:∀ {ps:List Nat} {xs:List Value} {l:Env},t∉ps→find ((ps.zip xs).reverse++l) t=find l t:=by
 intro ps
 induction ps with
 | nil=>intro xs l _;rfl
 | cons p r ih =>
  intro xs l h
  cases xs with
  | nil=>rfl
  | cons x xs =>
   rw [List.zip_cons_cons,List.reverse_cons,List.append_assoc,ih (λ hr=>h (by simp [hr]))]
   exact find_ne x l (λ e=>h (by simp [e]))
theorem find_zip {t:Nat} {v:Value}:∀ {ps:List Nat} {xs:List Value} {l:Env} {j:Nat},ps.Nodup→ps[j]? = some t→xs[j]? = some v→find ((ps.zip xs).reverse++l) t=some v:=by
 intro ps
 induction ps with
 | nil=>intro xs l j _ h;simp at h
 | cons p r ih =>
  intro xs l j hn h hx
  obtain ⟨hn1,hn2⟩:=List.nodup_cons.1 hn
  cases xs with
  | nil=>simp at hx
  | cons x xs =>
   rw [List.zip_cons_cons,List.reverse_cons,List.append_assoc]
   cases j with
   | zero =>
    simp at h hx
    subst h hx
    rw [find_zip_no hn1]
    exact find_self _ _ _
   | succ j=>exact ih hn2 (by simpa using h) (by simpa using hx)
theorem Ag.zip_pairs {a:Act} {ps:List Nat} {xs:List Value} {l:Env} (h:Ag a n [] ((ps.zip xs).reverse++l)) (hn:nodupB ps=true) (hl:xs.length=ps.length):Ag a n [] (pairs ps 0 xs++l):=by
 refine ⟨h.size,h.defs,λ t v ht=>?_⟩
 rcases find_pairs ht with ⟨j,h1,rfl⟩ | ⟨h1,h2⟩
 ·have hj:j < xs.length:=by have:=(List.getElem?_eq_some_iff.1 h1).1;omega
  have hx:xs[j]? = some xs[j]:=List.getElem?_eq_getElem hj
  rw [Nat.zero_add,nv_get hx]
  exact h.look t _ (find_zip (nodupB_iff hn) h1 hx)
 ·exact h.look t v (by rw [find_zip_no h1];exact h2)
theorem run_enterI {P:Program} {w:World} {L:Nat} {q:Loop} (h:w.heap[L]? = some (.loop q)) (fn:FuncId) (tmps:Array Value) (ps:Array Tmp) (x y:Code):(Instr.enterLoop fn tmps ps x y (some L)).run P w=.ok (w.heap.size,[]) (w.alloc (.loop { state:=.ready,pending:=none,fn,tmps,params:=ps,assign:=x,body:=y,defers:=q.defers })):=by
 unfold Instr.enterLoop
 simp only [Sem.run_bind,run_getLoop h,run_newObj_alloc,Result.andThen,Sem.run_pure]
theorem okD_fr {cx:Option (Nat × Obj)} {L D:Nat} {w w1 W W':World} (hD:mkD cx L D w w1) (h:okD cx D W) (f:Fr [L] W W'):okD cx D W':=by
 cases cx with
 | none=>exact (f.keep D (Array.getElem?_eq_some_iff.1 h).1 (by simp;exact hD.2.1)).trans h
 | some _=>trivial
def jmp:Nat→Code
 | 0=>.ret
 | i+1=>.exit i
theorem D_ok (hm:P.follows .mixedOrders=true):∀ (C:Code) (cx:Option (Nat × Obj)) (Z:ZP) (R:Value→World→Prop) (r:Option Nat) (df:List Deferred) (ds:List Nat) (l:Env) (kN:Env→T) (kE:Nat→Env→T) (kR:Env→T) (A':List Nat→List Value→World→Prop) (B':List Nat→Nat→List Value→World→Prop) (w:World) (a:Act),
  wp P Z R ds (D P n cx C l kN kE kR) w A' B'→Ag a n (ds.map mk++df) l→(∀ ds l w A B A2 B2,wp P Z R ds (kR l) w A B→wp P Z R ds (kR l) w A2 B2)→r=cx.map (·.1)→(∀ L o,cx=some (L,o)→∃ q,o=.loop q) →
  C.wpIn (FR r) 0 P (ky Z cx df ds (Lk cx n df ds C l λ ds l' w=>wp P Z R ds (kN l') w A' B') (Lr cx n df ds λ ds l' w=>wp P Z R ds (kR l') w A' B') (λ i=>Lk cx n df ds C l λ ds l' w=>wp P Z R ds (kE i l') w A' B')) a w:=by
 intro C
 induction C with
 | skip=>intro cx Z R r df ds l kN kE kR A' B' w a hw ha _ _ _;exact wpIn_skip ⟨ds,l,λ _=>rfl,ha,λ _ _=>rfl,hw⟩
 | region id ops draw =>
  intro cx Z R r df ds l kN kE kR A' B' w a hw ha hR _ _
  cases draw with
  | false =>
   unfold D at hw
   split at hw
   ·rename_i hnd
    refine wpIn_region_list ?_
    have:=dlist_ok (r:=r) (n:=n) (df:=ds.map mk++df) (ops:=ops.toList) (l0:=l) (k:=kN) (Q:=ky Z cx df ds (Lk cx n df ds (.region id ops false) l λ ds l' w=>wp P Z R ds (kN l') w A' B') (Lr cx n df ds λ ds l' w=>wp P Z R ds (kR l') w A' B') (λ i=>Lk cx n df ds (.region id ops false) l λ ds l' w=>wp P Z R ds (kE i l') w A' B'))
     (λ a l' w h1 h2 h3=>⟨ds,l',λ _=>rfl,h1,h2,h3⟩) (λ c a w h1 h2=>⟨ds,λ _=>rfl,h1,h2⟩) ops.toList (List.all_eq_true.1 hnd) (λ o ho=>ho) [] l w a hw ha (λ e he=>by cases he) (λ _ _=>rfl)
    simpa using this
   ·exact hw.elim
  | true =>
   unfold D at hw
   split at hw
   ·rename_i hwf
    refine wpIn_region_any hm ?_
    have hw:=hw { w with drawn:=w.drawn+1 } (Fr.drew w) rfl
    have h0:∀ i,(Array.replicate ops.toList.length false).getD i false=false:=λ i=>by
     simp only [Array.getD_eq_getD_getElem?,Array.getElem?_replicate]
     split<;>rfl
    have hz:∀ i,(0:Nat).testBit i=false:=λ i=>Nat.zero_testBit i
    have:=dreg_any (r:=r) (n:=n) (df:=ds.map mk++df) (ops:=ops.toList) (l0:=l) (k:=kN) (Q:=ky Z cx df ds (Lk cx n df ds (.region id ops true) l λ ds l' w=>wp P Z R ds (kN l') w A' B') (Lr cx n df ds λ ds l' w=>wp P Z R ds (kR l') w A' B') (λ i=>Lk cx n df ds (.region id ops true) l λ ds l' w=>wp P Z R ds (kE i l') w A' B'))
     hwf (λ a l' w h1 h2 h3=>⟨ds,l',λ _=>rfl,h1,h2,h3⟩) (λ b u h=>h) (λ S c b w' h=>by obtain ⟨d,g1,g2,g3⟩:=h;exact ⟨d,g1,by rw [← patch_defers S b];exact g2,g3⟩) (λ c b w' h1 h2=>⟨ds,λ _=>rfl,h1,h2⟩) ops.toList.length (Array.replicate ops.toList.length false) a { w with drawn:=w.drawn+1 }
     ⟨_,0,[],l,[],⟨by simp,λ i h=>absurd h (by rw [h0];simp),λ i h=>absurd h (by rw [hz];simp),λ i o _ h=>absurd h (by rw [hz];simp),λ i o _ h=>absurd h (by rw [h0];simp),λ i o _ h=>absurd h (by rw [hz];simp),ha,(λ e he=>nomatch he),(λ p hp=>nomatch hp),λ i h=>absurd h (by rw [hz];simp),by simp⟩,hw,λ _ _=>rfl⟩
     (by unfold cnt;exact Nat.le_trans (List.countP_le_length) (by simp))
    simpa using this
   ·exact hw.elim
 | seq x y ihx ihy =>
  intro cx Z R r df ds l kN kE kR A' B' w a hw ha hR hr hcx
  refine wpIn_seq (wpIn_mono (ihx cx Z R r df ds l _ kE kR A' B' w a hw ha hR hr hcx) ?_)
  intro e a1 w1 hq
  have up:∀ t,t∉wr (.seq x y)→t∉wr x∧t∉wr y:=λ t ht=>by
   simp only [wr,List.mem_append,not_or] at ht;exact ht
  cases e with
  | normal =>
   obtain ⟨d1,l1,h0,h1,h2,h3⟩:=hq
   refine wpIn_mono (ihy cx Z R r df d1 l1 kN kE kR A' B' w1 a1 h3 h1 hR hr hcx) (ky_mono h0 ?_ (λ _ _ h=>h.mono h0) ?_)
   ·intro a2 w2 h
    exact h.mono h0 (λ t ht=>⟨(up t ht).2,h2 t (up t ht).1⟩) (λ _ _ _ h=>h)
   ·intro i a2 w2 h
    exact h.mono h0 (λ t ht=>⟨(up t ht).2,h2 t (up t ht).1⟩) (λ _ _ _ h=>h)
  | ret=>exact hq
  | exit i=>obtain ⟨d,l2,g0,g1,g2,g3⟩:=hq;exact ⟨d,l2,g0,g1,λ t ht=>g2 t (up t ht).1,g3⟩
  | panic c=>exact hq
  | goto g=>exact hq
  | outgrown=>exact hq
 | cond c x y ihx ihy =>
  intro cx Z R r df ds l kN kE kR A' B' w a hw ha hR hr hcx
  unfold D at hw
  obtain ⟨v,hv,hw⟩:=vT_ok hw
  have up:∀ t,t∉wr (.cond c x y)→t∉wr x∧t∉wr y:=λ t ht=>by
   simp only [wr,List.mem_append,not_or] at ht;exact ht
  rcases gi_ok hw with ⟨rfl,h⟩ | ⟨rfl,h⟩
  ·refine wpIn_cond_true (ha.fits c _ hv) (wpIn_mono (ihx cx Z R r df ds l kN kE kR A' B' w a h ha hR hr hcx) (ky_mono (λ _=>rfl) ?_ (λ _ _ h=>h) ?_))
   ·intro a2 w2 h;exact h.mono (λ _=>rfl) (λ t ht=>⟨(up t ht).1,rfl⟩) (λ _ _ _ h=>h)
   ·intro i a2 w2 h;exact h.mono (λ _=>rfl) (λ t ht=>⟨(up t ht).1,rfl⟩) (λ _ _ _ h=>h)
  ·refine wpIn_cond_false (ha.fits c _ hv) (wpIn_mono (ihy cx Z R r df ds l kN kE kR A' B' w a h ha hR hr hcx) (ky_mono (λ _=>rfl) ?_ (λ _ _ h=>h) ?_))
   ·intro a2 w2 h;exact h.mono (λ _=>rfl) (λ t ht=>⟨(up t ht).2,rfl⟩) (λ _ _ _ h=>h)
   ·intro i a2 w2 h;exact h.mono (λ _=>rfl) (λ t ht=>⟨(up t ht).2,rfl⟩) (λ _ _ _ h=>h)
 | block id x ih =>
  intro cx Z R r df ds l kN kE kR A' B' w a hw ha hR hr hcx
  refine wpIn_block (wpIn_mono (ih cx Z R r df ds l kN _ kR A' B' w a hw ha hR hr hcx) ?_)
  intro e a1 w1 hq
  cases e with
  | exit i =>
   obtain ⟨d,l2,g0,g1,g2,g3⟩:=hq
   simp only [Exit.inBlock]
   by_cases hi:i=id
   ·rw [if_pos hi]
    subst hi
    refine ⟨d,l2,g0,g1,g2,?_⟩
    unfold bq at g3
    rw [Nat.beq_refl] at g3
    exact g3
   ·rw [if_neg hi]
    refine ⟨d,l2,g0,g1,g2,?_⟩
    unfold bq at g3
    have:Nat.beq i id=false:=by
     cases hb:Nat.beq i id with
     | false=>rfl
     | true=>exact absurd (Nat.eq_of_beq_eq_true hb) hi
    rw [this] at g3
    exact g3
  | normal=>exact hq
  | ret=>exact hq
  | panic c=>exact hq
  | goto g=>exact hq
  | outgrown=>exact hq
 | loop x ih =>
  intro cx Z R r df ds l kN kE kR A' B' w a hw ha hR hr hcx
  unfold D at hw
  obtain ⟨vs0,hv0,σ,st,J,μ,s0,hs0,hJ0,hround⟩:=vsT_ok hw
  subst hs0
  refine wpIn_loop_ghost (λ m a w=>∃ d s,μ s=m∧(cx.isSome=true→d=ds)∧Ag a n (d.map mk++df) (pairs (keysOf l (wr x)) 0 (st s)++keep l (wr x))∧J d s w) (μ s0) ⟨ds,s0,rfl,λ _=>rfl,ha.head hv0 (λ t ht=>(find_keep ht).symm),hJ0⟩ ?_
  rintro m a w ⟨d,s,rfl,hd0,hA,hJ⟩
  refine wpIn_mono (ih cx Z R r df d _ _ _ kR _ _ w a (hround d s w hJ) hA hR hr hcx) ?_
  have hd:∀ {l':Env},(∀ t,t∉wr x→find l' t=find (pairs (keysOf l (wr x)) 0 (st s)++keep l (wr x)) t)→∀ t,t∉wr x→find l' t=find (keep l (wr x)) t:=λ h t ht=>(h t ht).trans (find_head keysOf_sub ht)
  intro e a1 w1 hq
  cases e with
  | normal =>
   obtain ⟨d',l',g0,g1,g2,g3⟩:=hq
   obtain ⟨vs',hv',s',hs',hlt,hJ'⟩:=vsT_ok g3
   subst hs'
   exact ⟨_,hlt,d',s',rfl,λ e=>(g0 e).trans (hd0 e),g1.head hv' (hd g2),hJ'⟩
  | exit i =>
   obtain ⟨d',l',g0,g1,g2,g3⟩:=hq
   obtain ⟨vs',hv',g4⟩:=vsT_ok g3
   exact ⟨d',_,λ e=>(g0 e).trans (hd0 e),g1.head hv' (hd g2),λ t ht=>(find_head keysOf_sub ht).trans (find_keep ht),g4⟩
  | ret=>obtain ⟨d',l',g0,g1,g2⟩:=hq;exact ⟨d',l',λ e=>(g0 e).trans (hd0 e),g1,hR _ _ _ _ _ _ _ g2⟩
  | panic c=>obtain ⟨d',g0,g1,g2⟩:=hq;exact ⟨d',λ e=>(g0 e).trans (hd0 e),g1,g2⟩
  | goto g=>exact hq
  | outgrown=>exact hq
 | exit i=>intro cx Z R r df ds l kN kE kR A' B' w a hw ha _ _ _;exact wpIn_exit ⟨ds,l,λ _=>rfl,ha,λ _ _=>rfl,hw⟩
 | ret=>intro cx Z R r df ds l kN kE kR A' B' w a hw ha _ _ _;exact wpIn_ret ⟨ds,l,λ _=>rfl,ha,hw⟩
 | rangeFunc g ps x y ihx ihy =>
  intro cx Z R r df ds l kN kE kR A' B' w a hw ha hR hr hcx
  unfold D at hw
  split at hw
  ·rename_i hps0
   obtain ⟨hps,hpn⟩:=Bool.and_eq_true_iff.1 hps0
   obtain ⟨v,hv,gf,cap,rfl,hcf,hc0,hw⟩:=vT_ok hw
   refine wpIn_rangeFunc ?_
   intro fn hfn
   have ent:∃ L D W1 dfr,(Instr.enterLoop fn a.tmps ps x y r).run P w=.ok (L,m0 cx D) W1∧w.heap.size≤L∧L < W1.heap.size∧Fr [] w W1∧mkD cx L D w W1 ∧
     W1.heap[L]? = some (.loop { state:=.ready,pending:=none,fn,tmps:=a.tmps,params:=ps,assign:=x,body:=y,defers:=dfr }):=by
    cases cx with
    | none =>
     subst hr
     refine ⟨w.heap.size+1,w.heap.size,_,w.heap.size,run_enterLoop_outer _ _ _ _ _,by omega,by simp,(Fr.alloc w _).trans (Fr.alloc _ _),⟨Nat.le_refl _,by omega,by simp;omega,(Below.heap_alloc _ _ _ (by simp)).trans (World.alloc_heap_new w _)⟩,?_⟩
     have:=World.alloc_heap_new (w.alloc (.deferred (some []))) (.loop { state:=.ready,pending:=none,fn,tmps:=a.tmps,params:=ps,assign:=x,body:=y,defers:=w.heap.size })
     rwa [World.size_alloc] at this
    | some q =>
     obtain ⟨L0,o0⟩:=q
     subst hr
     obtain ⟨q,rfl⟩:=hcx L0 o0 rfl
     exact ⟨w.heap.size,0,_,_,run_enterI (hc0 L0 _ rfl) _ _ _ _ _,by omega,by simp,Fr.alloc w _,trivial,World.alloc_heap_new w _⟩
   obtain ⟨L,D,W1,dfr,hent,hL0,hL1,hF1,hD1,hl1⟩:=ent
   obtain ⟨rec,hrec⟩:∃ rec:LoopState→Option Code→Loop,rec=λ st pe=>{ state:=st,pending:=pe,fn,tmps:=a.tmps,params:=ps,assign:=x,body:=y,defers:=dfr }:=⟨_,rfl⟩
   have hl1:W1.heap[L]? = some (.loop (rec .ready none)):=by rw [hrec];exact hl1
   obtain ⟨σ,st,I,X,s0,s1,hI0,hIs,hXs,hround,hcall,hN,hX⟩:=hw L D (.loop (rec .ready none)) (.loop (rec .busy none)) W1 hL0 hL1 hF1 hl1 hD1
   have hgv:a.eval g=.func (.func gf) #[] cap:=ha.fits g _ hv
   refine ⟨L,_,W1,{ target:=.fn (.func gf) cap,args:=#[.func (.yield L) #[] #[]] },W1,gf,#[.func (.yield L) #[] #[]]++cap,W1,by rw [hr] at hent ⊢;exact hent,?_,λ _ _=>trivial,?_,FR_depth r _,?_⟩
   ·simp only [resolve,hgv]
    simp [go_sem]
   ·simp [invoke,go_sem,hcf _ W1]
   ·refine callsIn_FR ?_
    have hok1:okD cx D W1:=by
     cases cx with
     | none=>exact hD1.2.2.2
     | some _=>trivial
    have hlt1:∀ q∈u0 cx L D,q < W1.heap.size:=by
     intro q hq
     cases cx with
     | none=>simp [u0] at hq;rcases hq with rfl | rfl;exact hL1;exact hD1.2.2.1
     | some _=>simp [u0] at hq;subst hq;exact hL1
    have hc:=hcall (λ V s W=>I (V++u0 cx L D) s W∧W.heap[L]? = some (.loop (rec .ready none))∧okD cx D W∧L∉V∧(∀ q∈u0 cx L D,q∉V∧q < W.heap.size))
     (λ V W=>∃ j,X (j+1) (V++u0 cx L D) W∧W.heap[L]? = some (.loop (rec .done (some (jmp j))))∧okD cx D W∧L∉V∧(∀ q∈u0 cx L D,q∉V∧q < W.heap.size)) ?_ (λ V s W h=>h.1) ⟨hI0,hl1,hok1,by simp,λ q hq=>⟨by simp,hlt1 q hq⟩⟩ (λ V hI hV=>⟨hI,hl1,hok1,λ h=>hV L h mem_u0,λ q hq=>⟨λ h=>hV q h hq,hlt1 q hq⟩⟩)
    ·have e:#[.func (.yield L) #[] #[]]++cap=(Value.func (.yield L) #[] #[] :: cap.toList).toArray:=by simp
     rw [e]
     have hdd:Nat→Ag { a with defers:=m0 cx D++a.defers } n ((u1 cx D ds).map mk++df) l:=λ _=>⟨ha.size,by cases cx<;>simp [ha.defs,u1,m0],ha.look⟩
     refine Calls.mono hc.2 ?_
     intro e W2 he
     cases e with
     | returned v =>
      obtain ⟨V,⟨hi,hl,hk,hv,hu⟩ | ⟨j,hi,hl,hk,hv,hu⟩⟩:=he
      ·refine ⟨none,_,by have:=run_endLoop (P:=P) hl (by rw [hrec];simp);rw [hrec] at this;exact this,?_⟩
       have f1:=Fr.putObj W2 L (.loop { rec .ready none with state:=.exhausted })
       rw [hrec] at f1
       exact ⟨u1 cx D ds,l,u1_some,hdd 0,λ _ _=>rfl,hN _ _ ((hIs s1).fr hi f1 (λ q hq=>by simp at hq;subst hq;exact List.mem_append_right _ mem_u0)) (okD_fr hD1 hk f1)⟩
      ·refine ⟨some (jmp j),_,by have:=run_endLoop (P:=P) hl (by rw [hrec];simp);rw [hrec] at this;exact this,?_⟩
       have f1:=Fr.putObj W2 L (.loop { rec .done (some (jmp j)) with state:=.exhausted })
       rw [hrec] at f1
       have hx:=hX _ _ j ((hXs (j+1)).fr hi f1 (λ q hq=>by simp at hq;subst hq;exact List.mem_append_right _ mem_u0)) (okD_fr hD1 hk f1)
       cases j with
       | zero=>exact wpIn_ret ⟨u1 cx D ds,l,u1_some,hdd 0,hx⟩
       | succ i=>exact wpIn_exit ⟨u1 cx D ds,l,u1_some,hdd 0,λ _ _=>rfl,hx⟩
     | panicked c=>exact ⟨u1 cx D ds,u1_some,(hdd 0).defs,he⟩
     | outgrown=>exact he.elim
    ·refine ⟨λ s=>⟨?_,?_⟩,⟨?_,?_⟩,?_⟩
     ·rintro V W W' ⟨h1,h2,h3,h4,h5⟩ f
      refine ⟨(hIs s).fr h1 f (λ q hq=>by simp [hq]),(f.keep L (Array.getElem?_eq_some_iff.1 h2).1 h4).trans h2,?_,h4,λ q hq=>⟨(h5 q hq).1,Nat.lt_of_lt_of_le (h5 q hq).2 f.size⟩⟩
      cases cx with
      | none=>exact (f.keep D (h5 D (by simp [u0])).2 (h5 D (by simp [u0])).1).trans h3
      | some _=>trivial
     ·rintro V W b ⟨h1,h2,h3,h4,h5⟩ hb
      have hlt:=(Array.getElem?_eq_some_iff.1 h2).1
      refine ⟨(hIs s).2 _ _ _ h1 hb,h2,h3,by simp [h4];omega,λ q hq=>⟨?_,(h5 q hq).2⟩⟩
      have:=h5 q hq
      simp [this.1];omega
     ·rintro V W W' ⟨j,h1,h2,h3,h4,h5⟩ f
      refine ⟨j,(hXs (j+1)).fr h1 f (λ q hq=>by simp [hq]),(f.keep L (Array.getElem?_eq_some_iff.1 h2).1 h4).trans h2,?_,h4,λ q hq=>⟨(h5 q hq).1,Nat.lt_of_lt_of_le (h5 q hq).2 f.size⟩⟩
      cases cx with
      | none=>exact (f.keep D (h5 D (by simp [u0])).2 (h5 D (by simp [u0])).1).trans h3
      | some _=>trivial
     ·rintro V W b ⟨j,h1,h2,h3,h4,h5⟩ hb
      have hlt:=(Array.getElem?_eq_some_iff.1 h2).1
      refine ⟨j,(hXs (j+1)).2 _ _ _ h1 hb,h2,h3,by simp [h4];omega,λ q hq=>⟨?_,(h5 q hq).2⟩⟩
      have:=h5 q hq
      simp [this.1];omega
     ·rintro V s s' xs W ⟨hi,hl,hk,hv,hu⟩ hVs hst
      have hlt:L < W.heap.size:=(Array.getElem?_eq_some_iff.1 hl).1
      obtain ⟨hm,hb⟩:=hround (V++u0 cx L D) s s' xs W (List.mem_append_right _ mem_u0) (λ q hq=>by simp [hq]) (λ q hq=>by
       rcases List.mem_append.1 hq with h | h
       ·exact hVs q h
       ·exact (hu q h).2) hi hl hst
      have hy:=run_yield (P:=P) (args:=xs.toArray) hl (by rw [hrec];simp [hm])
      rw [hrec] at hy
      refine ⟨fn,_,x,y,hy,roundIn_of_wpIn hfn ?_⟩
      have hp0:=Ag.params (n:=n) (a:=a) ps.toList xs (t:=a.tmps) (l:=l) ⟨ha.size,rfl,ha.look⟩ (λ t ht=>by have:=List.all_eq_true.1 hps t ht;simpa using this) (by simp [hm])
      have hps2:ps.toList.toArray=ps:=by simp
      rw [hps2] at hp0
      replace hp0:=hp0.zip_pairs hpn (by simp [hm])
      have hcx':∀ L' o',some (L,Obj.loop (rec .busy none))=some (L',o')→∃ q,o'=.loop q:=λ L' o' h=>by cases h;exact ⟨_,rfl⟩
      have hX1:=ihx (some (L,.loop (rec .busy none))) noZ _ (some L) [] [] _ _ _ _ _ _ W _ hb hp0 (λ _ _ _ _ _ _ _ h=>h.elim) rfl hcx'
      have hKp:∀ W',Kp L (.loop (rec .busy none)) (V++u0 cx L D) W W'→∀ o,okD cx D (W'.putObj L o)∧(∀ q∈u0 cx L D,q∉V∧q < (W'.putObj L o).heap.size)∧W.heap.size≤(W'.putObj L o).heap.size∧(∀ q∈V,(W'.putObj L o).heap[q]? = W.heap[q]?)∧(W'.putObj L o).heap[L]? = some o:=by
       rintro W' ⟨h1,h2,h3⟩ o
       have hlt':=(Array.getElem?_eq_some_iff.1 h3).1
       refine ⟨?_,λ q hq=>⟨(hu q hq).1,by simp;exact Nat.lt_of_lt_of_le (hu q hq).2 h1⟩,by simpa using h1,λ q hq=>?_,World.putObj_heap_same hlt'⟩
       ·cases cx with
        | none=>exact (World.putObj_heap_other hD1.2.1).trans ((h2 D (by simp [u0]) hD1.2.1).trans hk)
        | some _=>trivial
       ·have hne:q≠L:=λ e=>hv (e ▸ hq)
        exact (World.putObj_heap_other hne).trans (h2 q (by simp [hq]) hne)
      have hIf:∀ (I:List Nat→World→Prop) W' o,Stab I→I (V++u0 cx L D) W'→I (V++u0 cx L D) (W'.putObj L o):=λ I W' o h1 h2=>h1.fr h2 (Fr.putObj W' L o) (λ q hq=>by simp at hq;subst hq;exact List.mem_append_right _ mem_u0)
      refine wpIn_mono hX1 ?_
      intro e a1 W2 hq
      cases e with
      | normal =>
       obtain ⟨d1,l1,hd1,ha1,_,hl2,hq⟩:=hq
       obtain rfl:=hd1 rfl
       refine ⟨_,run_beginRound hl2 (by rw [hrec]),?_⟩
       have hlt2:=(Array.getElem?_eq_some_iff.1 hl2).1
       have hq:=hq (W2.putObj L (.loop (rec .busy none))) (Fr.putObj _ _ _) (World.putObj_heap_same hlt2)
       have eb:({ rec .ready none with state:=.busy }:Loop)=rec .busy none:=by rw [hrec]
       rw [eb]
       refine wpIn_mono (ihy (some (L,.loop (rec .busy none))) noZ _ (some L) [] [] _ _ _ _ _ _ _ _ hq ha1 (λ _ _ _ _ _ _ _ h=>h) rfl hcx') ?_
       intro e a3 W3 hp
       cases e with
       | normal =>
        obtain ⟨d3,l3,hd3,ha3,_,hi3,hk3⟩:=hp
        obtain ⟨g1,g2,g3,g4,g5⟩:=hKp _ hk3 (.loop (rec .ready none))
        have hr:=run_endRound (P:=P) none hk3.2.2
        rw [hrec] at hr g1 g2 g3 g4 g5
        refine ⟨_,_,hr,_,rfl,.inl ⟨rfl,hIf _ _ _ (hIs s') hi3,?_,g1,hv,g2⟩,g3,g4⟩
        rw [hrec];exact g5
       | ret =>
        obtain ⟨d3,l3,hd3,ha3,hp⟩:=hp
        obtain rfl:=hd3 rfl
        obtain ⟨hi3,hk3⟩:=hp
        obtain ⟨g1,g2,g3,g4,g5⟩:=hKp _ hk3 (.loop (rec .done (some .ret)))
        have hr:=run_endRound (P:=P) (some .ret) hk3.2.2
        rw [hrec] at hr g1 g2 g3 g4 g5
        refine ⟨_,_,hr,_,rfl,.inr ⟨rfl,0,hIf _ _ _ (hXs 1) hi3,?_,g1,hv,g2⟩,g3,g4⟩
        rw [hrec];exact g5
       | exit i =>
        obtain ⟨d3,l3,hd3,ha3,_,hi3,hk3⟩:=hp
        obtain ⟨g1,g2,g3,g4,g5⟩:=hKp _ hk3 (.loop (rec .done (some (.exit i))))
        have hr:=run_endRound (P:=P) (some (.exit i)) hk3.2.2
        rw [hrec] at hr g1 g2 g3 g4 g5
        refine ⟨_,_,hr,_,rfl,.inr ⟨rfl,i+1,hIf _ _ _ (hXs (i+2)) hi3,?_,g1,hv,g2⟩,g3,g4⟩
        rw [hrec];exact g5
       | panic c=>obtain ⟨d,h1,h2,h3⟩:=hp;obtain rfl:=h1 rfl;exact h3
       | goto t=>exact False.elim hp
       | outgrown=>exact False.elim hp
      | ret=>obtain ⟨_,_,_,_,h⟩:=hq;exact h
      | exit i=>obtain ⟨_,_,_,_,_,h⟩:=hq;exact h
      | panic c=>obtain ⟨d,h1,h2,h3⟩:=hq;obtain rfl:=h1 rfl;exact h3
      | goto t=>exact False.elim hq
      | outgrown=>exact False.elim hq
  ·exact hw.elim
 | _=>intros;rename_i hw _ _ _ _;exact hw.elim
theorem sem_assoc {α β γ:Type} (s:Sem α) (f:α→Sem β) (g:β→Sem γ):(s.bind f).bind g=s.bind λ a=>(f a).bind g:=by
 induction s with
 | pure a=>rfl
 | load m a k ih=>show Sem.load m a _=Sem.load m a _;congr 1;funext v;exact ih v
 | store m a v k ih=>show Sem.store m a v _=Sem.store m a v _;congr 1
 | new o k ih=>show Sem.new o _=Sem.new o _;congr 1;funext v;exact ih v
 | shape r k ih=>show Sem.shape r _=Sem.shape r _;congr 1;funext v;exact ih v
 | freeze a n k ih=>show Sem.freeze a n _=Sem.freeze a n _;congr 1
 | frozen a k ih=>show Sem.frozen a _=Sem.frozen a _;congr 1;funext v;exact ih v
 | getObj r k ih=>show Sem.getObj r _=Sem.getObj r _;congr 1;funext v;exact ih v
 | setObj r o k ih=>show Sem.setObj r o _=Sem.setObj r o _;congr 1
 | choose q k ih=>show Sem.choose q _=Sem.choose q _;congr 1;funext v;exact ih v
 | sys c k ih=>show Sem.sys c _=Sem.sys c _;congr 1;funext v;exact ih v
 | program k ih=>show Sem.program _=Sem.program _;congr 1;funext v;exact ih v
 | mark m k ih=>show Sem.mark m _=Sem.mark m _;congr 1
 | halt h=>rfl
theorem sem_pure {α:Type} (s:Sem α):s.bind Sem.pure=s:=by
 induction s with
 | pure a=>rfl
 | load m a k ih=>show Sem.load m a _=Sem.load m a _;congr 1;funext v;exact ih v
 | store m a v k ih=>show Sem.store m a v _=Sem.store m a v _;congr 1
 | new o k ih=>show Sem.new o _=Sem.new o _;congr 1;funext v;exact ih v
 | shape r k ih=>show Sem.shape r _=Sem.shape r _;congr 1;funext v;exact ih v
 | freeze a n k ih=>show Sem.freeze a n _=Sem.freeze a n _;congr 1
 | frozen a k ih=>show Sem.frozen a _=Sem.frozen a _;congr 1;funext v;exact ih v
 | getObj r k ih=>show Sem.getObj r _=Sem.getObj r _;congr 1;funext v;exact ih v
 | setObj r o k ih=>show Sem.setObj r o _=Sem.setObj r o _;congr 1
 | choose q k ih=>show Sem.choose q _=Sem.choose q _;congr 1;funext v;exact ih v
 | sys c k ih=>show Sem.sys c _=Sem.sys c _;congr 1;funext v;exact ih v
 | program k ih=>show Sem.program _=Sem.program _;congr 1;funext v;exact ih v
 | mark m k ih=>show Sem.mark m _=Sem.mark m _;congr 1
 | halt h=>rfl
instance:LawfulMonad Sem:=LawfulMonad.mk' Sem (id_map:=λ s=>sem_pure s) (pure_bind:=λ _ _=>rfl) (bind_assoc:=λ s f g=>sem_assoc s f g)
def resF (a:Act):ResultVar→Sem Value
 | .tmp t=>pure (a.tmps.getD t undef)
 | .cell p t=>do loadVar t (← asAddr (a.tmps.getD p undef))
def Cs (w w':World):Prop:=∀ ad v,w.cell? ad=some v→w'.cell? ad=some v
theorem resT_ok {l:Env} {a:Act} {df:List Deferred} (ha:Ag a n df l):∀ {rs:List ResultVar} {k:List Value→T} {w:World},wp P Z R ds (resT P l rs k) w A' B'→∃ vs,(∀ w',Cs w w'→(rs.mapM (resF a)).run P w'=.ok vs w')∧wp P Z R ds (k vs) w A' B':=by
 intro rs
 induction rs with
 | nil=>intro k w h;exact ⟨[],λ _ _=>rfl,h⟩
 | cons x rs ih =>
  intro k w h
  have step:∀ {v:Value},(∀ w',Cs w w'→(resF a x).run P w'=.ok v w')→wp P Z R ds (resT P l rs λ vs=>k (v :: vs)) w A' B'→∃ vs,(∀ w',Cs w w'→((x :: rs).mapM (resF a)).run P w'=.ok vs w')∧wp P Z R ds (k vs) w A' B':=by
   intro v h1 h2
   obtain ⟨vs,h3,h4⟩:=ih h2
   refine ⟨v :: vs,λ w' hc=>?_,h4⟩
   rw [List.mapM_cons]
   simp only [Sem.run_bind,h1 w' hc,h3 w' hc,Result.andThen_ok,Sem.run_pure]
  cases x with
  | tmp t =>
   obtain ⟨v,hv,h⟩:=vT_ok h
   refine step (v:=v) (λ w' _=>?_) h
   show (pure (a.tmps.getD t undef):Sem Value).run P w'=_
   rw [ha.look t v hv]
   rfl
  | cell p t =>
   unfold resT at h
   split at h
   ·rename_i hg
    obtain ⟨q,hq,ad,v,rfl,hc,h⟩:=vT_ok h
    refine step (v:=v) (λ w' hw'=>?_) h
    unfold resF
    simp only [ha.look p _ hq,asAddr]
    have:=loadVar1 (P:=P) hg (hw' _ _ hc)
    simpa [Instr.loadAt,Instr.sureAddr] using this
   ·rename_i m hg hs
    obtain ⟨q,hq,ad,cs,rfl,hr,h⟩:=vT_ok h
    refine step (λ w' hw'=>?_) h
    unfold resF
    simp only [ha.look p _ hq,asAddr]
    have:=loadVarn (P:=P) hg hs (⟨hr.1,λ j v hj=>hw' _ _ (hr.2 j v hj)⟩:Rd w' m ad cs)
    simpa [Instr.loadAt,Instr.sureAddr] using this
   ·exact h.elim
theorem outT_ok {l:Env} {a:Act} {fn:Func} {w:World} {df:List Deferred} (ha:Ag a n df l) (h:wp P Z R ds (outT P fn.results.toList l) w A' B'):∃ v,(∀ w',Cs w w'→(results fn a.tmps).run P w'=.ok v w')∧RD ds R v w:=by
 unfold outT at h
 obtain ⟨vs,h1,h2⟩:=resT_ok ha h
 have e:results fn a.tmps=(do let vs ← fn.results.mapM (resF a);pure (if h:vs.size=1 then vs[0] else .tuple vs)):=by
  unfold results
  congr 1
 rw [e,Array.mapM_eq_mapM_toList]
 match vs,h1,h2 with
 | [v],h1,h2=>exact ⟨v,λ w' hc=>by simp [bind_map_left,Sem.run_bind,h1 w' hc,Result.andThen_ok,Sem.run_pure],h2⟩
 | [],h1,h2=>exact ⟨_,λ w' hc=>by simp only [bind_map_left,Sem.run_bind,h1 w' hc,Result.andThen_ok,Sem.run_pure];rfl,h2⟩
 | a :: b :: r,h1,h2=>exact ⟨_,λ w' hc=>by simp only [bind_map_left,Sem.run_bind,h1 w' hc,Result.andThen_ok,Sem.run_pure];simp,h2⟩
theorem outT_any {rs:List ResultVar} {l:Env}:∀ (w:World) (A:List Nat→List Value→World→Prop) (B:List Nat→Nat→List Value→World→Prop) (A2:List Nat→List Value→World→Prop) (B2:List Nat→Nat→List Value→World→Prop),wp P Z R ds (outT P rs l) w A B→wp P Z R ds (outT P rs l) w A2 B2:=by
 intro w A B A2 B2 h
 unfold outT at h ⊢
 have gen:∀ (rs:List ResultVar) (k:List Value→T),(∀ vs,wp P Z R ds (k vs) w A B→wp P Z R ds (k vs) w A2 B2)→wp P Z R ds (resT P l rs k) w A B→wp P Z R ds (resT P l rs k) w A2 B2:=by
  intro rs
  induction rs with
  | nil=>intro k hk h;exact hk [] h
  | cons x rs ih =>
   intro k hk h
   cases x with
   | tmp t =>
    obtain ⟨v,hv,h⟩:=vT_ok h
    have hv:find l t=some v:=hv
    unfold resT vT
    simp only [ev,hv]
    exact ih _ (λ vs hvs=>hk _ hvs) h
   | cell p t =>
    unfold resT at h ⊢
    split at h
    ·obtain ⟨q,hq,ad,v,h1,h2,h3⟩:=vT_ok h
     have hq:find l p=some q:=hq
     unfold vT
     simp only [ev,hq]
     exact ⟨ad,v,h1,h2,ih _ (λ vs hvs=>hk _ hvs) h3⟩
    ·obtain ⟨q,hq,ad,v,h1,h2,h3⟩:=vT_ok h
     have hq:find l p=some q:=hq
     unfold vT
     simp only [ev,hq]
     exact ⟨ad,v,h1,h2,ih _ (λ vs hvs=>hk _ hvs) h3⟩
    ·exact h.elim
 refine gen rs _ (λ vs h=>?_) h
 match vs,h with
 | [],h=>exact h
 | [v],h=>exact h
 | a :: b :: r,h=>exact h
abbrev nA:List Nat→List Value→World→Prop:=λ _ _ _=>False
abbrev nB:List Nat→Nat→List Value→World→Prop:=λ _ _ _ _=>False
theorem Cs.put {w:World} {D:Nat} {o:Obj} {x:Option (List Deferred)} (h:w.heap[D]? = some (.deferred x)):Cs w (w.putObj D o):=by
 intro ad v hc
 have hne:ad.block≠D:=by
  intro e
  unfold World.cell? at hc
  rw [e,h] at hc
  cases hc
 rw [← hc]
 unfold World.cell?
 rw [World.putObj_heap_other hne]
theorem marks {fn:Func} {tmps:Array Value} {Q:Ending→World→Prop} {u:FrameMode} (hu:u≠.run):∀ (ds:List Nat) (w:World),ds.Nodup→(∀ q∈ds,w.heap[q]? = some (.deferred (some []))) →
  (∀ w',Fr ds w w'→Cs w w'→LeavesInM Fence.wide 0 P fn tmps Q [] u w')→LeavesInM Fence.wide 0 P fn tmps Q (ds.map mk) u w:=by
 intro ds
 induction ds with
 | nil=>intro w _ _ h;exact h w (Fr.refl [] w) (λ _ _ h=>h)
 | cons D ds ih =>
  intro w hn hd h
  have h0:=hd D (by simp)
  refine ⟨hu,.inl ⟨D,_,rfl,run_takeDeferred h0,ih _ (List.nodup_cons.1 hn).2 (λ q hq=>?_) (λ w' f c=>h w' ?_ ?_)⟩⟩
  ·have:q≠D:=λ e=>(List.nodup_cons.1 hn).1 (e ▸ hq)
   exact (World.putObj_heap_other this).trans (hd q (by simp [hq]))
  ·exact ((Fr.putObj w D _).mono (λ q hq=>by simp at hq;simp [hq])).trans (f.mono (λ q hq=>by simp [hq]))
  ·intro ad v hc
   exact c _ _ (Cs.put h0 _ _ hc)
theorem go {f:Nat} {fn:Func} {args:List Value} {t:T} {w:World} (hm:P.follows .mixedOrders=true) (hf:P.funcs[f]? = some fn) (hcf:CF P f) (hl:Nat.ble args.length fn.ntmps=true) (ht:DF P fn args=t) (h:wp P Z R [] t w nA nB):Cz P f args w R Z:=by
 refine ⟨hcf,?_⟩
 subst ht
 unfold DF at h
 split at h
 ·rename_i C hb
  have hl:=Nat.le_of_ble_eq_true hl
  refine callsIn_wide.1 (callsIn_of_wp_marks (n:=0) hf hb trivial ?_)
  have ha:Ag { tmps:=args.toArray++Array.replicate (fn.ntmps-args.toArray.size) undef,defers:=[] } fn.ntmps [] (argE 0 args):=by
   refine ⟨by simp;omega,rfl,?_⟩
   intro t v ht
   obtain ⟨_,h2⟩:=find_argE args 0 t v ht
   have hlt:t < args.length:=by
    rcases Nat.lt_or_ge t args.length with h' | h'
    ·exact h'
    ·simp [List.getElem?_eq_none h'] at h2
   simp only [Nat.sub_zero] at h2
   have h3:=(List.getElem?_eq_some_iff.1 h2).2
   simp [Array.getElem?_append,hlt,h3]
  have big:=D_ok (n:=fn.ntmps) hm C none Z R none [] [] (argE 0 args) (outT P fn.results.toList) (λ _ _=>.bad) (outT P fn.results.toList) nA nB w _ h ha (λ ds l w A B A2 B2=>outT_any w A B A2 B2) rfl (λ _ _ h=>by cases h)
  refine wpIn_mono big ?_
  have fin:∀ (a':Act) (w':World) (ds':List Nat) (l':Env),Ag a' fn.ntmps (ds'.map mk++[]) l'→wp P Z R ds' (outT P fn.results.toList l') w' nA nB→LeavesInM Fence.wide 0 P fn a'.tmps (Pst R Z) a'.defers .returning w':=by
   intro a' w' ds' l' g1 g3
   obtain ⟨v,h1,h2⟩:=outT_ok g1 g3
   rw [g1.defs,List.append_nil]
   cases ds' with
   | nil=>exact ⟨v,h1 w' (λ _ _ h=>h),h2⟩
   | cons D ds'=>exact marks (by simp) _ _ h2.1 h2.2.1 (λ w'' f c=>⟨v,h1 w'' c,h2.2.2 w'' f⟩)
  intro e a' w' hq
  cases e with
  | normal=>obtain ⟨ds',l',_,g1,_,g3⟩:=hq;exact fin a' w' ds' l' g1 g3
  | ret=>obtain ⟨ds',l',_,g1,g3⟩:=hq;exact fin a' w' ds' l' g1 g3
  | exit i=>obtain ⟨_,l',_,_,_,g3⟩:=hq;exact g3
  | panic c =>
   obtain ⟨ds',_,g1,g2⟩:=hq
   show LeavesInM Fence.wide 0 P fn a'.tmps (Pst R Z) a'.defers (.panicking c) w'
   rw [g1,List.append_nil]
   cases ds' with
   | nil=>exact g2
   | cons D ds'=>exact marks (by simp) _ _ g2.1 g2.2.1 (λ w'' f _=>g2.2.2 w'' f)
  | goto g=>exact hq
  | outgrown=>exact hq
 ·exact h.elim
end
end Go.Proofs.YtppodgdhdddfkaaGreatDoor.Sx
set_option linter.unusedVariables false
set_option linter.unusedSimpArgs false
namespace Go.Proofs.YtppodgdhdddfkaaGreatDoor.Sx
open Go Go.RowKit
section
variable {P:Program} {Z:ZP} {R:Value→World→Prop} {w:World} {A:List Nat→List Value→World→Prop} {B:List Nat→Nat→List Value→World→Prop} {ds:List Nat} {k:Value→T} {t u:T}
theorem r_ret {v:Value} (h:R v w):wp P Z R [] (.ret v) w A B:=h
theorem r_ret1 {v:Value} {D:Nat} (hD:w.heap[D]? = some (.deferred (some []))) (h:∀ w',Fr [D] w w'→R v w'):wp P Z R [D] (.ret v) w A B:=⟨by simp,by simpa using hD,h⟩
theorem r_ld {ad:Addr} {v:Value} (hc:w.cell? ad=some v) (h:wp P Z R ds (k v) w A B):wp P Z R ds (.ld (.pointer (some ad)) k) w A B:=⟨ad,v,rfl,hc,h⟩
theorem r_ldn {n:Nat} {ad:Addr} {cs:List Value} (hc:Rd w n ad cs) (h:wp P Z R ds (k (.agg cs.toArray)) w A B):wp P Z R ds (.ldn n (.pointer (some ad)) k) w A B:=⟨ad,cs,rfl,hc,h⟩
theorem r_chk {ad:Addr} {v:Value} (hc:w.cell? ad=some v) (h:wp P Z R ds t w A B):wp P Z R ds (.chk none (.pointer (some ad)) v t) w A B:=⟨⟨ad,rfl,hc⟩,h⟩
theorem r_chkn {n:Nat} {ad:Addr} {cs:List Value} (hc:Rd w n ad cs) (h:wp P Z R ds t w A B):wp P Z R ds (.chk (some n) (.pointer (some ad)) (.agg cs.toArray) t) w A B:=⟨⟨ad,cs,rfl,rfl,hc⟩,h⟩
theorem r_ar {z:Int} (hb : -9223372036854775808≤z∧z≤9223372036854775807) (h:wp P Z R ds (k (.int .i64 z)) w A B):wp P Z R ds (.ar .i64 z k) w A B:=⟨z,by rw [IntKind.wrap_i64];omega,h⟩
theorem r_are {kd:IntKind} {z y:Int} (hy:kd.wrap z=y) (h:wp P Z R ds (k (.int kd y)) w A B):wp P Z R ds (.ar kd z k) w A B:=⟨_,hy,h⟩
theorem r_ob {p:Prop} (hp:p) (h:wp P Z R ds t w A B):wp P Z R ds (.ob p t) w A B:=⟨hp,h⟩
theorem r_if {p:Prop} [Decidable p] (h1:p→wp P Z R ds t w A B) (h2:¬ p→wp P Z R ds u w A B):wp P Z R ds (gi (.bool (decide p)) t u) w A B:=by
 by_cases hp:p
 ·rw [decide_eq_true hp];exact h1 hp
 ·rw [decide_eq_false hp];exact h2 hp
theorem r_ifn {p:Prop} [Decidable p] (h1:¬ p→wp P Z R ds t w A B) (h2:p→wp P Z R ds u w A B):wp P Z R ds (gi (.bool (!decide p)) t u) w A B:=by
 by_cases hp:p
 ·rw [decide_eq_true hp];exact h2 hp
 ·rw [decide_eq_false hp];exact h1 hp
theorem r_ifb {b:Bool} (h1:b=true→wp P Z R ds t w A B) (h2:b=false→wp P Z R ds u w A B):wp P Z R ds (gi (.bool b) t u) w A B:=by
 cases b with
 | true=>exact h1 rfl
 | false=>exact h2 rfl
theorem r_ifbn {b:Bool} (h1:b=false→wp P Z R ds t w A B) (h2:b=true→wp P Z R ds u w A B):wp P Z R ds (gi (.bool (!b)) t u) w A B:=by
 cases b with
 | true=>exact h2 rfl
 | false=>exact h1 rfl
theorem r_dr (h:∀ w',Fr [] w w'→wp P Z R ds t w' A B):wp P Z R ds (.dr t) w A B:=λ w' f _=>h w' f
theorem Cz.mono {f:Nat} {vs:List Value} {Q Q':Value→World→Prop} (h:Cz P f vs w Q Z) (hk:∀ v w',Q v w'→Q' v w'):Cz P f vs w Q' Z:=
 ⟨h.1,Calls.mono h.2 (λ e w' he=>by cases e with | returned v=>exact hk v w' he | panicked c=>exact he | outgrown=>exact he)⟩
theorem r_call {f:Nat} {vs:List Value} {Q:Value→World→Prop} (h:Cz P f vs w Q (ZD ds Z)) (hk:∀ v w',Q v w'→wp P Z R ds (k v) w' A B):wp P Z R ds (.call f vs k) w A B:=h.mono hk
theorem Cz.cl {f:Nat} {vs:List Value} {Q:Value→World→Prop} (h:Cz P f vs w Q (λ _ _=>False)):Cl P f vs w Q:=Calls.mono h.2 (λ e w' he=>by cases e with | returned v=>exact ⟨v,rfl,he⟩ | panicked c=>exact he.elim | outgrown=>exact he.elim)
theorem r_loop {vs:List Value} {body:List Value→T} {after:Nat→List Value→T} {σ:Type} (st:σ→List Value) (J:σ→World→Prop) (μ:σ→Nat) (s0:σ) (h0:J s0 w) (hs:st s0=vs)
  (h:∀ s w,J s w→wp P Z R ds (body (st s)) w (λ ds' vs' w'=>∃ s',st s'=vs'∧μ s' < μ s∧ds'=ds∧J s' w') (λ ds' i vs' w'=>wp P Z R ds' (after i vs') w' A B)):wp P Z R ds (.loop vs body after) w A B:=
 ⟨σ,st,λ d s w=>d=ds∧J s w,μ,s0,hs,⟨rfl,h0⟩,λ d s w hJ=>by obtain ⟨rfl,hJ⟩:=hJ;exact h s w hJ⟩
theorem r_ag {σ:Type} {st:σ→List Value} {J:σ→World→Prop} {μ:σ→Nat} {s:σ} {vs:List Value} (s':σ) (hJ:J s' w) (hlt:μ s' < μ s) (hs:st s'=vs):wp P Z R ds (.again vs) w (λ ds' vs' w'=>∃ s',st s'=vs'∧μ s' < μ s∧ds'=ds∧J s' w') B:=⟨s',hs,hlt,rfl,hJ⟩
theorem r_yld {L:Nat} {vs:List Value} {Q:Value→World→Prop} (h:Yd P L vs w Q) (hk:∀ v w',Q v w'→wp P Z R ds (k v) w' A B):wp P Z R ds (.yld L vs k) w A B:=by
 obtain ⟨fn,tmps,asg,body,h1,h2⟩:=h
 exact ⟨fn,tmps,asg,body,h1,RoundIn.mono h2 (λ e w' he=>by obtain ⟨v,rfl,hq⟩:=he;exact hk v w' hq)⟩
theorem r_rb {L:Nat} {a b:Obj} (h1:w.heap[L]? = some a) (h:∀ w',Fr [L] w w'→w'.heap[L]? = some b→wp P Z R ds t w' A B):wp P Z R ds (.rb L a b t) w A B:=⟨h1,h⟩
theorem Kp.of {L:Nat} {o:Obj} {U bs:List Nat} {W Wb W':World} (f:Fr [L] W Wb) (g:Fr bs Wb W') (hL:W'.heap[L]? = some o) (hd:∀ q∈U,q∉bs) (hU:∀ q∈U,q < W.heap.size):Kp L o U W W':=
 ⟨Nat.le_trans f.size g.size,λ q hq hne=>(g.keep q (Nat.lt_of_lt_of_le (hU q hq) f.size) (hd q hq)).trans (f.keep q (hU q hq) (by simpa using hne)),hL⟩
theorem run_inv {s:Sem Value} {v:Value} {w':World} (h:(do pure (Next.value (← s)):Sem Next).run P w=.ok (.value v) w'):s.run P w=.ok v w':=by
 simp only [Sem.run_bind] at h
 cases hs:s.run P w with
 | ok a w1 =>
  rw [hs] at h
  simp only [Result.andThen_ok,Sem.run_pure] at h
  injection h with h1 h2
  injection h1 with h1
  rw [h1,h2]
 | halt x w1=>rw [hs] at h;cases h
theorem run_invu {s:Sem Unit} {w':World} (h:(do s;pure Next.skip:Sem Next).run P w=.ok .skip w'):s.run P w=.ok () w':=by
 simp only [Sem.run_bind] at h
 cases hs:s.run P w with
 | ok a w1 =>
  rw [hs] at h
  simp only [Result.andThen_ok,Sem.run_pure] at h
  injection h with h1 h2
  rw [h2]
 | halt x w1=>rw [hs] at h;cases h
def r0:Operand→Value
 | .const v=>v
 | .global g=>.pointer (some ⟨g,0,none⟩)
 | .func f=>.func (.func f) #[] #[]
 | .tmp _=>undef
theorem fits0:Fits [] r0:=λ x v hx=>by
 cases x with
 | tmp t=>cases hx
 | const c=>injection hx
 | global g=>injection hx
 | func f=>injection hx
theorem r_pu {s:Sem Value} {v:Value} {o:Oper} (h:∀ w',Ex P o [] w' v w') (hk:wp P Z R ds (k v) w A B) (he:execOp r0 o=(do pure (.value (← s))):=by rfl):wp P Z R ds (.pu s k) w A B:=
 ⟨v,λ w'=>by have h1:=h w' r0 fits0;rw [he] at h1;exact run_inv h1,hk⟩
theorem r_ef {s:Sem Unit} {o:Oper} {Q:World→Prop} (h:Sv P o [] w Q) (hk:∀ w',Q w'→wp P Z R ds t w' A B) (he:execOp r0 o=(do s;pure .skip):=by rfl):wp P Z R ds (.ef s t) w A B:=by
 obtain ⟨w',h1,h2⟩:=h r0 fits0
 rw [he] at h1
 exact ⟨w',run_invu h1,hk w' h2⟩
end
end Go.Proofs.YtppodgdhdddfkaaGreatDoor.Sx
set_option linter.unusedVariables false
set_option linter.unusedSimpArgs false
namespace Go.Proofs.YtppodgdhdddfkaaGreatDoor.Sx
open Go Go.RowKit
abbrev Pt (b o:Nat):Value:=.pointer (some ⟨b,o,none⟩)
section
variable {P:Program} {Z:ZP} {R:Value→World→Prop} {w w':World} {A:List Nat→List Value→World→Prop} {B:List Nat→Nat→List Value→World→Prop} {ds:List Nat} {k:Value→T} {t u:T}
theorem Fr.c {a:Addr} {v:Value} (f:Fr [] w w') (h:w.cell? a=some v):w'.cell? a=some v:=f.cell h (by simp)
theorem Rd.fr {n:Nat} {a:Addr} {cs:List Value} (h:Rd w n a cs) (f:Fr [] w w'):Rd w' n a cs:=⟨h.1,λ j v hv=>f.c (h.2 j v hv)⟩
theorem Blk.rd {b:Nat} {T:TypeId} {cs:List Value} (h:Blk w b T cs) {n:Nat} (hn:cs.length=n:=by rfl):Rd w n ⟨b,0,none⟩ cs:=⟨hn,λ j v hv=>h.cell (by rw [Nat.zero_add];exact hv)⟩
theorem Blk.rdo {b:Nat} {T:TypeId} {cs:List Value} (h:Blk w b T cs) (o:Nat) {n:Nat} {es:List Value} (he:(cs.drop o).take n=es:=by rfl) (hn:es.length=n:=by rfl):Rd w n ⟨b,o,none⟩ es:=⟨hn,λ j v hv=>h.cell (by
 subst he
 rw [List.getElem?_take] at hv
 split at hv
 ·rwa [List.getElem?_drop] at hv
 ·cases hv)⟩
theorem r_new {s:Sem Value} {T:TypeId} {v:Value} {cs:List Value} (h:s.run P w=.ok v (w.alloc (.cells cs.toArray T))) (hk:∀ b w',b=w.heap.size→Blk w' b T cs→Fr [] w w'→wp P Z R ds (k v) w' A B):wp P Z R ds (.hv s k) w A B:=
 ⟨v,_,h,hk _ _ rfl (Blk.alloc w T cs) (Fr.alloc w _)⟩
theorem r_box {T:TypeId} {v:Value} {cs:List Value} (hk:∀ b w',b=w.heap.size→Blk w' b T cs→Fr [] w w'→wp P Z R ds (k (Pt b 0)) w' A B) (hc:v.cells=cs.toArray:=by rfl):wp P Z R ds (.hv (Instr.box T v) k) w A B:=
 ⟨_,_,run_inv (x_box (d:=none) (ty:=0) (pos:= "") (af:=#[]) (g:=none) (l:=[]) (x:=.const v) rfl hc r0 fits0),hk _ _ rfl (Blk.alloc w T cs) (Fr.alloc w _)⟩
theorem Fr.st {w0:World} {b:Nat} (h:Fr [] w0 w) (f:Fr [b] w w') (hb:w0.heap.size≤b):Fr [] w0 w':=h.trans_new f (λ q hq=>by simp at hq;subst hq;exact .inr hb)
theorem fold_splice (cs:List Value):∀ (j:Nat) (zs:List Value),(cs.zipIdx j).foldl (λ (x:Array Value) (c:Value × Nat)=>x.setIfInBounds (0+c.2) c.1) zs.toArray=(splice zs j cs).toArray:=by
 induction cs with
 | nil=>intro j zs;rfl
 | cons c r ih =>
  intro j zs
  rw [List.zipIdx_cons,List.foldl_cons]
  simp only [Nat.zero_add,List.setIfInBounds_toArray]
  have:=ih (j+1) (zs.set j c)
  simp only [Nat.zero_add] at this
  rw [this]
  rfl
theorem splice_all (zs cs:List Value) (h:zs.length=cs.length):splice zs 0 cs=cs:=by
 have:=splice_eq cs [] zs [] h
 simpa using this
theorem run_bs1 {T e n:Nat} {z v:Value} {cs zs:List Value} (hu:P.underlying T=some (.slice e)) (hs:∀ w,(sizeOf e).run P w=.ok n w) (hz:∀ w,(zeroValue e).run P w=.ok z w) (hzc:z.cells=zs.toArray) (hzl:zs.length=n) (hv:v.cells=cs.toArray) (hl:cs.length=n) (h0:Nat.blt 0 n=true) (hn:Nat.ble n 1000=true) :
  (Instr.buildSlice T 1 [(0,v)].toArray).run P w=.ok (.slice (some ⟨w.heap.size,0,none⟩) 1 1) (w.alloc (.cells cs.toArray e)):=by
 have h0:0 < n:=by simpa using h0
 have hn:=Nat.le_of_ble_eq_true hn
 have hf:Instr.fill (λ i=>some (i * n,n)) (Array.map (λ x=>(zs.toArray)[x % zs.toArray.size]!) (Array.range (1 * n))) [(0,v)]=some cs.toArray:=by
  have e1:Array.map (λ x=>(zs.toArray)[x % zs.toArray.size]!) (Array.range (1 * n))=zs.toArray:=by
   apply Array.ext
   ·simp [hzl]
   ·intro i h1 h2
    simp at h1 h2
    simp [Nat.mod_eq_of_lt h2,h2]
  rw [e1]
  unfold Instr.fill
  simp only [hv,Nat.zero_mul]
  rw [if_neg (by simp [hzl,hl])]
  unfold Instr.fill
  have:=fold_splice cs 0 zs
  rw [splice_all zs cs (by omega)] at this
  simp only [Nat.zero_add] at this ⊢
  refine congrArg some ?_
  refine Eq.trans ?_ this
  simp
 unfold Instr.buildSlice
 simp only [Sem.run_bind,run_underlying hu,hs,hz,Result.andThen_ok,Sem.run_ite,Sem.run_pure,newRow,run_newObj,hzc]
 rw [if_neg (by omega),if_neg (by omega)]
 simp only [Sem.run_pure,Result.andThen_ok,List.toList_toArray,hf]
 rfl
theorem r_as {ty n:Nat} {z v:Value} {cs zs:List Value} {t:Value→T} (hk:∀ b w',b=w.heap.size→Blk w' b ty cs→Fr [] w w'→wp P Z R ds (t (Pt b 0)) w' A B)
  (hz:∀ w,(zeroValue ty).run P w=.ok z w) (hs:∀ w,(sizeOf ty).run P w=.ok n w) (h1:∀ v∈cs,v.oneCell'=true) (hzc:z.cells=zs.toArray:=by rfl) (hzl:zs.length=n:=by rfl) (hv:v.cells=cs.toArray:=by rfl) (hl:cs.length=n:=by rfl):wp P Z R ds (.hv (Instr.alloc ty true (.tuple #[])) λ p=>.ef (Instr.storeAt ty p v) (t p)) w A B:=by
 obtain ⟨w2,h2,h3,h4⟩:=run_splice (P:=P) cs h1 0 0 (w.alloc (.cells zs.toArray ty)) zs (Blk.alloc w ty zs) (by omega)
 refine ⟨_,_,run_inv (x_alloc (d:=none) (ty:=0) (pos:= "") (af:=#[]) (g:=none) (l:=[]) hz hzc r0 fits0),w2,?_,?_⟩
 ·simp [Instr.storeAt,Instr.sureAddr,storeVar,hs,hv,h2,hl]
 ·refine hk _ w2 rfl ?_ ((Fr.alloc w _).st h4 (Nat.le_refl _))
  rw [splice_all zs cs (by omega)] at h3
  exact h3
theorem r_brk {i:Nat} {vs:List Value} (h:B ds i vs w):wp P Z R ds (.brk i vs) w A B:=h
theorem r_slh {ty e n:Nat} {X:Option Addr} {len cap m:Nat} {kd:IntKind} {j:Int} (hu:P.underlying ty=some (.slice e)) (hs:∀ w,(sizeOf e).run P w=.ok n w) (h0:0≤j) (hj:j≤cap) (hm:j.toNat=m) (hk:wp P Z R ds (k (.slice X m cap)) w A B):wp P Z R ds (.pu (Instr.sliceAt ty (.slice X len cap) none (some (.int kd j)) none) k) w A B:=by
 subst hm
 exact r_pu (o:=⟨none,.slice ty (.const (.slice X len cap)) none (some (.const (.int kd j))) none,0, "",#[],none⟩) (λ w'=>x_slh (l:=[]) rfl rfl hu hs ⟨h0,hj⟩) hk rfl
theorem r_al {ty:Nat} {z:Value} {zs:List Value} (hz:∀ w,(zeroValue ty).run P w=.ok z w) (hk:∀ b w',b=w.heap.size→Blk w' b ty zs→Fr [] w w'→wp P Z R ds (k (Pt b 0)) w' A B) (hzc:z.cells=zs.toArray:=by rfl):wp P Z R ds (.hv (Instr.alloc ty true (.tuple #[])) k) w A B:=
 ⟨_,_,run_inv (x_alloc (d:=none) (ty:=0) (pos:= "") (af:=#[]) (g:=none) (l:=[]) hz hzc r0 fits0),hk _ _ rfl (Blk.alloc w ty zs) (Fr.alloc w _)⟩
theorem r_st1 {ty b o T':Nat} {v:Value} {cs:List Value} (hB:Blk w b T' cs) (hs:∀ w,(sizeOf ty).run P w=.ok 1 w) (hk:∀ w',Blk w' b T' (cs.set o v)→Fr [b] w w'→wp P Z R ds t w' A B) (h1:v.cells=#[v]:=by rfl) (hv:v.oneCell'=true:=by rfl) (ho:Nat.blt o cs.length=true:=by rfl):wp P Z R ds (.ef (Instr.storeAt ty (Pt b o) v) t) w A B:=
 r_ef (o:=⟨none,.store ty (.const (Pt b o)) (.const v),0, "",#[],none⟩) (v_1 (l:=[]) rfl rfl h1 hv hs hB (by simpa using ho)) (λ w' h=>hk w' h.1 h.2) rfl
theorem r_stn {ty b n T':Nat} {v:Value} {cs zs:List Value} (hB:Blk w b T' zs) (hs:∀ w,(sizeOf ty).run P w=.ok n w) (h1:∀ v∈cs,v.oneCell'=true) (hk:∀ w',Blk w' b T' cs→Fr [b] w w'→wp P Z R ds t w' A B) (hv:v=.agg cs.toArray:=by rfl) (hl:cs.length=n:=by rfl) (hz:zs.length=n:=by rfl):wp P Z R ds (.ef (Instr.storeAt ty (Pt b 0) v) t) w A B:=by
 subst hv
 refine r_ef (o:=⟨none,.store ty (.const (Pt b 0)) (.const (.agg cs.toArray)),0, "",#[],none⟩) (v_n (l:=[]) rfl rfl h1 hs hl hB (by omega)) (λ w' h=>hk w' ?_ h.2) rfl
 have:=h.1
 rwa [splice_all zs cs (by omega)] at this
end
end Go.Proofs.YtppodgdhdddfkaaGreatDoor.Sx
set_option linter.unusedVariables false
set_option linter.unusedSimpArgs false
namespace Go.Proofs.YtppodgdhdddfkaaGreatDoor.Sx
open Go Go.RowKit
structure Rl (α:Type) where
 n:Nat
 r:World→List Value→α→Prop
 len:∀ {w cs x},r w cs x→cs.length=n
 one:∀ {w cs x},r w cs x→∀ v∈cs,v.oneCell'=true
 up:∀ {w w' cs x},Fr [] w w'→r w cs x→r w' cs x
def Rw {α:Type} (e:Rl α) (w:World) (A:Option Addr) (xs:List α):Prop:=∀ (j:Nat) x,xs[j]? = some x→∃ a es,A=some a∧Rd w e.n (addA a (j * e.n)) es∧e.r w es x
theorem Rw.up {α:Type} {e:Rl α} {w w':World} {A:Option Addr} {xs:List α} (h:Rw e w A xs) (f:Fr [] w w'):Rw e w' A xs:=λ j x hj=>let ⟨a,es,h1,h2,h3⟩:=h j x hj;⟨a,es,h1,h2.fr f,e.up f h3⟩
theorem Rw.take {α:Type} {e:Rl α} {w:World} {A:Option Addr} {xs:List α} (h:Rw e w A xs) (m:Nat):Rw e w A (xs.take m):=λ j x hj=>h j x (by rw [List.getElem?_take] at hj;split at hj;exact hj;cases hj)
theorem Rw.nil {α:Type} {e:Rl α} {w:World} {A:Option Addr}:Rw e w A []:=λ j x hj=>by simp at hj
theorem one1 {v:Value} (h:v.oneCell'=true):∀ u∈[v],u.oneCell'=true:=λ u hu=>by simp at hu;subst hu;exact h
def rE {α:Type} (enc:α→List Value) (n:Nat) (hl:∀ x,(enc x).length=n) (h1:∀ x,∀ v∈enc x,v.oneCell'=true):Rl α:=⟨n,λ _ cs x=>cs=enc x,λ h=>by rw [h,hl],λ h=>by rw [h];exact h1 _,λ _ h=>h⟩
def rI (kd:IntKind):Rl Int:=rE (λ z=>[.int kd z]) 1 (λ _=>rfl) (λ _=>one1 rfl)
def rB:Rl Bool:=rE (λ z=>[.bool z]) 1 (λ _=>rfl) (λ _=>one1 rfl)
def rS:Rl ByteArray:=rE (λ z=>[.string z]) 1 (λ _=>rfl) (λ _=>one1 rfl)
abbrev big:Nat:=140737488355328
def rL {α:Type} (e:Rl α):Rl (List α):=⟨1,λ w cs xs=>∃ A c,cs=[.slice A xs.length c]∧xs.length≤c∧xs.length≤big∧Rw e w A xs,λ ⟨_,_,h,_⟩=>by rw [h];rfl,λ ⟨_,_,h,_⟩=>by rw [h];exact one1 rfl,λ f ⟨A,c,h,h2,h3,h4⟩=>⟨A,c,h,h2,h3,h4.up f⟩⟩
def rP {α β:Type} (a:Rl α) (b:Rl β):Rl (α × β):=⟨a.n+b.n,λ w cs p=>∃ c1 c2,cs=c1++c2∧a.r w c1 p.1∧b.r w c2 p.2,
 λ ⟨_,_,h,h1,h2⟩=>by rw [h,List.length_append,a.len h1,b.len h2],λ ⟨_,_,h,h1,h2⟩ v hv=>by rw [h] at hv;rcases List.mem_append.1 hv with hv | hv;exact a.one h1 v hv;exact b.one h2 v hv,
 λ f ⟨c1,c2,h,h1,h2⟩=>⟨c1,c2,h,a.up f h1,b.up f h2⟩⟩
def Rl.via {α β:Type} (a:Rl α) (f:β→α):Rl β:=⟨a.n,λ w cs x=>a.r w cs (f x),λ h=>a.len h,λ h=>a.one h,λ f h=>a.up f h⟩
def Sl {α:Type} (e:Rl α) (w:World) (v:Value) (xs:List α):Prop:=∃ A c,v=.slice A xs.length c∧xs.length≤c∧xs.length≤big∧Rw e w A xs
theorem Sl.r {α:Type} {e:Rl α} {w:World} {v:Value} {xs:List α} (h:Sl e w v xs):(rL e).r w [v] xs:=let ⟨A,c,h1,h2⟩:=h;⟨A,c,by rw [h1],h2⟩
theorem Sl.up {α:Type} {e:Rl α} {w w':World} {v:Value} {xs:List α} (h:Sl e w v xs) (f:Fr [] w w'):Sl e w' v xs:=let ⟨A,c,h1,h2,h3,h4⟩:=h;⟨A,c,h1,h2,h3,h4.up f⟩
theorem Sl.nil {α:Type} {e:Rl α} {w:World}:Sl e w (.slice none 0 0) []:=⟨none,0,rfl,Nat.le_refl _,Nat.zero_le _,Rw.nil⟩
theorem gt {α:Type} {xs:List α} {j:Nat} (h:j < xs.length):∃ x,xs[j]? = some x:=⟨_,List.getElem?_eq_getElem h⟩
section
variable {α:Type} {enc:α→List Value} {n:Nat}
def Ow (enc:α→List Value) (n ty base:Nat) (w:World) (v:Value) (xs:List α):Prop:=w.ownsRow base ty n v xs.length (flat enc xs)
theorem Ow.row {ty base:Nat} {w:World} {v:Value} {xs:List α} {hl:∀ x,(enc x).length=n} {h1:∀ x,∀ v∈enc x,v.oneCell'=true} (h:Ow enc n ty base w v xs) (h0:0 < n) (hb:xs.length≤big):Sl (rE enc n hl h1) w v xs:=by
 obtain ⟨A,c,hv,_⟩:=own_slice h
 subst hv
 refine ⟨A,c,rfl,?_,hb,λ j x hj=>?_⟩
 ·exact own_cap h
 ·obtain ⟨_,⟨e1,e2⟩ | ⟨g,cap,cur,e1,hg,hh,hn,hm,hs,ht⟩⟩:=h
  ·have:=(List.getElem?_eq_some_iff.1 hj).1
   injection e1 with _ e3
   omega
  ·injection e1 with e3
   subst e3
   refine ⟨_,enc x,rfl,⟨hl x,λ i v hv=>?_⟩,rfl⟩
   have hi:i < n:=by have:=(List.getElem?_eq_some_iff.1 hv).1;rwa [hl] at this
   have hb:Blk w g ty (flat enc xs++cur.toList.drop (xs.length * n)):=by
    unfold Blk
    rw [hh,← ht,List.take_append_drop]
   have hf:=flat_get hl hj hi
   rw [hv] at hf
   show w.cell? ⟨g,0+j * n+i,none⟩=some v
   rw [Nat.zero_add]
   exact hb.cell (by rw [List.getElem?_append_left (List.getElem?_eq_some_iff.1 hf).1];exact hf)
end
section
variable {P:Program} {Z:ZP} {R:Value→World→Prop} {w w':World} {A:List Nat→List Value→World→Prop} {B:List Nat→Nat→List Value→World→Prop} {ds:List Nat} {k:Value→T} {t u:T}
structure El (P:Program) (T e n bytes:Nat) (z:Value):Prop where
 u:P.underlying T=some (.slice e)
 i:(P.info? e).map (λ i=>(i.zero,i.size,i.bytes))=some (some z,n,bytes)
 s:∀ w,(sizeOf e).run P w=.ok n w
 zv:∀ w,(zeroValue e).run P w=.ok z w
 c:z.cells.size=n
theorem r_bs1 {T e n bytes:Nat} {z v:Value} {cs:List Value} (E:El P T e n bytes z) (hk:∀ b w',b=w.heap.size→Blk w' b e cs→Fr [] w w'→wp P Z R ds (k (.slice (some ⟨b,0,none⟩) 1 1)) w' A B) (hv:v.cells=cs.toArray:=by rfl) (hl:cs.length=n:=by rfl) (h0:Nat.blt 0 n=true:=by rfl) (hn:Nat.ble n 1000=true:=by rfl):wp P Z R ds (.hv (Instr.buildSlice T 1 [(0,v)].toArray) k) w A B:=
 ⟨_,_,run_bs1 (zs:=z.cells.toList) E.u E.s E.zv (by simp) (by simpa using E.c) hv hl h0 hn,hk _ _ rfl (Blk.alloc w e cs) (Fr.alloc w _)⟩
end
end Go.Proofs.YtppodgdhdddfkaaGreatDoor.Sx
set_option linter.unusedVariables false
set_option linter.unusedSimpArgs false
namespace Go.Proofs.YtppodgdhdddfkaaGreatDoor.Sx
open Go Go.RowKit
section
variable {w w':World} {base e n size:Nat} {v:Value} {xs:List Value}
theorem own_keep (h:w.ownsRow base e size v n xs) (k:∀ q,v.ownBlock=some q→w'.heap[q]? = w.heap[q]?):w'.ownsRow base e size v n xs:=by
 obtain ⟨hl,h | ⟨g,cap,cur,rfl,hg,hh,r⟩⟩:=h
 ·exact ⟨hl,.inl h⟩
 ·exact ⟨hl,.inr ⟨g,cap,cur,rfl,hg,(k g rfl).trans hh,r⟩⟩
theorem own_lt (h:w.ownsRow base e size v n xs):∀ q∈v.ownBlock.toList,base≤q∧q < w.heap.size:=by
 intro q hq
 cases hv:v.ownBlock with
 | none=>rw [hv] at hq;simp at hq
 | some g=>rw [hv] at hq;simp at hq;subst hq;exact h.lt _ hv
theorem own_f {S:List Nat} (h:w.ownsRow base e size v n xs) (f:Fr S w w') (hS:∀ q∈v.ownBlock.toList,q∉S):w'.ownsRow base e size v n xs:=
 own_keep h (λ q hq=>f.keep q (h.lt q hq).2 (hS q (by simp [hq])))
theorem own_int {ys:List Int} (h:w.ownsRow base e 1 v ys.length (ints ys)):∃ A c,v=.slice A ys.length c∧∀ (k:Nat) z,ys[k]? = some z→∃ ad,A=some ad∧w.cell? (addA ad (((k:Nat):Int).toNat * 1))=some (I z):=by
 obtain ⟨A,c,e1,h2⟩:=own_slice h
 refine ⟨A,c,e1,λ k z hz=>?_⟩
 have hlt:=(List.getElem?_eq_some_iff.1 hz).1
 rcases h2 with h2 | h2 | ⟨b,rfl,_,_,h2⟩
 ·rw [ints,List.map_eq_nil_iff] at h2;subst h2;simp at hlt
 ·omega
 ·refine ⟨_,rfl,?_⟩
  have:=h2 k (I z) (by rw [ints,List.getElem?_map,hz];rfl)
  rw [addA_eq,addr_add]
  simpa using this
end
section
variable {P:Program} {Z:ZP} {R:Value→World→Prop} {w w':World} {A:List Nat→List Value→World→Prop} {B:List Nat→Nat→List Value→World→Prop} {ds:List Nat} {k:Value→T} {t u:T}
theorem r_appO {T e n bytes base ty m len c:Nat} {z v:Value} {xs news:List Value} {X:Option Addr} (E:El P T e n bytes z) (HO:w.ownsRow base e n v len xs) (hl:news.length=m * n) (hX:X=none→m=0) (hnews:∀ ad,X=some ad→∀ j u,news[j]? = some u→w.cell? (addA ad j)=some u) (h1:∀ v∈news,v.oneCell'=true) (hb:(len+m) * bytes≤big) (hbase:base≤w.heap.size)
  (hk:∀ v' w',w'.ownsRow base e n v' (len+m) (xs++news)→Fr v.ownBlock.toList w w'→(v'.ownBlock=v.ownBlock∨v'.ownBlock=some w.heap.size)→wp P Z R ds (k v') w' A B) (h0:Nat.blt 0 n=true:=by rfl) (hby:Nat.blt 0 bytes=true:=by rfl):wp P Z R ds (.hv (Builtin.append_ #[T,T] ty [v,.slice X m c].toArray) k) w A B:=by
 have h0:0 < n:=by simpa using h0
 have hby:0 < bytes:=by simpa using hby
 have hbig:len+m≤140737488355328:=Nat.le_trans (Nat.le_mul_of_pos_right _ hby) hb
 obtain ⟨v',w',h1,h2⟩:=e_appv (P:=P) (w:=w) (l:=[]) (d:=none) (ty:=ty) (pos:= "") (af:=#[]) (g:=none) (s:=.const v) (x:=.const (.slice X m c)) n bytes z news rfl rfl E.u E.i E.c h0 HO hl hX (λ ad he j u hj=>by rw [← addA_eq];exact hnews ad he j u hj) h1 hb hbig hbase r0 fits0
 refine ⟨v',w',?_,hk v' w' h2.1 (Fr.of_grown h2.2.1) h2.2.2⟩
 refine run_inv ?_
 rw [← h1]
 simp [execOp,resolve,invoke,builtin,r0]
theorem Rg.row {L:Nat} {σ:Type} {st:σ→List Value→σ→Prop} {J:List Nat→σ→World→Prop} {K:List Nat→World→Prop} (RG:Rg P L st J K) {s:σ} {v:Value} {base e n len:Nat} {xs:List Value} (h0:J [] s w) (HO:w'.ownsRow base e n v len xs) (hb:w.heap.size≤base) (f:Fr [] w w'):J v.ownBlock.toList s w':=by
 cases hv:v.ownBlock with
 | none=>exact (RG.js s).1 _ _ _ h0 f
 | some g=>exact (RG.js s).1 _ _ _ ((RG.js s).2 _ _ g h0 (Nat.le_trans hb (HO.lt g hv).1)) (f.mono (by simp))
def St (xs:List Int):Nat→List Value→Nat→Prop:=λ m vs m'=>∃ z,xs[m]? = some z∧vs=[I z]∧m'=m+1
end
end Go.Proofs.YtppodgdhdddfkaaGreatDoor.Sx
set_option linter.unusedVariables false
set_option linter.unusedSimpArgs false
namespace Go.Proofs.YtppodgdhdddfkaaGreatDoor.Sx
open Go Go.RowKit
theorem own_nd {w:World} {base e n size D:Nat} {v:Value} {xs:List Value} {x:Option (List Deferred)} (h:w.ownsRow base e size v n xs) (hD:w.heap[D]? = some (.deferred x)):∀ q∈v.ownBlock.toList,q≠D:=by
 intro q hq e
 subst e
 obtain ⟨_,⟨rfl,_⟩ | ⟨g,cap,cur,rfl,_,hh,_⟩⟩:=h
 ·simp [Value.ownBlock] at hq
 ·simp [Value.ownBlock] at hq
  subst hq
  rw [hh] at hD
  cases hD
abbrev U (b:BitVec 64):Value:=.int .u64 (b.toNat:Nat)
namespace Bt
theorem wrap_u (z:Int):IntKind.u64.wrap z=z % 18446744073709551616:=by simp [IntKind.wrap,IntKind.bits,IntKind.signed]
theorem of_u (a:BitVec 64):BitVec.ofInt (IntKind.bits .u64) ((a.toNat:Nat):Int)=a:=by
 apply BitVec.eq_of_toNat_eq
 simp [IntKind.bits]
theorem back (a:BitVec 64):IntKind.u64.wrap ((a.toNat:Nat):Int)=a.toNat:=by
 have h:=a.isLt
 rw [wrap_u]
 omega
theorem val (i:Nat) (hi:i < 64):IntKind.u64.wrap (1 * 2 ^ i)=(((1#64) <<< i).toNat:Nat):=by
 rw [wrap_u,BitVec.toNat_shiftLeft,Nat.shiftLeft_eq]
 simp
theorem get1 {i j:Nat} (hi:i < 64):((1#64) <<< i).getLsbD j=decide (j=i):=by
 rw [BitVec.getLsbD_shiftLeft]
 by_cases h:j=i
 ·subst h
  simp [hi]
 ·rw [decide_eq_false h]
  by_cases h1:j < i
  ·simp [h1]
  ·have:¬ (j-i=0):=by omega
   simp [BitVec.getLsbD_one,this]
theorem ext {a b:BitVec 64} (h:∀ j,j < 64→a.getLsbD j=b.getLsbD j):a=b:=BitVec.eq_of_getLsbD_eq h
theorem zero_iff (a:BitVec 64):((a.toNat:Nat):Int)=0↔∀ j,j < 64→a.getLsbD j=false:=by
 constructor
 ·intro e j _
  have e1:a.toNat=(0#64).toNat:=by simpa using e
  rw [BitVec.eq_of_toNat_eq e1]
  simp
 ·intro h
  have:a=0#64:=ext (λ j hj=>by rw [h j hj];simp)
  rw [this];rfl
theorem and1 (s:BitVec 64) {i:Nat} (hi:i < 64):decide (¬ ((((s &&& ((1#64) <<< i)).toNat:Nat)):Int)=0)=s.getLsbD i:=by
 cases h:s.getLsbD i with
 | true =>
  refine decide_eq_true (λ e=>?_)
  have:=(zero_iff _).1 e i hi
  rw [BitVec.getLsbD_and,h,get1 hi] at this
  simp at this
 | false =>
  refine decide_eq_false (λ hne=>hne ((zero_iff _).2 (λ j hj=>?_)))
  rw [BitVec.getLsbD_and,get1 hi]
  by_cases hji:j=i
  ·subst hji;simp [h]
  ·simp [hji]
theorem or1 (s:BitVec 64) {i:Nat} (hi:i < 64) (j:Nat):(s ||| ((1#64) <<< i)).getLsbD j=(s.getLsbD j || decide (j=i)):=by
 rw [BitVec.getLsbD_or,get1 hi]
theorem andn_zero (a b:BitVec 64):((((a &&& ~~~b).toNat:Nat):Int)=0)↔∀ j,j < 64→a.getLsbD j=true→b.getLsbD j=true:=by
 rw [zero_iff]
 constructor
 ·intro h j hj ha
  have:=h j hj
  rw [BitVec.getLsbD_and,ha,BitVec.getLsbD_not] at this
  simpa [hj] using this
 ·intro h j hj
  rw [BitVec.getLsbD_and,BitVec.getLsbD_not]
  cases ha:a.getLsbD j with
  | false=>simp
  | true=>simp [h j hj ha]
def mem (s:BitVec 64):List Nat:=(List.range 64).filter (λ i=>s.getLsbD i)
theorem mem_iff {s:BitVec 64} {i:Nat}:i∈mem s↔i < 64∧s.getLsbD i=true:=by
 unfold mem
 rw [List.mem_filter,List.mem_range]
def memI (s:BitVec 64):List Int:=(mem s).map (λ i:Nat=>(i:Int))
def cnt (s:BitVec 64) (k:Nat):Nat:=((List.range k).filter (λ i=>s.getLsbD i)).length
theorem cnt_succ (s:BitVec 64) (k:Nat):cnt s (k+1)=cnt s k+if s.getLsbD k=true then 1 else 0:=by
 unfold cnt
 rw [List.range_succ,List.filter_append,List.length_append]
 congr 1
 by_cases h:s.getLsbD k=true<;>simp [h]
theorem cnt_all (s:BitVec 64):cnt s 64=(memI s).length:=by unfold memI mem cnt;rw [List.length_map]
theorem cnt_at {s:BitVec 64} {k:Nat} (hk:k < 64) (h:s.getLsbD k=true):(memI s)[cnt s k]? = some (k:Int):=by
 unfold memI mem cnt
 rw [List.getElem?_map]
 have e:List.range 64=List.range k++(k :: (List.range' (k+1) (63-k))):=by
  have h1:List.range 64=List.range' 0 k++List.range' k (64-k):=by
   have:=@List.range'_append_1 0 k (64-k)
   rw [Nat.zero_add] at this
   rw [List.range_eq_range',this]
   congr 1;omega
  rw [h1,← List.range_eq_range',show 64-k=(63-k)+1 by omega,List.range'_succ]
 rw [e,List.filter_append,List.getElem?_append_right (Nat.le_refl _),Nat.sub_self,List.filter_cons,if_pos h]
 rfl
def has (s:BitVec 64) (i:Int):Bool:=decide (0≤i∧i < 64) && s.getLsbD i.toNat
end Bt
section
variable {P:Program} {Z:ZP} {R:Value→World→Prop} {w:World} {A:List Nat→List Value→World→Prop} {B:List Nat→Nat→List Value→World→Prop} {ds:List Nat} {k:Value→T} {t ty2:TypeId} {a b:BitVec 64}
theorem r_and (h:wp P Z R ds (k (U (a &&& b))) w A B):wp P Z R ds (.pu (binOp .and t (U a) (U b)) k) w A B:=by
 have e:(Op.intBits .and .u64 (a.toNat:Nat) (b.toNat:Nat))=pure (.int .u64 ((a &&& b).toNat:Nat)):=by
  unfold Op.intBits
  rw [Bt.of_u a,Bt.of_u b]
  exact congrArg (λ z=>pure (Value.int .u64 z)) (Bt.back (a &&& b))
 exact ⟨_,λ w'=>by rw [binOp_and,e];rfl,h⟩
theorem r_or (h:wp P Z R ds (k (U (a ||| b))) w A B):wp P Z R ds (.pu (binOp .or t (U a) (U b)) k) w A B:=by
 have e:(Op.intBits .or .u64 (a.toNat:Nat) (b.toNat:Nat))=pure (.int .u64 ((a ||| b).toNat:Nat)):=by
  unfold Op.intBits
  rw [Bt.of_u a,Bt.of_u b]
  exact congrArg (λ z=>pure (Value.int .u64 z)) (Bt.back (a ||| b))
 exact ⟨_,λ w'=>by rw [binOp_or,e];rfl,h⟩
theorem r_shl1 {kd:IntKind} {i:Nat} (hi:i < 64) (h:wp P Z R ds (k (U ((1#64) <<< i))) w A B):wp P Z R ds (.pu (binOp .shl t (.int .u64 1) (.int kd i)) k) w A B:=by
 have e:Op.shift .shl .u64 1 kd i=pure (.int .u64 (((1#64) <<< i).toNat:Nat)):=by
  unfold Op.shift
  rw [if_neg (by omega)]
  have hm:min ((i:Int).toNat) (IntKind.bits .u64)=i:=by simp [IntKind.bits];omega
  simp only [hm]
  exact congrArg (λ z=>pure (Value.int .u64 z)) (Bt.val i hi)
 exact ⟨_,λ w'=>by rw [binOp_shl,e];rfl,h⟩
theorem r_shr {kd:IntKind} {i:Nat} (hi:i < 64) (h:wp P Z R ds (k (U (a >>> i))) w A B):wp P Z R ds (.pu (binOp .shr t (U a) (.int kd i)) k) w A B:=by
 have e:Op.shift .shr .u64 ((a.toNat:Nat):Int) kd i=pure (.int .u64 ((a >>> i).toNat:Nat)):=by
  unfold Op.shift
  rw [if_neg (by omega)]
  have hm:min ((i:Int).toNat) (IntKind.bits .u64)=i:=by simp [IntKind.bits];omega
  simp only [hm]
  have:((a.toNat:Nat):Int).fdiv (2 ^ i)=(((a >>> i).toNat:Nat):Int):=by
   rw [Int.fdiv_eq_ediv_of_nonneg _ (Int.pow_nonneg (by decide)),BitVec.toNat_ushiftRight,Nat.shiftRight_eq_div_pow]
   simp
  rw [this]
 exact ⟨_,λ w'=>by rw [binOp_shr,e];rfl,h⟩
theorem r_cu {i:Nat} (hi:i < 18446744073709551616) (h:wp P Z R ds (k (.int .u64 i)) w A B):wp P Z R ds (.ar .u64 i k) w A B:=r_are (by rw [Bt.wrap_u];omega) h
end
end Go.Proofs.YtppodgdhdddfkaaGreatDoor.Sx
