import Derived.Test.YtppodgdhdddfkaaGreatDoorQMq
import Derived.Test.YtppodgdhdddfkaaGreatDoorQTr
import Derived.Test.YtppodgdhdddfkaaGreatDoorQMk
set_option linter.unusedVariables false
set_option linter.unusedSimpArgs false
namespace Go.Proofs.YtppodgdhdddfkaaGreatDoor.Cg
set_option maxRecDepth 100000
open Go Go.RowKit Go.Proofs.YtppodgdhdddfkaaGreatDoor.Sx
open Go.Proofs.YtppodgdhdddfkaaGreatDoor.Cf
open Go.Proofs.YtppodgdhdddfkaaGreatDoor.Sg
theorem idx_pre:∀ (s p:Bs) (i:Nat),Lib.index s p=(i:Int)→p.isPrefixOf (s.drop i)=true:=by
 intro s p
 induction s with
 | nil =>
  intro i h
  unfold Lib.index at h
  cases p with
  | nil=>simp
  | cons b r=>simp at h<;>omega
 | cons b l ih =>
  intro i h
  unfold Lib.index at h
  split at h
  ·rename_i h1
   have:i=0:=by omega
   subst this
   exact h1
  ·by_cases h2:Lib.index l p = -1
   ·rw [if_pos (beq_iff_eq.2 h2)] at h;omega
   ·rw [if_neg (λ e=>h2 (beq_iff_eq.1 e))] at h
    cases i with
    | zero =>
     have:=Lib.index_ge l p
     omega
    | succ i =>
     have h3:Lib.index l p=(i:Int):=by omega
     have:=ih i h3
     simpa using this
def wordOf (i:Int):Bs:=if i=1 then kFlows else if i=2 then kTen else if i=3 then kCh else if i=4 then kLane else if i=5 then kRec else if i=6 then kGate else if i=7 then kFrame else kBud
theorem kinds_at:∀ i:Fin 54,kinds[i.val]? = some 32→(splitP 32 (kinds.drop (i.val+1))).headD []=[]∨(splitP 32 (kinds.drop (i.val+1))).headD []=wordOf (((kinds.take (i.val+1)).count 32:Nat):Int):=by decide
theorem kinds_cnt:∀ i:Fin 53,1≤(kinds.take (i.val+1)).count 32∧(kinds.take (i.val+1)).count 32≤8:=by decide
theorem rank_word {k:Bs} (hk:(32:UInt8)∉k) (h:rankI k≠0):k=wordOf (rankI k)∧1≤rankI k∧rankI k≤8:=by
 unfold rankI at h ⊢
 by_cases h1:Lib.index kinds ([32]++k++[32]) < 0
 ·rw [if_pos h1] at h;exact absurd rfl h
 rw [if_neg h1] at h ⊢
 by_cases h2:k=[]
 ·rw [if_pos h2] at h;exact absurd rfl h
 rw [if_neg h2] at h ⊢
 obtain ⟨i,hi⟩:∃ i:Nat,Lib.index kinds ([32]++k++[32])=(i:Int):=⟨(Lib.index kinds ([32]++k++[32])).toNat,by omega⟩
 have h3:=idx_fit kinds ([32]++k++[32])
 have hpl:([32]++k++[32]).length=k.length+2:=by simp
 have hkl:kinds.length=54:=rfl
 have hk0:0 < k.length:=List.length_pos_iff.2 h2
 have hp:=idx_pre _ _ _ hi
 obtain ⟨t,ht⟩:=List.isPrefixOf_iff_prefix.1 hp
 have hil:i < 53:=by omega
 rw [hi]
 have e1:(((i:Nat):Int)+1).toNat=i+1:=by omega
 rw [e1]
 have h32:kinds[i]? = some 32:=by
  have:=congrArg (λ l=>l[0]?) ht
  simp at this
  exact this.symm
 have hd:kinds.drop (i+1)=k++32 :: t:=by
  rw [← List.drop_drop,← ht]
  simp
 have hs:(splitP 32 (kinds.drop (i+1))).headD []=k:=by rw [hd,splitP_app hk];rfl
 obtain ⟨c1,c2⟩:=kinds_cnt ⟨i,hil⟩
 refine ⟨?_,by exact_mod_cast c1,by exact_mod_cast c2⟩
 rcases kinds_at ⟨i,by omega⟩ h32 with h4 | h4
 ·rw [hs] at h4;exact absurd h4 h2
 ·rw [hs] at h4;exact h4
theorem split_no {c:UInt8} {a:Bs}:∀ x∈splitP c a,c∉x:=by
 induction a with
 | nil=>simp [splitP]
 | cons b r ih =>
  unfold splitP
  split
  ·intro x hx
   rcases List.mem_cons.1 hx with rfl | hx
   ·simp
   ·exact ih x hx
  ·rename_i hb
   have hne:=splitP_ne c r
   obtain ⟨y,l,e⟩:=List.exists_cons_of_ne_nil hne
   rw [e] at ih ⊢
   intro x hx
   rcases List.mem_cons.1 hx with rfl | hx
   ·intro h
    rcases List.mem_cons.1 h with h | h
    ·exact hb h.symm
    ·exact ih y (by simp) h
   ·exact ih x (by simp at hx ⊢;exact .inr hx)
theorem head_no (a:Bs):(32:UInt8)∉(splitP 32 a).headD []:=by
 obtain ⟨y,l,e⟩:=List.exists_cons_of_ne_nil (splitP_ne 32 a)
 rw [e]
 exact split_no (a:=a) y (by rw [e];simp)
theorem numsN_ok {n:Nat} {l:List Bs} {v:List Int} (h:numsN n l=some v):n≤v.length∧∀ x∈v,in64 x:=by
 unfold numsN at h
 by_cases hn:l.length < n
 ·rw [if_pos hn] at h;cases h
 ·rw [if_neg hn] at h
  obtain ⟨e1,e2⟩:=numsP_len h
  exact ⟨by omega,e2⟩
structure IV (s:RS) (ls:List Bs):Prop where
 li:ls=lines3 s.c++(if 7≤s.was then [kFrame++nums s.c.frame] else [])++(if s.was=8 then [kBud++nums [s.c.budget,s.c.requests,s.c.pending]] else [])
 te:s.was < 2→s.c.tenants=[]
 ch:s.was < 3→s.c.channels=[]
 ga:s.was < 6→s.c.gates=[]
 re:s.was < 5→∀ x,s.c.channels.getLast? = some x→x.receivers=[]
 ne:3≤s.was∧s.was≤5→s.c.channels≠[]
 i64:In64 s.c
 wr:0≤s.was∧s.was≤8
 m:manyP s.c=false
theorem iv0:IV s0 []:=⟨by simp [s0,c0,lines3,lines2,lines1],λ _=>rfl,λ _=>rfl,λ _=>rfl,λ _ x h=>by simp [s0,c0] at h,λ h=>by simp [s0] at h,⟨by simp [s0,c0,Wf],by simp [s0,c0],by simp [s0,c0],by simp [s0,c0],by simp [s0,c0],by simp [s0,c0,in64]⟩,by simp [s0],by decide⟩
theorem ofB_lt (v:List Int):0≤(((ofB v).toNat:Nat):Int)∧(((ofB v).toNat:Nat):Int) < 18446744073709551616:=by
 have:=(ofB v).isLt
 omega
theorem flowL_of (b:BitVec 64):flowL ((b.toNat:Nat):Int)=kFlows++nums (Bt.memI b):=by
 unfold flowL
 rw [show BitVec.ofInt 64 ((b.toNat:Nat):Int)=b from Bt.of_u b]
theorem last_snoc {l:List GChannel} (h:l≠[]):∃ cs x,l=cs++[x]:=⟨l.dropLast,l.getLast h,(List.dropLast_concat_getLast h).symm⟩
theorem iv_step {s s':RS} {ls:List Bs} {l:Bs} (I:IV s ls) (h:takeP s l=some s'):IV s' (ls++[l]):=by
 obtain ⟨hm,hw,hf,p,hp,hl,hc⟩:=takeP_ok h
 have hne:=takeP_ch h I.ne
 have hk:=head_no l
 obtain ⟨k,hkk⟩:∃ k,k=(splitP 32 l).headD []:=⟨_,rfl⟩
 rw [← hkk] at hw hp hk
 have hr0:=follows_0 hf
 rw [hw] at hr0
 obtain ⟨hword,hr1,hr8⟩:=rank_word hk hr0
 rw [← hw] at hword hr1 hr8
 obtain ⟨c',was'⟩:=s'
 obtain ⟨c,was⟩:=s
 dsimp only at hm hw hf hp hc hne hword hr1 hr8
 obtain ⟨li,te,ch,ga,re,ne,i64,wr,m0⟩:=I
 dsimp only at li te ch ga re ne i64 wr m0
 clear h hw hkk hr0
 generalize bod (splitP 32 l).tail=rest at hp
 generalize opn (splitP 32 l).tail=o at hp
 subst hc
 subst hl
 have h8:was'=1∨was'=2∨was'=3∨was'=4∨was'=5∨was'=6∨was'=7∨was'=8:=by omega
 unfold caseP at hp
 unfold followsI at hf
 rcases h8 with rfl | rfl | rfl | rfl | rfl | rfl | rfl | rfl
 ·
  have hf:was≤1:=by simpa using hf
  rw [if_pos rfl] at hp
  obtain ⟨v,hv,hp⟩:=Option.bind_eq_some_iff.1 hp
  by_cases hok:okB v=true
  ·rw [if_pos hok] at hp
   cases hp
   have ht:=te (by omega)
   have hc:=ch (by omega)
   have hg:=ga (by omega)
   refine ⟨?_,λ _=>ht,λ _=>hc,λ _=>hg,λ _ x hx=>(by rw [hc] at hx;cases hx),hne,⟨?_,i64.te,i64.ch,i64.ga,i64.fr,i64.bu⟩,(show (0:Int)≤1∧(1:Int)≤8 by decide),hm⟩
   ·dsimp only
    rw [li,if_neg (by omega),if_neg (by omega),if_neg (by decide),if_neg (by decide)]
    have e:k=kFlows:=hword
    rw [e,← flowL_of]
    simp [lines3,lines2,lines1,ht,hc,hg]
   ·intro z hz
    rcases List.mem_append.1 hz with hz | hz
    ·exact i64.fl z hz
    ·simp only [List.mem_singleton] at hz;subst hz;exact ofB_lt v
  ·rw [if_neg hok] at hp;cases hp
 ·
  have hf:was≤2:=by simpa using hf
  rw [if_neg (by decide),if_pos rfl] at hp
  obtain ⟨v,hv,hp⟩:=Option.bind_eq_some_iff.1 hp
  obtain ⟨hn,h64⟩:=numsN_ok hv
  obtain ⟨a,b,t,rfl⟩:∃ a b t,v=a :: b :: t:=by match v,hn with | a :: b :: t,_=>exact ⟨a,b,t,rfl⟩
  cases hp
  have hc:=ch (by omega)
  have hg:=ga (by omega)
  refine ⟨?_,λ h=>absurd h (show ¬ (2:Int) < 2 by decide),λ _=>hc,λ _=>hg,λ _ x hx=>(by rw [hc] at hx;cases hx),hne,⟨i64.fl,?_,i64.ch,i64.ga,i64.fr,i64.bu⟩,(show (0:Int)≤2∧(2:Int)≤8 by decide),hm⟩
  ·dsimp only
   rw [li,if_neg (by omega),if_neg (by omega),if_neg (by decide),if_neg (by decide)]
   have e:k=kTen:=hword
   rw [e]
   simp [lines3,lines2,lines1,hc,hg,tenL]
  ·intro x hx
   rcases List.mem_append.1 hx with hx | hx
   ·exact i64.te x hx
   ·simp only [List.mem_singleton] at hx;subst hx;exact ⟨h64 a (by simp),h64 b (by simp)⟩
 ·
  have hf:was≤5:=by simpa using hf
  rw [if_neg (by decide),if_neg (by decide),if_pos rfl] at hp
  obtain ⟨v,hv,hp⟩:=Option.bind_eq_some_iff.1 hp
  obtain ⟨hn,h64⟩:=numsN_ok hv
  obtain ⟨a,t,rfl⟩:∃ a t,v=a :: t:=by match v,hn with | a :: t,_=>exact ⟨a,t,rfl⟩
  cases hp
  have hg:=ga (by omega)
  refine ⟨?_,λ h=>absurd h (show ¬ (3:Int) < 2 by decide),λ h=>absurd h (show ¬ (3:Int) < 3 by decide),λ _=>hg,λ _ x hx=>?_,hne,⟨i64.fl,i64.te,?_,i64.ga,i64.fr,i64.bu⟩,(show (0:Int)≤3∧(3:Int)≤8 by decide),hm⟩
  ·dsimp only
   rw [li,if_neg (by omega),if_neg (by omega),if_neg (by decide),if_neg (by decide)]
   have e:k=kCh:=hword
   rw [e]
   simp [lines3,lines2,lines1,hg,chL]
  ·simp at hx;subst hx;rfl
  ·intro x hx
   rcases List.mem_append.1 hx with hx | hx
   ·exact i64.ch x hx
   ·simp only [List.mem_singleton] at hx;subst hx;exact ⟨h64 a (by simp),by simp,by simp⟩
 ·
  have hf:was=3∨was=4:=by simpa using hf
  rw [if_neg (by decide),if_neg (by decide),if_neg (by decide),if_pos rfl] at hp
  obtain ⟨v,hv,hp⟩:=Option.bind_eq_some_iff.1 hp
  obtain ⟨hn,h64⟩:=numsN_ok hv
  obtain ⟨a,b,t,rfl⟩:∃ a b t,v=a :: b :: t:=by match v,hn with | a :: b :: t,_=>exact ⟨a,b,t,rfl⟩
  cases hp
  have hg:=ga (by omega)
  obtain ⟨cs,x,hcx⟩:=last_snoc (ne (by omega))
  have hxr:=re (by omega) x (by rw [hcx];simp)
  have hx64:=i64.ch x (by rw [hcx];simp)
  dsimp only at hm hne ⊢
  rw [lastU_at hcx] at hm hne ⊢
  refine ⟨?_,λ h=>absurd h (show ¬ (4:Int) < 2 by decide),λ h=>absurd h (show ¬ (4:Int) < 3 by decide),λ _=>hg,λ _ y hy=>?_,hne,⟨i64.fl,i64.te,?_,i64.ga,i64.fr,i64.bu⟩,(show (0:Int)≤4∧(4:Int)≤8 by decide),hm⟩
  ·dsimp only
   rw [li,if_neg (by omega),if_neg (by omega),if_neg (by decide),if_neg (by decide)]
   have e:k=kLane:=hword
   rw [e]
   simp [lines3,lines2,lines1,hg,hcx,chL,laneL,hxr]
  ·simp at hy;subst hy;exact hxr
  ·intro y hy
   rcases List.mem_append.1 hy with hy | hy
   ·exact i64.ch y (by rw [hcx];exact List.mem_append.2 (.inl hy))
   ·simp only [List.mem_singleton] at hy;subst hy
    refine ⟨hx64.1,λ l hl=>?_,hx64.2.2⟩
    rcases List.mem_append.1 hl with hl | hl
    ·exact hx64.2.1 l hl
    ·simp only [List.mem_singleton] at hl;subst hl;exact ⟨h64 a (by simp),h64 b (by simp)⟩
 ·
  have hf:3≤was∧was≤5:=by simpa using hf
  rw [if_neg (by decide),if_neg (by decide),if_neg (by decide),if_neg (by decide),if_pos rfl] at hp
  obtain ⟨v,hv,hp⟩:=Option.bind_eq_some_iff.1 hp
  obtain ⟨hn,h64⟩:=numsN_ok hv
  obtain ⟨a,t,rfl⟩:∃ a t,v=a :: t:=by match v,hn with | a :: t,_=>exact ⟨a,t,rfl⟩
  cases hp
  have hg:=ga (by omega)
  obtain ⟨cs,x,hcx⟩:=last_snoc (ne hf)
  have hx64:=i64.ch x (by rw [hcx];simp)
  dsimp only at hm hne ⊢
  rw [lastU_at hcx] at hm hne ⊢
  refine ⟨?_,λ h=>absurd h (show ¬ (5:Int) < 2 by decide),λ h=>absurd h (show ¬ (5:Int) < 3 by decide),λ _=>hg,λ h=>absurd h (show ¬ (5:Int) < 5 by decide),hne,⟨i64.fl,i64.te,?_,i64.ga,i64.fr,i64.bu⟩,(show (0:Int)≤5∧(5:Int)≤8 by decide),hm⟩
  ·dsimp only
   rw [li,if_neg (by omega),if_neg (by omega),if_neg (by decide),if_neg (by decide)]
   have e:k=kRec:=hword
   rw [e]
   simp [lines3,lines2,lines1,hg,hcx,chL,recL]
  ·intro y hy
   rcases List.mem_append.1 hy with hy | hy
   ·exact i64.ch y (by rw [hcx];exact List.mem_append.2 (.inl hy))
   ·simp only [List.mem_singleton] at hy;subst hy
    refine ⟨hx64.1,hx64.2.1,λ r hr=>?_⟩
    rcases List.mem_append.1 hr with hr | hr
    ·exact hx64.2.2 r hr
    ·simp only [List.mem_singleton] at hr;subst hr;exact h64 a (by simp)
 ·
  have hf:was≤6:=by simpa using hf
  rw [if_neg (by decide),if_neg (by decide),if_neg (by decide),if_neg (by decide),if_neg (by decide),if_pos rfl] at hp
  obtain ⟨v,hv,hp⟩:=Option.bind_eq_some_iff.1 hp
  obtain ⟨hn,h64⟩:=numsN_ok hv
  obtain ⟨a,b,d,t,rfl⟩:∃ a b d t,v=a :: b :: d :: t:=by match v,hn with | a :: b :: d :: t,_=>exact ⟨a,b,d,t,rfl⟩
  cases hp
  refine ⟨?_,λ h=>absurd h (show ¬ (6:Int) < 2 by decide),λ h=>absurd h (show ¬ (6:Int) < 3 by decide),λ h=>absurd h (show ¬ (6:Int) < 6 by decide),λ h=>absurd h (show ¬ (6:Int) < 5 by decide),hne,⟨i64.fl,i64.te,i64.ch,?_,i64.fr,i64.bu⟩,(show (0:Int)≤6∧(6:Int)≤8 by decide),hm⟩
  ·dsimp only
   rw [li,if_neg (by omega),if_neg (by omega),if_neg (by decide),if_neg (by decide)]
   have e:k=kGate:=hword
   rw [e]
   simp [lines3,lines2,lines1,gateL]
  ·intro x hx
   rcases List.mem_append.1 hx with hx | hx
   ·exact i64.ga x hx
   ·simp only [List.mem_singleton] at hx;subst hx;exact ⟨h64 a (by simp),h64 b (by simp),h64 d (by simp)⟩
 ·
  have hf:was < 7:=by simpa using hf
  rw [if_neg (by decide),if_neg (by decide),if_neg (by decide),if_neg (by decide),if_neg (by decide),if_neg (by decide),if_pos rfl] at hp
  obtain ⟨v,hv,hp⟩:=Option.bind_eq_some_iff.1 hp
  obtain ⟨hn,h64⟩:=numsN_ok hv
  cases hp
  refine ⟨?_,λ h=>absurd h (show ¬ (7:Int) < 2 by decide),λ h=>absurd h (show ¬ (7:Int) < 3 by decide),λ h=>absurd h (show ¬ (7:Int) < 6 by decide),λ h=>absurd h (show ¬ (7:Int) < 5 by decide),hne,⟨i64.fl,i64.te,i64.ch,i64.ga,h64,i64.bu⟩,(show (0:Int)≤7∧(7:Int)≤8 by decide),hm⟩
  dsimp only
  rw [li,if_neg (by omega),if_neg (by omega),if_pos (by decide),if_neg (by decide)]
  have e:k=kFrame:=hword
  rw [e]
  simp [lines3,lines2,lines1]
 ·
  have hf:was=7:=by simpa using hf
  subst hf
  rw [if_neg (by decide),if_neg (by decide),if_neg (by decide),if_neg (by decide),if_neg (by decide),if_neg (by decide),if_neg (by decide),if_pos rfl] at hp
  obtain ⟨v,hv,hp⟩:=Option.bind_eq_some_iff.1 hp
  obtain ⟨hn,h64⟩:=numsN_ok hv
  obtain ⟨a,b,d,t,rfl⟩:∃ a b d t,v=a :: b :: d :: t:=by match v,hn with | a :: b :: d :: t,_=>exact ⟨a,b,d,t,rfl⟩
  cases hp
  refine ⟨?_,λ h=>absurd h (show ¬ (8:Int) < 2 by decide),λ h=>absurd h (show ¬ (8:Int) < 3 by decide),λ h=>absurd h (show ¬ (8:Int) < 6 by decide),λ h=>absurd h (show ¬ (8:Int) < 5 by decide),hne,⟨i64.fl,i64.te,i64.ch,i64.ga,i64.fr,h64 a (by simp),h64 b (by simp),h64 d (by simp)⟩,(show (0:Int)≤8∧(8:Int)≤8 by decide),hm⟩
  dsimp only
  rw [li,if_pos (by decide),if_neg (by decide),if_pos (by decide),if_pos rfl]
  have e:k=kBud:=hword
  rw [e]
  simp [lines3,lines2,lines1]
theorem suf_inv {z:Bs} (h:Lib.hasSuffix z [10]=true):z=Lib.trimSuffix z [10]++[10]:=by
 unfold Lib.hasSuffix at h
 obtain ⟨t,ht⟩:=List.isSuffixOf_iff_suffix.1 h
 rw [← ht,(suf_nl t).2]
theorem iv_fold:∀ (zs:List Bs) (s s':RS) (ls:List Bs),IV s ls→foldP s zs=some s'→∃ ks:List Bs,zs=ks.map (λ l=>l++[10])∧IV s' (ls++ks):=by
 intro zs
 induction zs with
 | nil =>
  intro s s' ls I h
  cases h
  exact ⟨[],rfl,by simpa using I⟩
 | cons z r ih =>
  intro s s' ls I h
  unfold foldP at h
  obtain ⟨s1,h1,h2⟩:=Option.bind_eq_some_iff.1 h
  unfold stepP at h1
  by_cases hc:Lib.hasSuffix z [10]=true∧s.was≠8
  ·rw [if_pos hc] at h1
   obtain ⟨ks,e1,e2⟩:=ih s1 s' _ (iv_step I h1) h2
   refine ⟨Lib.trimSuffix z [10] :: ks,?_,?_⟩
   ·rw [List.map_cons,← suf_inv hc.1,← e1]
   ·simpa using e2
  ·rw [if_neg hc] at h1;cases h1
theorem text_back {a:Bs} (h:(parseP a).2.2=0):textP (parseP a).1=(a,0)∧In64 (parseP a).1:=by
 unfold parseP at h ⊢
 by_cases hl:65536 < a.length
 ·rw [if_pos hl] at h;cases h
 rw [if_neg hl] at h ⊢
 cases hf:foldP s0 (linesOf a) with
 | none=>rw [hf] at h;cases h
 | some s =>
  rw [hf] at h
  dsimp only at h ⊢
  by_cases h8:s.was=8
  ·rw [if_pos h8] at h ⊢
   obtain ⟨ks,e1,I⟩:=iv_fold _ s0 s [] iv0 hf
   have e2:ks=linesP s.c:=by
    have:=I.li
    rw [List.nil_append,if_pos (by omega),if_pos h8] at this
    rw [this]
    unfold linesP
    simp
   have e3:strP s.c=a:=by
    show (nlL s.c).flatten=a
    have:nlL s.c=linesOf a:=by rw [e1,e2];rfl
    rw [this]
    exact lines_back _ a (Nat.le_refl _)
   refine ⟨?_,I.i64⟩
   show textP s.c=(a,0)
   unfold textP
   rw [I.m,if_neg (by simp),e3,if_neg hl]
  ·rw [if_neg h8] at h;cases h
end Go.Proofs.YtppodgdhdddfkaaGreatDoor.Cg
set_option linter.unusedVariables false
set_option linter.unusedSimpArgs false
namespace Go.Proofs.YtppodgdhdddfkaaGreatDoor.Cg
open Go Go.RowKit Go.Proofs.YtppodgdhdddfkaaGreatDoor.Sx
open Go.Proofs.YtppodgdhdddfkaaGreatDoor.Bi (mixed take_s)
open Go.Proofs.YtppodgdhdddfkaaGreatDoor.Cf
open Go.Proofs.YtppodgdhdddfkaaGreatDoor.Sg
section
variable {Z:ZP} {w w0:World} {R:Value→World→Prop} {A:List Nat→List Value→World→Prop} {B:List Nat→Nat→List Value→World→Prop}
end
end Go.Proofs.YtppodgdhdddfkaaGreatDoor.Cg
set_option linter.unusedVariables false
set_option linter.unusedSimpArgs false
namespace Go.Proofs.YtppodgdhdddfkaaGreatDoor.Cg
set_option maxRecDepth 100000
open Go Go.RowKit Go.Proofs.YtppodgdhdddfkaaGreatDoor.Sx
open Go.Proofs.YtppodgdhdddfkaaGreatDoor.Bi (mixed take_s)
open Go.Proofs.YtppodgdhdddfkaaGreatDoor.Cf
open Go.Proofs.YtppodgdhdddfkaaGreatDoor.Sg
def rkR (a:Bs):Int:=if a=kFlows then 1 else if a=kTen then 2 else if a=kCh then 3 else if a=kLane then 4 else if a=kRec then 5 else if a=kGate then 6 else if a=kFrame then 7 else if a=kBud then 8 else 0
theorem rkR_eq {a:Bs} (h:(32:UInt8)∉a):rkR a=rankI a:=by
 by_cases h0:rankI a=0
 ·have no:∀ {k:Bs} {i:Int},rankI k=i→i≠0 → ¬ a=k:=λ h1 h2 e=>h2 (by rw [← h1,← e];exact h0)
  unfold rkR
  rw [if_neg (no rk1 (by decide)),if_neg (no rk2 (by decide)),if_neg (no rk3 (by decide)),if_neg (no rk4 (by decide)),if_neg (no rk5 (by decide)),if_neg (no rk6 (by decide)),if_neg (no rk7 (by decide)),if_neg (no rk8 (by decide)),h0]
 ·obtain ⟨h1,h2,h3⟩:=rank_word h h0
  have h8:rankI a=1∨rankI a=2∨rankI a=3∨rankI a=4∨rankI a=5∨rankI a=6∨rankI a=7∨rankI a=8:=by omega
  have hw:∀ i:Int,(i=1∨i=2∨i=3∨i=4∨i=5∨i=6∨i=7∨i=8)→rkR (wordOf i)=i:=by
   rintro i (rfl | rfl | rfl | rfl | rfl | rfl | rfl | rfl)<;>decide
  have:=hw _ h8
  rw [← h1] at this
  exact this
def stepU (x:Nat) (b:UInt8):Nat:=(x * 10+(b.toNat+208) % 256) % 18446744073709551616
def negS (s:Bs):Bool:=decide (s.head? = some 45)
def preU (s:Bs) (i:Nat):Bs:=if negS s=true then (s.take i).drop 1 else s.take i
def intU (s:Bs):Nat:=(preU s 21).foldl stepU 0
def toI (u:Nat):Int:=if u < 9223372036854775808 then (u:Int) else (u:Int)-18446744073709551616
def intP (s:Bs):Int:=toI (if negS s=true then (18446744073709551616-intU s) % 18446744073709551616 else intU s)
theorem stepU_lt (x:Nat) (b:UInt8):stepU x b < 18446744073709551616:=Nat.mod_lt _ (by decide)
theorem foldU_lt (l:Bs):∀ (x:Nat),x < 18446744073709551616→l.foldl stepU x < 18446744073709551616:=by
 induction l with
 | nil=>intro x h;exact h
 | cons b r ih=>intro x _;exact ih _ (stepU_lt x b)
theorem intU_lt (s:Bs):intU s < 18446744073709551616:=foldU_lt _ 0 (by decide)
theorem toI_64 {u:Nat} (h:u < 18446744073709551616):in64 (toI u):=by
 unfold toI in64
 split<;>omega
theorem intP_64 (s:Bs):in64 (intP s):=by
 unfold intP
 apply toI_64
 have:=intU_lt s
 split<;>omega
theorem fold_dec:∀ (k u:Nat),u≤k→u < 18446744073709551616→(Lib.decDigits u).foldl stepU 0=u:=by
 intro k
 induction k with
 | zero =>
  intro u hu _
  obtain rfl:u=0:=by omega
  rw [dec_unf]
  decide
 | succ k ih =>
  intro u hu hb
  rw [dec_unf]
  split
  ·rename_i h
   simp only [List.foldl_cons,List.foldl_nil,stepU,dig u h]
   omega
  ·rename_i h
   rw [List.foldl_append,ih (u / 10) (by omega) (by omega)]
   simp only [List.foldl_cons,List.foldl_nil,stepU,dig (u % 10) (by omega)]
   omega
theorem intP_itoa (n:Int) (h:in64 n):intP (Lib.itoa n)=n:=by
 obtain ⟨h1,h2⟩:=h
 unfold intP intU preU negS Lib.itoa
 by_cases hn:n < 0
 ·have hl:=dec_len (u:=n.natAbs) (by omega)
  rw [if_pos hn]
  have e:decide ((45 :: Lib.decDigits n.natAbs).head? = some 45)=true:=by simp
  rw [e,if_pos rfl,if_pos rfl]
  rw [List.take_of_length_le (by simp only [List.length_cons];omega)]
  show toI ((18446744073709551616-(Lib.decDigits n.natAbs).foldl stepU 0) % 18446744073709551616)=n
  rw [fold_dec _ _ (Nat.le_refl _) (by omega)]
  unfold toI
  split<;>omega
 ·have hl:=dec_len (u:=n.toNat) (by omega)
  rw [if_neg hn]
  have hd:=dec_all n.toNat n.toNat (Nat.le_refl _)
  have e:decide ((Lib.decDigits n.toNat).head? = some 45)=false:=by
   rw [decide_eq_false_iff_not]
   intro hh
   have:=hd.1 45 (List.mem_of_head? hh)
   revert this
   unfold isD
   decide
  rw [e,if_neg (by decide),if_neg (by decide)]
  rw [List.take_of_length_le (by omega),fold_dec _ _ (Nat.le_refl _) (by omega)]
  unfold toI
  split<;>omega
section
variable {Z:ZP} {w:World}
theorem rsplit_t (a:Bs) (c:UInt8) (ha:a.length≤100000):Cz Tryz.prog 78 [Tx a,.int .u8 (c.toNat:Nat)] w (λ r w'=>Or rT 9 w.heap.size [] w' r (splitP c a)∧Fr [] w w') Z:=by
 refine go mixed Tryz.func78 Tryz.call78 rfl (Tr.e78 _ _) ?_
 refine r_loop (λ (s:Nat × Nat × Value × List Bs)=>[I (s.1:Int),I (s.2.1:Int),s.2.2.1]) (λ s w'=>s.1≤a.length∧s.2.1≤s.1∧c∉(a.take s.1).drop s.2.1∧s.2.2.2++splitP c (a.drop s.2.1)=splitP c a∧s.2.2.2.length≤s.1∧Or rT 9 w.heap.size [] w' s.2.2.1 s.2.2.2∧Fr [] w w') (λ s=>a.length-s.1) (0,0,.slice none 0 0,[]) ⟨Nat.zero_le _,Nat.le_refl _,by simp,rfl,Nat.le_refl _,Or.nil,Fr.refl _ _⟩ rfl ?_
 rintro ⟨i,f,v,l⟩ w1 ⟨hi,hf,hno,hs,hl,HO,F⟩
 dsimp only at hi hf hno hs hl HO
 refine r_tlen Tryz.underlying9 ?_
 refine r_if (λ h=>?_) (λ h=>?_)
 ·dsimp only at h
  obtain ⟨b,hb⟩:=gt (xs:=a) (j:=i) (by omega)
  refine r_tix Tryz.underlying9 i rfl hb ?_
  have etk:(a.take (i+1)).drop f=(a.take i).drop f++[b]:=by
   rw [take_s hb,List.drop_append_of_le_length (by rw [List.length_take];omega)]
  refine r_if (λ h2=>?_) (λ h2=>?_)
  ·have hbc:b=c:=UInt8.toNat.inj (by omega)
   subst hbc
   refine r_tsl2 Tryz.underlying9 f i rfl rfl hf (by omega) ?_
   refine r_appL (x:=(a.take i).drop f) (es:=[Tx ((a.take i).drop f)]) Estr HO (λ _ _=>rfl) (by simp only [big];omega) F.size (λ v' w2 g1 g2 g3=>?_)
   refine r_ar (by dsimp only;omega) ?_
   refine r_ar (by dsimp only;omega) ?_
   refine r_ag (s:=(i,f,v,l)) (i+1,i+1,v',l++[(a.take i).drop f]) ⟨by dsimp only;omega,by dsimp only;omega,?_,?_,by dsimp only;rw [List.length_append];simp;omega,g1,F.trans_new g2 (λ q hq=>.inr (HO.lt q hq).1)⟩ (by dsimp only;omega) rfl
   ·dsimp only
    rw [List.drop_eq_nil_of_le (by rw [List.length_take];omega)]
    simp
   ·dsimp only
    rw [← hs,List.append_assoc]
    congr 1
    have e:a.drop f=(a.take i).drop f++b :: a.drop (i+1):=by
     have h1:a.drop f=(a.take i).drop f++(a.drop i):=by
      conv=>lhs;rw [← List.take_append_drop i a]
      rw [List.drop_append_of_le_length (by rw [List.length_take];omega)]
     rw [h1,List.drop_eq_getElem_cons (l:=a) (i:=i) (by omega),(List.getElem?_eq_some_iff.1 hb).2]
    rw [e,splitP_app hno]
    rfl
  ·have hbc:c≠b:=λ e=>h2 (by rw [e])
   refine r_ar (by dsimp only;omega) ?_
   refine r_ag (s:=(i,f,v,l)) (i+1,f,v,l) ⟨by dsimp only;omega,by dsimp only;omega,?_,hs,by dsimp only;omega,HO,F⟩ (by dsimp only;omega) rfl
   dsimp only
   rw [etk]
   intro hq
   rcases List.mem_append.1 hq with hq | hq
   ·exact hno hq
   ·exact hbc (List.mem_singleton.1 hq)
 ·dsimp only at h
  obtain rfl:i=a.length:=by omega
  rw [List.take_length] at hno
  refine r_brk ?_
  refine r_tsll Tryz.underlying9 f rfl (by omega) ?_
  refine r_appL (x:=a.drop f) (es:=[Tx (a.drop f)]) Estr HO (λ _ _=>rfl) (by simp only [big];omega) F.size (λ v' w2 g1 g2 g3=>?_)
  refine r_ret ⟨?_,F.trans_new g2 (λ q hq=>.inr (HO.lt q hq).1)⟩
  rw [← hs,splitP_no hno]
  exact g1
theorem rrank_t (a:Bs):Cz Tryz.prog 79 [Tx a] w (λ r w'=>r=I (rkR a)∧w'=w) Z:=by
 refine go mixed Tryz.func79 Tryz.call79 rfl (Tr.e79 _) ?_
 unfold rkR
 refine r_teq (b:=kFlows) (r_if (λ h=>r_ret ⟨by rw [if_pos h],rfl⟩) (λ h1=>?_))
 refine r_teq (b:=kTen) (r_if (λ h=>r_ret ⟨by rw [if_neg h1,if_pos h],rfl⟩) (λ h2=>?_))
 refine r_teq (b:=kCh) (r_if (λ h=>r_ret ⟨by rw [if_neg h1,if_neg h2,if_pos h],rfl⟩) (λ h3=>?_))
 refine r_teq (b:=kLane) (r_if (λ h=>r_ret ⟨by rw [if_neg h1,if_neg h2,if_neg h3,if_pos h],rfl⟩) (λ h4=>?_))
 refine r_teq (b:=kRec) (r_if (λ h=>r_ret ⟨by rw [if_neg h1,if_neg h2,if_neg h3,if_neg h4,if_pos h],rfl⟩) (λ h5=>?_))
 refine r_teq (b:=kGate) (r_if (λ h=>r_ret ⟨by rw [if_neg h1,if_neg h2,if_neg h3,if_neg h4,if_neg h5,if_pos h],rfl⟩) (λ h6=>?_))
 refine r_teq (b:=kFrame) (r_if (λ h=>r_ret ⟨by rw [if_neg h1,if_neg h2,if_neg h3,if_neg h4,if_neg h5,if_neg h6,if_pos h],rfl⟩) (λ h7=>?_))
 refine r_teq (b:=kBud) (r_if (λ h=>r_ret ⟨by rw [if_neg h1,if_neg h2,if_neg h3,if_neg h4,if_neg h5,if_neg h6,if_neg h7,if_pos h],rfl⟩) (λ h8=>?_))
 exact r_ret ⟨by rw [if_neg h1,if_neg h2,if_neg h3,if_neg h4,if_neg h5,if_neg h6,if_neg h7,if_neg h8],rfl⟩
theorem rfollows_t (was n:Int) (hn:0≤n):Cz Tryz.prog 80 [I was,I n] w (λ r w'=>r=.bool (followsI was n)∧w'=w) Z:=by
 refine go mixed Tryz.func80 Tryz.call80 rfl (Tr.e80 _ _) ?_
 unfold followsI
 refine r_if (λ e=>?_) (λ e4=>?_)
 ·subst e
  refine r_if (λ h3=>r_ret ⟨by simp [h3],rfl⟩) (λ h3=>r_ret ⟨by simp [h3],rfl⟩)
 refine r_if (λ e=>?_) (λ e5=>?_)
 ·subst e
  refine r_if (λ h3=>r_ret ⟨by simp [h3],rfl⟩) (λ h3=>r_ret ⟨by simp;omega,rfl⟩)
 refine r_if (λ e=>?_) (λ e7=>?_)
 ·subst e
  exact r_ret ⟨by simp,rfl⟩
 refine r_if (λ e=>?_) (λ e8=>?_)
 ·subst e
  exact r_ret ⟨by simp,rfl⟩
 refine r_if (λ e=>?_) (λ e3=>?_)
 ·subst e
  exact r_ret ⟨by simp,rfl⟩
 refine r_if (λ e=>?_) (λ e0=>?_)
 ·refine r_ret ⟨?_,rfl⟩
  rw [if_neg (by omega),if_neg e4,if_neg e5,if_neg e3,if_neg e7,if_neg e8]
 ·refine r_ret ⟨?_,rfl⟩
  rw [if_pos (by omega)]
theorem preU_at {s:Bs} {i:Nat} {b:UInt8} (hb:s[i]? = some b) (h:0 < i∨negS s=false):preU s (i+1)=preU s i++[b]:=by
 have hil:=(List.getElem?_eq_some_iff.1 hb).1
 unfold preU
 by_cases hn:negS s=true
 ·have h1:1≤i:=by
   rcases h with h | h
   ·exact h
   ·rw [hn] at h;cases h
  rw [if_pos hn,if_pos hn,take_s hb,List.drop_append_of_le_length (by rw [List.length_take];omega)]
 ·rw [if_neg hn,if_neg hn,take_s hb]
def stU (s:Nat × Nat):List Value:=[I (s.1:Int),.int .u64 (s.2:Int)]
theorem integer_t (s:Bs) (hs:s.length≤100000):Cz Tryz.prog 128 [Tx s] w (λ r w'=>r=I (intP s)∧w'=w) Z:=by
 refine go mixed Tryz.func128 Tryz.call128 rfl (Tr.e128 _) ?_
 have fin:∀ {i:Nat},i≤s.length→i≤21→(¬ i < s.length ∨ ¬ i < 21)→preU s i=preU s 21:=by
  intro i h1 h2 h3
  unfold preU
  have:s.take i=s.take 21:=by
   rcases Nat.lt_or_ge i 21 with h4 | h4
   ·rw [List.take_of_length_le (by omega),List.take_of_length_le (by omega)]
   ·rw [show i=21 by omega]
  rw [this]
 have ret:∀ {u:Nat},u < 18446744073709551616→IntKind.i64.wrap (u:Int)=toI u:=λ h=>by
  rw [IntKind.wrap_i64]
  unfold toI
  split<;>omega
 refine r_tlen Tryz.underlying9 ?_
 refine r_if (λ h0=>?_) (λ h0=>?_)
 ·obtain ⟨b0,hb0⟩:=gt (xs:=s) (j:=0) (by omega)
  have hneg:negS s=decide ((b0.toNat:Int)=45):=by
   unfold negS
   rw [List.head?_eq_getElem?,hb0]
   refine decide_eq_decide.2 ⟨λ h=>?_,λ h=>?_⟩
   ·injection h with h;subst h;rfl
   ·have:b0=45:=UInt8.toNat.inj (by show b0.toNat=45;omega)
    rw [this]
  refine r_tix Tryz.underlying9 0 rfl hb0 ?_
  refine r_loop stU (λ p w'=>p.1≤s.length∧p.1≤21∧p.2=(preU s p.1).foldl stepU 0∧w'=w) (λ p=>21-p.1) (0,0) ⟨Nat.zero_le _,Nat.zero_le _,by unfold preU;split<;>rfl,rfl⟩ rfl ?_
  rintro ⟨i,x⟩ w1 ⟨hi,hi21,hx,rfl⟩
  dsimp only at hi hi21 hx
  have hxl:x < 18446744073709551616:=by rw [hx];exact foldU_lt _ 0 (by decide)
  have done:(¬ i < s.length ∨ ¬ i < 21)→x=intU s:=λ h=>by rw [hx,fin hi hi21 h];rfl
  have next:∀ {b:UInt8},s[i]? = some b→i < s.length→i < 21→(0 < i∨negS s=false)→∃ s':Nat × Nat,s'=(i+1,stepU x b)∧(s'.1≤s.length∧s'.1≤21∧s'.2=(preU s s'.1).foldl stepU 0∧w1=w1):=λ hb h1 h2 h3=>by
   refine ⟨_,rfl,by dsimp only;omega,by dsimp only;omega,?_,rfl⟩
   dsimp only
   rw [preU_at hb h3,List.foldl_append,← hx]
   rfl
  have leave:(¬ i < s.length ∨ ¬ i < 21)→wp Tryz.prog Z (λ r w'=>r=I (intP s)∧w'=w1) [] (gi (.bool (decide ((b0.toNat:Int)=45))) (.pu (Op.unary .neg (.int .u64 (x:Int))) λ v40=>cvT .i64 v40 λ v42=>.ret v42) (cvT .i64 (.int .u64 (x:Int)) λ v42=>.ret v42)) w1 nA nB:=by
   intro h
   have e:=done h
   refine r_ifb (λ hn=>?_) (λ hn=>?_)<;>rw [← hneg] at hn
   ·refine r_negU ?_
    have e1:IntKind.u64.wrap (0-(x:Int))=(((18446744073709551616-x) % 18446744073709551616:Nat):Int):=by rw [Bt.wrap_u];omega
    rw [e1]
    refine r_are (ret (by omega)) ?_
    exact r_ret ⟨by unfold intP;rw [if_pos hn,← e],rfl⟩
   ·refine r_are (ret hxl) ?_
    exact r_ret ⟨by unfold intP;rw [if_neg (by rw [hn];decide),← e],rfl⟩
  refine r_tlen Tryz.underlying9 ?_
  refine r_if (λ h=>?_) (λ h=>r_brk (leave (.inl (by dsimp only at h;omega))))
  refine r_if (λ h2=>?_) (λ h2=>r_brk (leave (.inr (by dsimp only at h2;omega))))
  dsimp only at h h2
  obtain ⟨b,hb⟩:=gt (xs:=s) (j:=i) (by omega)
  have hb256:b.toNat < 256:=b.toNat_lt
  have add:∀ {A:List Nat→List Value→World→Prop} {B:List Nat→Nat→List Value→World→Prop},(∀ vs,vs=stU (i+1,stepU x b)→A [] vs w1)→wp Tryz.prog Z (λ r w'=>r=I (intP s)∧w'=w1) [] (biT false .mul (.int .u64 (x:Int)) (.int .u64 10) λ v31=>.pu (Instr.index 9 (Tx s) (I (i:Int))) λ v34=>biT false .sub v34 (.int .u8 48) λ v35=>cvT .u64 v35 λ v36=>biT false .add v31 v36 λ v37=>biT false .add (I (i:Int)) (I 1) λ v23=>.again [v23,v37]) w1 A B:=by
   intro A B hA
   refine r_are (Bt.wrap_u _) ?_
   refine r_tix Tryz.underlying9 i rfl hb ?_
   refine r_are (y:=(((b.toNat+208) % 256:Nat):Int)) (by rw [wrap_u8];omega) ?_
   refine r_are (y:=(((b.toNat+208) % 256:Nat):Int)) (by rw [Bt.wrap_u];omega) ?_
   refine r_are (y:=((stepU x b:Nat):Int)) (by rw [Bt.wrap_u];unfold stepU;omega) ?_
   refine r_ar (by omega) ?_
   exact hA _ rfl
  refine r_if (λ h3=>?_) (λ h3=>?_)
  ·dsimp only at h3
   obtain ⟨s',e,h'⟩:=next hb (by omega) (by omega) (.inl (by omega))
   subst e
   exact add (λ vs e=>⟨_,e.symm,by dsimp only;omega,rfl,h'⟩)
  ·dsimp only at h3
   refine r_ifbn (λ hn=>?_) (λ hn=>?_)<;>rw [← hneg] at hn
   ·obtain ⟨s',e,h'⟩:=next hb (by omega) (by omega) (.inr hn)
    subst e
    exact add (λ vs e=>⟨_,e.symm,by dsimp only;omega,rfl,h'⟩)
   ·obtain rfl:i=0:=by omega
    refine r_ar (by omega) ?_
    refine r_ag (s:=(0,x)) (1,x) ⟨by dsimp only;omega,by dsimp only;omega,?_,rfl⟩ (by dsimp only;omega) rfl
    dsimp only
    rw [hx]
    unfold preU
    rw [if_pos hn,if_pos hn,List.drop_eq_nil_of_le (by rw [List.length_take];omega),List.drop_eq_nil_of_le (by rw [List.length_take];omega)]
 ·have hs0:s=[]:=List.eq_nil_of_length_eq_zero (by omega)
  subst hs0
  refine r_loop stU (λ p w'=>p=(0,0)∧w'=w) (λ _=>0) (0,0) ⟨rfl,rfl⟩ rfl ?_
  rintro ⟨i,x⟩ w1 ⟨e,rfl⟩
  cases e
  refine r_tlen Tryz.underlying9 ?_
  refine r_brk ?_
  refine r_are (ret (u:=0) (by decide)) ?_
  exact r_ret ⟨rfl,rfl⟩
theorem ints_t {v:Value} {k:Bs} {ws:List Bs} (hv:Sl rT w v (k :: ws)) (hl:ws.length≤90000) (hw:∀ a∈ws,a.length≤100000):Cz Tryz.prog 127 [v] w (λ r w'=>Or (rI .i64) 3 w.heap.size [] w' r (ws.map intP)∧Fr [] w w') Z:=by
 obtain ⟨X,c,rfl,hc,_,hr⟩:=hv
 refine go mixed Tryz.func127 Tryz.call127 rfl (Tr.e127 _) ?_
 refine r_loop (λ (s:Nat × Value)=>[I ((s.1+1:Nat):Int),s.2]) (λ s w'=>s.1≤ws.length∧Or (rI .i64) 3 w.heap.size [] w' s.2 ((ws.take s.1).map intP)∧Fr [] w w') (λ s=>ws.length-s.1) (0,.slice none 0 0) ⟨Nat.zero_le _,Or.nil,Fr.refl _ _⟩ rfl ?_
 rintro ⟨i,u⟩ w1 ⟨hi,HO,F⟩
 dsimp only at hi HO
 refine r_if (λ h2=>?_) (λ h2=>?_)
 ·dsimp only [List.length_cons] at h2
  obtain ⟨z,hz⟩:=gt (xs:=ws) (j:=i) (by omega)
  obtain ⟨ad,es,rfl,rd,e3⟩:=(hr.up F) (i+1) z (by simpa using hz)
  obtain rfl:=e3
  refine r_ob ⟨by dsimp only;omega,by dsimp only [List.length_cons];omega⟩ ?_
  refine r_ld (cell1 rd) ?_
  refine r_call (integer_t z (hw z (List.mem_of_getElem? hz))) ?_
  rintro _ w2 ⟨rfl,rfl⟩
  refine r_appL (x:=intP z) (es:=[I (intP z)]) Bi.Eint HO (λ _ _=>rfl) (by simp only [big,List.length_map,List.length_take];omega) F.size (λ u' w3 g1 g2 g3=>?_)
  refine r_ar (by dsimp only;omega) ?_
  refine r_ag (s:=(i,u)) (i+1,u') ⟨by dsimp only;omega,?_,F.trans_new g2 (λ q hq=>.inr (HO.lt q hq).1)⟩ (by dsimp only;omega) rfl
  dsimp only
  rw [take_map_s intP hz]
  exact g1
 ·dsimp only [List.length_cons] at h2
  obtain rfl:i=ws.length:=by omega
  rw [List.take_length] at HO
  exact r_brk (r_ret ⟨HO,F⟩)
end
end Go.Proofs.YtppodgdhdddfkaaGreatDoor.Cg
set_option linter.unusedVariables false
namespace Go.Proofs.YtppodgdhdddfkaaGreatDoor.Ad
open Go Go.RowKit Go.Proofs.YtppodgdhdddfkaaGreatDoor.Sx
def fin (x1 v2 v4 own:Value):T:=.dr (.ldn 8 v2 λ v272=>.pu (do eqGuard .eql 9 (.tmp 273) (.tmp 274) own x1;binOp .eql 9 own x1) λ v275=>gi v275 (.ldn 8 v2 λ v277=>.call 105 [v277] λ v278=>.chk (some 8) v2 v272 (notT v278 λ v279=>.ef (Instr.storeAt 29 v4 v272) (.ldn 8 v4 λ r0=>.ret (.tuple [r0,v279].toArray)))) (.chk (some 8) v2 v272 (.ef (Instr.storeAt 29 v4 v272) (.ldn 8 v4 λ r0=>.ret (.tuple [r0,(B false)].toArray)))))
def aflows (x1 v2 v4 v15 v21 v25 v36:Value):T:=.loop [(I 1),(.int .u64 0),(B false)] (λ z1=>lnT v15 λ v45=>biT true .lss (nv z1 0) v45 λ v46=>gi v46 (ixT 1 v15 (nv z1 0) λ v51=>.ld v51 λ v52=>.call 128 [v52] λ v53=>biT true .lss v53 (I 0) λ v55=>gi v55 (.ldn 8 v2 λ v60=>.ef (Instr.storeAt 29 v4 v60) (.ldn 8 v4 λ r0=>.ret (.tuple [r0,(B false)].toArray))) (biT true .gtr v53 (I 63) λ v58=>gi v58 (.ldn 8 v2 λ v60=>.ef (Instr.storeAt 29 v4 v60) (.ldn 8 v4 λ r0=>.ret (.tuple [r0,(B false)].toArray))) (cvT .u64 v53 λ v63=>.pu (binOp .shl 40 (.int .u64 1) v63) λ v64=>.pu (binOp .or 40 (nv z1 1) v64) λ v65=>biT false .add (nv z1 0) (I 1) λ v48=>.again [v48,v65,(nv z1 2)]))) (.brk 1 [(nv z1 0),(nv z1 1),(nv z1 2)])) (λ i1 z1=>bq i1 1 (.hv (Instr.buildSlice 23 0 [].toArray) λ v66=>faT 0 v2 λ v67=>.ld v67 λ v68=>.hv (Builtin.append_ #[23,23] 23 [v66,v68].toArray) λ v69=>.hv (Instr.buildSlice 23 1 [(0,(nv z1 1))].toArray) λ v71=>.hv (Builtin.append_ #[23,23] 23 [v69,v71].toArray) λ v72=>faT 0 v2 λ v73=>.ef (Instr.storeAt 23 v73 v72) (.call 107 [(nv z1 1)] λ v75=>.call 106 [v75] λ v76=>.pu (binOp .add 9 (.string {data:=#[102,108,111,119,115]}) v76) λ v77=>.dr (.ldn 8 v2 λ v272=>.pu (do eqGuard .eql 9 (.tmp 273) (.tmp 274) v77 x1;binOp .eql 9 v77 x1) λ v275=>gi v275 (.ldn 8 v2 λ v277=>.call 105 [v277] λ v278=>.chk (some 8) v2 v272 (notT v278 λ v279=>.ef (Instr.storeAt 29 v4 v272) (.ldn 8 v4 λ r0=>.ret (.tuple [r0,v279].toArray)))) (.chk (some 8) v2 v272 (.ef (Instr.storeAt 29 v4 v272) (.ldn 8 v4 λ r0=>.ret (.tuple [r0,(B false)].toArray))))))) (bq i1 0 (.dr (.ldn 8 v2 λ v272=>.pu (do eqGuard .eql 9 (.tmp 273) (.tmp 274) (.string {data:=#[]}) x1;binOp .eql 9 (.string {data:=#[]}) x1) λ v275=>gi v275 (.ldn 8 v2 λ v277=>.call 105 [v277] λ v278=>.chk (some 8) v2 v272 (notT v278 λ v279=>.ef (Instr.storeAt 29 v4 v272) (.ldn 8 v4 λ r0=>.ret (.tuple [r0,v279].toArray)))) (.chk (some 8) v2 v272 (.ef (Instr.storeAt 29 v4 v272) (.ldn 8 v4 λ r0=>.ret (.tuple [r0,(B false)].toArray)))))) (.bad)))
def aten (x1 v2 v4 v15 v21 v25 v36:Value):T:=.dr (faT 1 v2 λ v81=>.ld v81 λ v82=>ixT 1 v21 (I 0) λ v85=>.ld v85 λ v86=>ixT 1 v21 (I 1) λ v88=>.ld v88 λ v89=>bdT [(0,v86),(1,v89)] [(I 0),(I 0)] λ v90=>.amb (.hv (Instr.buildSlice 24 0 [].toArray) λ v80=>.chk none v81 v82 (.chk none v85 v86 (.chk none v88 v89 (.amb (.hv (Builtin.append_ #[24,24] 24 [v80,v82].toArray) λ v83=>.chk none v85 v86 (.chk none v88 v89 (.hv (Instr.buildSlice 24 1 [(0,(.agg v90.toArray))].toArray) λ v91=>.chk none v81 v82 (.hv (Builtin.append_ #[24,24] 24 [v83,v91].toArray) λ v92=>faT 1 v2 λ v93=>.ef (Instr.storeAt 24 v93 v92) (.dr (ixT 1 v21 (I 0) λ v95=>.ld v95 λ v96=>ixT 1 v21 (I 1) λ v100=>.ld v100 λ v101=>.call 108 [v96] λ v97=>.chk none v100 v101 (.pu (binOp .add 9 (.string {data:=#[116,101,110,97,110,116]}) v97) λ v98=>.call 108 [v101] λ v102=>.pu (binOp .add 9 v98 v102) λ v103=>.dr (.ldn 8 v2 λ v272=>.pu (do eqGuard .eql 9 (.tmp 273) (.tmp 274) v103 x1;binOp .eql 9 v103 x1) λ v275=>gi v275 (.ldn 8 v2 λ v277=>.call 105 [v277] λ v278=>.chk (some 8) v2 v272 (notT v278 λ v279=>.ef (Instr.storeAt 29 v4 v272) (.ldn 8 v4 λ r0=>.ret (.tuple [r0,v279].toArray)))) (.chk (some 8) v2 v272 (.ef (Instr.storeAt 29 v4 v272) (.ldn 8 v4 λ r0=>.ret (.tuple [r0,(B false)].toArray)))))))))))) (.hv (Instr.buildSlice 24 1 [(0,(.agg v90.toArray))].toArray) λ v91=>.chk none v81 v82 (.hv (Builtin.append_ #[24,24] 24 [v80,v82].toArray) λ v83=>.chk none v85 v86 (.chk none v88 v89 (.hv (Builtin.append_ #[24,24] 24 [v83,v91].toArray) λ v92=>faT 1 v2 λ v93=>.ef (Instr.storeAt 24 v93 v92) (.dr (ixT 1 v21 (I 0) λ v95=>.ld v95 λ v96=>ixT 1 v21 (I 1) λ v100=>.ld v100 λ v101=>.call 108 [v96] λ v97=>.chk none v100 v101 (.pu (binOp .add 9 (.string {data:=#[116,101,110,97,110,116]}) v97) λ v98=>.call 108 [v101] λ v102=>.pu (binOp .add 9 v98 v102) λ v103=>.dr (.ldn 8 v2 λ v272=>.pu (do eqGuard .eql 9 (.tmp 273) (.tmp 274) v103 x1;binOp .eql 9 v103 x1) λ v275=>gi v275 (.ldn 8 v2 λ v277=>.call 105 [v277] λ v278=>.chk (some 8) v2 v272 (notT v278 λ v279=>.ef (Instr.storeAt 29 v4 v272) (.ldn 8 v4 λ r0=>.ret (.tuple [r0,v279].toArray)))) (.chk (some 8) v2 v272 (.ef (Instr.storeAt 29 v4 v272) (.ldn 8 v4 λ r0=>.ret (.tuple [r0,(B false)].toArray)))))))))))))))) (.hv (Instr.buildSlice 24 1 [(0,(.agg v90.toArray))].toArray) λ v91=>.chk none v81 v82 (.hv (Instr.buildSlice 24 0 [].toArray) λ v80=>.chk none v81 v82 (.chk none v85 v86 (.chk none v88 v89 (.hv (Builtin.append_ #[24,24] 24 [v80,v82].toArray) λ v83=>.chk none v85 v86 (.chk none v88 v89 (.hv (Builtin.append_ #[24,24] 24 [v83,v91].toArray) λ v92=>faT 1 v2 λ v93=>.ef (Instr.storeAt 24 v93 v92) (.dr (ixT 1 v21 (I 0) λ v95=>.ld v95 λ v96=>ixT 1 v21 (I 1) λ v100=>.ld v100 λ v101=>.call 108 [v96] λ v97=>.chk none v100 v101 (.pu (binOp .add 9 (.string {data:=#[116,101,110,97,110,116]}) v97) λ v98=>.call 108 [v101] λ v102=>.pu (binOp .add 9 v98 v102) λ v103=>.dr (.ldn 8 v2 λ v272=>.pu (do eqGuard .eql 9 (.tmp 273) (.tmp 274) v103 x1;binOp .eql 9 v103 x1) λ v275=>gi v275 (.ldn 8 v2 λ v277=>.call 105 [v277] λ v278=>.chk (some 8) v2 v272 (notT v278 λ v279=>.ef (Instr.storeAt 29 v4 v272) (.ldn 8 v4 λ r0=>.ret (.tuple [r0,v279].toArray)))) (.chk (some 8) v2 v272 (.ef (Instr.storeAt 29 v4 v272) (.ldn 8 v4 λ r0=>.ret (.tuple [r0,(B false)].toArray))))))))))))))))
def ach (x1 v2 v4 v15 v21 v25 v36:Value):T:=.dr (faT 2 v2 λ v107=>.ld v107 λ v108=>ixT 1 v21 (I 0) λ v111=>.ld v111 λ v112=>bdT [(0,v112)] [(I 0),(.slice none 0 0),(.slice none 0 0)] λ v113=>.amb (.hv (Instr.buildSlice 25 0 [].toArray) λ v106=>.chk none v107 v108 (.chk none v111 v112 (.amb (.hv (Builtin.append_ #[25,25] 25 [v106,v108].toArray) λ v109=>.chk none v111 v112 (.hv (Instr.buildSlice 25 1 [(0,(.agg v113.toArray))].toArray) λ v114=>.chk none v107 v108 (.hv (Builtin.append_ #[25,25] 25 [v109,v114].toArray) λ v115=>faT 2 v2 λ v116=>.ef (Instr.storeAt 25 v116 v115) (ixT 1 v21 (I 0) λ v118=>.ld v118 λ v119=>.call 108 [v119] λ v120=>.pu (binOp .add 9 (.string {data:=#[99,104,97,110,110,101,108]}) v120) λ v121=>.dr (.ldn 8 v2 λ v272=>.pu (do eqGuard .eql 9 (.tmp 273) (.tmp 274) v121 x1;binOp .eql 9 v121 x1) λ v275=>gi v275 (.ldn 8 v2 λ v277=>.call 105 [v277] λ v278=>.chk (some 8) v2 v272 (notT v278 λ v279=>.ef (Instr.storeAt 29 v4 v272) (.ldn 8 v4 λ r0=>.ret (.tuple [r0,v279].toArray)))) (.chk (some 8) v2 v272 (.ef (Instr.storeAt 29 v4 v272) (.ldn 8 v4 λ r0=>.ret (.tuple [r0,(B false)].toArray))))))))) (.hv (Instr.buildSlice 25 1 [(0,(.agg v113.toArray))].toArray) λ v114=>.chk none v107 v108 (.hv (Builtin.append_ #[25,25] 25 [v106,v108].toArray) λ v109=>.chk none v111 v112 (.hv (Builtin.append_ #[25,25] 25 [v109,v114].toArray) λ v115=>faT 2 v2 λ v116=>.ef (Instr.storeAt 25 v116 v115) (ixT 1 v21 (I 0) λ v118=>.ld v118 λ v119=>.call 108 [v119] λ v120=>.pu (binOp .add 9 (.string {data:=#[99,104,97,110,110,101,108]}) v120) λ v121=>.dr (.ldn 8 v2 λ v272=>.pu (do eqGuard .eql 9 (.tmp 273) (.tmp 274) v121 x1;binOp .eql 9 v121 x1) λ v275=>gi v275 (.ldn 8 v2 λ v277=>.call 105 [v277] λ v278=>.chk (some 8) v2 v272 (notT v278 λ v279=>.ef (Instr.storeAt 29 v4 v272) (.ldn 8 v4 λ r0=>.ret (.tuple [r0,v279].toArray)))) (.chk (some 8) v2 v272 (.ef (Instr.storeAt 29 v4 v272) (.ldn 8 v4 λ r0=>.ret (.tuple [r0,(B false)].toArray)))))))))))) (.hv (Instr.buildSlice 25 1 [(0,(.agg v113.toArray))].toArray) λ v114=>.chk none v107 v108 (.hv (Instr.buildSlice 25 0 [].toArray) λ v106=>.chk none v107 v108 (.chk none v111 v112 (.hv (Builtin.append_ #[25,25] 25 [v106,v108].toArray) λ v109=>.chk none v111 v112 (.hv (Builtin.append_ #[25,25] 25 [v109,v114].toArray) λ v115=>faT 2 v2 λ v116=>.ef (Instr.storeAt 25 v116 v115) (ixT 1 v21 (I 0) λ v118=>.ld v118 λ v119=>.call 108 [v119] λ v120=>.pu (binOp .add 9 (.string {data:=#[99,104,97,110,110,101,108]}) v120) λ v121=>.dr (.ldn 8 v2 λ v272=>.pu (do eqGuard .eql 9 (.tmp 273) (.tmp 274) v121 x1;binOp .eql 9 v121 x1) λ v275=>gi v275 (.ldn 8 v2 λ v277=>.call 105 [v277] λ v278=>.chk (some 8) v2 v272 (notT v278 λ v279=>.ef (Instr.storeAt 29 v4 v272) (.ldn 8 v4 λ r0=>.ret (.tuple [r0,v279].toArray)))) (.chk (some 8) v2 v272 (.ef (Instr.storeAt 29 v4 v272) (.ldn 8 v4 λ r0=>.ret (.tuple [r0,(B false)].toArray))))))))))))
def alane (x1 v2 v4 v15 v21 v25 v36:Value):T:=.hv (Instr.buildSlice 25 0 [].toArray) λ v124=>faT 2 v2 λ v125=>.ld v125 λ v126=>.hv (Builtin.append_ #[25,25] 25 [v124,v126].toArray) λ v127=>faT 2 v2 λ v128=>.ef (Instr.storeAt 25 v128 v127) (.dr (faT 2 v2 λ v129=>.ld v129 λ v130=>faT 2 v2 λ v133=>.ld v133 λ v134=>ixT 3 v134 v25 λ v136=>faT 1 v136 λ v137=>.ld v137 λ v138=>ixT 1 v21 (I 0) λ v141=>.ld v141 λ v142=>ixT 1 v21 (I 1) λ v144=>.ld v144 λ v145=>bdT [(0,v142),(1,v145),(2,v36)] [(I 0),(I 0),(B false)] λ v147=>.amb (.hv (Instr.buildSlice 84 0 [].toArray) λ v132=>.chk none v129 v130 (.chk none v133 v134 (.chk none v137 v138 (.chk none v141 v142 (.chk none v144 v145 (.amb (.hv (Builtin.append_ #[84,84] 84 [v132,v138].toArray) λ v139=>.chk none v129 v130 (.chk none v141 v142 (.chk none v144 v145 (.hv (Instr.buildSlice 84 1 [(0,(.agg v147.toArray))].toArray) λ v148=>.chk none v129 v130 (.chk none v133 v134 (.chk none v137 v138 (.hv (Builtin.append_ #[84,84] 84 [v139,v148].toArray) λ v149=>.chk none v129 v130 (ixT 3 v130 v25 λ v150=>faT 1 v150 λ v151=>.ef (Instr.storeAt 84 v151 v149) (.dr (ixT 1 v21 (I 0) λ v153=>.ld v153 λ v154=>ixT 1 v21 (I 1) λ v158=>.ld v158 λ v159=>.call 108 [v154] λ v155=>.chk none v158 v159 (.pu (binOp .add 9 (.string {data:=#[108,97,110,101]}) v155) λ v156=>.call 108 [v159] λ v160=>.pu (binOp .add 9 v156 v160) λ v161=>.call 129 [v36] λ v163=>.pu (binOp .add 9 v161 v163) λ v164=>.dr (.ldn 8 v2 λ v272=>.pu (do eqGuard .eql 9 (.tmp 273) (.tmp 274) v164 x1;binOp .eql 9 v164 x1) λ v275=>gi v275 (.ldn 8 v2 λ v277=>.call 105 [v277] λ v278=>.chk (some 8) v2 v272 (notT v278 λ v279=>.ef (Instr.storeAt 29 v4 v272) (.ldn 8 v4 λ r0=>.ret (.tuple [r0,v279].toArray)))) (.chk (some 8) v2 v272 (.ef (Instr.storeAt 29 v4 v272) (.ldn 8 v4 λ r0=>.ret (.tuple [r0,(B false)].toArray)))))))))))))))) (.hv (Instr.buildSlice 84 1 [(0,(.agg v147.toArray))].toArray) λ v148=>.chk none v129 v130 (.chk none v133 v134 (.chk none v137 v138 (.hv (Builtin.append_ #[84,84] 84 [v132,v138].toArray) λ v139=>.chk none v129 v130 (.chk none v141 v142 (.chk none v144 v145 (.hv (Builtin.append_ #[84,84] 84 [v139,v148].toArray) λ v149=>.chk none v129 v130 (ixT 3 v130 v25 λ v150=>faT 1 v150 λ v151=>.ef (Instr.storeAt 84 v151 v149) (.dr (ixT 1 v21 (I 0) λ v153=>.ld v153 λ v154=>ixT 1 v21 (I 1) λ v158=>.ld v158 λ v159=>.call 108 [v154] λ v155=>.chk none v158 v159 (.pu (binOp .add 9 (.string {data:=#[108,97,110,101]}) v155) λ v156=>.call 108 [v159] λ v160=>.pu (binOp .add 9 v156 v160) λ v161=>.call 129 [v36] λ v163=>.pu (binOp .add 9 v161 v163) λ v164=>.dr (.ldn 8 v2 λ v272=>.pu (do eqGuard .eql 9 (.tmp 273) (.tmp 274) v164 x1;binOp .eql 9 v164 x1) λ v275=>gi v275 (.ldn 8 v2 λ v277=>.call 105 [v277] λ v278=>.chk (some 8) v2 v272 (notT v278 λ v279=>.ef (Instr.storeAt 29 v4 v272) (.ldn 8 v4 λ r0=>.ret (.tuple [r0,v279].toArray)))) (.chk (some 8) v2 v272 (.ef (Instr.storeAt 29 v4 v272) (.ldn 8 v4 λ r0=>.ret (.tuple [r0,(B false)].toArray)))))))))))))))))))))) (.hv (Instr.buildSlice 84 1 [(0,(.agg v147.toArray))].toArray) λ v148=>.chk none v129 v130 (.chk none v133 v134 (.chk none v137 v138 (.hv (Instr.buildSlice 84 0 [].toArray) λ v132=>.chk none v129 v130 (.chk none v133 v134 (.chk none v137 v138 (.chk none v141 v142 (.chk none v144 v145 (.hv (Builtin.append_ #[84,84] 84 [v132,v138].toArray) λ v139=>.chk none v129 v130 (.chk none v141 v142 (.chk none v144 v145 (.hv (Builtin.append_ #[84,84] 84 [v139,v148].toArray) λ v149=>.chk none v129 v130 (ixT 3 v130 v25 λ v150=>faT 1 v150 λ v151=>.ef (Instr.storeAt 84 v151 v149) (.dr (ixT 1 v21 (I 0) λ v153=>.ld v153 λ v154=>ixT 1 v21 (I 1) λ v158=>.ld v158 λ v159=>.call 108 [v154] λ v155=>.chk none v158 v159 (.pu (binOp .add 9 (.string {data:=#[108,97,110,101]}) v155) λ v156=>.call 108 [v159] λ v160=>.pu (binOp .add 9 v156 v160) λ v161=>.call 129 [v36] λ v163=>.pu (binOp .add 9 v161 v163) λ v164=>.dr (.ldn 8 v2 λ v272=>.pu (do eqGuard .eql 9 (.tmp 273) (.tmp 274) v164 x1;binOp .eql 9 v164 x1) λ v275=>gi v275 (.ldn 8 v2 λ v277=>.call 105 [v277] λ v278=>.chk (some 8) v2 v272 (notT v278 λ v279=>.ef (Instr.storeAt 29 v4 v272) (.ldn 8 v4 λ r0=>.ret (.tuple [r0,v279].toArray)))) (.chk (some 8) v2 v272 (.ef (Instr.storeAt 29 v4 v272) (.ldn 8 v4 λ r0=>.ret (.tuple [r0,(B false)].toArray)))))))))))))))))))))))
def arecv (x1 v2 v4 v15 v21 v25 v36:Value):T:=.hv (Instr.buildSlice 25 0 [].toArray) λ v167=>faT 2 v2 λ v168=>.ld v168 λ v169=>.hv (Builtin.append_ #[25,25] 25 [v167,v169].toArray) λ v170=>faT 2 v2 λ v171=>.ef (Instr.storeAt 25 v171 v170) (.dr (faT 2 v2 λ v172=>.ld v172 λ v173=>faT 2 v2 λ v176=>.ld v176 λ v177=>ixT 3 v177 v25 λ v179=>faT 2 v179 λ v180=>.ld v180 λ v181=>ixT 1 v21 (I 0) λ v184=>.ld v184 λ v185=>bdT [(0,v185),(1,v36)] [(I 0),(B false)] λ v187=>.amb (.hv (Instr.buildSlice 85 0 [].toArray) λ v175=>.chk none v172 v173 (.chk none v176 v177 (.chk none v180 v181 (.chk none v184 v185 (.amb (.hv (Builtin.append_ #[85,85] 85 [v175,v181].toArray) λ v182=>.chk none v172 v173 (.chk none v184 v185 (.hv (Instr.buildSlice 85 1 [(0,(.agg v187.toArray))].toArray) λ v188=>.chk none v172 v173 (.chk none v176 v177 (.chk none v180 v181 (.hv (Builtin.append_ #[85,85] 85 [v182,v188].toArray) λ v189=>.chk none v172 v173 (ixT 3 v173 v25 λ v190=>faT 2 v190 λ v191=>.ef (Instr.storeAt 85 v191 v189) (ixT 1 v21 (I 0) λ v193=>.ld v193 λ v194=>.call 108 [v194] λ v195=>.pu (binOp .add 9 (.string {data:=#[114,101,99,101,105,118,101,114]}) v195) λ v196=>.call 129 [v36] λ v198=>.pu (binOp .add 9 v196 v198) λ v199=>.dr (.ldn 8 v2 λ v272=>.pu (do eqGuard .eql 9 (.tmp 273) (.tmp 274) v199 x1;binOp .eql 9 v199 x1) λ v275=>gi v275 (.ldn 8 v2 λ v277=>.call 105 [v277] λ v278=>.chk (some 8) v2 v272 (notT v278 λ v279=>.ef (Instr.storeAt 29 v4 v272) (.ldn 8 v4 λ r0=>.ret (.tuple [r0,v279].toArray)))) (.chk (some 8) v2 v272 (.ef (Instr.storeAt 29 v4 v272) (.ldn 8 v4 λ r0=>.ret (.tuple [r0,(B false)].toArray))))))))))))) (.hv (Instr.buildSlice 85 1 [(0,(.agg v187.toArray))].toArray) λ v188=>.chk none v172 v173 (.chk none v176 v177 (.chk none v180 v181 (.hv (Builtin.append_ #[85,85] 85 [v175,v181].toArray) λ v182=>.chk none v172 v173 (.chk none v184 v185 (.hv (Builtin.append_ #[85,85] 85 [v182,v188].toArray) λ v189=>.chk none v172 v173 (ixT 3 v173 v25 λ v190=>faT 2 v190 λ v191=>.ef (Instr.storeAt 85 v191 v189) (ixT 1 v21 (I 0) λ v193=>.ld v193 λ v194=>.call 108 [v194] λ v195=>.pu (binOp .add 9 (.string {data:=#[114,101,99,101,105,118,101,114]}) v195) λ v196=>.call 129 [v36] λ v198=>.pu (binOp .add 9 v196 v198) λ v199=>.dr (.ldn 8 v2 λ v272=>.pu (do eqGuard .eql 9 (.tmp 273) (.tmp 274) v199 x1;binOp .eql 9 v199 x1) λ v275=>gi v275 (.ldn 8 v2 λ v277=>.call 105 [v277] λ v278=>.chk (some 8) v2 v272 (notT v278 λ v279=>.ef (Instr.storeAt 29 v4 v272) (.ldn 8 v4 λ r0=>.ret (.tuple [r0,v279].toArray)))) (.chk (some 8) v2 v272 (.ef (Instr.storeAt 29 v4 v272) (.ldn 8 v4 λ r0=>.ret (.tuple [r0,(B false)].toArray)))))))))))))))))) (.hv (Instr.buildSlice 85 1 [(0,(.agg v187.toArray))].toArray) λ v188=>.chk none v172 v173 (.chk none v176 v177 (.chk none v180 v181 (.hv (Instr.buildSlice 85 0 [].toArray) λ v175=>.chk none v172 v173 (.chk none v176 v177 (.chk none v180 v181 (.chk none v184 v185 (.hv (Builtin.append_ #[85,85] 85 [v175,v181].toArray) λ v182=>.chk none v172 v173 (.chk none v184 v185 (.hv (Builtin.append_ #[85,85] 85 [v182,v188].toArray) λ v189=>.chk none v172 v173 (ixT 3 v173 v25 λ v190=>faT 2 v190 λ v191=>.ef (Instr.storeAt 85 v191 v189) (ixT 1 v21 (I 0) λ v193=>.ld v193 λ v194=>.call 108 [v194] λ v195=>.pu (binOp .add 9 (.string {data:=#[114,101,99,101,105,118,101,114]}) v195) λ v196=>.call 129 [v36] λ v198=>.pu (binOp .add 9 v196 v198) λ v199=>.dr (.ldn 8 v2 λ v272=>.pu (do eqGuard .eql 9 (.tmp 273) (.tmp 274) v199 x1;binOp .eql 9 v199 x1) λ v275=>gi v275 (.ldn 8 v2 λ v277=>.call 105 [v277] λ v278=>.chk (some 8) v2 v272 (notT v278 λ v279=>.ef (Instr.storeAt 29 v4 v272) (.ldn 8 v4 λ r0=>.ret (.tuple [r0,v279].toArray)))) (.chk (some 8) v2 v272 (.ef (Instr.storeAt 29 v4 v272) (.ldn 8 v4 λ r0=>.ret (.tuple [r0,(B false)].toArray)))))))))))))))))))
def agate (x1 v2 v4 v15 v21 v25 v36:Value):T:=.dr (faT 3 v2 λ v203=>.ld v203 λ v204=>ixT 1 v21 (I 0) λ v207=>.ld v207 λ v208=>ixT 1 v21 (I 1) λ v210=>.ld v210 λ v211=>ixT 1 v21 (I 2) λ v213=>.ld v213 λ v214=>bdT [(0,v208),(1,v211),(2,v214)] [(I 0),(I 0),(I 0)] λ v215=>.amb (.hv (Instr.buildSlice 26 0 [].toArray) λ v202=>.chk none v203 v204 (.chk none v207 v208 (.chk none v210 v211 (.chk none v213 v214 (.amb (.hv (Builtin.append_ #[26,26] 26 [v202,v204].toArray) λ v205=>.chk none v207 v208 (.chk none v210 v211 (.chk none v213 v214 (.hv (Instr.buildSlice 26 1 [(0,(.agg v215.toArray))].toArray) λ v216=>.chk none v203 v204 (.hv (Builtin.append_ #[26,26] 26 [v205,v216].toArray) λ v217=>faT 3 v2 λ v218=>.ef (Instr.storeAt 26 v218 v217) (.dr (ixT 1 v21 (I 0) λ v220=>.ld v220 λ v221=>ixT 1 v21 (I 1) λ v225=>.ld v225 λ v226=>ixT 1 v21 (I 2) λ v230=>.ld v230 λ v231=>.call 108 [v221] λ v222=>.chk none v225 v226 (.chk none v230 v231 (.pu (binOp .add 9 (.string {data:=#[103,97,116,101]}) v222) λ v223=>.call 108 [v226] λ v227=>.chk none v230 v231 (.pu (binOp .add 9 v223 v227) λ v228=>.call 108 [v231] λ v232=>.pu (binOp .add 9 v228 v232) λ v233=>.dr (.ldn 8 v2 λ v272=>.pu (do eqGuard .eql 9 (.tmp 273) (.tmp 274) v233 x1;binOp .eql 9 v233 x1) λ v275=>gi v275 (.ldn 8 v2 λ v277=>.call 105 [v277] λ v278=>.chk (some 8) v2 v272 (notT v278 λ v279=>.ef (Instr.storeAt 29 v4 v272) (.ldn 8 v4 λ r0=>.ret (.tuple [r0,v279].toArray)))) (.chk (some 8) v2 v272 (.ef (Instr.storeAt 29 v4 v272) (.ldn 8 v4 λ r0=>.ret (.tuple [r0,(B false)].toArray))))))))))))))) (.hv (Instr.buildSlice 26 1 [(0,(.agg v215.toArray))].toArray) λ v216=>.chk none v203 v204 (.hv (Builtin.append_ #[26,26] 26 [v202,v204].toArray) λ v205=>.chk none v207 v208 (.chk none v210 v211 (.chk none v213 v214 (.hv (Builtin.append_ #[26,26] 26 [v205,v216].toArray) λ v217=>faT 3 v2 λ v218=>.ef (Instr.storeAt 26 v218 v217) (.dr (ixT 1 v21 (I 0) λ v220=>.ld v220 λ v221=>ixT 1 v21 (I 1) λ v225=>.ld v225 λ v226=>ixT 1 v21 (I 2) λ v230=>.ld v230 λ v231=>.call 108 [v221] λ v222=>.chk none v225 v226 (.chk none v230 v231 (.pu (binOp .add 9 (.string {data:=#[103,97,116,101]}) v222) λ v223=>.call 108 [v226] λ v227=>.chk none v230 v231 (.pu (binOp .add 9 v223 v227) λ v228=>.call 108 [v231] λ v232=>.pu (binOp .add 9 v228 v232) λ v233=>.dr (.ldn 8 v2 λ v272=>.pu (do eqGuard .eql 9 (.tmp 273) (.tmp 274) v233 x1;binOp .eql 9 v233 x1) λ v275=>gi v275 (.ldn 8 v2 λ v277=>.call 105 [v277] λ v278=>.chk (some 8) v2 v272 (notT v278 λ v279=>.ef (Instr.storeAt 29 v4 v272) (.ldn 8 v4 λ r0=>.ret (.tuple [r0,v279].toArray)))) (.chk (some 8) v2 v272 (.ef (Instr.storeAt 29 v4 v272) (.ldn 8 v4 λ r0=>.ret (.tuple [r0,(B false)].toArray)))))))))))))))))))) (.hv (Instr.buildSlice 26 1 [(0,(.agg v215.toArray))].toArray) λ v216=>.chk none v203 v204 (.hv (Instr.buildSlice 26 0 [].toArray) λ v202=>.chk none v203 v204 (.chk none v207 v208 (.chk none v210 v211 (.chk none v213 v214 (.hv (Builtin.append_ #[26,26] 26 [v202,v204].toArray) λ v205=>.chk none v207 v208 (.chk none v210 v211 (.chk none v213 v214 (.hv (Builtin.append_ #[26,26] 26 [v205,v216].toArray) λ v217=>faT 3 v2 λ v218=>.ef (Instr.storeAt 26 v218 v217) (.dr (ixT 1 v21 (I 0) λ v220=>.ld v220 λ v221=>ixT 1 v21 (I 1) λ v225=>.ld v225 λ v226=>ixT 1 v21 (I 2) λ v230=>.ld v230 λ v231=>.call 108 [v221] λ v222=>.chk none v225 v226 (.chk none v230 v231 (.pu (binOp .add 9 (.string {data:=#[103,97,116,101]}) v222) λ v223=>.call 108 [v226] λ v227=>.chk none v230 v231 (.pu (binOp .add 9 v223 v227) λ v228=>.call 108 [v231] λ v232=>.pu (binOp .add 9 v228 v232) λ v233=>.dr (.ldn 8 v2 λ v272=>.pu (do eqGuard .eql 9 (.tmp 273) (.tmp 274) v233 x1;binOp .eql 9 v233 x1) λ v275=>gi v275 (.ldn 8 v2 λ v277=>.call 105 [v277] λ v278=>.chk (some 8) v2 v272 (notT v278 λ v279=>.ef (Instr.storeAt 29 v4 v272) (.ldn 8 v4 λ r0=>.ret (.tuple [r0,v279].toArray)))) (.chk (some 8) v2 v272 (.ef (Instr.storeAt 29 v4 v272) (.ldn 8 v4 λ r0=>.ret (.tuple [r0,(B false)].toArray))))))))))))))))))))
def aframe (x1 v2 v4 v15 v21 v25 v36:Value):T:=.call 127 [v15] λ v237=>faT 4 v2 λ v238=>.ef (Instr.storeAt 27 v238 v237) (faT 4 v2 λ v239=>.ld v239 λ v240=>.call 106 [v240] λ v241=>.pu (binOp .add 9 (.string {data:=#[102,114,97,109,101]}) v241) λ v242=>.dr (.ldn 8 v2 λ v272=>.pu (do eqGuard .eql 9 (.tmp 273) (.tmp 274) v242 x1;binOp .eql 9 v242 x1) λ v275=>gi v275 (.ldn 8 v2 λ v277=>.call 105 [v277] λ v278=>.chk (some 8) v2 v272 (notT v278 λ v279=>.ef (Instr.storeAt 29 v4 v272) (.ldn 8 v4 λ r0=>.ret (.tuple [r0,v279].toArray)))) (.chk (some 8) v2 v272 (.ef (Instr.storeAt 29 v4 v272) (.ldn 8 v4 λ r0=>.ret (.tuple [r0,(B false)].toArray))))))
def abud (x1 v2 v4 v15 v21 v25 v36:Value):T:=ixT 1 v21 (I 0) λ v246=>.ld v246 λ v247=>faT 5 v2 λ v248=>.ef (Instr.storeAt 3 v248 v247) (ixT 1 v21 (I 1) λ v250=>.ld v250 λ v251=>faT 6 v2 λ v252=>.ef (Instr.storeAt 3 v252 v251) (ixT 1 v21 (I 2) λ v254=>.ld v254 λ v255=>faT 7 v2 λ v256=>.ef (Instr.storeAt 3 v256 v255) (.dr (ixT 1 v21 (I 0) λ v258=>.ld v258 λ v259=>ixT 1 v21 (I 1) λ v263=>.ld v263 λ v264=>ixT 1 v21 (I 2) λ v268=>.ld v268 λ v269=>.call 108 [v259] λ v260=>.chk none v263 v264 (.chk none v268 v269 (.pu (binOp .add 9 (.string {data:=#[98,117,100,103,101,116]}) v260) λ v261=>.call 108 [v264] λ v265=>.chk none v268 v269 (.pu (binOp .add 9 v261 v265) λ v266=>.call 108 [v269] λ v270=>.pu (binOp .add 9 v266 v270) λ v271=>.dr (.ldn 8 v2 λ v272=>.pu (do eqGuard .eql 9 (.tmp 273) (.tmp 274) v271 x1;binOp .eql 9 v271 x1) λ v275=>gi v275 (.ldn 8 v2 λ v277=>.call 105 [v277] λ v278=>.chk (some 8) v2 v272 (notT v278 λ v279=>.ef (Instr.storeAt 29 v4 v272) (.ldn 8 v4 λ r0=>.ret (.tuple [r0,v279].toArray)))) (.chk (some 8) v2 v272 (.ef (Instr.storeAt 29 v4 v272) (.ldn 8 v4 λ r0=>.ret (.tuple [r0,(B false)].toArray))))))))))))
def cs (x1 v2 v4 v15 v21 v25 v36:Value):T:=ixT 1 v15 (I 0) λ v39=>.ld v39 λ v40=>.pu (do eqGuard .eql 9 (.tmp 40) (.const (.string {data:=#[102,108,111,119,115]})) v40 (.string {data:=#[102,108,111,119,115]});binOp .eql 9 v40 (.string {data:=#[102,108,111,119,115]})) λ v42=>gi v42  (aflows x1 v2 v4 v15 v21 v25 v36) (.pu (do eqGuard .eql 9 (.tmp 40) (.const (.string {data:=#[116,101,110,97,110,116]})) v40 (.string {data:=#[116,101,110,97,110,116]});binOp .eql 9 v40 (.string {data:=#[116,101,110,97,110,116]})) λ v79=>gi v79  (aten x1 v2 v4 v15 v21 v25 v36) (.pu (do eqGuard .eql 9 (.tmp 40) (.const (.string {data:=#[99,104,97,110,110,101,108]})) v40 (.string {data:=#[99,104,97,110,110,101,108]});binOp .eql 9 v40 (.string {data:=#[99,104,97,110,110,101,108]})) λ v105=>gi v105  (ach x1 v2 v4 v15 v21 v25 v36) (.pu (do eqGuard .eql 9 (.tmp 40) (.const (.string {data:=#[108,97,110,101]})) v40 (.string {data:=#[108,97,110,101]});binOp .eql 9 v40 (.string {data:=#[108,97,110,101]})) λ v123=>gi v123  (alane x1 v2 v4 v15 v21 v25 v36) (.pu (do eqGuard .eql 9 (.tmp 40) (.const (.string {data:=#[114,101,99,101,105,118,101,114]})) v40 (.string {data:=#[114,101,99,101,105,118,101,114]});binOp .eql 9 v40 (.string {data:=#[114,101,99,101,105,118,101,114]})) λ v166=>gi v166  (arecv x1 v2 v4 v15 v21 v25 v36) (.pu (do eqGuard .eql 9 (.tmp 40) (.const (.string {data:=#[103,97,116,101]})) v40 (.string {data:=#[103,97,116,101]});binOp .eql 9 v40 (.string {data:=#[103,97,116,101]})) λ v201=>gi v201  (agate x1 v2 v4 v15 v21 v25 v36) (.pu (do eqGuard .eql 9 (.tmp 40) (.const (.string {data:=#[102,114,97,109,101]})) v40 (.string {data:=#[102,114,97,109,101]});binOp .eql 9 v40 (.string {data:=#[102,114,97,109,101]})) λ v235=>gi v235  (aframe x1 v2 v4 v15 v21 v25 v36) (.pu (do eqGuard .eql 9 (.tmp 40) (.const (.string {data:=#[98,117,100,103,101,116]})) v40 (.string {data:=#[98,117,100,103,101,116]});binOp .eql 9 v40 (.string {data:=#[98,117,100,103,101,116]})) λ v244=>gi v244  (abud x1 v2 v4 v15 v21 v25 v36) (.dr (.ldn 8 v2 λ v272=>.pu (do eqGuard .eql 9 (.tmp 273) (.tmp 274) (.string {data:=#[]}) x1;binOp .eql 9 (.string {data:=#[]}) x1) λ v275=>gi v275 (.ldn 8 v2 λ v277=>.call 105 [v277] λ v278=>.chk (some 8) v2 v272 (notT v278 λ v279=>.ef (Instr.storeAt 29 v4 v272) (.ldn 8 v4 λ r0=>.ret (.tuple [r0,v279].toArray)))) (.chk (some 8) v2 v272 (.ef (Instr.storeAt 29 v4 v272) (.ldn 8 v4 λ r0=>.ret (.tuple [r0,(B false)].toArray)))))))))))))
end Go.Proofs.YtppodgdhdddfkaaGreatDoor.Ad
set_option linter.unusedVariables false
set_option linter.unusedSimpArgs false
namespace Go.Proofs.YtppodgdhdddfkaaGreatDoor.Cg
set_option maxRecDepth 100000
open Go Go.RowKit Go.Proofs.YtppodgdhdddfkaaGreatDoor.Sx
open Go.Proofs.YtppodgdhdddfkaaGreatDoor.Bi (mixed take_s rList_t)
open Go.Proofs.YtppodgdhdddfkaaGreatDoor.Cf
open Go.Proofs.YtppodgdhdddfkaaGreatDoor.Sg
def addQ (is:Int) (ws:List Bs) (o:Bool) (c:GConf):Option (GConf × Bs):=
 if is=1 then (if okB (ws.map intP)=true then some ({ c with flows:=c.flows++[((ofB (ws.map intP)).toNat:Int)] },kFlows++nums (Bt.memI (ofB (ws.map intP)))) else none)
 else if is=2 then some ({ c with tenants:=c.tenants++[⟨(ws.map intP++[0,0,0]).getD 0 0,(ws.map intP++[0,0,0]).getD 1 0⟩] },(kTen++num ((ws.map intP++[0,0,0]).getD 0 0))++num ((ws.map intP++[0,0,0]).getD 1 0))
 else if is=3 then some ({ c with channels:=c.channels++[⟨(ws.map intP++[0,0,0]).getD 0 0,[],[]⟩] },kCh++num ((ws.map intP++[0,0,0]).getD 0 0))
 else if is=4 then some (lastU c (λ x=>{ x with lanes:=x.lanes++[⟨(ws.map intP++[0,0,0]).getD 0 0,(ws.map intP++[0,0,0]).getD 1 0,o⟩] }),((kLane++num ((ws.map intP++[0,0,0]).getD 0 0))++num ((ws.map intP++[0,0,0]).getD 1 0))++opB o)
 else if is=5 then some (lastU c (λ x=>{ x with receivers:=x.receivers++[⟨(ws.map intP++[0,0,0]).getD 0 0,o⟩] }),(kRec++num ((ws.map intP++[0,0,0]).getD 0 0))++opB o)
 else if is=6 then some ({ c with gates:=c.gates++[⟨(ws.map intP++[0,0,0]).getD 0 0,(ws.map intP++[0,0,0]).getD 1 0,(ws.map intP++[0,0,0]).getD 2 0⟩] },((kGate++num ((ws.map intP++[0,0,0]).getD 0 0))++num ((ws.map intP++[0,0,0]).getD 1 0))++num ((ws.map intP++[0,0,0]).getD 2 0))
 else if is=7 then some ({ c with frame:=ws.map intP },kFrame++nums (ws.map intP))
 else some ({ c with budget:=(ws.map intP++[0,0,0]).getD 0 0,requests:=(ws.map intP++[0,0,0]).getD 1 0,pending:=(ws.map intP++[0,0,0]).getD 2 0 },((kBud++num ((ws.map intP++[0,0,0]).getD 0 0))++num ((ws.map intP++[0,0,0]).getD 1 0))++num ((ws.map intP++[0,0,0]).getD 2 0))
def ck:List (Addr × Value)→T→T
 | [],t=>t
 | (a,v) :: r,t=>.chk none (.pointer (some a)) v (ck r t)
section
variable {P:Program} {Z:ZP} {R:Value→World→Prop} {w w0 w':World} {A:List Nat→List Value→World→Prop} {B:List Nat→Nat→List Value→World→Prop} {ds:List Nat} {k:Value→T} {t:T}
theorem r_ck:∀ {l:List (Addr × Value)},(∀ p∈l,w.cell? p.1=some p.2)→wp P Z R ds t w A B→wp P Z R ds (ck l t) w A B:=by
 intro l
 induction l with
 | nil=>intro _ h;exact h
 | cons p r ih =>
  intro h hk
  obtain ⟨a,v⟩:=p
  exact r_chk (h (a,v) (by simp)) (ih (λ q hq=>h q (by simp [hq])) hk)
theorem or_mono {α:Type} {e:Rl α} {ty base base':Nat} {S:List Nat} {v:Value} {xs:List α} (h:Or e ty base S w v xs) (hb:base'≤base):Or e ty base' S w v xs:=by
 obtain ⟨cells,h1,h2⟩:=h
 exact ⟨cells,own_mono h1 hb,h2⟩
theorem RwO.go {α:Type} {e:Rl α} {S S':List Nat} {A:Option Addr} {xs:List α} (h:RwO S e w A xs) (F:Fr [] w w') (hS:∀ q∈S',q∈S∨w.heap.size≤q):RwO S' e w' A xs:=λ j x hj=>let ⟨a,es,h1,h2,h3⟩:=h j x hj;⟨a,es,h1,h2.fr F,h3.go F (by simp) hS⟩
theorem RwO.plain {α:Type} {e:Rl α} (hp:Plain e) {S:List Nat} {A:Option Addr} {xs:List α} (h:Rw e w A xs):RwO S e w A xs:=λ j x hj=>let ⟨a,es,h1,h2,h3⟩:=h j x hj;⟨a,es,h1,h2,λ _ _=>hp _ _ _ _ h3⟩
theorem r_amb3 {α:Type} {e:Rl α} {T ety bytes ty m c:Nat} {z x1:Value} {xs:List α} {x:α} {es:List Value} {X:Option Addr} (C1 C2 C3 C4 C5 C6 C7 C8:List (Addr × Value)) (S:List Nat) (E:El P T ety e.n bytes z) (hs:RwO S e w X xs) (hm:m=xs.length) (hx:∀ w,e.r w es x) (hb:(xs.length+1) * bytes≤big)
  (hC:∀ w',Fr [] w w'→∀ p,p∈C1∨p∈C2∨p∈C3∨p∈C4∨p∈C5∨p∈C6∨p∈C7∨p∈C8→w'.cell? p.1=some p.2)
  (hk:∀ v' w',Or e ety w.heap.size S w' v' (xs++[x])→Fr [] w w'→wp P Z R ds (k v') w' A B) (hv:x1.cells=es.toArray:=by rfl) (hl:es.length=e.n:=by rfl) (h0:Nat.blt 0 e.n=true:=by rfl) (hn:Nat.ble e.n 1000=true:=by rfl) (hby:Nat.blt 0 bytes=true:=by rfl) :
  wp P Z R ds (.amb (.hv (Instr.buildSlice T 0 [].toArray) λ v80=>ck C1 (.amb (.hv (Builtin.append_ #[T,T] ty [v80,.slice X m c].toArray) λ v83=>ck C2 (.hv (Instr.buildSlice T 1 [(0,x1)].toArray) λ v91=>ck C3 (.hv (Builtin.append_ #[T,T] ty [v83,v91].toArray) k))) (.hv (Instr.buildSlice T 1 [(0,x1)].toArray) λ v91=>ck C4 (.hv (Builtin.append_ #[T,T] ty [v80,.slice X m c].toArray) λ v83=>ck C5 (.hv (Builtin.append_ #[T,T] ty [v83,v91].toArray) k)))))
   (.hv (Instr.buildSlice T 1 [(0,x1)].toArray) λ v91=>ck C6 (.hv (Instr.buildSlice T 0 [].toArray) λ v80=>ck C7 (.hv (Builtin.append_ #[T,T] ty [v80,.slice X m c].toArray) λ v83=>ck C8 (.hv (Builtin.append_ #[T,T] ty [v83,v91].toArray) k))))) w A B:=by
 subst hm
 have hb0:(([]:List α).length+xs.length) * bytes≤big:=Nat.le_trans (Nat.mul_le_mul_right _ (by simp)) hb
 have off:∀ {v:Value} {wa:World},Fr [] w wa→(∀ q∈v.ownBlock.toList,w.heap.size≤q)→RwO (v.ownBlock.toList++S) e wa X xs:=λ f h=>RwO.go hs f (λ q hq=>(List.mem_append.1 hq).elim (λ hq=>.inr (h q hq)) .inl)
 refine ⟨?_,?_⟩
 ·refine r_bs0 (S:=S) E (λ v w1 HO f1 _=>?_)
  have hv1:∀ q∈v.ownBlock.toList,w.heap.size≤q:=λ q hq=>(HO.lt q hq).1
  refine r_ck (λ p hp=>hC w1 f1 p (.inl hp)) ?_
  refine ⟨?_,?_⟩
  ·refine r_apps E HO rfl (off f1 hv1) hb0 f1.size (λ v2 w2 H2 f2 g2=>?_) h0 hby
   have F2:=f1.trans_new f2 (λ q hq=>.inr (hv1 q hq))
   refine r_ck (λ p hp=>hC w2 F2 p (.inr (.inl hp))) ?_
   refine r_bs1 E (λ b w3 hb3 B3 f3=>?_) hv hl h0 hn
   have F3:=F2.trans f3
   refine r_ck (λ p hp=>hC w3 F3 p (.inr (.inr (.inl hp)))) ?_
   refine r_appR (x:=x) E (H2.fr0 f3) (B3.rd hl) (λ w' _=>hx w') hb F3.size (λ v4 w4 H4 f4 g4=>?_) h0 hby
   refine hk v4 w4 H4 (F3.trans_new f4 (λ q hq=>.inr ?_))
   rcases g2 q hq with h | h
   ·exact hv1 q h
   ·exact Nat.le_trans f1.size h
  ·refine r_bs1 E (λ b w2 hb2 B2 f2=>?_) hv hl h0 hn
   have F2:=f1.trans f2
   refine r_ck (λ p hp=>hC w2 F2 p (.inr (.inr (.inr (.inl hp))))) ?_
   refine r_apps E (HO.fr0 f2) rfl (off F2 hv1) hb0 F2.size (λ v3 w3 H3 f3 g3=>?_) h0 hby
   have F3:=F2.trans_new f3 (λ q hq=>.inr (hv1 q hq))
   refine r_ck (λ p hp=>hC w3 F3 p (.inr (.inr (.inr (.inr (.inl hp)))))) ?_
   have B3:=B2.fr f3 (λ hq=>by have:=(HO.lt b hq).2;omega)
   refine r_appR (x:=x) E H3 (B3.rd hl) (λ w' _=>hx w') hb F3.size (λ v4 w4 H4 f4 g4=>?_) h0 hby
   refine hk v4 w4 H4 (F3.trans_new f4 (λ q hq=>.inr ?_))
   rcases g3 q hq with h | h
   ·exact hv1 q h
   ·exact Nat.le_trans F2.size h
 ·refine r_bs1 E (λ b w1 hb1 B1 f1=>?_) hv hl h0 hn
  refine r_ck (λ p hp=>hC w1 f1 p (.inr (.inr (.inr (.inr (.inr (.inl hp))))))) ?_
  refine r_bs0 (S:=S) E (λ v w2 HO f2 _=>?_)
  have F2:=f1.trans f2
  have hv1:∀ q∈v.ownBlock.toList,w.heap.size≤q:=λ q hq=>Nat.le_trans f1.size (HO.lt q hq).1
  refine r_ck (λ p hp=>hC w2 F2 p (.inr (.inr (.inr (.inr (.inr (.inr (.inl hp)))))))) ?_
  refine r_apps E HO rfl (off F2 hv1) hb0 f2.size (λ v3 w3 H3 f3 g3=>?_) h0 hby
  have F3:=F2.trans_new f3 (λ q hq=>.inr (hv1 q hq))
  refine r_ck (λ p hp=>hC w3 F3 p (.inr (.inr (.inr (.inr (.inr (.inr (.inr hp)))))))) ?_
  have B3:=(B1.fr0 f2).fr f3 (λ hq=>by have:=(HO.lt b hq).1;have:=B1.lt;omega)
  refine r_appR (x:=x) E H3 (B3.rd hl) (λ w' _=>hx w') hb (by have:=f2.size;have:=f3.size;omega) (λ v4 w4 H4 f4 g4=>?_) h0 hby
  refine hk v4 w4 (or_mono H4 f1.size) (F3.trans_new f4 (λ q hq=>.inr ?_))
  rcases g3 q hq with h | h
  ·exact hv1 q h
  ·exact Nat.le_trans F2.size h
end
def chO (S:List Nat) (us:List Value):Prop:=∀ v,us[2]? = some v→∀ q∈v.ownBlock.toList,q∉S
structure CO (S:List Nat) (w:World) (cs:List Value) (c:GConf):Prop where
 off:Off S (λ w=>rConf.r w cs c) w
 ch:c.channels≠[]→chO S cs
theorem CO.now {S:List Nat} {w:World} {cs:List Value} {c:GConf} (h:CO S w cs c):rConf.r w cs c:=h.off.now
theorem CO.go {S S':List Nat} {w w':World} {cs:List Value} {c:GConf} (h:CO S w cs c) (f:Fr [] w w') (hS:∀ q∈S',q∈S):CO S' w' cs c:=⟨h.off.go f (by simp) (λ q hq=>.inl (hS q hq)),λ hn v hv q hq hs=>h.ch hn v hv q hq (hS q hs)⟩
theorem CO.go2 {S S':List Nat} {w w':World} {cs:List Value} {c:GConf} (h:CO S w cs c) (f:Fr S' w w') (hS:∀ q∈S',q∈S∨w.heap.size≤q):CO S w' cs c:=⟨h.off.go f hS (λ q hq=>.inl hq),h.ch⟩
theorem CO.k {S:List Nat} {w0 w:World} {A0 A1 A2 A3 A4:Option Addr} {n0 n1 n2 n3 n4 c0 c1 c2 c3 c4:Nat} {b5 b6 b7:Value} {c:GConf} (h:CO S w0 [.slice A0 n0 c0,.slice A1 n1 c1,.slice A2 n2 c2,.slice A3 n3 c3,.slice A4 n4 c4,b5,b6,b7] c) (F:Fr S w0 w):(c.flows.length≤c0∧c.flows.length≤big∧Rw (rI .u64) w A0 c.flows)∧(c.tenants.length≤c1∧c.tenants.length≤big∧Rw rTenant w A1 c.tenants)∧(c.channels.length≤c2∧c.channels.length≤big∧Rw rChannel w A2 c.channels)∧(c.gates.length≤c3∧c.gates.length≤big∧Rw rGate w A3 c.gates)∧(c.frame.length≤c4∧c.frame.length≤big∧Rw (rI .i64) w A4 c.frame):=by
 obtain ⟨_,_,_,_,_,_,_,_,_,_,e,k0,k1,k2,k3,k4⟩:=oConf (h.off w F)
 cases e
 exact ⟨k0,k1,k2,k3,k4⟩
theorem CO.chs {S D:List Nat} {w0 w:World} {A0 A1 A2 A3 A4:Option Addr} {n0 n1 n2 n3 n4 c0 c1 c2 c3 c4:Nat} {b5 b6 b7:Value} {c:GConf} (h:CO S w0 [.slice A0 n0 c0,.slice A1 n1 c1,.slice A2 n2 c2,.slice A3 n3 c3,.slice A4 n4 c4,b5,b6,b7] c) (F:Fr [] w0 w) (hD:∀ q∈D,q∈S∨w0.heap.size≤q):RwO D rChannel w A2 c.channels:=by
 intro j x hj
 have F0:Fr [] w0 w0:=Fr.refl _ _
 obtain ⟨a,es,rfl,rd,hr⟩:=(h.k (F0.mono (by simp))).2.2.1.2.2 j x hj
 refine ⟨a,es,rfl,rd.fr F,λ w' f=>?_⟩
 have F':Fr S w0 w':=(F.mono (by simp)).trans_new f hD
 obtain ⟨a',es',e,rd',hr'⟩:=(h.k F').2.2.1.2.2 j x hj
 cases e
 have ha:a.block∉S:=h.ch (λ e=>by rw [e] at hj;simp at hj) _ rfl a.block (by simp [Value.ownBlock])
 have ee:es'=es:=by
  apply List.ext_getElem?
  intro i
  by_cases hi:i < es.length
  ·obtain ⟨v,hv⟩:=gt hi
   have c1:=F'.cell (rd.2 i v hv) (by rw [addA_addA,addA_eq,show (a.add (j * rChannel.n+i)).block=a.block by unfold Addr.add;split<;>rfl];exact ha)
   have hi':i < es'.length:=by rw [rd'.1,← rd.1];exact hi
   obtain ⟨v',hv'⟩:=gt hi'
   have c2:=rd'.2 i v' hv'
   rw [c1] at c2
   rw [hv,hv']
   exact c2.symm
  ·rw [List.getElem?_eq_none (l:=es) (by omega),List.getElem?_eq_none (l:=es') (by rw [rd'.1,← rd.1];omega)]
 rw [← ee]
 exact hr'
theorem CO.new {S:List Nat} {w w':World} {cs:List Value} {c:GConf} {b:Nat} (h:CO S w cs c) (f:Fr [] w w') (hb:w.heap.size≤b):CO (b :: S) w' cs c:=by
 refine ⟨h.off.go f (by simp) (λ q hq=>?_),λ hn v hv q hq hs=>?_⟩
 ·rcases List.mem_cons.1 hq with rfl | hq
  ·exact .inr hb
  ·exact .inl hq
 ·rcases List.mem_cons.1 hs with rfl | hs
  ·obtain ⟨A0,c0,A1,c1,A2,c2,A3,c3,A4,c4,rfl,k0,k1,k2,k3,k4⟩:=oConf h.now
   cases hv
   obtain ⟨x,l,hx⟩:=List.exists_cons_of_ne_nil hn
   obtain ⟨a,es,rfl,rd,_⟩:=k2.2.2 0 x (by rw [hx];rfl)
   have hes:es.length=3:=rd.1
   obtain ⟨u,hu⟩:=gt (xs:=es) (j:=0) (by omega)
   have hlt:=World.block_lt_of_cell? w _ (rd.2 0 u hu)
   rw [addA_addA,addA_eq,show (a.add (0 * rChannel.n+0)).block=a.block by unfold Addr.add;split<;>rfl] at hlt
   simp [Value.ownBlock] at hq
   omega
  ·exact h.ch hn v hv q hq hs
def AddR (S:List Nat) (w0:World) (q:Option (GConf × Bs)) (l:Bs) (r:Value) (w':World):Prop:=∃ (us:List Value) (c':GConf) (b:Bool),r=.tuple [.agg us.toArray,.bool b].toArray∧CO S w' us c'∧Fr [] w0 w'∧((∃ own,q=some (c',own)∧b=(decide (own=l) && !manyP c'))∨(q=none∧b=false))
structure AX (S:List Nat) (w0 w:World) (cs:List Value) (v2 v4:Nat) (k:Bs) (ws:List Bs) (vw:Value) (ai:Addr):Prop where
 F:Fr [] w0 w
 hS:∀ q∈S,q < w0.heap.size
 g2:w0.heap.size≤v2
 g4:w0.heap.size≤v4
 ne:v4≠v2
 B2:Blk w v2 29 cs
 B4:Blk w v4 29 zC
 W:Sl rT w vw (k :: ws)
 N:∀ (j:Nat) z,(ws.map intP++[0,0,0])[j]? = some z→Off [v2,v4] (λ w=>w.cell? (addA ai (((j:Nat):Int).toNat * 1))=some (I z)) w
 wl:ws.length≤90000
 ww:∀ a∈ws,a.length≤100000
section
variable {Z:ZP} {w0 w w1:World} {A:List Nat→List Value→World→Prop} {B:List Nat→Nat→List Value→World→Prop} {S:List Nat} {cs:List Value} {v2 v4:Nat} {k l:Bs} {ws:List Bs} {vw:Value} {ai:Addr} {o:Bool} {q:Option (GConf × Bs)}
theorem vals64 (ws:List Bs):∀ z∈ws.map intP++[0,0,0],in64 z:=by
 intro z hz
 rcases List.mem_append.1 hz with hz | hz
 ·obtain ⟨s,_,rfl⟩:=List.mem_map.1 hz
  exact intP_64 s
 ·simp at hz;subst hz;unfold in64;omega
theorem val_at (ws:List Bs) (j:Nat) (h:j < 3):(ws.map intP++[0,0,0])[j]? = some ((ws.map intP++[0,0,0]).getD j 0):=by
 have hl:j < (ws.map intP++[0,0,0]).length:=by simp;omega
 rw [List.getD_eq_getElem?_getD,List.getElem?_eq_getElem hl]
 rfl
theorem val_64 (ws:List Bs) (j:Nat) (h:j < 3):in64 ((ws.map intP++[0,0,0]).getD j 0):=vals64 ws _ (List.mem_of_getElem? (val_at ws j h))
theorem AX.lt (X:AX S w0 w cs v2 v4 k ws vw ai) {w':World} (f:Fr [] w w'):∀ q∈v2 :: v4 :: S,q < w'.heap.size:=λ q hq=>by
 have:=X.B2.lt;have:=X.B4.lt;have:=f.size;have:=X.F.size
 simp at hq
 rcases hq with rfl | rfl | hq
 ·omega
 ·omega
 ·have:=X.hS q hq;omega
theorem AX.nw (X:AX S w0 w cs v2 v4 k ws vw ai):∀ q∈v2 :: v4 :: S,q∈S∨w0.heap.size≤q:=λ q hq=>by
 have:=X.g2;have:=X.g4
 simp at hq
 rcases hq with rfl | rfl | hq
 ·exact .inr (by omega)
 ·exact .inr (by omega)
 ·exact .inl hq
theorem AX.off (X:AX S w0 w cs v2 v4 k ws vw ai) {w':World} (f:Fr (v2 :: v4 :: S) w w'):Fr S w0 w':=(X.F.mono (by simp)).trans_new f X.nw
theorem AX.off0 (X:AX S w0 w cs v2 v4 k ws vw ai) {w':World} (f:Fr [v2,v4] w w'):Fr [] w0 w':=X.F.trans_new f (λ q hq=>.inr (by have:=X.g2;have:=X.g4;simp at hq;rcases hq with rfl | rfl<;>assumption))
theorem afin_wp (X:AX S w0 w cs v2 v4 k ws vw ai) {us:List Value} {c':GConf} {own:Bs} (hq:q=some (c',own)) (f:Fr [v2] w w1) (hB:Blk w1 v2 29 us) (hr:Off (v2 :: v4 :: S) (λ w=>rConf.r w us c') w1) (hch:c'.channels≠[]→chO S us):wp Tryz.prog Z (AddR S w0 q l) [] (Ad.fin (Tx l) (Pt v2 0) (Pt v4 0) (Tx own)) w1 A B:=by
 have lu:us.length=8:=rConf.len hr.now
 have B4:=X.B4.fr f (by simpa using X.ne)
 refine r_dr (λ w2 f2=>?_)
 have hB2:=hB.fr0 f2
 have F2:Fr [v2,v4] w w2:=(f.mono (by simp)).trans (f2.mono (by simp))
 have hr2:Off (v2 :: v4 :: S) (λ w=>rConf.r w us c') w2:=hr.go f2 (by simp) (λ q hq=>.inl hq)
 refine r_ldn (hB2.rd lu) ?_
 have out:∀ {w3:World} {b:Bool},Fr [] w2 w3→b=(decide (own=l) && !manyP c')→wp Tryz.prog Z (AddR S w0 q l) [] (.ef (Instr.storeAt 29 (Pt v4 0) (.agg us.toArray)) (.ldn 8 (Pt v4 0) λ r0=>.ret (.tuple [r0,.bool b].toArray))) w3 A B:=by
  intro w3 b f3 hbq
  refine r_stn ((B4.fr0 f2).fr0 f3) Tryz.sizeOf29 (rConf.one hr.now) (λ w4 B5 f4=>?_) rfl lu rfl
  refine r_ldn (B5.rd lu) ?_
  have f24:Fr [v2,v4] w2 w4:=(f3.mono (by simp)).trans (f4.mono (λ q hq=>by simp at hq;subst hq;simp))
  exact r_ret ⟨us,c',b,rfl,⟨hr2.go f24 (λ q hq=>.inl (by simp at hq;rcases hq with rfl | rfl<;>simp)) (λ q hq=>.inl (by simp [hq])),hch⟩,X.off0 (F2.trans f24),.inl ⟨own,hq,hbq⟩⟩
 refine r_teq ?_
 refine r_if (λ h=>?_) (λ h=>?_)
 ·refine r_ldn (hB2.rd lu) ?_
  refine r_call (rmany_t hr2.now) ?_
  rintro _ w3 ⟨rfl,f3⟩
  refine r_chkn ((hB2.fr0 f3).rd lu) ?_
  exact out f3 (by rw [decide_eq_true h,Bool.true_and])
 ·refine r_chkn (hB2.rd lu) ?_
  exact out (Fr.refl _ _) (by rw [decide_eq_false h,Bool.false_and])
end
end Go.Proofs.YtppodgdhdddfkaaGreatDoor.Cg
set_option linter.unusedVariables false
set_option linter.unusedSimpArgs false
namespace Go.Proofs.YtppodgdhdddfkaaGreatDoor.Cg
set_option maxRecDepth 100000
open Go Go.RowKit Go.Proofs.YtppodgdhdddfkaaGreatDoor.Sx
open Go.Proofs.YtppodgdhdddfkaaGreatDoor.Bi (mixed take_s rList_t)
open Go.Proofs.YtppodgdhdddfkaaGreatDoor.Cf
open Go.Proofs.YtppodgdhdddfkaaGreatDoor.Sg
section
variable {Z:ZP} {w0 w w1:World} {A:List Nat→List Value→World→Prop} {B:List Nat→Nat→List Value→World→Prop} {S:List Nat} {cs:List Value} {c:GConf} {v2 v4 ci:Nat} {k l:Bs} {ws:List Bs} {vw vk:Value} {ai:Addr} {o:Bool} {q:Option (GConf × Bs)}
theorem AX.num (X:AX S w0 w cs v2 v4 k ws vw ai) (j:Nat) (hj:j < 3) {w':World} (f:Fr [v2,v4] w w'):w'.cell? (addA ai (((j:Nat):Int).toNat * 1))=some (I ((ws.map intP++[0,0,0]).getD j 0)):=X.N j _ (val_at ws j hj) w' f
theorem plainTen:Plain rTenant:=λ _ _ _ _ h=>h
theorem plainGate:Plain rGate:=λ _ _ _ _ h=>h
theorem plainU:Plain (rI .u64):=λ _ _ _ _ h=>h
theorem chO_new {S:List Nat} {us:List Value} {v:Value} (h:us[2]? = some v) (hv:∀ q∈v.ownBlock.toList,q∉S):chO S us:=λ v' h'=>by rw [h] at h';cases h';exact hv
theorem vlen (ws:List Bs):((ws.map intP++[0,0,0]).length:Int)=ws.length+3:=by simp
theorem aten_wp (X:AX S w0 w cs v2 v4 k ws vw ai) (hc:CO S w0 cs c) (hm:manyP c=false) (hq:q=addQ 2 ws o c):wp Tryz.prog Z (AddR S w0 q l) [] (Ad.aten (Tx l) (Pt v2 0) (Pt v4 0) vw (.slice (some ai) (ws.map intP++[0,0,0]).length ci) vk (.bool o)) w A B:=by
 obtain ⟨A0,c0,A1,c1,A2,c2,A3,c3,A4,c4,rfl,k0,k1,k2,k3,k4⟩:=oConf hc.now
 obtain ⟨m0,m1,m2,m3,m4,m5⟩:=few hm
 have hvl:=vlen ws
 have N0:∀ {w':World},Fr [v2,v4] w w'→w'.cell? (addA ai (((0:Nat):Int).toNat * 1))=some (I ((ws.map intP++[0,0,0]).getD 0 0)):=λ f=>X.num 0 (by decide) f
 have h64_0:=val_64 ws 0 (by decide)
 have N1:∀ {w':World},Fr [v2,v4] w w'→w'.cell? (addA ai (((1:Nat):Int).toNat * 1))=some (I ((ws.map intP++[0,0,0]).getD 1 0)):=λ f=>X.num 1 (by decide) f
 have h64_1:=val_64 ws 1 (by decide)
 unfold addQ at hq
 rw [if_neg (by decide),if_pos rfl] at hq
 generalize (ws.map intP++[0,0,0]).getD 0 0=n0 at N0 h64_0 hq
 generalize (ws.map intP++[0,0,0]).getD 1 0=n1 at N1 h64_1 hq
 have L0:=num_len n0 h64_0
 have L1:=num_len n1 h64_1
 refine r_dr (λ w1 f1=>?_)
 have e1:Fr [v2,v4] w w1:=f1.mono (by simp)
 have B2:=X.B2.fr0 f1
 refine r_ld (B2.cell (o:=1) rfl) ?_
 refine r_ob ⟨by decide,by omega⟩ ?_
 refine r_ld (N0 e1) ?_
 refine r_ob ⟨by decide,by omega⟩ ?_
 refine r_ld (N1 e1) ?_
 have l2:=B2.lt
 have l4:=(X.B4.fr0 f1).lt
 have hS:=X.lt f1
 refine r_amb3 (e:=rTenant) (x:=(⟨n0,n1⟩:GTenant)) (es:=eTenant ⟨n0,n1⟩) [(⟨v2,1,none⟩,.slice A1 c.tenants.length c1),(addA ai (((0:Nat):Int).toNat * 1),I n0),(addA ai (((1:Nat):Int).toNat * 1),I n1)] [(addA ai (((0:Nat):Int).toNat * 1),I n0),(addA ai (((1:Nat):Int).toNat * 1),I n1)] [(⟨v2,1,none⟩,.slice A1 c.tenants.length c1)] [(⟨v2,1,none⟩,.slice A1 c.tenants.length c1)] [(addA ai (((0:Nat):Int).toNat * 1),I n0),(addA ai (((1:Nat):Int).toNat * 1),I n1)] [(⟨v2,1,none⟩,.slice A1 c.tenants.length c1)] [(⟨v2,1,none⟩,.slice A1 c.tenants.length c1),(addA ai (((0:Nat):Int).toNat * 1),I n0),(addA ai (((1:Nat):Int).toNat * 1),I n1)] [(addA ai (((0:Nat):Int).toNat * 1),I n0),(addA ai (((1:Nat):Int).toNat * 1),I n1)] (v2 :: v4 :: S) Ten (RwO.plain plainTen (k1.2.2.up (X.F.trans f1))) rfl (λ _=>rfl) (by simp only [big];omega) ?_ (λ v' w2 HO F2=>?_)
 ·intro w' f p hp
  have e2:Fr [v2,v4] w w':=e1.trans (f.mono (by simp))
  have hp':p∈[(⟨v2,1,none⟩,.slice A1 c.tenants.length c1),(addA ai (((0:Nat):Int).toNat * 1),I n0),(addA ai (((1:Nat):Int).toNat * 1),I n1)]:=by
   rcases hp with hp | hp | hp | hp | hp | hp | hp | hp<;>first | exact hp | exact List.mem_cons_of_mem _ hp | exact List.mem_cons.2 (.inl (List.mem_singleton.1 hp))
  simp only [List.mem_cons,List.not_mem_nil,or_false] at hp'
  rcases hp' with rfl | rfl | rfl
  ·exact (B2.fr0 f).cell (o:=1) rfl
  ·exact N0 e2
  ·exact N1 e2
 have hbig:(c.tenants++[(⟨n0,n1⟩:GTenant)]).length≤big:=by simp only [big];simp;omega
 obtain ⟨X2,d2,rfl⟩:∃ X2 d2,v'=.slice X2 (c.tenants++[(⟨n0,n1⟩:GTenant)]).length d2:=by
  obtain ⟨X2,d2,e,_⟩:=HO.row hbig
  exact ⟨X2,d2,e⟩
 refine r_st1 (B2.fr0 F2) Tryz.sizeOf24 (λ w3 B3 f3=>?_)
 have F3:Fr [v2] w w3:=((f1.mono (by simp)).trans (F2.mono (by simp))).trans f3
 refine r_dr (λ w4 f4=>?_)
 have F4:Fr [v2] w w4:=F3.trans (f4.mono (by simp))
 have e4:Fr [v2,v4] w w4:=F4.mono (by simp)
 refine r_ob ⟨by decide,by omega⟩ ?_
 refine r_ld (N0 e4) ?_
 refine r_ob ⟨by decide,by omega⟩ ?_
 refine r_ld (N1 e4) ?_
 refine r_call (rnumber_t n0 h64_0) ?_
 rintro _ u0 ⟨rfl,g0⟩
 have G0:Fr [] w3 u0:=f4.trans g0
 refine r_chk (N1 ((F3.mono (by simp)).trans (G0.mono (by simp)))) ?_
 refine r_cat (a:=kTen) (by simp only [kTen,List.length_append,List.length_cons,List.length_nil];omega) ?_
 refine r_call (rnumber_t n1 h64_1) ?_
 rintro _ u1 ⟨rfl,g1⟩
 have G1:Fr [] w3 u1:=G0.trans g1
 refine r_cat (by simp only [kTen,List.length_append,List.length_cons,List.length_nil];omega) ?_
 refine afin_wp X hq (F3.trans (G1.mono (by simp))) (B3.fr0 G1) (λ w5 f5=>?_) (hc.ch)
 have f35:Fr (v2 :: v4 :: S) w2 w5:=((f3.mono (by simp)).trans (G1.mono (by simp))).trans f5
 have F5:Fr S w0 w5:=X.off ((F3.mono (by simp)).trans ((G1.mono (by simp)).trans f5))
 obtain ⟨_,_,e,y1,y2,y3⟩:=(HO.up f35 (λ q hq hq2=>by have:=(HO.lt q hq2).1;have:=hS q hq;omega) (λ q hq=>.inl hq)).row hbig
 cases e
 obtain ⟨k0,k1,k2,k3,k4⟩:=hc.k F5
 exact mConf (x:={ c with tenants:=c.tenants++[(⟨n0,n1⟩:GTenant)] }) k0 ⟨y1,y2,y3⟩ k2 k3 k4
theorem ach_wp (X:AX S w0 w cs v2 v4 k ws vw ai) (hc:CO S w0 cs c) (hm:manyP c=false) (hq:q=addQ 3 ws o c):wp Tryz.prog Z (AddR S w0 q l) [] (Ad.ach (Tx l) (Pt v2 0) (Pt v4 0) vw (.slice (some ai) (ws.map intP++[0,0,0]).length ci) vk (.bool o)) w A B:=by
 obtain ⟨A0,c0,A1,c1,A2,c2,A3,c3,A4,c4,rfl,k0,k1,k2,k3,k4⟩:=oConf hc.now
 obtain ⟨m0,m1,m2,m3,m4,m5⟩:=few hm
 have hvl:=vlen ws
 have N0:∀ {w':World},Fr [v2,v4] w w'→w'.cell? (addA ai (((0:Nat):Int).toNat * 1))=some (I ((ws.map intP++[0,0,0]).getD 0 0)):=λ f=>X.num 0 (by decide) f
 have h64_0:=val_64 ws 0 (by decide)
 unfold addQ at hq
 rw [if_neg (by decide),if_neg (by decide),if_pos rfl] at hq
 generalize (ws.map intP++[0,0,0]).getD 0 0=n0 at N0 h64_0 hq
 have L0:=num_len n0 h64_0
 refine r_dr (λ w1 f1=>?_)
 have e1:Fr [v2,v4] w w1:=f1.mono (by simp)
 have B2:=X.B2.fr0 f1
 refine r_ld (B2.cell (o:=2) rfl) ?_
 refine r_ob ⟨by decide,by omega⟩ ?_
 refine r_ld (N0 e1) ?_
 have l2:=B2.lt
 have l4:=(X.B4.fr0 f1).lt
 have hS:=X.lt f1
 refine r_amb3 (e:=rChannel) (x:=(⟨n0,[],[]⟩:GChannel)) (es:=[I n0,.slice none 0 0,.slice none 0 0]) [(⟨v2,2,none⟩,.slice A2 c.channels.length c2),(addA ai (((0:Nat):Int).toNat * 1),I n0)] [(addA ai (((0:Nat):Int).toNat * 1),I n0)] [(⟨v2,2,none⟩,.slice A2 c.channels.length c2)] [(⟨v2,2,none⟩,.slice A2 c.channels.length c2)] [(addA ai (((0:Nat):Int).toNat * 1),I n0)] [(⟨v2,2,none⟩,.slice A2 c.channels.length c2)] [(⟨v2,2,none⟩,.slice A2 c.channels.length c2),(addA ai (((0:Nat):Int).toNat * 1),I n0)] [(addA ai (((0:Nat):Int).toNat * 1),I n0)] (v2 :: v4 :: S) Echan (hc.chs (X.F.trans f1) X.nw) rfl (λ _=>mChannel (x:=⟨n0,[],[]⟩) (c1:=0) (c2:=0) ⟨Nat.le_refl _,Nat.zero_le _,Rw.nil⟩ ⟨Nat.le_refl _,Nat.zero_le _,Rw.nil⟩) (by simp only [big];omega) ?_ (λ v' w2 HO F2=>?_)
 ·intro w' f p hp
  have e2:Fr [v2,v4] w w':=e1.trans (f.mono (by simp))
  have hp':p∈[(⟨v2,2,none⟩,.slice A2 c.channels.length c2),(addA ai (((0:Nat):Int).toNat * 1),I n0)]:=by
   rcases hp with hp | hp | hp | hp | hp | hp | hp | hp<;>first | exact hp | exact List.mem_cons_of_mem _ hp | exact List.mem_cons.2 (.inl (List.mem_singleton.1 hp))
  simp only [List.mem_cons,List.not_mem_nil,or_false] at hp'
  rcases hp' with rfl | rfl
  ·exact (B2.fr0 f).cell (o:=2) rfl
  ·exact N0 e2
 have hbig:(c.channels++[(⟨n0,[],[]⟩:GChannel)]).length≤big:=by simp only [big];simp;omega
 obtain ⟨X2,d2,rfl⟩:∃ X2 d2,v'=.slice X2 (c.channels++[(⟨n0,[],[]⟩:GChannel)]).length d2:=by
  obtain ⟨X2,d2,e,_⟩:=HO.row hbig
  exact ⟨X2,d2,e⟩
 refine r_st1 (B2.fr0 F2) Tryz.sizeOf25 (λ w3 B3 f3=>?_)
 have F3:Fr [v2] w w3:=((f1.mono (by simp)).trans (F2.mono (by simp))).trans f3
 have e4:Fr [v2,v4] w w3:=F3.mono (by simp)
 refine r_ob ⟨by decide,by omega⟩ ?_
 refine r_ld (N0 e4) ?_
 refine r_call (rnumber_t n0 h64_0) ?_
 rintro _ u0 ⟨rfl,g0⟩
 have G0:Fr [] w3 u0:=(Fr.refl [] w3).trans g0
 refine r_cat (a:=kCh) (by simp only [kCh,List.length_append,List.length_cons,List.length_nil];omega) ?_
 refine afin_wp X hq (F3.trans (G0.mono (by simp))) (B3.fr0 G0) (λ w5 f5=>?_) (λ _=>chO_new rfl (λ q hq hs=>by have:=(HO.lt q hq).1;have:=hS q (by simp [hs]);omega))
 have f35:Fr (v2 :: v4 :: S) w2 w5:=((f3.mono (by simp)).trans (G0.mono (by simp))).trans f5
 have F5:Fr S w0 w5:=X.off ((F3.mono (by simp)).trans ((G0.mono (by simp)).trans f5))
 obtain ⟨_,_,e,y1,y2,y3⟩:=(HO.up f35 (λ q hq hq2=>by have:=(HO.lt q hq2).1;have:=hS q hq;omega) (λ q hq=>.inl hq)).row hbig
 cases e
 obtain ⟨k0,k1,k2,k3,k4⟩:=hc.k F5
 exact mConf (x:={ c with channels:=c.channels++[(⟨n0,[],[]⟩:GChannel)] }) k0 k1 ⟨y1,y2,y3⟩ k3 k4
theorem agate_wp (X:AX S w0 w cs v2 v4 k ws vw ai) (hc:CO S w0 cs c) (hm:manyP c=false) (hq:q=addQ 6 ws o c):wp Tryz.prog Z (AddR S w0 q l) [] (Ad.agate (Tx l) (Pt v2 0) (Pt v4 0) vw (.slice (some ai) (ws.map intP++[0,0,0]).length ci) vk (.bool o)) w A B:=by
 obtain ⟨A0,c0,A1,c1,A2,c2,A3,c3,A4,c4,rfl,k0,k1,k2,k3,k4⟩:=oConf hc.now
 obtain ⟨m0,m1,m2,m3,m4,m5⟩:=few hm
 have hvl:=vlen ws
 have N0:∀ {w':World},Fr [v2,v4] w w'→w'.cell? (addA ai (((0:Nat):Int).toNat * 1))=some (I ((ws.map intP++[0,0,0]).getD 0 0)):=λ f=>X.num 0 (by decide) f
 have h64_0:=val_64 ws 0 (by decide)
 have N1:∀ {w':World},Fr [v2,v4] w w'→w'.cell? (addA ai (((1:Nat):Int).toNat * 1))=some (I ((ws.map intP++[0,0,0]).getD 1 0)):=λ f=>X.num 1 (by decide) f
 have h64_1:=val_64 ws 1 (by decide)
 have N2:∀ {w':World},Fr [v2,v4] w w'→w'.cell? (addA ai (((2:Nat):Int).toNat * 1))=some (I ((ws.map intP++[0,0,0]).getD 2 0)):=λ f=>X.num 2 (by decide) f
 have h64_2:=val_64 ws 2 (by decide)
 unfold addQ at hq
 rw [if_neg (by decide),if_neg (by decide),if_neg (by decide),if_neg (by decide),if_neg (by decide),if_pos rfl] at hq
 generalize (ws.map intP++[0,0,0]).getD 0 0=n0 at N0 h64_0 hq
 generalize (ws.map intP++[0,0,0]).getD 1 0=n1 at N1 h64_1 hq
 generalize (ws.map intP++[0,0,0]).getD 2 0=n2 at N2 h64_2 hq
 have L0:=num_len n0 h64_0
 have L1:=num_len n1 h64_1
 have L2:=num_len n2 h64_2
 refine r_dr (λ w1 f1=>?_)
 have e1:Fr [v2,v4] w w1:=f1.mono (by simp)
 have B2:=X.B2.fr0 f1
 refine r_ld (B2.cell (o:=3) rfl) ?_
 refine r_ob ⟨by decide,by omega⟩ ?_
 refine r_ld (N0 e1) ?_
 refine r_ob ⟨by decide,by omega⟩ ?_
 refine r_ld (N1 e1) ?_
 refine r_ob ⟨by decide,by omega⟩ ?_
 refine r_ld (N2 e1) ?_
 have l2:=B2.lt
 have l4:=(X.B4.fr0 f1).lt
 have hS:=X.lt f1
 refine r_amb3 (e:=rGate) (x:=(⟨n0,n1,n2⟩:GGate)) (es:=eGate ⟨n0,n1,n2⟩) [(⟨v2,3,none⟩,.slice A3 c.gates.length c3),(addA ai (((0:Nat):Int).toNat * 1),I n0),(addA ai (((1:Nat):Int).toNat * 1),I n1),(addA ai (((2:Nat):Int).toNat * 1),I n2)] [(addA ai (((0:Nat):Int).toNat * 1),I n0),(addA ai (((1:Nat):Int).toNat * 1),I n1),(addA ai (((2:Nat):Int).toNat * 1),I n2)] [(⟨v2,3,none⟩,.slice A3 c.gates.length c3)] [(⟨v2,3,none⟩,.slice A3 c.gates.length c3)] [(addA ai (((0:Nat):Int).toNat * 1),I n0),(addA ai (((1:Nat):Int).toNat * 1),I n1),(addA ai (((2:Nat):Int).toNat * 1),I n2)] [(⟨v2,3,none⟩,.slice A3 c.gates.length c3)] [(⟨v2,3,none⟩,.slice A3 c.gates.length c3),(addA ai (((0:Nat):Int).toNat * 1),I n0),(addA ai (((1:Nat):Int).toNat * 1),I n1),(addA ai (((2:Nat):Int).toNat * 1),I n2)] [(addA ai (((0:Nat):Int).toNat * 1),I n0),(addA ai (((1:Nat):Int).toNat * 1),I n1),(addA ai (((2:Nat):Int).toNat * 1),I n2)] (v2 :: v4 :: S) Egate (RwO.plain plainGate (k3.2.2.up (X.F.trans f1))) rfl (λ _=>rfl) (by simp only [big];omega) ?_ (λ v' w2 HO F2=>?_)
 ·intro w' f p hp
  have e2:Fr [v2,v4] w w':=e1.trans (f.mono (by simp))
  have hp':p∈[(⟨v2,3,none⟩,.slice A3 c.gates.length c3),(addA ai (((0:Nat):Int).toNat * 1),I n0),(addA ai (((1:Nat):Int).toNat * 1),I n1),(addA ai (((2:Nat):Int).toNat * 1),I n2)]:=by
   rcases hp with hp | hp | hp | hp | hp | hp | hp | hp<;>first | exact hp | exact List.mem_cons_of_mem _ hp | exact List.mem_cons.2 (.inl (List.mem_singleton.1 hp))
  simp only [List.mem_cons,List.not_mem_nil,or_false] at hp'
  rcases hp' with rfl | rfl | rfl | rfl
  ·exact (B2.fr0 f).cell (o:=3) rfl
  ·exact N0 e2
  ·exact N1 e2
  ·exact N2 e2
 have hbig:(c.gates++[(⟨n0,n1,n2⟩:GGate)]).length≤big:=by simp only [big];simp;omega
 obtain ⟨X2,d2,rfl⟩:∃ X2 d2,v'=.slice X2 (c.gates++[(⟨n0,n1,n2⟩:GGate)]).length d2:=by
  obtain ⟨X2,d2,e,_⟩:=HO.row hbig
  exact ⟨X2,d2,e⟩
 refine r_st1 (B2.fr0 F2) Tryz.sizeOf26 (λ w3 B3 f3=>?_)
 have F3:Fr [v2] w w3:=((f1.mono (by simp)).trans (F2.mono (by simp))).trans f3
 refine r_dr (λ w4 f4=>?_)
 have F4:Fr [v2] w w4:=F3.trans (f4.mono (by simp))
 have e4:Fr [v2,v4] w w4:=F4.mono (by simp)
 refine r_ob ⟨by decide,by omega⟩ ?_
 refine r_ld (N0 e4) ?_
 refine r_ob ⟨by decide,by omega⟩ ?_
 refine r_ld (N1 e4) ?_
 refine r_ob ⟨by decide,by omega⟩ ?_
 refine r_ld (N2 e4) ?_
 refine r_call (rnumber_t n0 h64_0) ?_
 rintro _ u0 ⟨rfl,g0⟩
 have G0:Fr [] w3 u0:=f4.trans g0
 refine r_chk (N1 ((F3.mono (by simp)).trans (G0.mono (by simp)))) ?_
 refine r_chk (N2 ((F3.mono (by simp)).trans (G0.mono (by simp)))) ?_
 refine r_cat (a:=kGate) (by simp only [kGate,List.length_append,List.length_cons,List.length_nil];omega) ?_
 refine r_call (rnumber_t n1 h64_1) ?_
 rintro _ u1 ⟨rfl,g1⟩
 have G1:Fr [] w3 u1:=G0.trans g1
 refine r_chk (N2 ((F3.mono (by simp)).trans (G1.mono (by simp)))) ?_
 refine r_cat (by simp only [kGate,List.length_append,List.length_cons,List.length_nil];omega) ?_
 refine r_call (rnumber_t n2 h64_2) ?_
 rintro _ u2 ⟨rfl,g2⟩
 have G2:Fr [] w3 u2:=G1.trans g2
 refine r_cat (by simp only [kGate,List.length_append,List.length_cons,List.length_nil];omega) ?_
 refine afin_wp X hq (F3.trans (G2.mono (by simp))) (B3.fr0 G2) (λ w5 f5=>?_) (hc.ch)
 have f35:Fr (v2 :: v4 :: S) w2 w5:=((f3.mono (by simp)).trans (G2.mono (by simp))).trans f5
 have F5:Fr S w0 w5:=X.off ((F3.mono (by simp)).trans ((G2.mono (by simp)).trans f5))
 obtain ⟨_,_,e,y1,y2,y3⟩:=(HO.up f35 (λ q hq hq2=>by have:=(HO.lt q hq2).1;have:=hS q hq;omega) (λ q hq=>.inl hq)).row hbig
 cases e
 obtain ⟨k0,k1,k2,k3,k4⟩:=hc.k F5
 exact mConf (x:={ c with gates:=c.gates++[(⟨n0,n1,n2⟩:GGate)] }) k0 k1 k2 ⟨y1,y2,y3⟩ k4
end
end Go.Proofs.YtppodgdhdddfkaaGreatDoor.Cg
set_option linter.unusedVariables false
set_option linter.unusedSimpArgs false
namespace Go.Proofs.YtppodgdhdddfkaaGreatDoor.Cg
set_option maxRecDepth 100000
open Go Go.RowKit Go.Proofs.YtppodgdhdddfkaaGreatDoor.Sx
open Go.Proofs.YtppodgdhdddfkaaGreatDoor.Bi (mixed take_s rList_t)
open Go.Proofs.YtppodgdhdddfkaaGreatDoor.Cf
open Go.Proofs.YtppodgdhdddfkaaGreatDoor.Sg
section
variable {Z:ZP} {w0 w w1:World} {A:List Nat→List Value→World→Prop} {B:List Nat→Nat→List Value→World→Prop} {S:List Nat} {cs:List Value} {c:GConf} {v2 v4 ci:Nat} {k l:Bs} {ws:List Bs} {vw vk:Value} {ai:Addr} {o:Bool} {q:Option (GConf × Bs)}
theorem aframe_wp (X:AX S w0 w cs v2 v4 k ws vw ai) (hc:CO S w0 cs c) (hq:q=addQ 7 ws o c):wp Tryz.prog Z (AddR S w0 q l) [] (Ad.aframe (Tx l) (Pt v2 0) (Pt v4 0) vw (.slice (some ai) (ws.map intP++[0,0,0]).length ci) vk (.bool o)) w A B:=by
 obtain ⟨A0,c0,A1,c1,A2,c2,A3,c3,A4,c4,rfl,k0,k1,k2,k3,k4⟩:=oConf hc.now
 unfold addQ at hq
 rw [if_neg (by decide),if_neg (by decide),if_neg (by decide),if_neg (by decide),if_neg (by decide),if_neg (by decide),if_pos rfl] at hq
 have hwl:=X.wl
 have h64:∀ z∈ws.map intP,in64 z:=λ z hz=>vals64 ws z (List.mem_append.2 (.inl hz))
 have hlen:(ws.map intP).length≤90000:=by rw [List.length_map];exact hwl
 refine r_call (ints_t X.W X.wl X.ww) ?_
 rintro v w1 ⟨HO,F1⟩
 have HN:=or_ints HO
 generalize ws.map intP=vs at hq h64 hlen HO HN
 obtain ⟨X2,d2,rfl,_⟩:=own_int HN
 have l2:=X.B2.lt
 have l4:=X.B4.lt
 have keep:∀ w',Fr (v2 :: v4 :: S) w1 w'→w'.ownsRow w.heap.size 3 1 (.slice X2 vs.length d2) vs.length (ints vs):=λ w' f=>own_f HN f (λ q hq hs=>by
  have h1:=(own_lt HN q hq).1
  have:=X.lt (Fr.refl [] w) q hs
  omega)
 have row:∀ w',Fr (v2 :: v4 :: S) w1 w'→Sl (rI .i64) w' (.slice X2 vs.length d2) vs:=λ w' f=>by
  have:=own_head (n:=vs.length) (keep w' f) (Nat.le_refl _) (by omega)
  rwa [List.take_length] at this
 refine r_st1 (X.B2.fr0 F1) Tryz.sizeOf27 (λ w2 B3 f3=>?_)
 have F2:Fr [v2] w w2:=(F1.mono (by simp)).trans f3
 refine r_ld (B3.cell (o:=4) rfl) ?_
 refine r_call (rnumbers_t (row w2 (f3.mono (by simp))) h64 (by omega)) ?_
 rintro _ w3 ⟨rfl,g⟩
 have hnl:=nums_len vs h64
 refine r_cat (a:=kFrame) (by simp only [kFrame,List.length_cons,List.length_nil];omega) ?_
 refine afin_wp X hq (F2.trans (g.mono (by simp))) (B3.fr0 g) (λ w5 f5=>?_) hc.ch
 have f15:Fr (v2 :: v4 :: S) w1 w5:=((f3.mono (by simp)).trans (g.mono (by simp))).trans f5
 have F5:Fr S w0 w5:=X.off ((F1.mono (by simp)).trans f15)
 obtain ⟨_,_,e,y1,y2,y3⟩:=row w5 f15
 cases e
 obtain ⟨k0,k1,k2,k3,k4⟩:=hc.k F5
 exact mConf (x:={ c with frame:=vs }) k0 k1 k2 k3 ⟨y1,y2,y3⟩
theorem abud_wp (X:AX S w0 w cs v2 v4 k ws vw ai) (hc:CO S w0 cs c) (hq:q=addQ 8 ws o c):wp Tryz.prog Z (AddR S w0 q l) [] (Ad.abud (Tx l) (Pt v2 0) (Pt v4 0) vw (.slice (some ai) (ws.map intP++[0,0,0]).length ci) vk (.bool o)) w A B:=by
 obtain ⟨A0,c0,A1,c1,A2,c2,A3,c3,A4,c4,rfl,k0,k1,k2,k3,k4⟩:=oConf hc.now
 have hvl:=vlen ws
 have N0:∀ {w':World},Fr [v2,v4] w w'→w'.cell? (addA ai (((0:Nat):Int).toNat * 1))=some (I ((ws.map intP++[0,0,0]).getD 0 0)):=λ f=>X.num 0 (by decide) f
 have N1:∀ {w':World},Fr [v2,v4] w w'→w'.cell? (addA ai (((1:Nat):Int).toNat * 1))=some (I ((ws.map intP++[0,0,0]).getD 1 0)):=λ f=>X.num 1 (by decide) f
 have N2:∀ {w':World},Fr [v2,v4] w w'→w'.cell? (addA ai (((2:Nat):Int).toNat * 1))=some (I ((ws.map intP++[0,0,0]).getD 2 0)):=λ f=>X.num 2 (by decide) f
 have h0:=val_64 ws 0 (by decide)
 have h1:=val_64 ws 1 (by decide)
 have h2:=val_64 ws 2 (by decide)
 unfold addQ at hq
 rw [if_neg (by decide),if_neg (by decide),if_neg (by decide),if_neg (by decide),if_neg (by decide),if_neg (by decide),if_neg (by decide)] at hq
 generalize (ws.map intP++[0,0,0]).getD 0 0=n0 at N0 h0 hq
 generalize (ws.map intP++[0,0,0]).getD 1 0=n1 at N1 h1 hq
 generalize (ws.map intP++[0,0,0]).getD 2 0=n2 at N2 h2 hq
 have L0:=num_len n0 h0
 have L1:=num_len n1 h1
 have L2:=num_len n2 h2
 refine r_ob ⟨by decide,by omega⟩ ?_
 refine r_ld (N0 (Fr.refl _ _)) ?_
 refine r_st1 X.B2 Tryz.sizeOf3 (λ w1 B3 f1=>?_)
 refine r_ob ⟨by decide,by omega⟩ ?_
 refine r_ld (N1 (f1.mono (by simp))) ?_
 refine r_st1 B3 Tryz.sizeOf3 (λ w2 B4 f2=>?_)
 have f12:=f1.trans f2
 refine r_ob ⟨by decide,by omega⟩ ?_
 refine r_ld (N2 (f12.mono (by simp))) ?_
 refine r_st1 B4 Tryz.sizeOf3 (λ w3 B5 f3=>?_)
 have F3:Fr [v2] w w3:=f12.trans f3
 refine r_dr (λ w4 f4=>?_)
 have F4:Fr [v2] w w4:=F3.trans (f4.mono (by simp))
 refine r_ob ⟨by decide,by omega⟩ ?_
 refine r_ld (N0 (F4.mono (by simp))) ?_
 refine r_ob ⟨by decide,by omega⟩ ?_
 refine r_ld (N1 (F4.mono (by simp))) ?_
 refine r_ob ⟨by decide,by omega⟩ ?_
 refine r_ld (N2 (F4.mono (by simp))) ?_
 refine r_call (rnumber_t n0 h0) ?_
 rintro _ w5 ⟨rfl,g5⟩
 have F5:Fr [v2] w w5:=F4.trans (g5.mono (by simp))
 refine r_chk (N1 (F5.mono (by simp))) ?_
 refine r_chk (N2 (F5.mono (by simp))) ?_
 refine r_cat (a:=kBud) (by simp only [kBud,List.length_append,List.length_cons,List.length_nil];omega) ?_
 refine r_call (rnumber_t n1 h1) ?_
 rintro _ w6 ⟨rfl,g6⟩
 have F6:Fr [v2] w w6:=F5.trans (g6.mono (by simp))
 refine r_chk (N2 (F6.mono (by simp))) ?_
 refine r_cat (by simp only [kBud,List.length_append,List.length_cons,List.length_nil];omega) ?_
 refine r_call (rnumber_t n2 h2) ?_
 rintro _ w7 ⟨rfl,g7⟩
 refine r_cat (by simp only [kBud,List.length_append,List.length_cons,List.length_nil];omega) ?_
 refine afin_wp X hq (F6.trans (g7.mono (by simp))) ((((B5.fr0 f4).fr0 g5).fr0 g6).fr0 g7) (λ w8 f8=>?_) hc.ch
 have F8:Fr S w0 w8:=X.off (((F6.trans (g7.mono (by simp))).mono (by simp)).trans f8)
 obtain ⟨k0,k1,k2,k3,k4⟩:=hc.k F8
 exact mConf (x:={ c with budget:=n0,requests:=n1,pending:=n2 }) k0 k1 k2 k3 k4
theorem ofB_snoc (l:List Int) (z:Int):ofB (l++[z])=ofB l ||| ((1#64) <<< z.toNat):=by unfold ofB;rw [List.foldl_append];rfl
theorem aflows_wp (X:AX S w0 w cs v2 v4 k ws vw ai) (hc:CO S w0 cs c) (hm:manyP c=false) (hq:q=addQ 1 ws o c):wp Tryz.prog Z (AddR S w0 q l) [] (Ad.aflows (Tx l) (Pt v2 0) (Pt v4 0) vw (.slice (some ai) (ws.map intP++[0,0,0]).length ci) vk (.bool o)) w A B:=by
 have hlc:cs.length=8:=rConf.len hc.now
 have hc0:=hc.now
 obtain ⟨A0,c0,A1,c1,A2,c2,A3,c3,A4,c4,rfl,k0,k1,k2,k3,k4⟩:=oConf hc.now
 obtain ⟨m0,m1,m2,m3,m4,m5⟩:=few hm
 have hwl:=X.wl
 obtain ⟨Xw,cw,rfl,_,_,hr⟩:=X.W
 unfold addQ at hq
 rw [if_pos rfl] at hq
 have l2:=X.B2.lt
 have l4:=X.B4.lt
 have hS:=λ {w':World} (f:Fr [] w w')=>X.lt f
 have bad:∀ {w1:World} {A:List Nat→List Value→World→Prop} {B:List Nat→Nat→List Value→World→Prop},Fr [] w w1 → ¬ okB (ws.map intP)=true→wp Tryz.prog Z (AddR S w0 q l) [] (.ldn 8 (Pt v2 0) λ v60=>.ef (Instr.storeAt 29 (Pt v4 0) v60) (.ldn 8 (Pt v4 0) λ r0=>.ret (.tuple [r0,(.bool false)].toArray))) w1 A B:=by
  intro w1 A B f hn
  rw [if_neg hn] at hq
  refine r_ldn ((X.B2.fr0 f).rd hlc) ?_
  refine r_stn (X.B4.fr0 f) Tryz.sizeOf29 (rConf.one hc0) (λ w2 B3 f2=>?_) rfl hlc rfl
  refine r_ldn (B3.rd hlc) ?_
  have F2:Fr [] w0 w2:=X.off0 ((f.mono (by simp)).trans (f2.mono (λ q hq=>by simp at hq;subst hq;simp)))
  exact r_ret ⟨_,c,false,rfl,hc.go F2 (λ q hq=>hq),F2,.inr ⟨hq,rfl⟩⟩
 refine r_loop (λ (i:Nat)=>[I ((i+1:Nat):Int),U (ofB ((ws.take i).map intP)),.bool false]) (λ i w'=>i≤ws.length∧(∀ j s,j < i→ws[j]? = some s→0≤intP s∧intP s < 64)∧Fr [] w w') (λ i=>ws.length-i) 0 ⟨Nat.zero_le _,λ _ _ h=>by omega,Fr.refl _ _⟩ rfl ?_
 rintro i w1 ⟨hi,hno,F1⟩
 refine r_if (λ h=>?_) (λ h=>?_)
 ·simp only [List.length_cons] at h
  obtain ⟨s,hs⟩:=gt (xs:=ws) (j:=i) (by omega)
  have hsm:=List.mem_of_getElem? hs
  obtain ⟨ad,es,rfl,rd,e3⟩:=(hr.up F1) (i+1) s (by simpa using hs)
  obtain rfl:=e3
  have nok:¬ (0≤intP s∧intP s < 64) → ¬ okB (ws.map intP)=true:=λ hn h=>by
   have:=List.all_eq_true.1 h (intP s) (List.mem_map.2 ⟨s,hsm,rfl⟩)
   simp at this
   exact hn this
  refine r_ob ⟨by omega,by simp only [List.length_cons];omega⟩ ?_
  refine r_ld (cell1 rd) ?_
  refine r_call (integer_t s (X.ww s hsm)) ?_
  rintro _ w2 ⟨rfl,rfl⟩
  refine r_if (λ h1=>bad F1 (nok (by omega))) (λ h1=>?_)
  refine r_if (λ h2=>bad F1 (nok (by omega))) (λ h2=>?_)
  obtain ⟨n,hn⟩:∃ n:Nat,intP s=n:=⟨(intP s).toNat,by omega⟩
  refine r_are (y:=(n:Int)) (by rw [Bt.wrap_u];omega) ?_
  refine r_shl1 (i:=n) (by omega) ?_
  refine r_or ?_
  refine r_ar (by omega) ?_
  refine r_ag (i+1) ⟨by omega,λ j s' hj hs'=>?_,F1⟩ (by omega) ?_
  ·rcases Nat.lt_or_ge j i with h' | h'
   ·exact hno j s' h' hs'
   ·obtain rfl:j=i:=by omega
    rw [hs] at hs';cases hs';omega
  ·rw [take_map_s intP hs,ofB_snoc,hn]
   rfl
 ·simp only [List.length_cons] at h
  obtain rfl:i=ws.length:=by omega
  have hok:okB (ws.map intP)=true:=by
   unfold okB
   rw [List.all_eq_true]
   intro z hz
   obtain ⟨s,hs,rfl⟩:=List.mem_map.1 hz
   obtain ⟨j,hj⟩:=List.getElem?_of_mem hs
   have:=hno j s (List.getElem?_eq_some_iff.1 hj).1 hj
   simpa using this
  rw [if_pos hok] at hq
  rw [List.take_length]
  generalize ofB (ws.map intP)=b at hq
  refine r_brk ?_
  refine r_bs0 (e:=rI .u64) (S:=v2 :: v4 :: S) Bi.Eu64 (λ v w2 HO f2 _=>?_)
  have F2:=F1.trans f2
  have hv1:∀ q∈v.ownBlock.toList,w1.heap.size≤q:=λ q hq=>(HO.lt q hq).1
  refine r_ld ((X.B2.fr0 F2).cell (o:=0) rfl) ?_
  refine r_apps (xs:=c.flows) Bi.Eu64 HO rfl (RwO.plain plainU (k0.2.2.up (X.F.trans F2))) (by simp only [big];simp;omega) f2.size (λ v3 w3 H3 f3 g3=>?_)
  have F3:=F2.trans_new f3 (λ q hq=>.inr (by have:=hv1 q hq;have:=F1.size;omega))
  refine r_bs1 Bi.Eu64 (cs:=[.int .u64 ((b.toNat:Nat):Int)]) (λ bb w4 hb4 B4 f4=>?_)
  have F4:=F3.trans f4
  have s24:w1.heap.size≤w4.heap.size:=by have:=f2.size;have:=f3.size;have:=f4.size;omega
  refine r_appR (x:=((b.toNat:Nat):Int)) (es:=[.int .u64 ((b.toNat:Nat):Int)]) Bi.Eu64 (H3.fr0 f4) (B4.rd rfl) (λ _ _=>rfl) (by simp only [big];simp;omega) s24 (λ v5 w5 H5 f5 g5=>?_)
  have F5:=F4.trans_new f5 (λ q hq=>.inr (by
   rcases g3 q hq with h | h
   ·have:=hv1 q h;have:=F1.size;omega
   ·have:=F2.size;omega))
  have hbig:(([]++c.flows)++[((b.toNat:Nat):Int)]).length≤big:=by simp only [big];simp;omega
  obtain ⟨X6,d6,rfl⟩:∃ X6 d6,v5=.slice X6 (([]++c.flows)++[((b.toNat:Nat):Int)]).length d6:=by
   obtain ⟨X6,d6,e,_⟩:=H5.row hbig
   exact ⟨X6,d6,e⟩
  refine r_st1 (X.B2.fr0 F5) Tryz.sizeOf23 (λ w6 B6 f6=>?_)
  refine r_call (rList_t b) ?_
  rintro vl w7 ⟨hl7,f7⟩
  have hk:(Bt.memI b).length≤64:=by unfold Bt.memI Bt.mem;rw [List.length_map];exact Nat.le_trans (List.length_filter_le _ _) (by simp)
  refine r_call (rnumbers_t (nw_sl hl7 (by simp only [big];omega)) (memI_in64 _) (by omega)) ?_
  rintro _ w8 ⟨rfl,f8⟩
  have hnl:=nums_len _ (memI_in64 b)
  refine r_cat (a:=kFlows) (by simp only [kFlows,List.length_cons,List.length_nil];omega) ?_
  have f68:Fr [v2] w5 w8:=(f6.trans (f7.mono (by simp))).trans (f8.mono (by simp))
  refine afin_wp X hq ((F5.mono (by simp)).trans f68) ((B6.fr0 f7).fr0 f8) (λ w9 f9=>?_) hc.ch
  have f59:Fr (v2 :: v4 :: S) w5 w9:=(f68.mono (by simp)).trans f9
  have F9:Fr S w0 w9:=X.off ((F5.mono (by simp)).trans f59)
  obtain ⟨_,_,e,y1,y2,y3⟩:=(H5.up f59 (λ q hq hq2=>by have:=(H5.lt q hq2).1;have:=hS F1 q hq;omega) (λ q hq=>.inl hq)).row hbig
  cases e
  obtain ⟨k0,k1,k2,k3,k4⟩:=hc.k F9
  exact mConf (x:={ c with flows:=c.flows++[((b.toNat:Nat):Int)] }) ⟨y1,y2,y3⟩ k1 k2 k3 k4
end
end Go.Proofs.YtppodgdhdddfkaaGreatDoor.Cg
set_option linter.unusedVariables false
set_option linter.unusedSimpArgs false
namespace Go.Proofs.YtppodgdhdddfkaaGreatDoor.Cg
set_option maxRecDepth 100000
open Go Go.RowKit Go.Proofs.YtppodgdhdddfkaaGreatDoor.Sx
open Go.Proofs.YtppodgdhdddfkaaGreatDoor.Bi (mixed take_s rList_t)
open Go.Proofs.YtppodgdhdddfkaaGreatDoor.Cf
open Go.Proofs.YtppodgdhdddfkaaGreatDoor.Sg
section
variable {α:Type} {e:Rl α} {ty base:Nat} {S:List Nat} {w:World} {v:Value} {xs:List α}
theorem or_set (HO:Or e ty base S w v xs) {m:Nat} {x0:α} (hm:xs[m]? = some x0) {i:Nat} (hi:i < e.n):∃ g cap cs es,v=.slice (some ⟨g,0,none⟩) xs.length cap∧base≤g∧Blk w g ty cs∧m * e.n+i < cs.length∧Rd w e.n ⟨g,m * e.n,none⟩ es∧Off (g :: S) (λ w=>e.r w es x0) w∧∀ w' u x',Blk w' g ty (cs.set (m * e.n+i) u)→Fr [g] w w'→Off (g :: S) (λ w=>e.r w (es.set i u) x') w'→Or e ty base S w' v (xs.set m x'):=by
 obtain ⟨cells,ho,hx⟩:=HO
 have hml:=(List.getElem?_eq_some_iff.1 hm).1
 have hcl:cells.length=xs.length * e.n:=ho.1
 have hle:(m+1) * e.n≤xs.length * e.n:=Nat.mul_le_mul_right _ hml
 rw [Nat.add_mul,Nat.one_mul] at hle
 obtain ⟨g,cap,rfl,hbg,cs,BG,hcs,hj,hll,hst⟩:=own_st (j:=m * e.n+i) ho (by omega)
 have hx0:=hx m x0 hm
 have hel:((cells.drop (m * e.n)).take e.n).length=e.n:=e.len hx0.now
 refine ⟨g,cap,cs,(cells.drop (m * e.n)).take e.n,rfl,hbg,BG,hj,⟨hel,λ t u ht=>?_⟩,hx0,λ w' u x' hB f hoff=>⟨cells.set (m * e.n+i) u,by rw [List.length_set];exact hst w' u hB,λ j y hy=>?_⟩⟩
 ·rw [List.getElem?_take] at ht
  split at ht
  ·rw [List.getElem?_drop,hcs,List.getElem?_take] at ht
   split at ht
   ·exact BG.cell ht
   ·cases ht
  ·cases ht
 ·rw [List.getElem?_set] at hy
  by_cases hjm:m=j
  ·rw [if_pos hjm,if_pos hml] at hy
   cases hy
   subst hjm
   have e1:((cells.set (m * e.n+i) u).drop (m * e.n)).take e.n=((cells.drop (m * e.n)).take e.n).set i u:=by
    apply List.ext_getElem?
    intro t
    rw [List.getElem?_take,List.getElem?_set]
    by_cases ht:t < e.n
    ·rw [if_pos ht,List.getElem?_drop,List.getElem?_set]
     by_cases hti:i=t
     ·rw [if_pos (by omega),if_pos hti,if_pos (by omega),if_pos (by omega)]
     ·rw [if_neg (by omega),if_neg hti,List.getElem?_take,if_pos ht,List.getElem?_drop]
    ·rw [if_neg ht,if_neg (by omega),List.getElem?_take,if_neg ht]
   rw [e1]
   exact hoff
  ·rw [if_neg hjm] at hy
   have e1:((cells.set (m * e.n+i) u).drop (j * e.n)).take e.n=(cells.drop (j * e.n)).take e.n:=by
    apply List.ext_getElem?
    intro t
    rw [List.getElem?_take,List.getElem?_take]
    by_cases ht:t < e.n
    ·rw [if_pos ht,if_pos ht,List.getElem?_drop,List.getElem?_drop,List.getElem?_set]
     have:¬ m * e.n+i=j * e.n+t:=by
      rcases Nat.lt_or_gt_of_ne hjm with h | h
      ·have:=Nat.mul_le_mul_right e.n (show m+1≤j from h)
       rw [Nat.add_mul,Nat.one_mul] at this
       omega
      ·have:=Nat.mul_le_mul_right e.n (show j+1≤m from h)
       rw [Nat.add_mul,Nat.one_mul] at this
       omega
     rw [if_neg this]
    ·rw [if_neg ht,if_neg ht]
   rw [e1]
   exact (hx j y hy).go f (λ q hq=>.inl (by simp at hq;subst hq;simp [Value.ownBlock])) (λ q hq=>.inl hq)
end
theorem plainLane:Plain rLane:=λ _ _ _ _ h=>h
theorem plainRecv:Plain rReceiver:=λ _ _ _ _ h=>h
section
variable {Z:ZP} {S:List Nat} {w0 w w1:World} {A:List Nat→List Value→World→Prop} {B:List Nat→Nat→List Value→World→Prop} {cs:List Value} {c:GConf} {v2 v4 ci:Nat} {k l:Bs} {ws:List Bs} {vw vk:Value} {ai:Addr} {o:Bool} {q:Option (GConf × Bs)}
theorem alane_wp (X:AX S w0 w cs v2 v4 k ws vw ai) (hc:CO S w0 cs c) (hm:manyP c=false) {cs0:List GChannel} {x:GChannel} (hcx:c.channels=cs0++[x]) (hq:q=addQ 4 ws o c):wp Tryz.prog Z (AddR S w0 q l) [] (Ad.alane (Tx l) (Pt v2 0) (Pt v4 0) vw (.slice (some ai) (ws.map intP++[0,0,0]).length ci) (I (cs0.length:Int)) (.bool o)) w A B:=by
 obtain ⟨A0,c0,A1,c1,A2,c2,A3,c3,A4,c4,rfl,k0,k1,k2,k3,k4⟩:=oConf hc.now
 obtain ⟨m0,m1,m2,m3,m4,m5⟩:=few hm
 have hx16:=m5 x (by rw [hcx];simp)
 have hvl:=vlen ws
 have N0:∀ {w':World},Fr [v2,v4] w w'→w'.cell? (addA ai (((0:Nat):Int).toNat * 1))=some (I ((ws.map intP++[0,0,0]).getD 0 0)):=λ f=>X.num 0 (by decide) f
 have h64_0:=val_64 ws 0 (by decide)
 have N1:∀ {w':World},Fr [v2,v4] w w'→w'.cell? (addA ai (((1:Nat):Int).toNat * 1))=some (I ((ws.map intP++[0,0,0]).getD 1 0)):=λ f=>X.num 1 (by decide) f
 have h64_1:=val_64 ws 1 (by decide)
 unfold addQ at hq
 rw [if_neg (by decide),if_neg (by decide),if_neg (by decide),if_pos rfl] at hq
 generalize (ws.map intP++[0,0,0]).getD 0 0=n0 at N0 h64_0 hq
 generalize (ws.map intP++[0,0,0]).getD 1 0=n1 at N1 h64_1 hq
 have L_0:=num_len n0 h64_0
 have L_1:=num_len n1 h64_1
 have Lo:=op_len o
 rw [lastU_at hcx] at hq
 have l2:=X.B2.lt
 have l4:=X.B4.lt
 have hS:=λ {w':World} (f:Fr [] w w')=>X.lt f
 have hn0:([]++c.channels).length=cs0.length+1:=by rw [List.nil_append,hcx];simp
 refine r_bs0 (e:=rChannel) (S:=v2 :: v4 :: S) Echan (λ v w1 HO f1 _=>?_)
 have hv1:∀ q∈v.ownBlock.toList,w.heap.size≤q:=λ q hq=>(HO.lt q hq).1
 refine r_ld ((X.B2.fr0 f1).cell (o:=2) rfl) ?_
 refine r_apps (xs:=c.channels) Echan HO rfl (hc.chs (X.F.trans f1) (λ q hq=>?_)) (by have:=hn0;rw [List.nil_append] at this;simp only [big];simp;omega) f1.size (λ v3 w2 H2 f2 g2=>?_)
 ·rcases List.mem_append.1 hq with hq | hq
  ·exact .inr (by have:=hv1 q hq;have:=X.F.size;omega)
  ·exact X.nw q hq
 have F2:=f1.trans_new f2 (λ q hq=>.inr (hv1 q hq))
 have hb2:([]++c.channels).length≤big:=by rw [List.nil_append];simp only [big];omega
 obtain ⟨X3,d3,rfl⟩:∃ X3 d3,v3=.slice X3 ([]++c.channels).length d3:=by
  obtain ⟨X3,d3,e,_⟩:=H2.row hb2
  exact ⟨X3,d3,e⟩
 refine r_st1 (X.B2.fr0 F2) Tryz.sizeOf25 (λ w3 B3 f3=>?_)
 have H3:=H2.up f3 (λ q hq hq2=>by have:=(H2.lt q hq2).1;simp at hq;omega) (λ q hq=>.inl (by simp at hq;simp [hq]))
 refine r_dr (λ w4 f4=>?_)
 have H4:=H3.fr0 f4
 have B4:=B3.fr0 f4
 have F4:Fr [v2] w w4:=((F2.mono (by simp)).trans f3).trans (f4.mono (by simp))
 have e4:Fr [v2,v4] w w4:=F4.mono (by simp)
 obtain ⟨g,cap,csg,es,e,hbg,BG,hlt,rd,hoff,hset⟩:=or_set H4 (m:=cs0.length) (x0:=x) (by rw [List.nil_append,hcx];simp) (i:=1) (by decide)
 cases e
 obtain ⟨L1,d1,L2,d2,rfl,q1,q2⟩:=oChannel hoff.now
 have hgl:=BG.lt
 have hcell:∀ {w':World},Fr [] w4 w'→w'.cell? ⟨g,0+cs0.length * 3+1,none⟩=some (.slice L1 x.lanes.length d1):=λ f=>by
  have:=(rd.fr f).2 1 (.slice L1 x.lanes.length d1) rfl
  rw [Nat.zero_add]
  exact this
 refine r_ld (B4.cell (o:=2) rfl) ?_
 refine r_ld (B4.cell (o:=2) rfl) ?_
 refine r_ob ⟨by omega,by omega⟩ ?_
 refine r_ld (ad:=⟨g,0+cs0.length * 3+1,none⟩) (hcell (Fr.refl _ _)) ?_
 refine r_ob ⟨by decide,by omega⟩ ?_
 refine r_ld (N0 e4) ?_
 refine r_ob ⟨by decide,by omega⟩ ?_
 refine r_ld (N1 e4) ?_
 refine r_amb3 (e:=rLane) (x1:=.agg (eLane ⟨n0,n1,o⟩).toArray) (x:=(⟨n0,n1,o⟩:GLane)) (es:=eLane ⟨n0,n1,o⟩) [(⟨v2,2,none⟩,.slice (some ⟨g,0,none⟩) ([]++c.channels).length d3),(⟨v2,2,none⟩,.slice (some ⟨g,0,none⟩) ([]++c.channels).length d3),(⟨g,0+cs0.length * 3+1,none⟩,.slice L1 x.lanes.length d1),(addA ai (((0:Nat):Int).toNat * 1),I n0),(addA ai (((1:Nat):Int).toNat * 1),I n1)] [(⟨v2,2,none⟩,.slice (some ⟨g,0,none⟩) ([]++c.channels).length d3),(addA ai (((0:Nat):Int).toNat * 1),I n0),(addA ai (((1:Nat):Int).toNat * 1),I n1)] [(⟨v2,2,none⟩,.slice (some ⟨g,0,none⟩) ([]++c.channels).length d3),(⟨v2,2,none⟩,.slice (some ⟨g,0,none⟩) ([]++c.channels).length d3),(⟨g,0+cs0.length * 3+1,none⟩,.slice L1 x.lanes.length d1)] [(⟨v2,2,none⟩,.slice (some ⟨g,0,none⟩) ([]++c.channels).length d3),(⟨v2,2,none⟩,.slice (some ⟨g,0,none⟩) ([]++c.channels).length d3),(⟨g,0+cs0.length * 3+1,none⟩,.slice L1 x.lanes.length d1)] [(⟨v2,2,none⟩,.slice (some ⟨g,0,none⟩) ([]++c.channels).length d3),(addA ai (((0:Nat):Int).toNat * 1),I n0),(addA ai (((1:Nat):Int).toNat * 1),I n1)] [(⟨v2,2,none⟩,.slice (some ⟨g,0,none⟩) ([]++c.channels).length d3),(⟨v2,2,none⟩,.slice (some ⟨g,0,none⟩) ([]++c.channels).length d3),(⟨g,0+cs0.length * 3+1,none⟩,.slice L1 x.lanes.length d1)] [(⟨v2,2,none⟩,.slice (some ⟨g,0,none⟩) ([]++c.channels).length d3),(⟨v2,2,none⟩,.slice (some ⟨g,0,none⟩) ([]++c.channels).length d3),(⟨g,0+cs0.length * 3+1,none⟩,.slice L1 x.lanes.length d1),(addA ai (((0:Nat):Int).toNat * 1),I n0),(addA ai (((1:Nat):Int).toNat * 1),I n1)] [(⟨v2,2,none⟩,.slice (some ⟨g,0,none⟩) ([]++c.channels).length d3),(addA ai (((0:Nat):Int).toNat * 1),I n0),(addA ai (((1:Nat):Int).toNat * 1),I n1)] [] Elane (RwO.plain plainLane q1.2.2) rfl (λ _=>rfl) (by simp only [big];omega) ?_ (λ v' w5 HL F5=>?_)
 ·intro w' f p hp
  have e5:Fr [v2,v4] w w':=e4.trans (f.mono (by simp))
  have hp':p∈[(⟨v2,2,none⟩,.slice (some ⟨g,0,none⟩) ([]++c.channels).length d3),(⟨v2,2,none⟩,.slice (some ⟨g,0,none⟩) ([]++c.channels).length d3),(⟨g,0+cs0.length * 3+1,none⟩,.slice L1 x.lanes.length d1),(addA ai (((0:Nat):Int).toNat * 1),I n0),(addA ai (((1:Nat):Int).toNat * 1),I n1)]:=by
   simp only [List.mem_cons,List.not_mem_nil,or_false] at hp ⊢
   rcases hp with hp | hp | hp | hp | hp | hp | hp | hp
   ·exact hp
   ·rcases hp with hp | hp | hp
    ·exact .inl hp
    ·exact .inr (.inr (.inr (.inl hp)))
    ·exact .inr (.inr (.inr (.inr hp)))
   ·rcases hp with hp | hp | hp
    ·exact .inl hp
    ·exact .inl hp
    ·exact .inr (.inr (.inl hp))
   ·rcases hp with hp | hp | hp
    ·exact .inl hp
    ·exact .inl hp
    ·exact .inr (.inr (.inl hp))
   ·rcases hp with hp | hp | hp
    ·exact .inl hp
    ·exact .inr (.inr (.inr (.inl hp)))
    ·exact .inr (.inr (.inr (.inr hp)))
   ·rcases hp with hp | hp | hp
    ·exact .inl hp
    ·exact .inl hp
    ·exact .inr (.inr (.inl hp))
   ·exact hp
   ·rcases hp with hp | hp | hp
    ·exact .inl hp
    ·exact .inr (.inr (.inr (.inl hp)))
    ·exact .inr (.inr (.inr (.inr hp)))
  simp only [List.mem_cons,List.not_mem_nil,or_false] at hp'
  rcases hp' with rfl | rfl | rfl | rfl | rfl
  ·exact (B4.fr0 f).cell (o:=2) rfl
  ·exact (B4.fr0 f).cell (o:=2) rfl
  ·exact hcell f
  ·exact N0 e5
  ·exact N1 e5
 have hbL:(x.lanes++[(⟨n0,n1,o⟩:GLane)]).length≤big:=by simp only [big];simp;omega
 obtain ⟨X6,d6,rfl⟩:∃ X6 d6,v'=.slice X6 (x.lanes++[(⟨n0,n1,o⟩:GLane)]).length d6:=by
  obtain ⟨X6,d6,e,_⟩:=HL.row hbL
  exact ⟨X6,d6,e⟩
 have B5:=B4.fr0 F5
 refine r_chk (B5.cell (o:=2) rfl) ?_
 refine r_ob ⟨by omega,by omega⟩ ?_
 refine r_st1 (o:=0+cs0.length * 3+1) (BG.fr0 F5) Tryz.sizeOf84 (λ w6 B6 f6=>?_) (ho:=by rw [Nat.zero_add];exact Nat.ble_eq_true_of_le hlt)
 rw [Nat.zero_add] at B6
 have F46:Fr [g] w4 w6:=(F5.mono (by simp)).trans f6
 have H6:=hset w6 _ ({ x with lanes:=x.lanes++[(⟨n0,n1,o⟩:GLane)] }:GChannel) B6 F46 (λ w7 f7=>by
  have f47:Fr (g :: v2 :: v4 :: S) w4 w7:=((F5.mono (by simp)).trans (f6.mono (λ q hq=>by simp at hq;subst hq;simp))).trans f7
  obtain ⟨_,_,_,_,ee,p1,p2⟩:=oChannel (hoff w7 f47)
  cases ee
  have f57:Fr (g :: v2 :: v4 :: S) w5 w7:=(f6.mono (λ q hq=>by simp at hq;subst hq;simp)).trans f7
  obtain ⟨_,_,ee,y1,y2,y3⟩:=(HL.upP (S2:=[]) plainLane f57 (λ q hq hq2=>by
   have:=(HL.lt q hq2).1
   have s4:=F4.size
   rcases List.mem_cons.1 hq with rfl | hq
   ·omega
   ·have:=hS (Fr.refl [] w) q hq;omega)).row hbL
  cases ee
  exact mChannel (x:={ x with lanes:=x.lanes++[(⟨n0,n1,o⟩:GLane)] }) ⟨y1,y2,y3⟩ p2)
 have B7:=B5.fr f6 (λ hq=>by simp at hq;have:=f1.size;omega)
 have hge:w.heap.size≤g:=hbg
 have F6:Fr [v2] w w6:=F4.trans_new F46 (λ q hq=>.inr (by simp at hq;omega))
 refine r_dr (λ w7 f7=>?_)
 have F7:Fr [v2] w w7:=F6.trans (f7.mono (by simp))
 refine r_ob ⟨by decide,by omega⟩ ?_
 refine r_ld (N0 (F7.mono (by simp))) ?_
 refine r_ob ⟨by decide,by omega⟩ ?_
 refine r_ld (N1 (F7.mono (by simp))) ?_
 refine r_call (rnumber_t n0 h64_0) ?_
 rintro _ u0 ⟨rfl,g0⟩
 have G0:Fr [] w6 u0:=f7.trans g0
 refine r_chk (N1 ((F6.mono (by simp)).trans (G0.mono (by simp)))) ?_
 refine r_cat (a:=kLane) (by simp only [kLane,List.length_append,List.length_cons,List.length_nil];omega) ?_
 refine r_call (rnumber_t n1 h64_1) ?_
 rintro _ u1 ⟨rfl,g1⟩
 have G1:Fr [] w6 u1:=G0.trans g1
 refine r_cat (by simp only [kLane,List.length_append,List.length_cons,List.length_nil];omega) ?_
 refine r_call (ropens_t o) ?_
 rintro _ u9 ⟨rfl,rfl⟩
 refine r_cat (by simp only [kLane,List.length_append,List.length_cons,List.length_nil];omega) ?_
 refine afin_wp X hq (F6.trans (G1.mono (by simp))) (B7.fr0 G1) (λ w8 f8=>?_) (λ _=>chO_new (us:=_) rfl (λ q hq hs=>by have:=(H6.lt q hq).1;have:=hS (Fr.refl [] w) q (by simp [hs]);omega))
 have f68:Fr (v2 :: v4 :: S) w6 w8:=(G1.mono (by simp)).trans f8
 have F8:Fr S w0 w8:=X.off ((F6.mono (by simp)).trans f68)
 have hset':([]++c.channels).set cs0.length ({ x with lanes:=x.lanes++[(⟨n0,n1,o⟩:GLane)] }:GChannel)=cs0++[({ x with lanes:=x.lanes++[(⟨n0,n1,o⟩:GLane)] }:GChannel)]:=by
  rw [List.nil_append,hcx,List.set_append_right _ _ (Nat.le_refl _)]
  simp
 rw [hset'] at H6
 obtain ⟨_,_,e,y1,y2,y3⟩:=(H6.up f68 (λ q hq hq2=>by have:=(H6.lt q hq2).1;have:=hS (Fr.refl [] w) q hq;omega) (λ q hq=>.inl hq)).row (by have:=hn0;rw [List.nil_append] at this;rw [List.length_append];simp only [big,List.length_cons,List.length_nil];omega)
 have hlen:([]++c.channels).length=(cs0++[({ x with lanes:=x.lanes++[(⟨n0,n1,o⟩:GLane)] }:GChannel)]).length:=by rw [hn0];simp
 rw [hlen] at e ⊢
 cases e
 obtain ⟨k0,k1,k2,k3,k4⟩:=hc.k F8
 exact mConf (x:={ c with channels:=cs0++[({ x with lanes:=x.lanes++[(⟨n0,n1,o⟩:GLane)] }:GChannel)] }) k0 k1 ⟨y1,y2,y3⟩ k3 k4
theorem arecv_wp (X:AX S w0 w cs v2 v4 k ws vw ai) (hc:CO S w0 cs c) (hm:manyP c=false) {cs0:List GChannel} {x:GChannel} (hcx:c.channels=cs0++[x]) (hq:q=addQ 5 ws o c):wp Tryz.prog Z (AddR S w0 q l) [] (Ad.arecv (Tx l) (Pt v2 0) (Pt v4 0) vw (.slice (some ai) (ws.map intP++[0,0,0]).length ci) (I (cs0.length:Int)) (.bool o)) w A B:=by
 obtain ⟨A0,c0,A1,c1,A2,c2,A3,c3,A4,c4,rfl,k0,k1,k2,k3,k4⟩:=oConf hc.now
 obtain ⟨m0,m1,m2,m3,m4,m5⟩:=few hm
 have hx16:=m5 x (by rw [hcx];simp)
 have hvl:=vlen ws
 have N0:∀ {w':World},Fr [v2,v4] w w'→w'.cell? (addA ai (((0:Nat):Int).toNat * 1))=some (I ((ws.map intP++[0,0,0]).getD 0 0)):=λ f=>X.num 0 (by decide) f
 have h64_0:=val_64 ws 0 (by decide)
 unfold addQ at hq
 rw [if_neg (by decide),if_neg (by decide),if_neg (by decide),if_neg (by decide),if_pos rfl] at hq
 generalize (ws.map intP++[0,0,0]).getD 0 0=n0 at N0 h64_0 hq
 have L_0:=num_len n0 h64_0
 have Lo:=op_len o
 rw [lastU_at hcx] at hq
 have l2:=X.B2.lt
 have l4:=X.B4.lt
 have hS:=λ {w':World} (f:Fr [] w w')=>X.lt f
 have hn0:([]++c.channels).length=cs0.length+1:=by rw [List.nil_append,hcx];simp
 refine r_bs0 (e:=rChannel) (S:=v2 :: v4 :: S) Echan (λ v w1 HO f1 _=>?_)
 have hv1:∀ q∈v.ownBlock.toList,w.heap.size≤q:=λ q hq=>(HO.lt q hq).1
 refine r_ld ((X.B2.fr0 f1).cell (o:=2) rfl) ?_
 refine r_apps (xs:=c.channels) Echan HO rfl (hc.chs (X.F.trans f1) (λ q hq=>?_)) (by have:=hn0;rw [List.nil_append] at this;simp only [big];simp;omega) f1.size (λ v3 w2 H2 f2 g2=>?_)
 ·rcases List.mem_append.1 hq with hq | hq
  ·exact .inr (by have:=hv1 q hq;have:=X.F.size;omega)
  ·exact X.nw q hq
 have F2:=f1.trans_new f2 (λ q hq=>.inr (hv1 q hq))
 have hb2:([]++c.channels).length≤big:=by rw [List.nil_append];simp only [big];omega
 obtain ⟨X3,d3,rfl⟩:∃ X3 d3,v3=.slice X3 ([]++c.channels).length d3:=by
  obtain ⟨X3,d3,e,_⟩:=H2.row hb2
  exact ⟨X3,d3,e⟩
 refine r_st1 (X.B2.fr0 F2) Tryz.sizeOf25 (λ w3 B3 f3=>?_)
 have H3:=H2.up f3 (λ q hq hq2=>by have:=(H2.lt q hq2).1;simp at hq;omega) (λ q hq=>.inl (by simp at hq;simp [hq]))
 refine r_dr (λ w4 f4=>?_)
 have H4:=H3.fr0 f4
 have B4:=B3.fr0 f4
 have F4:Fr [v2] w w4:=((F2.mono (by simp)).trans f3).trans (f4.mono (by simp))
 have e4:Fr [v2,v4] w w4:=F4.mono (by simp)
 obtain ⟨g,cap,csg,es,e,hbg,BG,hlt,rd,hoff,hset⟩:=or_set H4 (m:=cs0.length) (x0:=x) (by rw [List.nil_append,hcx];simp) (i:=2) (by decide)
 cases e
 obtain ⟨L1,d1,L2,d2,rfl,q1,q2⟩:=oChannel hoff.now
 have hgl:=BG.lt
 have hcell:∀ {w':World},Fr [] w4 w'→w'.cell? ⟨g,0+cs0.length * 3+2,none⟩=some (.slice L2 x.receivers.length d2):=λ f=>by
  have:=(rd.fr f).2 2 (.slice L2 x.receivers.length d2) rfl
  rw [Nat.zero_add]
  exact this
 refine r_ld (B4.cell (o:=2) rfl) ?_
 refine r_ld (B4.cell (o:=2) rfl) ?_
 refine r_ob ⟨by omega,by omega⟩ ?_
 refine r_ld (ad:=⟨g,0+cs0.length * 3+2,none⟩) (hcell (Fr.refl _ _)) ?_
 refine r_ob ⟨by decide,by omega⟩ ?_
 refine r_ld (N0 e4) ?_
 refine r_amb3 (e:=rReceiver) (x1:=.agg (eReceiver ⟨n0,o⟩).toArray) (x:=(⟨n0,o⟩:GReceiver)) (es:=eReceiver ⟨n0,o⟩) [(⟨v2,2,none⟩,.slice (some ⟨g,0,none⟩) ([]++c.channels).length d3),(⟨v2,2,none⟩,.slice (some ⟨g,0,none⟩) ([]++c.channels).length d3),(⟨g,0+cs0.length * 3+2,none⟩,.slice L2 x.receivers.length d2),(addA ai (((0:Nat):Int).toNat * 1),I n0)] [(⟨v2,2,none⟩,.slice (some ⟨g,0,none⟩) ([]++c.channels).length d3),(addA ai (((0:Nat):Int).toNat * 1),I n0)] [(⟨v2,2,none⟩,.slice (some ⟨g,0,none⟩) ([]++c.channels).length d3),(⟨v2,2,none⟩,.slice (some ⟨g,0,none⟩) ([]++c.channels).length d3),(⟨g,0+cs0.length * 3+2,none⟩,.slice L2 x.receivers.length d2)] [(⟨v2,2,none⟩,.slice (some ⟨g,0,none⟩) ([]++c.channels).length d3),(⟨v2,2,none⟩,.slice (some ⟨g,0,none⟩) ([]++c.channels).length d3),(⟨g,0+cs0.length * 3+2,none⟩,.slice L2 x.receivers.length d2)] [(⟨v2,2,none⟩,.slice (some ⟨g,0,none⟩) ([]++c.channels).length d3),(addA ai (((0:Nat):Int).toNat * 1),I n0)] [(⟨v2,2,none⟩,.slice (some ⟨g,0,none⟩) ([]++c.channels).length d3),(⟨v2,2,none⟩,.slice (some ⟨g,0,none⟩) ([]++c.channels).length d3),(⟨g,0+cs0.length * 3+2,none⟩,.slice L2 x.receivers.length d2)] [(⟨v2,2,none⟩,.slice (some ⟨g,0,none⟩) ([]++c.channels).length d3),(⟨v2,2,none⟩,.slice (some ⟨g,0,none⟩) ([]++c.channels).length d3),(⟨g,0+cs0.length * 3+2,none⟩,.slice L2 x.receivers.length d2),(addA ai (((0:Nat):Int).toNat * 1),I n0)] [(⟨v2,2,none⟩,.slice (some ⟨g,0,none⟩) ([]++c.channels).length d3),(addA ai (((0:Nat):Int).toNat * 1),I n0)] [] Erecv (RwO.plain plainRecv q2.2.2) rfl (λ _=>rfl) (by simp only [big];omega) ?_ (λ v' w5 HL F5=>?_)
 ·intro w' f p hp
  have e5:Fr [v2,v4] w w':=e4.trans (f.mono (by simp))
  have hp':p∈[(⟨v2,2,none⟩,.slice (some ⟨g,0,none⟩) ([]++c.channels).length d3),(⟨v2,2,none⟩,.slice (some ⟨g,0,none⟩) ([]++c.channels).length d3),(⟨g,0+cs0.length * 3+2,none⟩,.slice L2 x.receivers.length d2),(addA ai (((0:Nat):Int).toNat * 1),I n0)]:=by
   simp only [List.mem_cons,List.not_mem_nil,or_false] at hp ⊢
   rcases hp with hp | hp | hp | hp | hp | hp | hp | hp
   ·exact hp
   ·rcases hp with hp | hp
    ·exact .inl hp
    ·exact .inr (.inr (.inr hp))
   ·rcases hp with hp | hp | hp
    ·exact .inl hp
    ·exact .inl hp
    ·exact .inr (.inr (.inl hp))
   ·rcases hp with hp | hp | hp
    ·exact .inl hp
    ·exact .inl hp
    ·exact .inr (.inr (.inl hp))
   ·rcases hp with hp | hp
    ·exact .inl hp
    ·exact .inr (.inr (.inr hp))
   ·rcases hp with hp | hp | hp
    ·exact .inl hp
    ·exact .inl hp
    ·exact .inr (.inr (.inl hp))
   ·exact hp
   ·rcases hp with hp | hp
    ·exact .inl hp
    ·exact .inr (.inr (.inr hp))
  simp only [List.mem_cons,List.not_mem_nil,or_false] at hp'
  rcases hp' with rfl | rfl | rfl | rfl
  ·exact (B4.fr0 f).cell (o:=2) rfl
  ·exact (B4.fr0 f).cell (o:=2) rfl
  ·exact hcell f
  ·exact N0 e5
 have hbL:(x.receivers++[(⟨n0,o⟩:GReceiver)]).length≤big:=by simp only [big];simp;omega
 obtain ⟨X6,d6,rfl⟩:∃ X6 d6,v'=.slice X6 (x.receivers++[(⟨n0,o⟩:GReceiver)]).length d6:=by
  obtain ⟨X6,d6,e,_⟩:=HL.row hbL
  exact ⟨X6,d6,e⟩
 have B5:=B4.fr0 F5
 refine r_chk (B5.cell (o:=2) rfl) ?_
 refine r_ob ⟨by omega,by omega⟩ ?_
 refine r_st1 (o:=0+cs0.length * 3+2) (BG.fr0 F5) Tryz.sizeOf85 (λ w6 B6 f6=>?_) (ho:=by rw [Nat.zero_add];exact Nat.ble_eq_true_of_le hlt)
 rw [Nat.zero_add] at B6
 have F46:Fr [g] w4 w6:=(F5.mono (by simp)).trans f6
 have H6:=hset w6 _ ({ x with receivers:=x.receivers++[(⟨n0,o⟩:GReceiver)] }:GChannel) B6 F46 (λ w7 f7=>by
  have f47:Fr (g :: v2 :: v4 :: S) w4 w7:=((F5.mono (by simp)).trans (f6.mono (λ q hq=>by simp at hq;subst hq;simp))).trans f7
  obtain ⟨_,_,_,_,ee,p1,p2⟩:=oChannel (hoff w7 f47)
  cases ee
  have f57:Fr (g :: v2 :: v4 :: S) w5 w7:=(f6.mono (λ q hq=>by simp at hq;subst hq;simp)).trans f7
  obtain ⟨_,_,ee,y1,y2,y3⟩:=(HL.upP (S2:=[]) plainRecv f57 (λ q hq hq2=>by
   have:=(HL.lt q hq2).1
   have s4:=F4.size
   rcases List.mem_cons.1 hq with rfl | hq
   ·omega
   ·have:=hS (Fr.refl [] w) q hq;omega)).row hbL
  cases ee
  exact mChannel (x:={ x with receivers:=x.receivers++[(⟨n0,o⟩:GReceiver)] }) p1 ⟨y1,y2,y3⟩)
 have B7:=B5.fr f6 (λ hq=>by simp at hq;have:=f1.size;omega)
 have hge:w.heap.size≤g:=hbg
 have F6:Fr [v2] w w6:=F4.trans_new F46 (λ q hq=>.inr (by simp at hq;omega))
 have F7:Fr [v2] w w6:=F6
 refine r_ob ⟨by decide,by omega⟩ ?_
 refine r_ld (N0 (F7.mono (by simp))) ?_
 refine r_call (rnumber_t n0 h64_0) ?_
 rintro _ u0 ⟨rfl,g0⟩
 have G0:Fr [] w6 u0:=(Fr.refl [] w6).trans g0
 refine r_cat (a:=kRec) (by simp only [kRec,List.length_append,List.length_cons,List.length_nil];omega) ?_
 refine r_call (ropens_t o) ?_
 rintro _ u9 ⟨rfl,rfl⟩
 refine r_cat (by simp only [kRec,List.length_append,List.length_cons,List.length_nil];omega) ?_
 refine afin_wp X hq (F6.trans (G0.mono (by simp))) (B7.fr0 G0) (λ w8 f8=>?_) (λ _=>chO_new (us:=_) rfl (λ q hq hs=>by have:=(H6.lt q hq).1;have:=hS (Fr.refl [] w) q (by simp [hs]);omega))
 have f68:Fr (v2 :: v4 :: S) w6 w8:=(G0.mono (by simp)).trans f8
 have F8:Fr S w0 w8:=X.off ((F6.mono (by simp)).trans f68)
 have hset':([]++c.channels).set cs0.length ({ x with receivers:=x.receivers++[(⟨n0,o⟩:GReceiver)] }:GChannel)=cs0++[({ x with receivers:=x.receivers++[(⟨n0,o⟩:GReceiver)] }:GChannel)]:=by
  rw [List.nil_append,hcx,List.set_append_right _ _ (Nat.le_refl _)]
  simp
 rw [hset'] at H6
 obtain ⟨_,_,e,y1,y2,y3⟩:=(H6.up f68 (λ q hq hq2=>by have:=(H6.lt q hq2).1;have:=hS (Fr.refl [] w) q hq;omega) (λ q hq=>.inl hq)).row (by have:=hn0;rw [List.nil_append] at this;rw [List.length_append];simp only [big,List.length_cons,List.length_nil];omega)
 have hlen:([]++c.channels).length=(cs0++[({ x with receivers:=x.receivers++[(⟨n0,o⟩:GReceiver)] }:GChannel)]).length:=by rw [hn0];simp
 rw [hlen] at e ⊢
 cases e
 obtain ⟨k0,k1,k2,k3,k4⟩:=hc.k F8
 exact mConf (x:={ c with channels:=cs0++[({ x with receivers:=x.receivers++[(⟨n0,o⟩:GReceiver)] }:GChannel)] }) k0 k1 ⟨y1,y2,y3⟩ k3 k4
end
end Go.Proofs.YtppodgdhdddfkaaGreatDoor.Cg
