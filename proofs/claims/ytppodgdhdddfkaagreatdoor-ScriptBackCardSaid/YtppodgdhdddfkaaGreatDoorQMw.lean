import Derived.Test.YtppodgdhdddfkaaGreatDoorQMv
import Derived.Test.YtppodgdhdddfkaaGreatDoorQMo
set_option linter.unusedVariables false
set_option linter.unusedSimpArgs false
namespace Go.Proofs.YtppodgdhdddfkaaGreatDoor.Sc
set_option maxRecDepth 100000
open Go Go.RowKit Go.Proofs.YtppodgdhdddfkaaGreatDoor.Sx
open Go.Proofs.YtppodgdhdddfkaaGreatDoor.Sg
open Go.Proofs.YtppodgdhdddfkaaGreatDoor.Bi (mixed take_s Eint)
open Go.Proofs.YtppodgdhdddfkaaGreatDoor.Hd (WfB Ebyte Erow Etick)
open Go.Proofs.YtppodgdhdddfkaaGreatDoor.Cg (splitP splitP_ne splitP_len r_callZ r_nnil r_nheld r_tne StL linesOf Lines_t Lines1_it lines_back)
theorem cut_fst (a:Bs):(Lib.cut a [32]).1=(splitP 32 a).headD []:=by
 by_cases h:2≤(splitP 32 a).length
 ·rw [cut_two h]
 ·obtain ⟨h1,h2⟩:=cut_one h
  rw [h1,h2];rfl
section
variable {w w':World}
theorem Or.at {α:Type} {e:Rl α} {ty base g len cap j:Nat} {S:List Nat} {xs:List α} {x:α} (h:Or e ty base S w (.slice (some ⟨g,0,none⟩) len cap) xs) (hj:xs[j]? = some x):∃ es,Rd w e.n ⟨g,j * e.n,none⟩ es∧Off (g :: S) (λ w=>e.r w es x) w:=by
 obtain ⟨cells,⟨hl,⟨h0,_⟩ | ⟨g',cap',cur,h0,hbg,hg,hnc,hcm,hcs,htake⟩⟩,hxs⟩:=h
 ·cases h0
 cases h0
 have hx:=hxs j x hj
 have hlen:=e.len hx.now
 refine ⟨_,⟨hlen,λ i u hi=>?_⟩,hx⟩
 have hi2:cells[j * e.n+i]? = some u:=by
  rw [List.getElem?_take] at hi
  split at hi
  ·rw [List.getElem?_drop] at hi;exact hi
  ·cases hi
 rw [← htake,List.getElem?_take] at hi2
 split at hi2
 ·have hB:Blk w g ty cur.toList:=by unfold Blk;rw [hg]
  exact hB.cell hi2
 ·cases hi2
end
def AdR (S:List Nat) (base:Nat) (w0:World) (v:Value) (l:List GTick) (z:Bs) (r:Value) (w':World):Prop:=∃ l',addP l z=some l'∧Or rTick 76 base S w' r l'∧Fr v.ownBlock.toList w0 w'∧∀ q∈r.ownBlock.toList,q∈v.ownBlock.toList∨w0.heap.size≤q
section
variable {Z:ZP} {w w0:World} {R:Value→World→Prop} {A:List Nat→List Value→World→Prop} {B:List Nat→Nat→List Value→World→Prop}
theorem add_t {S:List Nat} {base:Nat} {v:Value} {l:List GTick} (HO:Or rTick 76 base S w v l) (hbase:base≤w.heap.size) (hS:∀ q∈S,q < w.heap.size) (hall:∀ t∈l,smallT t=true) (hll:l.length≤4096) (z:Bs) (hz:z.length≤9000000) (G:SW w):Cz Tryz.prog 36 [v,Tx z] w (AdR S base w v l z) (ZS (addP l z=none) [] w):=by
 have ead:addP l z=if Lib.hasSuffix z [10]=true then
  if (splitP 32 (Lib.trimSuffix z [10])).headD []=kTick then (if l.length < 4096 then (picksP (Lib.trimSuffix z [10])).map (λ t=>l++[t]) else none)
  else match l.getLast? with
   | none=>none
   | some t=>(moreP t (Lib.trimSuffix z [10])).map (λ x=>l.dropLast++[x])
  else none:=rfl
 have hlb:l.length≤big:=by simp only [big];omega
 refine go mixed Tryz.func36 Tryz.call36 rfl (Tr.e36 _ _) ?_
 refine r_call (CutSuffix_t z [10] (by omega)) ?_
 rintro _ w1 ⟨rfl,rfl⟩
 refine r_ifbn (λ hs=>?_) (λ hs=>?_)
 ·exact r_pans ⟨by rw [ead,if_neg (by rw [hs];decide)],rfl,Fr.refl _ _⟩
 rw [if_pos hs] at ead
 have htl:(Lib.trimSuffix z [10]).length≤9000000:=by
  unfold Lib.trimSuffix
  split
  all_goals first | exact hz | (rw [List.length_take];omega)
 generalize Lib.trimSuffix z [10]=s at ead htl
 refine r_call (Cut_t s [32] htl G.g.m) ?_
 rintro _ w2 ⟨rfl,f2⟩
 have HO:=HO.fr0 f2
 refine r_teq (b:=[116,105,99,107]) ?_
 have ec:=cut_fst s
 obtain ⟨X,c,rfl,x1,x2,x3⟩:=HO.row hlb
 refine r_if (λ hk=>?_) (λ hk=>?_)
 ·rw [ec] at hk
  have ead:addP l z=if l.length < 4096 then (picksP s).map (λ t=>l++[t]) else none:=ead.trans (if_pos hk)
  refine r_if (λ h4=>?_) (λ h4=>?_)
  ·exact r_pans ⟨by rw [ead,if_neg (by omega)],rfl,f2⟩
  rw [if_pos (by omega)] at ead
  refine r_callZ (picks_t s htl (G.up f2).g) ?_ (λ c w' hz=>?_)
  rotate_left
  ·obtain ⟨h1,rfl,f3⟩:=hz
   exact ⟨by rw [ead,h1];rfl,rfl,f2.trans f3⟩
  rintro _ w3 ⟨cs,t,hpk,rfl,hN,f3⟩
  have hlen:=rTick.len hN.now
  have hown:=λ q hq=>(HO.lt q hq).2
  refine r_appL (x:=t) (es:=cs) Etick (HO.fr0 f3) (hN.off (λ q hq=>?_)) (by simp only [big];omega) (by have:=f2.size;have:=f3.size;omega) (λ v' w4 O4 f4 o4=>?_) rfl hlen
  ·rcases List.mem_append.1 hq with hq | hq
   ·exact .inl (hown q hq)
   ·have:=hS q hq;have:=f2.size;exact .inl (by omega)
  refine r_ret ⟨l++[t],by rw [ead,hpk];rfl,O4,((f2.trans f3).mono (by simp)).trans f4,λ q hq=>?_⟩
  rcases o4 q hq with h | h
  ·exact .inl h
  ·have:=f2.size;have:=f3.size;exact .inr (by omega)
 ·rw [ec] at hk
  have ead:addP l z=match l.getLast? with
   | none=>none
   | some t=>(moreP t s).map (λ x=>l.dropLast++[x]):=ead.trans (if_neg hk)
  refine r_if (λ h0=>?_) (λ h0=>?_)
  ·obtain rfl:l=[]:=List.eq_nil_of_length_eq_zero (by omega)
   exact r_pans ⟨ead,rfl,f2⟩
  obtain ⟨k,hk1⟩:∃ k,l.length=k+1:=⟨l.length-1,by omega⟩
  obtain ⟨t,ht⟩:=gt (xs:=l) (j:=k) (by omega)
  have hlast:l.getLast? = some t:=by rw [List.getLast?_eq_getElem?,hk1];exact ht
  rw [hlast] at ead
  dsimp only at ead
  obtain ⟨g,cap,e0⟩:=Or.isS HO (by omega)
  cases e0
  refine r_are (y:=(k:Int)) (by rw [IntKind.wrap_i64];omega) ?_
  refine r_are (y:=(k:Int)) (by rw [IntKind.wrap_i64];omega) ?_
  refine r_ob ⟨by omega,by omega⟩ ?_
  obtain ⟨es,rd,hoff⟩:=Or.at HO ht
  have ea:(⟨g,0+((k:Nat):Int).toNat * 2,none⟩:Addr)=⟨g,k * rTick.n,none⟩:=by
   show (⟨g,0+k * 2,none⟩:Addr)=⟨g,k * 2,none⟩
   rw [Nat.zero_add]
  refine r_ldn (n:=2) (cs:=es) (ad:=⟨g,0+((k:Nat):Int).toNat * 2,none⟩) (by rw [ea];exact rd) ?_
  have hg:=(HO.lt g (by simp [Value.ownBlock]))
  refine r_callZ (more_t (S:=g :: S) hoff (λ q hq=>?_) (hall t (List.mem_of_getElem? ht)) s htl (G.up f2)) ?_ (λ c w' hz=>?_)
  ·rcases List.mem_cons.1 hq with rfl | hq
   ·exact hg.2
   ·have:=hS q hq;have:=f2.size;omega
  rotate_left
  ·obtain ⟨h1,rfl,f3⟩:=hz
   exact ⟨by rw [ead,h1];rfl,rfl,f2.trans f3⟩
  rintro _ w3 ⟨cs,x,hmr,rfl,hT,f3⟩
  have HO:=HO.fr0 f3
  refine r_ob ⟨by omega,by omega⟩ ?_
  refine r_stOn (e:=rTick) k HO (rTick.len hT.now) (by omega) (by show 0+k * 2=k * 2;omega) hT (rTick.one hT.now) Tryz.sizeOf76 (λ w4 HO4 f4=>?_)
  have eset:l.set k x=l.dropLast++[x]:=by
   apply List.ext_getElem?
   intro i
   rw [List.getElem?_set,List.getElem?_append,List.length_dropLast,hk1,Nat.add_sub_cancel]
   rcases Nat.lt_trichotomy i k with h | h | h
   ·rw [if_neg (by omega),if_pos h,List.getElem?_dropLast,if_pos (by omega)]
   ·subst h
    rw [if_pos rfl,if_pos (by omega),if_neg (by omega),Nat.sub_self];rfl
   ·rw [if_neg (by omega),if_neg (by omega),List.getElem?_eq_none (by omega),List.getElem?_eq_none (by simp;omega)]
  rw [eset] at HO4
  exact r_ret ⟨l.dropLast++[x],by rw [ead,hmr];rfl,HO4,((f2.trans f3).mono (by simp)).trans (f4.mono (by simp [Value.ownBlock])),λ q hq=>.inl hq⟩
end
end Go.Proofs.YtppodgdhdddfkaaGreatDoor.Sc
set_option linter.unusedVariables false
set_option linter.unusedSimpArgs false
namespace Go.Proofs.YtppodgdhdddfkaaGreatDoor.Sc
set_option maxRecDepth 100000
open Go Go.RowKit Go.Proofs.YtppodgdhdddfkaaGreatDoor.Sx
open Go.Proofs.YtppodgdhdddfkaaGreatDoor.Sg
open Go.Proofs.YtppodgdhdddfkaaGreatDoor.Bi (mixed take_s Eint)
open Go.Proofs.YtppodgdhdddfkaaGreatDoor.Hd (WfB Ebyte Erow Etick)
open Go.Proofs.YtppodgdhdddfkaaGreatDoor.Cg (splitP splitP_ne splitP_len r_callZ StL linesOf Lines_t Lines1_it lines_back lines_cnt lines_len linesOf_ne ib_fit)
theorem foldA_snoc (l:List GTick) (ls:List Bs) (z:Bs):foldA l (ls++[z])=(foldA l ls).bind λ s'=>addP s' z:=by
 induction ls generalizing l with
 | nil =>
  show (addP l z).bind (λ s'=>some s')=addP l z
  cases addP l z<;>rfl
 | cons y r ih =>
  show (addP l y).bind _=((addP l y).bind _).bind _
  cases addP l y with
  | none=>rfl
  | some s'=>exact ih s'
theorem failA_at {l l':List GTick} {ls:List Bs} {n:Nat} {z:Bs} (h:foldA l (ls.take n)=some l') (hz:ls[n]? = some z) (hn:addP l' z=none):foldA l ls=none∧failA l ls=n:=by
 induction ls generalizing l n with
 | nil=>simp at hz
 | cons y r ih =>
  cases n with
  | zero =>
   simp at hz;subst hz
   have:l=l':=by simpa [foldA] using h
   subst this
   simp [foldA,failA,hn]
  | succ n =>
   rw [List.take_succ_cons] at h
   unfold foldA at h
   cases hy:addP l y with
   | none=>rw [hy] at h;cases h
   | some s1 =>
    rw [hy] at h
    obtain ⟨i1,i2⟩:=ih (l:=s1) (n:=n) h (by simpa using hz)
    simp [foldA,failA,hy,i1,i2]
theorem picksP_small {s:Bs} {t:GTick} (h:picksP s=some t):smallT t=true∧t.bytes=[]∧∀ n∈t.picks,in64 n:=by
 unfold picksP at h
 split at h
 ·cases hc:cans (splitP 32 s).tail with
  | none=>rw [hc] at h;cases h
  | some v =>
   rw [hc] at h
   replace h:(if smallT ⟨[],v⟩=true then some (⟨[],v⟩:GTick) else none)=some t:=h
   split at h
   ·cases h
    exact ⟨by assumption,rfl,(cans_len hc).2⟩
   ·cases h
 ·cases h
theorem moreT_small {t x:GTick} {n:Nat} {b:By} (h:moreT t n b=some x):smallT x=true∧x.picks=t.picks:=by
 unfold moreT at h
 split at h
 ·cases h
 ·split at h
  ·cases h
   exact ⟨by assumption,rfl⟩
  ·cases h
theorem moreP_parts {t x:GTick} {s:Bs} (h:moreP t s=some x):∃ n b,2≤(splitP 32 s).length∧canI ((splitP 32 s).headD [])=some ((n:Nat):Int)∧n < 16∧t.bytes.length≤n+1∧pieceP (s.drop (((splitP 32 s).headD []).length+1))=some b∧moreT t n b=some x:=by
 unfold moreP at h
 split at h
 ·cases h
 ·cases hc:canI ((splitP 32 s).headD []) with
  | none=>rw [hc] at h;cases h
  | some v =>
   rw [hc] at h
   replace h:(if 0≤v∧v < 16∧(t.bytes.length:Int)-1≤v then (pieceP (s.drop (((splitP 32 s).headD []).length+1))).bind (moreT t v.toNat) else none)=some x:=h
   split at h
   ·rename_i hv
    cases hp:pieceP (s.drop (((splitP 32 s).headD []).length+1)) with
    | none=>rw [hp] at h;cases h
    | some b =>
     rw [hp] at h
     exact ⟨v.toNat,b,by omega,by rw [show ((v.toNat:Nat):Int)=v by omega],by omega,by omega,rfl,h⟩
   ·cases h
theorem addP_small {l l':List GTick} {z:Bs} (h:addP l z=some l') (hs:(∀ t∈l,smallT t=true)∧l.length≤4096):(∀ t∈l',smallT t=true)∧l'.length≤4096:=by
 unfold addP at h
 split at h
 ·split at h
  ·split at h
   ·rename_i hl
    cases hp:picksP (Lib.trimSuffix z [10]) with
    | none=>rw [hp] at h;cases h
    | some t =>
     rw [hp] at h
     cases h
     refine ⟨λ x hx=>?_,by simp;omega⟩
     rcases List.mem_append.1 hx with hx | hx
     ·exact hs.1 x hx
     ·simp at hx;subst hx;exact (picksP_small hp).1
   ·cases h
  ·cases hg:l.getLast? with
   | none=>rw [hg] at h;cases h
   | some t =>
    rw [hg] at h
    dsimp only at h
    cases hp:moreP t (Lib.trimSuffix z [10]) with
    | none=>rw [hp] at h;cases h
    | some x =>
     rw [hp] at h
     cases h
     obtain ⟨n,b,_,_,_,_,_,hm⟩:=moreP_parts hp
     have hne:l≠[]:=by rintro rfl;cases hg
     refine ⟨λ y hy=>?_,?_⟩
     ·rcases List.mem_append.1 hy with hy | hy
      ·exact hs.1 y (List.dropLast_subset _ hy)
      ·simp at hy;subst hy;exact (moreT_small hm).1
     ·have:=List.length_pos_iff.2 hne
      rw [List.length_append,List.length_dropLast,List.length_singleton];omega
 ·cases h
theorem foldA_small {ls:List Bs}:∀ {l l':List GTick},foldA l ls=some l'→((∀ t∈l,smallT t=true)∧l.length≤4096)→(∀ t∈l',smallT t=true)∧l'.length≤4096:=by
 induction ls with
 | nil=>intro l l' h hs;cases h;exact hs
 | cons z r ih =>
  intro l l' h hs
  unfold foldA at h
  cases hz:addP l z with
  | none=>rw [hz] at h;cases h
  | some l1=>rw [hz] at h;exact ih h (addP_small hz hs)
theorem headN_le (ls:List Bs):headN ls≤ls.length:=by
 induction ls with
 | nil=>exact Nat.le_refl _
 | cons z r ih=>unfold headN;split<;>simp;omega
theorem lines_step {a:Bs} (h:a≠[]):∃ x,linesOf a=x :: linesOf (a.drop x.length)∧a.take x.length=x∧0 < x.length:=by
 rw [linesOf_ne h]
 have hf:=ib_fit a 10
 split
 ·have e:(a.take ((Lib.indexByte a 10).toNat+1)).length=(Lib.indexByte a 10).toNat+1:=by rw [List.length_take];omega
  exact ⟨_,by rw [e],by rw [e],by rw [e];omega⟩
 ·refine ⟨a,by rw [List.drop_length,linesOf],List.take_length,List.length_pos_iff.2 h⟩
theorem lines_cut (a:Bs):∀ n,n≤(linesOf a).length→linesOf (a.drop ((linesOf a).take n).flatten.length)=(linesOf a).drop n∧a.take ((linesOf a).take n).flatten.length=((linesOf a).take n).flatten∧((linesOf a).take n).flatten.length≤a.length:=by
 intro n
 induction n generalizing a with
 | zero=>intro _;simp
 | succ n ih =>
  intro h
  by_cases ha:a=[]
  ·subst ha;rw [linesOf] at h;simp at h
  ·obtain ⟨x,h1,h2,h3⟩:=lines_step ha
   rw [h1,List.length_cons] at h
   obtain ⟨i1,i2,i3⟩:=ih (a.drop x.length) (by omega)
   have hx:x.length≤a.length:=by have:=congrArg List.length h2;rw [List.length_take] at this;omega
   rw [h1,List.take_succ_cons,List.flatten_cons,List.length_append,List.drop_succ_cons,← List.drop_drop,i1]
   refine ⟨rfl,?_,by rw [List.length_drop] at i3;omega⟩
   have e:a=x++a.drop x.length:=by conv=>lhs;rw [← List.take_append_drop x.length a,h2]
   have gen:∀ k,a.take (x.length+k)=x++(a.drop x.length).take k:=λ k=>by conv=>lhs;rw [e]
                                                                         exact List.take_length_add_append k
   rw [gen,i2]
def oth (D:List Nat) (W:World):List Nat:=(List.range W.heap.size).filter (λ q=>decide (q∉D))
theorem mem_oth {D:List Nat} {W:World} {q:Nat}:q∈oth D W↔q < W.heap.size∧q∉D:=by
 unfold oth
 rw [List.mem_filter,List.mem_range,decide_eq_true_eq]
section
variable {w w':World}
theorem Or.upS {α:Type} {e:Rl α} {ty base:Nat} {S S' S2:List Nat} {v:Value} {xs:List α} (h:Or e ty base S w v xs) (f:Fr S' w w') (h1:∀ q∈S',q∉v.ownBlock.toList) (h2:∀ q∈S',q∈S∨w.heap.size≤q) (h3:∀ q∈S2,q∈S∨w.heap.size≤q):Or e ty base S2 w' v xs:=by
 obtain ⟨cells,ho,hx⟩:=h
 refine ⟨cells,own_f ho f (λ q hq hs=>h1 q hs hq),λ j x hj=>(hx j x hj).go f (λ q hq=>?_) (λ q hq=>?_)⟩
 ·rcases h2 q hq with h | h
  ·exact .inl (List.mem_append.2 (.inr h))
  ·exact .inr h
 ·rcases List.mem_append.1 hq with hq | hq
  ·exact .inl (List.mem_append.2 (.inl hq))
  ·rcases h3 q hq with h | h
   ·exact .inl (List.mem_append.2 (.inr h))
   ·exact .inr h
end
section
variable {Z:ZP} {w w0:World} {R:Value→World→Prop} {A:List Nat→List Value→World→Prop} {B:List Nat→Nat→List Value→World→Prop}
theorem head_t (s:Bs) (hl:s.length≤9000000):Cz Tryz.prog 31 [Tx s] w (λ r w'=>r=.tuple #[I (((linesOf s).take (headN (linesOf s))).flatten.length:Nat),I (headN (linesOf s):Nat)]∧Fr [] w w') Z:=by
 refine go mixed Tryz.func31 Tryz.call31 rfl (Tr.e31 _) ?_
 refine b_al (zs:=[I 0]) (Bx.nil w) Tryz.zeroValue3 (λ v4 w1 H=>?_)
 refine b_al (zs:=[I 0]) H Tryz.zeroValue3 (λ v5 w2 H=>?_)
 refine b_st H 1 rfl Tryz.sizeOf3 (λ w3 H=>?_)
 refine b_st H 0 rfl Tryz.sizeOf3 (λ w4 H=>?_)
 refine r_call (Lines_t s) ?_
 rintro _ w5 ⟨b,rfl,Bb,hb,f5⟩
 have k4:=(H.blk (i:=1) rfl).lt
 have k5:=(H.blk (i:=0) rfl).lt
 have k0:=H.F.size
 have H:=H.fr f5
 have l4:=(H.blk (i:=1) rfl).lt
 have l5:=(H.blk (i:=0) rfl).lt
 have g4:=H.ge (i:=1) rfl
 have g5:=H.ge (i:=0) rfl
 have hN:([v5,v4]:List Nat).Nodup:=H.N
 have n54:v5≠v4:=by simpa using hN
 have hcnt:=lines_cnt s
 refine r_rfN w.heap.size [b] (StL (linesOf s)) (λ n bs W=>n≤(linesOf s).length∧headN (linesOf s)=n+headN ((linesOf s).drop n)∧Blk W v4 3 [I (((linesOf s).take n).flatten.length:Nat)]∧Blk W v5 3 [I (n:Nat)]∧bs=[v4,v5]∧Fr [] w W∧w5.heap.size≤W.heap.size)
  (λ j bs W=>j=2∧Blk W v4 3 [I (((linesOf s).take (headN (linesOf s))).flatten.length:Nat)]∧Blk W v5 3 [I (headN (linesOf s):Nat)]∧bs=[v4,v5]∧Fr [] w W∧w5.heap.size≤W.heap.size) 0 (linesOf s).length [v4,v5] H.F.size ?_ Tryz.call72 ?_ ?_ ?_ ?_ ?_ ?_ ?_ ?_ ?_
 ·intro q hq
  simp at hq;subst hq
  exact ⟨by omega,by simp;omega,Bb.lt⟩
 ·exact ⟨Nat.zero_le _,by simp,H.blk (i:=1) rfl,H.blk (i:=0) rfl,rfl,H.F,Nat.le_refl _⟩
 ·rintro n bs W W' S ⟨h1,h2,b4,b5,rfl,F,sz⟩ f hS
  exact ⟨h1,h2,b4.fr f (λ hq=>(hS _ hq).1 (by simp)),b5.fr f (λ hq=>(hS _ hq).1 (by simp)),rfl,F.trans_new f (λ q hq=>.inr (hS q hq).2),Nat.le_trans sz f.size⟩
 ·rintro j bs W W' S ⟨h1,b4,b5,rfl,F,sz⟩ f hS
  exact ⟨h1,b4.fr f (λ hq=>(hS _ hq).1 (by simp)),b5.fr f (λ hq=>(hS _ hq).1 (by simp)),rfl,F.trans_new f (λ q hq=>.inr (hS q hq).2),Nat.le_trans sz f.size⟩
 ·rintro n bs W ⟨h1,h2,b4,b5,rfl,F,sz⟩
  refine ⟨λ q hq=>?_,sz⟩
  simp at hq
  rcases hq with rfl | rfl
  ·exact b4.lt
  ·exact b5.lt
 ·rintro j bs W ⟨h1,b4,b5,rfl,F,sz⟩
  refine ⟨λ q hq=>?_,sz⟩
  simp at hq
  rcases hq with rfl | rfl
  ·exact b4.lt
  ·exact b5.lt
 ·rintro L a0 b0 n n' xs bs W hLb hwL hLW ⟨h1,h2,b4,b5,rfl,F,sz⟩ hLa ⟨z,hz,rfl,rfl⟩
  refine ⟨rfl,?_⟩
  have hn:n < (linesOf s).length:=(List.getElem?_eq_some_iff.1 hz).1
  have hst:((linesOf s).take (n+1)).flatten.length=((linesOf s).take n).flatten.length+z.length:=by rw [take_s hz,List.flatten_append];simp
  have hfl:=(lines_cut s (n+1) (by omega)).2.2
  have hdr:(linesOf s).drop n=z :: (linesOf s).drop (n+1):=by rw [List.drop_eq_getElem_cons hn,(List.getElem?_eq_some_iff.1 hz).2]
  have hL4:L≠v4∧L≠v5:=by simpa using hLb
  refine r_rb hLa (λ w7 f7 hL7=>?_)
  have b4:=b4.fr f7 (by simp;exact λ e=>hL4.1 e.symm)
  have b5:=b5.fr f7 (by simp;exact λ e=>hL4.2 e.symm)
  refine r_ld (b4.cell rfl) ?_
  refine r_tlen Tryz.underlying9 ?_
  refine r_are (y:=((((linesOf s).take (n+1)).flatten.length:Nat):Int)) (by rw [IntKind.wrap_i64,hst];omega) ?_
  refine r_st1 b4 Tryz.sizeOf3 (λ w8 b4 f8=>?_)
  have b5:=b5.fr f8 (by simpa using n54)
  refine r_ld (b5.cell rfl) ?_
  refine r_are (y:=((n+1:Nat):Int)) (by rw [IntKind.wrap_i64];omega) ?_
  refine r_st1 b5 Tryz.sizeOf3 (λ w9 b5 f9=>?_)
  have b4:=b4.fr f9 (by simp;exact λ e=>n54 e.symm)
  have hL9:w9.heap[L]? = some b0:=by
   refine (f9.keep L ?_ (by simpa using hL4.2)).trans ((f8.keep L ?_ (by simpa using hL4.1)).trans hL7)
   ·exact Nat.lt_of_lt_of_le (Array.getElem?_eq_some_iff.1 hL7).1 f8.size
   ·exact (Array.getElem?_eq_some_iff.1 hL7).1
  have f79:Fr [L,v4,v5] W w9:=((f7.mono (by simp)).trans (f8.mono (by simp))).trans (f9.mono (by simp))
  have F9:Fr [] w w9:=F.trans_new f79 (λ q hq=>.inr (by simp at hq;omega))
  have sz9:=Nat.le_trans sz f79.size
  refine r_call (HasPrefix_t z [98,117,100,103,101,116]) ?_
  rintro _ w10 ⟨rfl,rfl⟩
  refine r_ifb (λ hh=>?_) (λ hh=>?_)
  ·have hk:z.take 6=kBudget:=(pre_take (s:=z) (p:=[98,117,100,103,101,116])).1 hh
   have e:headN (linesOf s)=n+1:=by rw [h2,hdr,headN,if_pos hk]
   refine r_brk ⟨⟨[v4,v5],⟨rfl,by rw [e];exact b4,by rw [e];exact b5,rfl,F9,sz9⟩,λ q hq=>.inl hq⟩,f79,hL9⟩
  ·have hk:¬ z.take 6=kBudget:=λ e=>by
    have:=(pre_take (s:=z) (p:=[98,117,100,103,101,116])).2 e
    rw [hh] at this;cases this
   have e:headN (linesOf s)=(n+1)+headN ((linesOf s).drop (n+1)):=by rw [h2,hdr,headN,if_neg hk];omega
   exact ⟨⟨[v4,v5],⟨hn,e,b4,b5,rfl,F9,sz9⟩,λ q hq=>.inl hq⟩,f79,hL9⟩
 ·intro L D J K w1' F1' RG hJ h0
  have h:=Lines1_it (Z:=ZD [D] Z) RG (Bb.fr0 F1') hl h0
  exact h
 ·rintro D bs W ⟨h1,h2,b4,b5,rfl,F,sz⟩ hDb hwD hD
  have e:headN (linesOf s)=(linesOf s).length:=by rw [h2,List.drop_length];rfl
  refine r_dr (λ W1 f1=>?_)
  refine r_ld ((b4.fr0 f1).cell rfl) ?_
  refine r_ld ((b5.fr0 f1).cell rfl) ?_
  refine r_ret1 (dkeep hD f1 (by simp)) (λ w' f=>⟨by rw [e],(F.trans f1).trans_new f (λ q hq=>.inr (by simp at hq;omega))⟩)
 ·rintro D bs W j ⟨hj,b4,b5,rfl,F,sz⟩ hDb hwD hD
  obtain rfl:j=1:=by omega
  refine r_dr (λ W1 f1=>?_)
  refine r_ld ((b4.fr0 f1).cell rfl) ?_
  refine r_ld ((b5.fr0 f1).cell rfl) ?_
  refine r_ret1 (dkeep hD f1 (by simp)) (λ w' f=>⟨rfl,(F.trans f1).trans_new f (λ q hq=>.inr (by simp at hq;omega))⟩)
end
end Go.Proofs.YtppodgdhdddfkaaGreatDoor.Sc
set_option linter.unusedVariables false
set_option linter.unusedSimpArgs false
namespace Go.Proofs.YtppodgdhdddfkaaGreatDoor.Sc
set_option maxRecDepth 100000
open Go Go.RowKit Go.Proofs.YtppodgdhdddfkaaGreatDoor.Sx
open Go.Proofs.YtppodgdhdddfkaaGreatDoor.Sg
open Go.Proofs.YtppodgdhdddfkaaGreatDoor.Bi (mixed take_s Eint)
open Go.Proofs.YtppodgdhdddfkaaGreatDoor.Hd (WfB Ebyte Erow Etick)
open Go.Proofs.YtppodgdhdddfkaaGreatDoor.Cg (splitP splitP_ne splitP_len r_callZ StL linesOf Lines_t Lines1_it lines_back lines_cnt lines_len zC c0_r one_zC c0 parseP Parse_tO)
section
variable {Z:ZP} {w w0:World} {R:Value→World→Prop} {A:List Nat→List Value→World→Prop} {B:List Nat→Nat→List Value→World→Prop}
theorem P1_t {S:List Nat} {base b1 b2:Nat} {v:Value} {l:List GTick} {z:Bs} (B1:Blk w b1 30 [v]) (B2:Blk w b2 9 [Tx z]) (HO:Or rTick 76 base S w v l) (h1:b1∈S) (h1o:b1∉v.ownBlock.toList) (hbase:base≤w.heap.size) (hS:∀ q∈S,q < w.heap.size) (hall:∀ t∈l,smallT t=true) (hll:l.length≤4096) (hz:z.length≤9000000) (G:SW w) :
  Cz Tryz.prog 35 [Pt b1 0,Pt b2 0] w (λ r w'=>r=.tuple #[]∧(∃ l' v',addP l z=some l'∧Blk w' b1 30 [v']∧Or rTick 76 base S w' v' l'∧∀ q∈v'.ownBlock.toList,q∈v.ownBlock.toList∨w.heap.size≤q)∧Fr (b1 :: v.ownBlock.toList) w w') (λ c w'=>c=[badS]∧addP l z=none∧Fr (b1 :: v.ownBlock.toList) w w'):=by
 refine go mixed Tryz.func35 Tryz.call35 rfl (Tr.e35 _ _) ?_
 refine r_ld (B1.cell (o:=0) rfl) ?_
 refine r_ld (B2.cell (o:=0) rfl) ?_
 refine r_callZ (add_t HO hbase hS hall hll z hz G) ?_ (λ c w' hz=>by obtain ⟨h1,rfl,h3⟩:=hz;exact ⟨rfl,h1,h3.mono (by simp)⟩)
 rintro v' w1 ⟨l',hl',O1,f1,o1⟩
 have hs:=addP_small hl' ⟨hall,hll⟩
 obtain ⟨X,c,rfl,_⟩:=O1.row (by simp only [big];omega)
 refine r_st1 (B1.fr f1 h1o) Tryz.sizeOf30 (λ w2 B3 f2=>?_)
 have hb1:=B1.lt
 refine r_ret ⟨rfl,⟨l',_,hl',B3,O1.up f2 (λ q hq hm=>?_) (λ q hq=>.inl (by simp at hq;subst hq;exact h1)),o1⟩,(f1.mono (λ q hq=>List.mem_cons_of_mem _ hq)).trans (f2.mono (by simp))⟩
 simp at hq;subst hq
 rcases o1 _ hm with h | h
 ·exact h1o h
 ·omega
end
structure PQ (ls:List Bs) (w9:World) (v2 v3 v4 v5 v7 v11 n m:Nat) (W:World) (l:List GTick) (v:Value) (D:List Nat):Prop where
 fo:foldA [] (ls.take m)=some l
 lt:∀ q∈[v2,v3,v4,v5,v7,v11],q < w9.heap.size
 o11:Blk W v11 30 [v]
 O:Or rTick 76 w9.heap.size (oth D W) W v l
 o7:Blk W v7 3 [I ((n+m:Nat):Int)]
 o2:Blk W v2 29 zC
 o3:Blk W v3 30 [.slice none 0 0]
 o4:Blk W v4 3 [I 0]
 o5:Blk W v5 31 [I 0]
 hD:∀ q∈D,w9.heap.size≤q∧q < W.heap.size
 F:Fr [v2,v3,v4,v5,v7,v11] w9 W
def bsQ (v2 v3 v4 v5 v7 v11:Nat) (v:Value) (D:List Nat):List Nat:=[v2,v3,v4,v5,v7,v11]++(v.ownBlock.toList++D)
section
variable {ls:List Bs} {w9 W W':World} {v2 v3 v4 v5 v7 v11 n m:Nat} {l:List GTick} {v:Value} {D:List Nat}
theorem PQ.st (h:PQ ls w9 v2 v3 v4 v5 v7 v11 n m W l v D) {S:List Nat} (f:Fr S W W') (hS:∀ q∈S,q∉bsQ v2 v3 v4 v5 v7 v11 v D∧w9.heap.size≤q):PQ ls w9 v2 v3 v4 v5 v7 v11 n m W' l v D:=by
 have hn:∀ x∈[v2,v3,v4,v5,v7,v11],x∉S:=λ x hx hq=>by have:=h.lt x hx;have:=(hS x hq).2;omega
 refine ⟨h.fo,h.lt,h.o11.fr f (hn _ (by simp)),?_,h.o7.fr f (hn _ (by simp)),h.o2.fr f (hn _ (by simp)),h.o3.fr f (hn _ (by simp)),h.o4.fr f (hn _ (by simp)),h.o5.fr f (hn _ (by simp)),λ q hq=>⟨(h.hD q hq).1,Nat.lt_of_lt_of_le (h.hD q hq).2 f.size⟩,h.F.trans_new f (λ q hq=>.inr (hS q hq).2)⟩
 refine Or.upS h.O f (λ q hq hm=>(hS q hq).1 (by unfold bsQ;simp only [List.mem_append];exact .inr (.inl hm))) (λ q hq=>?_) (λ q hq=>?_)
 ·rcases Nat.lt_or_ge q W.heap.size with h1 | h1
  ·exact .inl (mem_oth.2 ⟨h1,λ hd=>(hS q hq).1 (by unfold bsQ;simp only [List.mem_append];exact .inr (.inr hd))⟩)
  ·exact .inr h1
 ·obtain ⟨h1,h2⟩:=mem_oth.1 hq
  rcases Nat.lt_or_ge q W.heap.size with h3 | h3
  ·exact .inl (mem_oth.2 ⟨h3,h2⟩)
  ·exact .inr h3
theorem PQ.bl (h:PQ ls w9 v2 v3 v4 v5 v7 v11 n m W l v D):∀ q∈bsQ v2 v3 v4 v5 v7 v11 v D,q < W.heap.size:=by
 intro q hq
 unfold bsQ at hq
 rcases List.mem_append.1 hq with hq | hq
 ·exact Nat.lt_of_lt_of_le (h.lt q hq) h.F.size
 ·rcases List.mem_append.1 hq with hq | hq
  ·exact (h.O.lt q hq).2
  ·exact (h.hD q hq).2
end
def PaR (w0:World) (s:Bs) (r:Value) (w':World):Prop:=∃ cs v,r=.tuple #[.agg cs.toArray,v,I (parseS s).2.2.1,I (parseS s).2.2.2]∧rConf.r w' cs (parseS s).1∧Sl rTick w' v (parseS s).2.1∧Fr [] w0 w'
section
variable {Z:ZP} {w w0:World} {R:Value→World→Prop} {A:List Nat→List Value→World→Prop} {B:List Nat→Nat→List Value→World→Prop}
set_option maxHeartbeats 1000000 in
theorem sParse_t (s:Bs) (hsb:s.length≤9223372036854775807) (G:SW w):Cz Tryz.prog 11 [Tx s] w (PaR w s) Z:=by
 refine go mixed Tryz.func11 Tryz.call11 rfl (Tr.e11 _) ?_
 refine b_al (zs:=zC) (Bx.nil w) Tryz.zeroValue29 (λ v2 w1 H=>?_)
 refine b_al (zs:=[.slice none 0 0]) H Tryz.zeroValue30 (λ v3 w2 H=>?_)
 refine b_al (zs:=[I 0]) H Tryz.zeroValue3 (λ v4 w3 H=>?_)
 refine b_al (zs:=[I 0]) H Tryz.zeroValue31 (λ v5 w4 H=>?_)
 refine r_tlen Tryz.underlying9 ?_
 refine r_if (λ h=>?_) (λ h=>?_)
 ·refine b_stn (cs:=zC) H 3 rfl Tryz.sizeOf29 one_zC (λ w5 H=>?_)
  refine b_st H 2 rfl Tryz.sizeOf30 (λ w6 H=>?_)
  refine b_st H 1 rfl Tryz.sizeOf3 (λ w7 H=>?_)
  refine b_st H 0 rfl Tryz.sizeOf31 (λ w8 H=>?_)
  refine b_ldn H 3 rfl ?_
  refine b_ld H 2 rfl rfl ?_
  refine b_ld H 1 rfl rfl ?_
  refine b_ld H 0 rfl rfl ?_
  have e:parseS s=(c0,[],0,2):=by unfold parseS;rw [if_pos (by omega)]
  exact b_ret H (λ F=>⟨zC,.slice none 0 0,by rw [e],by rw [e];exact c0_r,by rw [e];exact Sl.nil,F⟩)
 have hlen:s.length≤4194304:=by omega
 refine r_call (head_t s (by omega)) ?_
 rintro _ w5 ⟨rfl,f5⟩
 have H:=H.fr f5
 have hnl:=headN_le (linesOf s)
 have hcnt:=lines_cnt s
 obtain ⟨c1,c2,c3⟩:=lines_cut s (headN (linesOf s)) hnl
 have epar:parseS s=if (parseP ((linesOf s).take (headN (linesOf s))).flatten).2.2≠0 then (c0,[],(parseP ((linesOf s).take (headN (linesOf s))).flatten).2.1,(parseP ((linesOf s).take (headN (linesOf s))).flatten).2.2)
   else match foldA [] ((linesOf s).drop (headN (linesOf s))) with
    | some l=>((parseP ((linesOf s).take (headN (linesOf s))).flatten).1,l,0,0)
    | none=>(c0,[],((headN (linesOf s)+failA [] ((linesOf s).drop (headN (linesOf s))):Nat):Int),260):=by
  unfold parseS
  rw [if_neg (by omega)]
  try rfl
 have hdl:((linesOf s).drop (headN (linesOf s))).length≤4194304:=by rw [List.length_drop];omega
 have hdz:∀ z∈(linesOf s).drop (headN (linesOf s)),z.length≤9000000:=λ z hz=>Nat.le_trans (lines_len s z (List.mem_of_mem_drop hz)) (by omega)
 generalize hat:((linesOf s).take (headN (linesOf s))).flatten.length=at_ at *
 generalize hls:(linesOf s).drop (headN (linesOf s))=ls at *
 generalize hhd:((linesOf s).take (headN (linesOf s))).flatten=hd at *
 generalize hn:headN (linesOf s)=n at *
 refine b_as (cs:=[I n]) (zs:=[I 0]) (n:=1) H Tryz.zeroValue3 Tryz.sizeOf3 (by simp [Value.oneCell']) (λ v7 w6 H=>?_)
 refine r_tslh Tryz.underlying9 at_ rfl c3 ?_
 rw [c2]
 have l7:=(H.blk (i:=0) rfl).lt
 have l5:=(H.blk (i:=1) rfl).lt
 have l4:=(H.blk (i:=2) rfl).lt
 have l3:=(H.blk (i:=3) rfl).lt
 have l2:=(H.blk (i:=4) rfl).lt
 refine r_call (Parse_tO hd (by have:=congrArg List.length c2;rw [List.length_take] at this;omega) (G.up H.F).g) ?_
 rintro _ w7 ⟨cs,rfl,hconf,f7⟩
 have H:=H.fr f7
 have hcn:=(hconf [] (λ q hq=>(nomatch hq))).now
 have hcl:=rConf.len hcn
 have hone:=rConf.one hcn
 refine r_as (cs:=cs) (zs:=zC) (n:=8) (λ v8 w8 e8 B8 f8=>?_) Tryz.zeroValue29 Tryz.sizeOf29 hone rfl rfl rfl hcl
 have H:=H.add e8 B8 f8
 refine r_if (λ hne=>?_) (λ h0=>?_)
 ·rw [if_pos hne] at epar
  refine b_stn (cs:=zC) H 5 rfl Tryz.sizeOf29 one_zC (λ w9 H=>?_)
  refine b_st H 4 rfl Tryz.sizeOf30 (λ w10 H=>?_)
  refine b_st H 3 rfl Tryz.sizeOf3 (λ w11 H=>?_)
  refine b_st H 2 rfl Tryz.sizeOf31 (λ w12 H=>?_)
  refine b_ldn H 5 rfl ?_
  refine b_ld H 4 rfl rfl ?_
  refine b_ld H 3 rfl rfl ?_
  refine b_ld H 2 rfl rfl ?_
  exact b_ret H (λ F=>⟨zC,.slice none 0 0,by rw [epar];rfl,by rw [epar];exact c0_r,by rw [epar];exact Sl.nil,F⟩)
 rw [if_neg h0] at epar
 refine r_al (zs:=[.slice none 0 0]) Tryz.zeroValue30 (λ v11 w9 e11 B11 f9=>?_)
 have H:=H.add e11 B11 f9
 refine r_tsll Tryz.underlying9 at_ rfl c3 ?_
 have l11:=(H.blk (i:=0) rfl).lt
 have l8:=(H.blk (i:=1) rfl).lt
 refine r_call (Lines_t (s.drop at_)) ?_
 rintro _ w10 ⟨b,rfl,Bb,hb,f10⟩
 have hs9:=H.F.size
 have F9:=H.F
 have g11:=H.ge (i:=0) rfl
 have g8:=H.ge (i:=1) rfl
 have g7:=H.ge (i:=2) rfl
 have g5:=H.ge (i:=3) rfl
 have g4:=H.ge (i:=4) rfl
 have g3:=H.ge (i:=5) rfl
 have g2:=H.ge (i:=6) rfl
 have s67:=f7.size
 have s78:=f8.size
 have s89:=f9.size
 have hnd:([v11,v8,v7,v5,v4,v3,v2]:List Nat).Nodup:=H.N
 simp only [List.nodup_cons,List.mem_cons,List.not_mem_nil,or_false,not_or] at hnd
 obtain ⟨⟨n118,n117,n115,n114,n113,n112⟩,⟨n87,n85,n84,n83,n82⟩,⟨n75,n74,n73,n72⟩,⟨n54,n53,n52⟩,⟨n43,n42⟩,n32,_⟩:=hnd
 have hlt:∀ q∈[v2,v3,v4,v5,v7,v11],q < w9.heap.size:=λ q hq=>by
  simp only [List.mem_cons,List.not_mem_nil,or_false] at hq
  omega
 have hge:∀ q∈[v2,v3,v4,v5,v7,v11],w.heap.size≤q:=λ q hq=>by
  simp only [List.mem_cons,List.not_mem_nil,or_false] at hq
  rcases hq with rfl | rfl | rfl | rfl | rfl | rfl<;>assumption
 have B8':=H.blk (i:=1) rfl
 have H:=H.fr f10
 have fromW:∀ {W:World},Fr [v2,v3,v4,v5,v7,v11] w9 W→Fr [] w W:=λ f=>F9.trans_new f (λ q hq=>.inr (hge q hq))
 have confW:∀ {W:World},Fr [v2,v3,v4,v5,v7,v11] w9 W→rConf.r W cs (parseP hd).1:=λ f=>hconf [v2,v3,v4,v5,v7] (λ q hq=>by
  simp only [List.mem_cons,List.not_mem_nil,or_false] at hq
  omega) _ (((f8.trans f9).mono (by simp)).trans_new f (λ q hq=>by
  simp only [List.mem_cons,List.not_mem_nil,or_false] at hq ⊢
  omega))
 refine r_rfN w9.heap.size [b] (StL ls) (λ m bs W=>∃ l v D,m≤ls.length∧PQ ls w9 v2 v3 v4 v5 v7 v11 n m W l v D∧bs=bsQ v2 v3 v4 v5 v7 v11 v D∧w10.heap.size≤W.heap.size)
  (λ j bs W=>j=1∧∃ m:Nat,foldA [] ls=none∧failA [] ls=m∧Blk W v2 29 zC∧Blk W v3 30 [.slice none 0 0]∧Blk W v4 3 [I ((n+m:Nat):Int)]∧Blk W v5 31 [I 260]∧bs=[v2,v3,v4,v5]∧Fr [v2,v3,v4,v5,v7,v11] w9 W∧w10.heap.size≤W.heap.size) 0 ls.length (bsQ v2 v3 v4 v5 v7 v11 (.slice none 0 0) []) f10.size ?_ Tryz.call72 ?_ ?_ ?_ ?_ ?_ ?_ ?_ ?_ ?_
 ·intro q hq
  simp at hq;subst hq
  refine ⟨by omega,λ hm=>?_,Bb.lt⟩
  unfold bsQ at hm
  have:=hlt q (by simpa [Value.ownBlock] using hm)
  omega
 ·refine ⟨[],.slice none 0 0,[],Nat.zero_le _,⟨rfl,hlt,H.blk (i:=0) rfl,Or.nil,H.blk (i:=2) rfl,H.blk (i:=6) rfl,H.blk (i:=5) rfl,H.blk (i:=4) rfl,H.blk (i:=3) rfl,λ q hq=>(nomatch hq),f10.mono (by simp)⟩,rfl,Nat.le_refl _⟩
 ·rintro m bs W W' S ⟨l,v,D,h1,h2,rfl,sz⟩ f hS
  exact ⟨l,v,D,h1,h2.st f hS,rfl,Nat.le_trans sz f.size⟩
 ·rintro j bs W W' S ⟨h1,m,k1,k2,o2,o3,o4,o5,rfl,F,sz⟩ f hS
  have hn:∀ x∈[v2,v3,v4,v5,v7,v11],x∉S:=λ x hx hq=>by have:=hlt x hx;have:=(hS x hq).2;omega
  exact ⟨h1,m,k1,k2,o2.fr f (hn _ (by simp)),o3.fr f (hn _ (by simp)),o4.fr f (hn _ (by simp)),o5.fr f (hn _ (by simp)),rfl,F.trans_new f (λ q hq=>.inr (hS q hq).2),Nat.le_trans sz f.size⟩
 ·rintro m bs W ⟨l,v,D,h1,h2,rfl,sz⟩
  exact ⟨h2.bl,sz⟩
 ·rintro j bs W ⟨h1,m,k1,k2,o2,o3,o4,o5,rfl,F,sz⟩
  refine ⟨λ q hq=>?_,sz⟩
  have:=hlt q (by simp only [List.mem_cons,List.not_mem_nil,or_false] at hq ⊢;omega)
  exact Nat.lt_of_lt_of_le this F.size
 ·rintro L a0 b0 m m' xs bs W hLb hwL hLW ⟨l,v,D,h1,h2,rfl,sz⟩ hLa ⟨z,hz,rfl,rfl⟩
  refine ⟨rfl,?_⟩
  have hm:m < ls.length:=(List.getElem?_eq_some_iff.1 hz).1
  have hzl:=hdz z (List.mem_of_getElem? hz)
  obtain ⟨hall,hl4⟩:=foldA_small h2.fo ⟨λ t ht=>(nomatch ht),Nat.zero_le _⟩
  have hLn:L∉[v2,v3,v4,v5,v7,v11]∧L∉v.ownBlock.toList∧L∉D:=by
   unfold bsQ at hLb
   simp only [List.mem_append,not_or] at hLb
   exact hLb
  have hvo:∀ q∈v.ownBlock.toList,w9.heap.size≤q∧q < W.heap.size:=λ q hq=>h2.O.lt q hq
  refine r_as (cs:=[Tx z]) (zs:=[Tx []]) (n:=1) (λ v12 Wa ea Ba fa=>?_) Tryz.zeroValue9 Tryz.sizeOf9 (by intro u hu;simp at hu;subst hu;rfl)
  refine r_rb ((fa.keep L hLW (by simp)).trans hLa) (λ Wb fb hLb2=>?_)
  have fab:Fr [L] W Wb:=(fa.mono (by simp)).trans fb
  have h12L:v12≠L:=by omega
  have B12:=Ba.fr fb (by simpa using h12L)
  have hWb:Wb.heap.size≥W.heap.size+1:=by have:=Ba.lt;have:=fb.size;omega
  have kn:∀ x∈[v2,v3,v4,v5,v7,v11],x≠L:=λ x hx e=>hLn.1 (e ▸ hx)
  have b11:=h2.o11.fr fab (by simpa using kn v11 (by simp))
  have b7:=h2.o7.fr fab (by simpa using kn v7 (by simp))
  have b2:=h2.o2.fr fab (by simpa using kn v2 (by simp))
  have b3:=h2.o3.fr fab (by simpa using kn v3 (by simp))
  have b4:=h2.o4.fr fab (by simpa using kn v4 (by simp))
  have b5:=h2.o5.fr fab (by simpa using kn v5 (by simp))
  have hltW:∀ q∈[v2,v3,v4,v5,v7,v11],q < W.heap.size:=λ q hq=>Nat.lt_of_lt_of_le (hlt q hq) h2.F.size
  have inO:∀ x∈[v2,v3,v4,v5,v7,v11],x∈oth D Wb:=λ x hx=>mem_oth.2 ⟨by have:=hltW x hx;omega,λ hd=>by have:=(h2.hD x hd).1;have:=hlt x hx;omega⟩
  have FWb:Fr [v2,v3,v4,v5,v7,v11] w9 Wb:=h2.F.trans_new fab (λ q hq=>.inr (by simp at hq;omega))
  have Gb:=G.up (fromW FWb)
  have Ob:Or rTick 76 w9.heap.size (Wb.heap.size :: oth D Wb) Wb v l:=Or.upS h2.O fab (λ q hq hm=>hLn.2.1 (by simp at hq;subst hq;exact hm)) (λ q hq=>by
   simp at hq;subst hq
   exact .inl (mem_oth.2 ⟨hLW,hLn.2.2⟩)) (λ q hq=>by
   rcases List.mem_cons.1 hq with rfl | hq
   ·exact .inr (by omega)
   ·obtain ⟨k1,k2⟩:=mem_oth.1 hq
    rcases Nat.lt_or_ge q W.heap.size with k3 | k3
    ·exact .inl (mem_oth.2 ⟨k3,k2⟩)
    ·exact .inr k3)
  have n11o:v11∉v.ownBlock.toList:=λ hq=>by have:=(hvo _ hq).1;have:=hlt v11 (by simp);omega
  refine r_call (fits_t (cp:=[Pt v11 0,Pt v12 0]) (v11 :: v.ownBlock.toList) (λ w'=>∃ l' v',addP l z=some l'∧Blk w' v11 30 [v']∧Or rTick 76 w9.heap.size (Wb.heap.size :: oth D Wb) w' v' l'∧∀ q∈v'.ownBlock.toList,q∈v.ownBlock.toList∨Wb.heap.size < q) (λ _=>addP l z=none) (λ q hq=>?_) (λ wA fA hA=>?_)) ?_
  ·rcases List.mem_cons.1 hq with rfl | hq
   ·exact b11.lt
   ·have:=(hvo q hq).2;omega
  ·refine (P1_t (S:=Wb.heap.size :: oth D Wb) (b11.fr0 fA) (B12.fr0 fA) (Ob.fr0 fA) (List.mem_cons_of_mem _ (inO v11 (by simp))) n11o (by have:=FWb.size;have:=fA.size;omega) (λ q hq=>?_) hall hl4 hzl (Gb.up fA)).mono (λ r w' h=>?_)
   ·rcases List.mem_cons.1 hq with rfl | hq
    ·exact hA
    ·have:=(mem_oth.1 hq).1;omega
   ·obtain ⟨e1,⟨l',v',e2,e3,e4,e5⟩,e6⟩:=h
    exact ⟨e1,⟨l',v',e2,e3,e4,λ q hq=>(e5 q hq).imp id (λ h=>by omega)⟩,e6⟩
  rintro _ Wc ⟨fc,⟨rfl,w1',⟨l',v',hl',k11,O1,o1⟩,f1',hs1'⟩ | ⟨rfl,w1',hno,f1',hs1'⟩⟩
  ·
   have n11b:v11≠Wb.heap.size:=by have:=b11.lt;omega
   have k11:=k11.fr f1' (by simpa using n11b)
   have hv':∀ q∈v'.ownBlock.toList,w9.heap.size≤q∧q≠Wb.heap.size:=λ q hq=>⟨(O1.lt q hq).1,by
    rcases o1 q hq with h | h
    ·have:=(hvo q h).2;omega
    ·omega⟩
   have Oc:=O1.up f1' (λ q hq hm=>(hv' q hm).2 (by simpa using hq)) (λ q hq=>.inl (by simp at hq;subst hq;simp))
   have hcb:∀ x∈[v2,v3,v4,v5,v7,v11],x∉v.ownBlock.toList:=λ x hx hq=>by have:=(hvo _ hq).1;have:=hlt x hx;omega
   have nc:∀ x∈[v2,v3,v4,v5,v7,v11],x≠v11→x∉v11 :: v.ownBlock.toList:=λ x hx h1 hq=>by
    rcases List.mem_cons.1 hq with h | h
    ·exact h1 h
    ·exact hcb x hx h
   have c7:=b7.fr fc (nc v7 (by simp) (Ne.symm n117))
   have c2':=b2.fr fc (nc v2 (by simp) (Ne.symm n112))
   have c3':=b3.fr fc (nc v3 (by simp) (Ne.symm n113))
   have c4:=b4.fr fc (nc v4 (by simp) (Ne.symm n114))
   have c5:=b5.fr fc (nc v5 (by simp) (Ne.symm n115))
   refine r_ld (c7.cell rfl) ?_
   refine r_are (y:=((n+(m+1):Nat):Int)) (by rw [IntKind.wrap_i64];omega) ?_
   refine r_st1 c7 Tryz.sizeOf3 (λ Wd d7 fd=>?_)
   have e7:∀ {q:Nat},q≠v7→q∉[v7]:=λ h hq=>h (by simpa using hq)
   have Od:=Oc.up fd (λ q hq hm=>by simp at hq;subst hq;have:=(hv' _ hm).1;have:=hlt q (by simp);omega) (λ q hq=>.inl (by simp at hq;subst hq;exact List.mem_cons_of_mem _ (inO q (by simp))))
   have szd:Wb.heap.size < Wd.heap.size:=by have:=f1'.size;have:=fd.size;omega
   have mD:∀ q,q∈D++List.range' Wb.heap.size (Wd.heap.size-Wb.heap.size)↔q∈D∨(Wb.heap.size≤q∧q < Wd.heap.size):=λ q=>by
    rw [List.mem_append,List.mem_range'_1]
    constructor
    ·rintro (h | h)
     ·exact .inl h
     ·exact .inr (by omega)
    ·rintro (h | h)
     ·exact .inl h
     ·exact .inr (by omega)
   have fWd:Fr (L :: bsQ v2 v3 v4 v5 v7 v11 v D) W Wd:=by
    refine ((fab.mono (λ q hq=>by simp at hq;subst hq;simp)).trans (fc.mono (λ q hq=>?_))).trans (fd.mono (λ q hq=>by simp at hq;subst hq;simp [bsQ]))
    rcases List.mem_cons.1 hq with rfl | hq
    ·simp [bsQ]
    ·unfold bsQ;simp only [List.mem_cons,List.mem_append];exact .inr (.inr (.inl hq))
   have FWd:Fr [v2,v3,v4,v5,v7,v11] w9 Wd:=(FWb.trans_new fc (λ q hq=>by
    rcases List.mem_cons.1 hq with rfl | hq
    ·exact .inl (by simp)
    ·exact .inr (hvo q hq).1)).trans (fd.mono (λ q hq=>by simp at hq;subst hq;simp))
   have nLc:L∉v11 :: v.ownBlock.toList:=λ hq=>by
    rcases List.mem_cons.1 hq with h | h
    ·exact hLn.1 (by rw [h];simp)
    ·exact hLn.2.1 h
   refine ⟨⟨_,⟨l',v',D++List.range' Wb.heap.size (Wd.heap.size-Wb.heap.size),hm,⟨?_,hlt,k11.fr fd (e7 n117),?_,d7,c2'.fr fd (e7 (Ne.symm n72)),c3'.fr fd (e7 (Ne.symm n73)),c4.fr fd (e7 (Ne.symm n74)),c5.fr fd (e7 (Ne.symm n75)),?_,FWd⟩,rfl,Nat.le_trans sz (by omega)⟩,?_⟩,fWd,?_⟩
   ·rw [take_s hz,foldA_snoc,h2.fo];exact hl'
   ·refine Or.upS Od (Fr.refl [] Wd) (by simp) (by simp) (λ q hq=>?_)
    obtain ⟨k1,k2⟩:=mem_oth.1 hq
    rw [mD] at k2
    exact .inl (List.mem_cons_of_mem _ (mem_oth.2 ⟨by omega,λ h=>k2 (.inl h)⟩))
   ·intro q hq
    rcases (mD q).1 hq with h | h
    ·have:=h2.hD q h;omega
    ·have:=FWb.size;omega
   ·intro q hq
    unfold bsQ at hq ⊢
    simp only [List.mem_append] at hq ⊢
    rcases hq with h | h | h
    ·exact .inl (.inl h)
    ·rcases o1 q h with h' | h'
     ·exact .inl (.inr (.inl h'))
     ·exact .inr (by omega)
    ·rcases h with h | h
     ·exact .inl (.inr (.inr h))
     ·exact .inr (by rw [List.mem_range'_1] at h;omega)
   ·refine (fd.keep L ?_ (e7 (λ e=>hLn.1 (by rw [e];simp)))).trans ((fc.keep L (Array.getElem?_eq_some_iff.1 hLb2).1 nLc).trans hLb2)
    exact Nat.lt_of_lt_of_le (Array.getElem?_eq_some_iff.1 hLb2).1 fc.size
  ·
   obtain ⟨k1,k2⟩:=failA_at h2.fo hz hno
   have hcb:∀ x∈[v2,v3,v4,v5,v7,v11],x∉v.ownBlock.toList:=λ x hx hq=>by have:=(hvo _ hq).1;have:=hlt x hx;omega
   have nc:∀ x∈[v2,v3,v4,v5,v7,v11],x≠v11→x∉v11 :: v.ownBlock.toList:=λ x hx h1 hq=>by
    rcases List.mem_cons.1 hq with h | h
    ·exact h1 h
    ·exact hcb x hx h
   have nLc:L∉v11 :: v.ownBlock.toList:=λ hq=>by
    rcases List.mem_cons.1 hq with h | h
    ·exact hLn.1 (by rw [h];simp)
    ·exact hLn.2.1 h
   have e2:∀ {q x:Nat},q≠x→q∉[x]:=λ h hq=>h (by simpa using hq)
   refine r_dr (λ W1 f1=>?_)
   have fc1:Fr (v11 :: v.ownBlock.toList) Wb W1:=fc.trans (f1.mono (by simp))
   have c7:=b7.fr fc1 (nc v7 (by simp) (Ne.symm n117))
   have c2':=b2.fr fc1 (nc v2 (by simp) (Ne.symm n112))
   have c3':=b3.fr fc1 (nc v3 (by simp) (Ne.symm n113))
   have c4:=b4.fr fc1 (nc v4 (by simp) (Ne.symm n114))
   have c5:=b5.fr fc1 (nc v5 (by simp) (Ne.symm n115))
   refine r_ld (c7.cell rfl) ?_
   refine r_stn (cs:=zC) c2' Tryz.sizeOf29 one_zC (λ W2 d2 f2=>?_)
   have c7:=c7.fr f2 (e2 n72)
   refine r_chk (c7.cell rfl) ?_
   refine r_st1 (c3'.fr f2 (e2 n32)) Tryz.sizeOf30 (λ W3 d3 f3=>?_)
   have c7:=c7.fr f3 (e2 n73)
   refine r_chk (c7.cell rfl) ?_
   refine r_st1 ((c4.fr f2 (e2 n42)).fr f3 (e2 n43)) Tryz.sizeOf3 (λ W4 d4 f4=>?_)
   refine r_st1 (((c5.fr f2 (e2 n52)).fr f3 (e2 n53)).fr f4 (e2 n54)) Tryz.sizeOf31 (λ W5 d5 f5=>?_)
   have g:Fr [v2,v3,v4,v5] W1 W5:=(((f2.mono (λ q hq=>by simp at hq;subst hq;simp)).trans (f3.mono (λ q hq=>by simp at hq;subst hq;simp))).trans (f4.mono (λ q hq=>by simp at hq;subst hq;simp))).trans (f5.mono (λ q hq=>by simp at hq;subst hq;simp))
   have in5:∀ q∈[v2,v3,v4,v5],q∈[v2,v3,v4,v5,v7,v11]:=λ q hq=>by simp only [List.mem_cons,List.not_mem_nil,or_false] at hq ⊢;omega
   have fW5:Fr (L :: bsQ v2 v3 v4 v5 v7 v11 v D) W W5:=by
    refine ((fab.mono (λ q hq=>by simp at hq;subst hq;simp)).trans (fc1.mono (λ q hq=>?_))).trans (g.mono (λ q hq=>?_))
    ·rcases List.mem_cons.1 hq with rfl | hq
     ·simp [bsQ]
     ·unfold bsQ;simp only [List.mem_cons,List.mem_append];exact .inr (.inr (.inl hq))
    ·unfold bsQ;exact List.mem_cons_of_mem _ (List.mem_append.2 (.inl (in5 q hq)))
   have FW5:Fr [v2,v3,v4,v5,v7,v11] w9 W5:=(FWb.trans_new fc1 (λ q hq=>by
    rcases List.mem_cons.1 hq with rfl | hq
    ·exact .inl (by simp)
    ·exact .inr (hvo q hq).1)).trans (g.mono in5)
   refine r_ret ⟨⟨[v2,v3,v4,v5],⟨rfl,m,k1,k2,((d2.fr f3 (e2 (Ne.symm n32))).fr f4 (e2 (Ne.symm n42))).fr f5 (e2 (Ne.symm n52)),(d3.fr f4 (e2 (Ne.symm n43))).fr f5 (e2 (Ne.symm n53)),d4.fr f5 (e2 (Ne.symm n54)),d5,rfl,FW5,Nat.le_trans sz fW5.size⟩,λ q hq=>.inl (by unfold bsQ;exact List.mem_append.2 (.inl (in5 q hq)))⟩,fW5,?_⟩
   refine (g.keep L ?_ (λ hq=>hLn.1 (in5 _ hq))).trans ((fc1.keep L (Array.getElem?_eq_some_iff.1 hLb2).1 nLc).trans hLb2)
   exact Nat.lt_of_lt_of_le (Array.getElem?_eq_some_iff.1 hLb2).1 fc1.size
 ·intro L D J K w1' F1' RG hJ h0
  rw [← c1] at RG
  have h:=Lines1_it (Z:=ZD [D] Z) RG (Bb.fr0 F1') (by rw [List.length_drop];omega) h0
  rw [c1] at h
  exact h
 ·rintro D0 bs W ⟨l,v,D,h1,h2,rfl,sz⟩ hDb hwD hD
  have hfo:=h2.fo
  rw [List.take_length] at hfo
  have epar:parseS s=((parseP hd).1,l,0,0):=by rw [epar,hfo]
  obtain ⟨hall,hl4⟩:=foldA_small hfo ⟨λ t ht=>(nomatch ht),Nat.zero_le _⟩
  refine r_dr (λ W1 f1=>?_)
  have h3:=h2.st f1 (by simp)
  refine r_ldn ((B8'.fr h3.F (by simp only [List.mem_cons,List.not_mem_nil,or_false];omega)).rd hcl) ?_
  refine r_ld (h3.o11.cell rfl) ?_
  have hO:=h3.O
  obtain ⟨X,c,rfl,_⟩:=hO.row (by simp only [big];omega)
  have e2:∀ {q x:Nat},q≠x→q∉[x]:=λ h hq=>h (by simpa using hq)
  refine r_stn (cs:=cs) h3.o2 Tryz.sizeOf29 hone (λ W2 k2 f2=>?_) rfl hcl rfl
  refine r_chk ((h3.o11.fr f2 (e2 n112)).cell rfl) ?_
  refine r_st1 (h3.o3.fr f2 (e2 n32)) Tryz.sizeOf30 (λ W3 k3 f3=>?_)
  refine r_st1 ((h3.o4.fr f2 (e2 n42)).fr f3 (e2 n43)) Tryz.sizeOf3 (λ W4 k4 f4=>?_)
  refine r_st1 (((h3.o5.fr f2 (e2 n52)).fr f3 (e2 n53)).fr f4 (e2 n54)) Tryz.sizeOf31 (λ W5 k5 f5=>?_)
  refine r_ldn ((((k2.fr f3 (e2 (Ne.symm n32))).fr f4 (e2 (Ne.symm n42))).fr f5 (e2 (Ne.symm n52))).rd hcl) ?_
  refine r_ld (((k3.fr f4 (e2 (Ne.symm n43))).fr f5 (e2 (Ne.symm n53))).cell rfl) ?_
  refine r_ld ((k4.fr f5 (e2 (Ne.symm n54))).cell rfl) ?_
  refine r_ld (k5.cell rfl) ?_
  have g:Fr [v2,v3,v4,v5] W1 W5:=(((f2.mono (λ q hq=>by simp at hq;subst hq;simp)).trans (f3.mono (λ q hq=>by simp at hq;subst hq;simp))).trans (f4.mono (λ q hq=>by simp at hq;subst hq;simp))).trans (f5.mono (λ q hq=>by simp at hq;subst hq;simp))
  have hD0:D0∉[v2,v3,v4,v5,v7,v11]∧D0∉(Value.slice X l.length c).ownBlock.toList∧D0∉D:=by
   unfold bsQ at hDb
   simp only [List.mem_append,not_or] at hDb
   exact hDb
  have in5:∀ q∈[v2,v3,v4,v5],q∈[v2,v3,v4,v5,v7,v11]:=λ q hq=>by simp only [List.mem_cons,List.not_mem_nil,or_false] at hq ⊢;omega
  have hD5:D0∉[v2,v3,v4,v5]:=λ hq=>hD0.1 (in5 _ hq)
  refine r_ret1 (dkeep (dkeep hD f1 (by simp)) g hD5) (λ w' f=>?_)
  have FW5:Fr [v2,v3,v4,v5,v7,v11] w9 W5:=h3.F.trans (g.mono in5)
  have FW':Fr [v2,v3,v4,v5,v7,v11] w9 w':=FW5.trans_new f (λ q hq=>.inr (by simp at hq;omega))
  have O5:=hO.up g (λ q hq hm=>by have:=(hO.lt q hm).1;have:=hlt q (in5 q hq);omega) (λ q hq=>.inl (mem_oth.2 ⟨by have:=hlt q (in5 q hq);have:=h3.F.size;omega,λ hd=>by have:=(h3.hD q hd).1;have:=hlt q (in5 q hq);omega⟩))
  have O6:=O5.up f (λ q hq hm=>hD0.2.1 (by simp at hq;subst hq;exact hm)) (λ q hq=>.inl (by
   simp at hq;subst hq
   exact mem_oth.2 ⟨Nat.lt_of_lt_of_le (dlt hD) f1.size,hD0.2.2⟩))
  exact ⟨cs,_,by rw [epar],by rw [epar];exact confW FW',by rw [epar];exact O6.row (by simp only [big];omega),fromW FW'⟩
 ·rintro D0 bs W j ⟨hj,m,k1,k2,o2,o3,o4,o5,rfl,F,sz⟩ hDb hwD hD
  obtain rfl:j=0:=by omega
  have epar:parseS s=(c0,[],((n+m:Nat):Int),260):=by rw [epar,k1,k2]
  refine r_ldn (o2.rd rfl) ?_
  refine r_ld (o3.cell rfl) ?_
  refine r_ld (o4.cell rfl) ?_
  refine r_ld (o5.cell rfl) ?_
  exact r_ret1 hD (λ w' f=>⟨zC,.slice none 0 0,by rw [epar],by rw [epar];exact c0_r,by rw [epar];exact Sl.nil,(fromW F).trans_new f (λ q hq=>.inr (by simp at hq;omega))⟩)
end
end Go.Proofs.YtppodgdhdddfkaaGreatDoor.Sc
