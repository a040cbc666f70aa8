import Derived.Test.YtppodgdhdddfkaaGreatDoorQMn
import Derived.Test.YtppodgdhdddfkaaGreatDoorQMm
import Derived.Tactics
set_option linter.unusedVariables false
set_option linter.unusedSimpArgs false
namespace Go.Proofs.YtppodgdhdddfkaaGreatDoor.Cg
open Go Go.RowKit Go.Proofs.YtppodgdhdddfkaaGreatDoor.Sx
open Go.Proofs.YtppodgdhdddfkaaGreatDoor.Bi (mixed take_s)
open Go.Proofs.YtppodgdhdddfkaaGreatDoor.Cf
open Go.Proofs.YtppodgdhdddfkaaGreatDoor.Sg
def c0:GConf:=⟨[],[],[],[],[],0,0,0⟩
def s0:RS:=⟨c0,0⟩
def stepP (s:RS) (z:Bs):Option RS:=if Lib.hasSuffix z [10]=true∧s.was≠8 then takeP s (Lib.trimSuffix z [10]) else none
def foldP:RS→List Bs→Option RS
 | s,[]=>some s
 | s,z :: r=>(stepP s z).bind λ s'=>foldP s' r
def failN:RS→List Bs→Nat
 | _,[]=>0
 | s,z :: r=>match stepP s z with | none=>0 | some s'=>failN s' r+1
def parseP (a:Bs):GConf × Int × Int:=if 65536 < a.length then (c0,0,2) else match foldP s0 (linesOf a) with
 | some s=>if s.was=8 then (s.c,0,0) else (c0,(failN s0 (linesOf a):Int),49)
 | none=>(c0,(failN s0 (linesOf a):Int),49)
theorem foldP_snoc (s:RS) (ls:List Bs) (z:Bs):foldP s (ls++[z])=(foldP s ls).bind λ s'=>stepP s' z:=by
 induction ls generalizing s with
 | nil =>
  show (stepP s z).bind (λ s'=>some s')=stepP s z
  cases stepP s z<;>rfl
 | cons y r ih =>
  show (stepP s y).bind _=((stepP s y).bind _).bind _
  cases stepP s y with
  | none=>rfl
  | some s'=>exact ih s'
theorem fail_at {s s':RS} {ls:List Bs} {n:Nat} {z:Bs} (h:foldP s (ls.take n)=some s') (hz:ls[n]? = some z) (hn:stepP s' z=none):foldP s ls=none∧failN s ls=n:=by
 induction ls generalizing s n with
 | nil=>simp at hz
 | cons y r ih =>
  cases n with
  | zero =>
   simp at hz;subst hz
   have:s=s':=by simpa [foldP] using h
   subst this
   simp [foldP,failN,hn]
  | succ n =>
   rw [List.take_succ_cons] at h
   unfold foldP at h
   cases hy:stepP s y with
   | none=>rw [hy] at h;cases h
   | some s1 =>
    rw [hy] at h
    obtain ⟨i1,i2⟩:=ih (s:=s1) (n:=n) h (by simpa using hz)
    simp [foldP,failN,hy,i1,i2]
theorem fail_no {s s':RS} {ls:List Bs} (h:foldP s ls=some s'):failN s ls=ls.length:=by
 induction ls generalizing s with
 | nil=>rfl
 | cons y r ih =>
  unfold foldP at h
  cases hy:stepP s y with
  | none=>rw [hy] at h;cases h
  | some s1 =>
   rw [hy] at h
   simp [failN,hy,ih h]
theorem takeP_ok {s s':RS} {l:Bs} (h:takeP s l=some s'):manyP s'.c=false∧s'.was=rankI ((splitP 32 l).headD [])∧followsI s.was s'.was=true∧∃ p,caseP s'.was ((splitP 32 l).headD []) (bod (splitP 32 l).tail) (opn (splitP 32 l).tail) s.c=some p∧p.2=l∧p.1=s'.c:=by
 unfold takeP takeK at h
 by_cases hf:followsI s.was (rankI ((splitP 32 l).headD []))=true
 ·rw [if_pos hf] at h
  obtain ⟨p,hp,h2⟩:=Option.bind_eq_some_iff.1 h
  by_cases h3:p.2=l∧manyP p.1=false
  ·rw [if_pos h3] at h2
   cases h2
   exact ⟨h3.2,rfl,hf,p,hp,h3.1,rfl⟩
  ·rw [if_neg h3] at h2;cases h2
 ·rw [if_neg hf] at h;cases h
theorem takeP_ch {s s':RS} {l:Bs} (h:takeP s l=some s') (hc:3≤s.was∧s.was≤5→s.c.channels≠[]):3≤s'.was∧s'.was≤5→s'.c.channels≠[]:=by
 obtain ⟨_,_,hf,p,hp,_,e⟩:=takeP_ok h
 rintro ⟨h1,h2⟩
 rw [← e]
 have h345:s'.was=3∨s'.was=4∨s'.was=5:=by omega
 unfold caseP at hp
 rcases h345 with h3 | h4
 ·rw [h3] at hp
  simp only [show ¬ (3:Int)=1 by decide,show ¬ (3:Int)=2 by decide,if_true,if_false] at hp
  obtain ⟨v,_,h⟩:=Option.bind_eq_some_iff.1 hp
  cases h
  simp
 ·have hne:=hc (follows_ch hf h4)
  rcases h4 with h4 | h4<;>rw [h4] at hp
  ·simp only [show ¬ (4:Int)=1 by decide,show ¬ (4:Int)=2 by decide,show ¬ (4:Int)=3 by decide,if_true,if_false] at hp
   obtain ⟨v,_,h⟩:=Option.bind_eq_some_iff.1 hp
   cases h
   unfold lastU
   intro h
   simp [List.getLast?_eq_none_iff] at h
   exact hne h.2
  ·simp only [show ¬ (5:Int)=1 by decide,show ¬ (5:Int)=2 by decide,show ¬ (5:Int)=3 by decide,show ¬ (5:Int)=4 by decide,if_true,if_false] at hp
   obtain ⟨v,_,h⟩:=Option.bind_eq_some_iff.1 hp
   cases h
   unfold lastU
   intro h
   simp [List.getLast?_eq_none_iff] at h
   exact hne h.2
section
variable {Z:ZP} {w00 w w1 w2 w3:World} {base p:Nat} {s:RS} {vf vt vc vg vr:Value} {zr:List Z3} {l:Bs}
theorem takes_t (hM:RMx base p w s vf vt vc vg vr zr) (hm:manyP s.c=false) (F0:Fr [] w00 w) (p0:w00.heap.size≤p) (G:GW w00) (hl:l.length≤90000) (hch:3≤s.was∧s.was≤5→s.c.channels≠[]):Cz Tryz.prog 71 [Pt p 0,Tx l] w
  (λ r w'=>Fr (p :: obs (rows vf vt vc vg vr s.c zr)) w w'∧((r=.bool false∧takeP s l=none)∨(r=.bool true∧∃ s' vf' vt' vc' vg' vr' zr',takeP s l=some s'∧RMx base p w' s' vf' vt' vc' vg' vr' zr'∧∀ q∈obs (rows vf' vt' vc' vg' vr' s'.c zr'),q∈obs (rows vf vt vc vg vr s.c zr)∨w.heap.size≤q))) Z:=by
 have fA:=Fr.alloc w (.cells #[.bool false] 4)
 have hA:=take_t (hM.fr0 fA) hm (F0.trans fA) p0 G hl hch
 have hlt:∀ q∈p :: obs (rows vf vt vc vg vr s.c zr),q < w.heap.size:=λ q hq=>by
  rcases List.mem_cons.1 hq with rfl | hq
  ·have:=hM.hp;have:=hM.hb;omega
  ·exact (hM.O.lt q hq).2
 have hsz:(w.alloc (.cells #[.bool false] 4)).heap.size=w.heap.size+1:=by simp
 have hB:Blk (w.alloc (.cells #[.bool false] 4)) w.heap.size 4 [.bool false]:=Blk.alloc w _ _
 have hcell:∀ w',Fr (p :: obs (rows vf vt vc vg vr s.c zr)) (w.alloc (.cells #[.bool false] 4)) w'→w.heap.size < w'.heap.size∧w'.heap[w.heap.size]? = some (.cells #[.bool false] 4 (0,0)):=λ w' f =>
  ⟨by have:=f.size;omega,hB.fr f (λ hq=>by have:=hlt _ hq;omega)⟩
 refine ⟨Tryz.call71,Calls.mono (takes_calls (Pt p 0) (Tx l) w (λ w'=>∃ s' vf' vt' vc' vg' vr' zr',takeP s l=some s'∧RMx base p w' s' vf' vt' vc' vg' vr' zr'∧Fr (p :: obs (rows vf vt vc vg vr s.c zr)) (w.alloc (.cells #[.bool false] 4)) w'∧∀ q∈obs (rows vf' vt' vc' vg' vr' s'.c zr'),q∈obs (rows vf vt vc vg vr s.c zr)∨(w.alloc (.cells #[.bool false] 4)).heap.size≤q) (λ w'=>takeP s l=none∧Fr (p :: obs (rows vf vt vc vg vr s.c zr)) (w.alloc (.cells #[.bool false] 4)) w') (Calls.mono hA.2 ?_)) ?_⟩
 ·intro e w' he
  cases e with
  | returned r =>
   obtain ⟨rfl,s',vf',vt',vc',vg',vr',zr',h1,h2,h3,h4⟩:=he
   exact ⟨(hcell w' h3).1,(hcell w' h3).2,.inl ⟨rfl,s',vf',vt',vc',vg',vr',zr',h1,h2,h3,h4⟩⟩
  | panicked c =>
   obtain ⟨h1,rfl,h3⟩:=he
   exact ⟨(hcell w' h3).1,(hcell w' h3).2,.inr ⟨rfl,h1,h3⟩⟩
  | outgrown=>exact he.elim
 ·rintro e w2 (⟨rfl,w1,⟨s',vf',vt',vc',vg',vr',zr',h1,h2,h3,h4⟩,rfl⟩ | ⟨rfl,w1,⟨h1,h3⟩,rfl⟩)
  ·have f5:=Fr.setCell w1 w.heap.size 0 (.bool true)
   refine ⟨((fA.mono (by simp)).trans h3).trans_new f5 (λ q hq=>.inr (by simp at hq;omega)),.inr ⟨rfl,s',vf',vt',vc',vg',vr',zr',h1,h2.fr f5 (λ q hq=>?_),λ q hq=>(h4 q hq).imp id (λ h=>by omega)⟩⟩
   simp at hq;subst hq
   refine ⟨λ e=>by have:=hlt p (by simp);omega,λ hq=>?_⟩
   rcases h4 _ hq with h | h
   ·have:=hlt _ (List.mem_cons_of_mem _ h);omega
   ·omega
  ·have f4:=Fr.alloc w1 (.cells #[] 169)
   have f5:=Fr.setCell (w1.alloc (.cells #[] 169)) w.heap.size 0 (.bool false)
   exact ⟨(((fA.mono (by simp)).trans h3).trans (f4.mono (by simp))).trans_new f5 (λ q hq=>.inr (by simp at hq;omega)),.inl ⟨rfl,h1⟩⟩
end
end Go.Proofs.YtppodgdhdddfkaaGreatDoor.Cg
set_option linter.unusedVariables false
set_option linter.unusedSimpArgs false
namespace Go.Proofs.YtppodgdhdddfkaaGreatDoor.Cg
open Go Go.RowKit Go.Proofs.YtppodgdhdddfkaaGreatDoor.Sx
open Go.Proofs.YtppodgdhdddfkaaGreatDoor.Bi (mixed take_s)
open Go.Proofs.YtppodgdhdddfkaaGreatDoor.Cf
open Go.Proofs.YtppodgdhdddfkaaGreatDoor.Sg
def zC:List Value:=[.slice none 0 0,.slice none 0 0,.slice none 0 0,.slice none 0 0,.slice none 0 0,I 0,I 0,I 0]
theorem c0_r {w:World}:rConf.r w zC c0:=mConf (x:=c0) ⟨by decide,by decide,Rw.nil⟩ ⟨by decide,by decide,Rw.nil⟩ ⟨by decide,by decide,Rw.nil⟩ ⟨by decide,by decide,Rw.nil⟩ ⟨by decide,by decide,Rw.nil⟩
theorem one_zC:∀ v∈zC,v.oneCell'=true:=by intro v hv;simp only [zC,List.mem_cons,List.not_mem_nil,or_false] at hv;rcases hv with rfl | rfl | rfl | rfl | rfl | rfl | rfl | rfl<;>rfl
structure PL (a:Bs) (w wl:World) (p v2 v3 v4 v5 v6 n:Nat) (W:World) (s:RS) (vf vt vc vg vr:Value) (zr:List Z3):Prop where
 fo:foldP s0 ((linesOf a).take n)=some s
 M:RMx wl.heap.size p W s vf vt vc vg vr zr
 m:manyP s.c=false
 ch:3≤s.was∧s.was≤5→s.c.channels≠[]
 b6:Blk W v6 3 [I n]
 b5:Blk W v5 123 [Pt p 0]
 b4:Blk W v4 31 [I 0]
 b3:Blk W v3 3 [I 0]
 b2:Blk W v2 29 zC
 F:Fr [] w W
 sz:wl.heap.size≤W.heap.size
def bsP (p v2 v3 v4 v5 v6:Nat) (rs:List Rr):List Nat:=v6 :: v5 :: v4 :: v3 :: v2 :: p :: obs rs
def failT (v2 v3 v4 v6:Value) (t:T):T:=.dr (bdT [] zC λ v39=>.ld v6 λ v40=>.ef (Instr.storeAt 29 v2 (.agg v39.toArray)) (.chk none v6 v40 (.ef (Instr.storeAt 3 v3 v40) (.ef (Instr.storeAt 31 v4 (I 49)) t))))
section
variable {P:Program} {Z:ZP} {R:Value→World→Prop} {w00 w wl W W':World} {A:List Nat→List Value→World→Prop} {B:List Nat→Nat→List Value→World→Prop} {ds:List Nat} {a:Bs} {p v2 v3 v4 v5 v6 n:Nat} {s:RS} {vf vt vc vg vr:Value} {zr:List Z3} {t:T}
theorem PL.st (h:PL a w wl p v2 v3 v4 v5 v6 n W s vf vt vc vg vr zr) {S:List Nat} (f:Fr S W W') (hS:∀ q∈S,q∉bsP p v2 v3 v4 v5 v6 (rows vf vt vc vg vr s.c zr)∧w.heap.size≤q):PL a w wl p v2 v3 v4 v5 v6 n W' s vf vt vc vg vr zr:=
 have n1:∀ {q:Nat},q∈S→q∉bsP p v2 v3 v4 v5 v6 (rows vf vt vc vg vr s.c zr):=λ hq=>(hS _ hq).1
 ⟨h.fo,h.M.fr f (λ q hq=>⟨λ e=>n1 hq (by subst e;simp [bsP]),λ hq2=>n1 hq (by simp only [bsP,List.mem_cons];exact .inr (.inr (.inr (.inr (.inr (.inr hq2))))))⟩),h.m,h.ch,h.b6.fr f (λ hq=>n1 hq (by simp [bsP])),h.b5.fr f (λ hq=>n1 hq (by simp [bsP])),h.b4.fr f (λ hq=>n1 hq (by simp [bsP])),h.b3.fr f (λ hq=>n1 hq (by simp [bsP])),h.b2.fr f (λ hq=>n1 hq (by simp [bsP])),h.F.trans_new f (λ q hq=>.inr (hS q hq).2),Nat.le_trans h.sz f.size⟩
theorem PL.lt (h:PL a w wl p v2 v3 v4 v5 v6 n W s vf vt vc vg vr zr):∀ q∈bsP p v2 v3 v4 v5 v6 (rows vf vt vc vg vr s.c zr),q < W.heap.size:=by
 intro q hq
 simp only [bsP,List.mem_cons] at hq
 rcases hq with rfl | rfl | rfl | rfl | rfl | rfl | hq
 ·exact h.b6.lt
 ·exact h.b5.lt
 ·exact h.b4.lt
 ·exact h.b3.lt
 ·exact h.b2.lt
 ·exact h.M.B.lt
 ·exact (h.M.O.lt q hq).2
theorem fail_wp (h6:Blk W v6 3 [I n]) (h4:Blk W v4 31 [I 0]) (h3:Blk W v3 3 [I 0]) (h2:Blk W v2 29 zC) (n26:v2≠v6) (n32:v3≠v2) (n42:v4≠v2) (n43:v4≠v3)
  (hk:∀ W',Blk W' v2 29 zC→Blk W' v3 3 [I n]→Blk W' v4 31 [I 49]→Fr [v2,v3,v4] W W'→wp Tryz.prog Z R ds t W' A B):wp Tryz.prog Z R ds (failT (Pt v2 0) (Pt v3 0) (Pt v4 0) (Pt v6 0) t) W A B:=by
 refine r_dr (λ W1 f1=>?_)
 refine r_ld ((h6.fr0 f1).cell rfl) ?_
 refine r_stn (cs:=zC) (h2.fr0 f1) Tryz.sizeOf29 one_zC (λ W2 B2 f2=>?_)
 have b6:=(h6.fr0 f1).fr f2 (by simpa using n26.symm)
 refine r_chk (b6.cell rfl) ?_
 have b3:=(h3.fr0 f1).fr f2 (by simpa using n32)
 refine r_st1 b3 Tryz.sizeOf3 (λ W3 B3 f3=>?_)
 have b4:=((h4.fr0 f1).fr f2 (by simpa using n42)).fr f3 (by simpa using n43)
 refine r_st1 b4 Tryz.sizeOf31 (λ W4 B4 f4=>?_)
 refine hk W4 ((B2.fr f3 (by simpa using n32.symm)).fr f4 (by simpa using n42.symm)) (B3.fr f4 (by simpa using n43.symm)) B4 ?_
 exact (((f1.mono (by simp)).trans (f2.mono (λ q hq=>by simp at hq;subst hq;simp))).trans (f3.mono (λ q hq=>by simp at hq;subst hq;simp))).trans (f4.mono (λ q hq=>by simp at hq;subst hq;simp))
end
section
variable {Z:ZP} {w:World}
theorem lines_len (a:Bs):∀ z∈linesOf a,z.length≤a.length:=by
 have:∀ (k:Nat) (a:Bs),a.length≤k→∀ z∈linesOf a,z.length≤a.length:=by
  intro k
  induction k with
  | zero =>
   intro a ha z hz
   have:a=[]:=List.eq_nil_of_length_eq_zero (by omega)
   subst this
   rw [linesOf] at hz;simp at hz
  | succ k ih =>
   intro a ha z hz
   cases a with
   | nil=>rw [linesOf] at hz;simp at hz
   | cons b r =>
    rw [linesOf_ne (by simp)] at hz
    split at hz
    ·rcases List.mem_cons.1 hz with rfl | hz
     ·rw [List.length_take];omega
     ·have:=ih _ (by rw [List.length_drop];simp at ha ⊢;omega) z hz
      rw [List.length_drop] at this;omega
    ·simp at hz;subst hz;exact Nat.le_refl _
 exact this _ a (Nat.le_refl _)
theorem lines_cnt (a:Bs):(linesOf a).length≤a.length:=by
 have:∀ (k:Nat) (a:Bs),a.length≤k→(linesOf a).length≤a.length:=by
  intro k
  induction k with
  | zero =>
   intro a ha
   have:a=[]:=List.eq_nil_of_length_eq_zero (by omega)
   subst this
   rw [linesOf];simp
  | succ k ih =>
   intro a ha
   cases a with
   | nil=>rw [linesOf];simp
   | cons b r =>
    rw [linesOf_ne (by simp)]
    split
    ·have:=ih ((b :: r).drop ((Lib.indexByte (b :: r) 10).toNat+1)) (by rw [List.length_drop];simp at ha ⊢;omega)
     rw [List.length_drop] at this
     simp only [List.length_cons] at this ⊢
     omega
    ·simp
 exact this _ a (Nat.le_refl _)
theorem Parse_tO (a:Bs) (ha:a.length≤9000000000000000000) (G:GW w):Cz Tryz.prog 32 [Tx a] w (λ r w'=>∃ cs,r=.tuple #[.agg cs.toArray,I (parseP a).2.1,I (parseP a).2.2]∧(∀ S,(∀ q∈S,q < w.heap.size)→Off S (λ w1=>rConf.r w1 cs (parseP a).1) w')∧Fr [] w w') Z:=by
 refine go mixed Tryz.func32 Tryz.call32 rfl (Tr.e32 _) ?_
 refine b_al (zs:=zC) (Bx.nil w) Tryz.zeroValue29 (λ v2 w1 H=>?_)
 refine b_al (zs:=[I 0]) H Tryz.zeroValue3 (λ v3 w2 H=>?_)
 refine b_al (zs:=[I 0]) H Tryz.zeroValue31 (λ v4 w3 H=>?_)
 refine r_tlen Tryz.underlying9 ?_
 refine r_if (λ h=>?_) (λ h=>?_)
 ·refine b_stn (cs:=zC) H 2 rfl Tryz.sizeOf29 one_zC (λ w4 H=>?_)
  refine b_st H 1 rfl Tryz.sizeOf3 (λ w5 H=>?_)
  refine b_st H 0 rfl Tryz.sizeOf31 (λ w6 H=>?_)
  refine b_ldn H 2 rfl ?_
  refine b_ld H 1 rfl rfl ?_
  refine b_ld H 0 rfl rfl ?_
  have e:parseP a=(c0,0,2):=by unfold parseP;rw [if_pos (by omega)]
  refine b_ret H (λ F=>⟨zC,?_,?_,F⟩)
  ·rw [e]
  ·rw [e];exact λ _ _ _ _=>c0_r
 have hlen:¬ 65536 < a.length:=by omega
 have hpar:parseP a=match foldP s0 (linesOf a) with
  | some s=>if s.was=8 then (s.c,0,0) else (c0,(failN s0 (linesOf a):Int),49)
  | none=>(c0,(failN s0 (linesOf a):Int),49):=by unfold parseP;rw [if_neg hlen];try rfl
 refine b_box (cs:=zC++[I 0]) H (λ p w4 H=>?_)
 refine b_as (cs:=[Pt p 0]) (zs:=[.pointer none]) (n:=1) H Tryz.zeroValue123 Tryz.sizeOf123 (one1 rfl) (λ v5 w5 H=>?_)
 refine b_as (cs:=[I 0]) (zs:=[I 0]) (n:=1) H Tryz.zeroValue3 Tryz.sizeOf3 (one1 rfl) (λ v6 w6 H=>?_)
 refine r_call (Lines_t a) ?_
 rintro _ w7 ⟨b,rfl,Bb,hb,f7⟩
 have l6:=(H.blk (i:=0) rfl).lt
 have l5:=(H.blk (i:=1) rfl).lt
 have lp:=(H.blk (i:=2) rfl).lt
 have l4:=(H.blk (i:=3) rfl).lt
 have l3:=(H.blk (i:=4) rfl).lt
 have l2:=(H.blk (i:=5) rfl).lt
 have s6:=H.F.size
 have s67:=f7.size
 have H:=H.fr f7
 have g6:=H.ge (i:=0) rfl
 have g5:=H.ge (i:=1) rfl
 have gp:=H.ge (i:=2) rfl
 have g4:=H.ge (i:=3) rfl
 have g3:=H.ge (i:=4) rfl
 have g2:=H.ge (i:=5) rfl
 have B6:=H.blk (i:=0) rfl
 have B5:=H.blk (i:=1) rfl
 have Bp:=H.blk (i:=2) rfl
 have B4:=H.blk (i:=3) rfl
 have B3:=H.blk (i:=4) rfl
 have B2:=H.blk (i:=5) rfl
 have hnd:=H.N
 simp only [List.map_cons,List.map_nil,List.nodup_cons,List.mem_cons,List.not_mem_nil,or_false,not_or] at hnd
 obtain ⟨⟨n65,n6p,n64,n63,n62⟩,⟨n5p,n54,n53,n52⟩,⟨np4,np3,np2⟩,⟨n43,n42⟩,n32,_⟩:=hnd
 have hll:=lines_len a
 have hbl:∀ {T:Nat} {c:List Value} {q:Nat},Blk w7 q T c→q < w7.heap.size:=λ h=>h.lt
 have hob0:obs (rows (.slice none 0 0) (.slice none 0 0) (.slice none 0 0) (.slice none 0 0) (.slice none 0 0) c0 [])=[]:=by simp [obs,rows,Rr.ob,Value.ownBlock,rwF,rwT,rwC,rwG,rwM]
 have hfin:foldP s0 ((linesOf a).take (linesOf a).length)=foldP s0 (linesOf a):=by rw [List.take_length]
 have hbad:∀ {n:Nat} {s:RS} {z:Bs},foldP s0 ((linesOf a).take n)=some s→(linesOf a)[n]? = some z→stepP s z=none→parseP a=(c0,(n:Int),49):=by
  intro n s z h1 h2 h3
  obtain ⟨e1,e2⟩:=fail_at h1 h2 h3
  rw [hpar,e1,e2]
 refine r_rfN w.heap.size [b] (StL (linesOf a)) (λ n bs W=>∃ s vf vt vc vg vr zr,PL a w w7 p v2 v3 v4 v5 v6 n W s vf vt vc vg vr zr∧bs=bsP p v2 v3 v4 v5 v6 (rows vf vt vc vg vr s.c zr))
  (λ j bs W=>j=1∧∃ n:Nat,parseP a=(c0,(n:Int),49)∧Blk W v2 29 zC∧Blk W v3 3 [I n]∧Blk W v4 31 [I 49]∧bs=[v2,v3,v4]∧Fr [] w W∧w7.heap.size≤W.heap.size) 0 (linesOf a).length (bsP p v2 v3 v4 v5 v6 []) H.F.size ?_ Tryz.call72 ?_ ?_ ?_ ?_ ?_ ?_ ?_ ?_ ?_
 ·intro q hq
  simp at hq;subst hq
  refine ⟨by omega,?_,Bb.lt⟩
  simp only [bsP,obs,List.flatMap_nil,List.mem_cons,List.not_mem_nil,or_false]
  omega
 ·refine ⟨s0,.slice none 0 0,.slice none 0 0,.slice none 0 0,.slice none 0 0,.slice none 0 0,[],⟨by rw [List.take_zero];rfl,⟨Bp,by omega,Nat.le_refl _,rfl,⟨λ r hr=>?_,by rw [show s0.c=c0 from rfl,hob0];simp⟩⟩,by decide,λ h=>by have:=h.1;exact absurd this (by decide),B6,B5,B4,B3,B2,H.F,Nat.le_refl _⟩,?_⟩
  ·simp only [rows,List.flatMap_nil,List.mem_cons,List.not_mem_nil,or_false] at hr
   rcases hr with rfl | rfl | rfl | rfl | rfl<;>exact own_nil _ _ _
  ·show bsP p v2 v3 v4 v5 v6 []=_
   unfold bsP
   rw [show s0.c=c0 from rfl,hob0]
   rfl
 ·rintro n bs W W' S ⟨s,vf,vt,vc,vg,vr,zr,h1,rfl⟩ f hS
  exact ⟨s,vf,vt,vc,vg,vr,zr,h1.st f hS,rfl⟩
 ·rintro j bs W W' S ⟨rfl,n,h1,b2,b3,b4,rfl,F,sz⟩ f hS
  exact ⟨rfl,n,h1,b2.fr f (λ hq=>(hS _ hq).1 (by simp)),b3.fr f (λ hq=>(hS _ hq).1 (by simp)),b4.fr f (λ hq=>(hS _ hq).1 (by simp)),rfl,F.trans_new f (λ q hq=>.inr (hS q hq).2),Nat.le_trans sz f.size⟩
 ·rintro n bs W ⟨s,vf,vt,vc,vg,vr,zr,h1,rfl⟩
  exact ⟨h1.lt,h1.sz⟩
 ·rintro j bs W ⟨rfl,n,h1,b2,b3,b4,rfl,F,sz⟩
  refine ⟨λ q hq=>?_,sz⟩
  simp at hq
  rcases hq with rfl | rfl | rfl
  ·exact b2.lt
  ·exact b3.lt
  ·exact b4.lt
 ·rintro L a0 b0 n n' xs bs W hLb hwL hLW ⟨s,vf,vt,vc,vg,vr,zr,h1,rfl⟩ hLa ⟨z,hz,rfl,rfl⟩
  refine ⟨rfl,?_⟩
  refine r_rb hLa (λ w8 f8 hL8=>?_)
  have h8:=h1.st f8 (λ q hq=>by simp at hq;subst hq;exact ⟨hLb,hwL⟩)
  have hzl:=hll z (List.mem_of_getElem? hz)
  have hne:L≠v2∧L≠v3∧L≠v4∧L≠v6:=⟨λ e=>hLb (by subst e;simp [bsP]),λ e=>hLb (by subst e;simp [bsP]),λ e=>hLb (by subst e;simp [bsP]),λ e=>hLb (by subst e;simp [bsP])⟩
  have back:∀ {W1:World} {A:List Nat→List Value→World→Prop} {B:List Nat→Nat→List Value→World→Prop},Blk W1 v6 3 [I n]→Blk W1 v4 31 [I 0]→Blk W1 v3 3 [I 0]→Blk W1 v2 29 zC→Fr [] w W1→w7.heap.size≤W1.heap.size→Fr (L :: bsP p v2 v3 v4 v5 v6 (rows vf vt vc vg vr s.c zr)) W W1→W1.heap[L]? = some b0→stepP s z=none→wp Tryz.prog noZ (λ _ W'=>EX (λ j bs W=>j=1∧∃ n:Nat,parseP a=(c0,(n:Int),49)∧Blk W v2 29 zC∧Blk W v3 3 [I n]∧Blk W v4 31 [I 49]∧bs=[v2,v3,v4]∧Fr [] w W∧w7.heap.size≤W.heap.size) 1 (bsP p v2 v3 v4 v5 v6 (rows vf vt vc vg vr s.c zr)) L b0 W W') [] (failT (Pt v2 0) (Pt v3 0) (Pt v4 0) (Pt v6 0) (.ret (.tuple #[]))) W1 A B:=by
   intro W1 A B k6 k4 k3 k2 kF ks f kL kn
   refine fail_wp k6 k4 k3 k2 (Ne.symm n62) n32 n42 n43 (λ W2 c2 c3 c4 g=>?_)
   refine r_ret ⟨⟨[v2,v3,v4],⟨rfl,n,hbad h1.fo hz kn,c2,c3,c4,rfl,kF.trans_new g (λ q hq=>.inr ?_),Nat.le_trans ks g.size⟩,λ q hq=>.inl ?_⟩,?_,?_⟩
   ·simp at hq;omega
   ·simp at hq;rcases hq with rfl | rfl | rfl<;>simp [bsP]
   ·exact f.trans (g.mono (λ q hq=>by simp at hq;rcases hq with rfl | rfl | rfl<;>simp [bsP]))
   ·exact (g.keep L (Array.getElem?_eq_some_iff.1 kL).1 (λ hq=>by simp at hq;obtain ⟨e1,e2,e3,_⟩:=hne;omega)).trans kL
  refine r_call (CutSuffix_t z [10] (by omega)) ?_
  rintro _ w9 ⟨rfl,rfl⟩
  have f8':Fr (L :: bsP p v2 v3 v4 v5 v6 (rows vf vt vc vg vr s.c zr)) W w9:=f8.mono (by simp)
  refine r_ifbn (λ hs=>?_) (λ hs=>?_)
  ·exact back h8.b6 h8.b4 h8.b3 h8.b2 h8.F h8.sz f8' hL8 (by unfold stepP;rw [if_neg (by simp [hs])])
  refine r_ld (h8.b5.cell rfl) ?_
  refine r_ld (h8.M.B.cell (o:=8) rfl) ?_
  refine r_if (λ h9=>?_) (λ h9=>?_)
  ·exact back h8.b6 h8.b4 h8.b3 h8.b2 h8.F h8.sz f8' hL8 (by unfold stepP;rw [if_neg (by simp [h9])])
  have hst:stepP s z=takeP s (Lib.trimSuffix z [10]):=by unfold stepP;rw [if_pos ⟨hs,h9⟩]
  refine r_ld (h8.b5.cell rfl) ?_
  have htl:(Lib.trimSuffix z [10]).length≤z.length:=by
   unfold Lib.trimSuffix
   split
   all_goals first | exact Nat.le_refl _ | (rw [List.length_take];omega)
  refine r_call (takes_t h8.M h8.m h8.F gp G (by omega) h8.ch) ?_
  rintro r w10 ⟨F10,hr⟩
  have nin:∀ q,q < w7.heap.size→q≠p→q∉p :: obs (rows vf vt vc vg vr s.c zr):=λ q h1 h2 hq=>by
   rcases List.mem_cons.1 hq with e | hq
   ·exact h2 e
   ·have:=(h8.M.O.lt q hq).1;omega
  have k6:=h8.b6.fr F10 (nin v6 (by omega) n6p)
  have k5:=h8.b5.fr F10 (nin v5 (by omega) n5p)
  have k4:=h8.b4.fr F10 (nin v4 (by omega) (Ne.symm np4))
  have k3:=h8.b3.fr F10 (nin v3 (by omega) (Ne.symm np3))
  have k2:=h8.b2.fr F10 (nin v2 (by omega) (Ne.symm np2))
  have kF:Fr [] w w10:=h8.F.trans_new F10 (λ q hq=>.inr (by
   rcases List.mem_cons.1 hq with e | hq
   ·omega
   ·have:=(h8.M.O.lt q hq).1;omega))
  have ks:=Nat.le_trans h8.sz F10.size
  have kf:Fr (L :: bsP p v2 v3 v4 v5 v6 (rows vf vt vc vg vr s.c zr)) W w10:=f8'.trans (F10.mono (λ q hq=>by simp only [bsP,List.mem_cons] at hq ⊢;rcases hq with h | h<;>simp [h]))
  have kL:w10.heap[L]? = some b0:=(F10.keep L (Array.getElem?_eq_some_iff.1 hL8).1 (λ hq=>hLb (by simp only [bsP,List.mem_cons] at hq ⊢;rcases hq with h | h<;>simp [h]))).trans hL8
  rcases hr with ⟨rfl,hn⟩ | ⟨rfl,s',vf',vt',vc',vg',vr',zr',hs',hM',hO'⟩
  ·exact back k6 k4 k3 k2 kF ks kf kL (by rw [hst,hn])
  ·refine r_ld (k6.cell rfl) ?_
   have hnl:n < (linesOf a).length:=(List.getElem?_eq_some_iff.1 hz).1
   refine r_are (y:=((n+1:Nat):Int)) (by rw [IntKind.wrap_i64];have:=lines_cnt a;omega) ?_
   refine r_st1 k6 Tryz.sizeOf3 (λ w11 hB11 f11=>?_)
   have h6o:v6∉obs (rows vf' vt' vc' vg' vr' s'.c zr'):=λ hq=>by have:=(hM'.O.lt v6 hq).1;omega
   have e6:∀ {q:Nat},q≠v6→q∉[v6]:=λ h hq=>h (by simpa using hq)
   refine ⟨⟨bsP p v2 v3 v4 v5 v6 (rows vf' vt' vc' vg' vr' s'.c zr'),⟨s',vf',vt',vc',vg',vr',zr',⟨?_,hM'.fr f11 (λ q hq=>by simp at hq;subst hq;exact ⟨n6p,h6o⟩),(takeP_ok hs').1,takeP_ch hs' h8.ch,hB11,k5.fr f11 (e6 (Ne.symm n65)),k4.fr f11 (e6 (Ne.symm n64)),k3.fr f11 (e6 (Ne.symm n63)),k2.fr f11 (e6 (Ne.symm n62)),kF.trans_new f11 (λ q hq=>.inr (by simp at hq;omega)),Nat.le_trans ks f11.size⟩,rfl⟩,λ q hq=>?_⟩,?_,?_⟩
   ·rw [take_s hz,foldP_snoc,h8.fo]
    show stepP s z=some s'
    rw [hst,hs']
   ·simp only [bsP,List.mem_cons] at hq ⊢
    rcases hq with h | h | h | h | h | h | h
    ·simp [h]
    ·simp [h]
    ·simp [h]
    ·simp [h]
    ·simp [h]
    ·simp [h]
    ·rcases hO' q h with h | h
     ·simp [h]
     ·exact .inr (Nat.le_trans f8.size h)
   ·exact kf.trans (f11.mono (λ q hq=>by simp at hq;subst hq;simp [bsP]))
   ·exact (f11.keep L (Array.getElem?_eq_some_iff.1 kL).1 (λ hq=>hne.2.2.2 (by simpa using hq))).trans kL
 ·intro L D J K w1' F1' RG hJ h0
  have h:=Lines1_it (Z:=ZD [D] Z) RG (Bb.fr0 F1') (by omega) h0
  exact h
 ·rintro D bs W ⟨s,vf,vt,vc,vg,vr,zr,h1,rfl⟩ hDb hwD hD
  have hfo:=h1.fo
  rw [hfin] at hfo
  have hDn:D≠v2∧D≠v3∧D≠v4:=⟨λ e=>hDb (by subst e;simp [bsP]),λ e=>hDb (by subst e;simp [bsP]),λ e=>hDb (by subst e;simp [bsP])⟩
  refine r_ld (h1.b5.cell rfl) ?_
  refine r_ld (h1.M.B.cell (o:=8) rfl) ?_
  refine r_if (λ h9=>?_) (λ h9=>?_)
  ·have e:parseP a=(c0,((linesOf a).length:Int),49):=by
    rw [hpar,hfo,fail_no hfo]
    show (if s.was=8 then _ else _)=_
    rw [if_neg h9]
   refine fail_wp h1.b6 h1.b4 h1.b3 h1.b2 (Ne.symm n62) n32 n42 n43 (λ W2 k2 k3 k4 g=>?_)
   refine r_ldn (k2.rd rfl) ?_
   refine r_ld (k3.cell rfl) ?_
   refine r_ld (k4.cell rfl) ?_
   refine r_ret1 (dkeep hD g (by simp;omega)) (λ w' f=>⟨zC,by rw [e],by rw [e];exact λ _ _ _ _=>c0_r,(h1.F.trans_new g (λ q hq=>.inr (by simp at hq;omega))).trans_new f (λ q hq=>.inr (by simp at hq;omega))⟩)
  ·have e:parseP a=(s.c,0,0):=by
    rw [hpar,hfo]
    show (if s.was=8 then _ else _)=_
    rw [if_pos (by omega)]
   have hcf:=h1.M.conf (Sm.of h1.m)
   refine r_ld (h1.b5.cell rfl) ?_
   refine r_ldn (h1.M.B.rdo 0 rfl rfl) ?_
   refine r_stn (cs:=[vf,vt,vc,vg,vr,I s.c.budget,I s.c.requests,I s.c.pending]) h1.b2 Tryz.sizeOf29 (rConf.one hcf) (λ W2 k2 f2=>?_)
   have b3:=h1.b3.fr f2 (by simpa using n32)
   refine r_st1 b3 Tryz.sizeOf3 (λ W3 k3 f3=>?_)
   have b4:=(h1.b4.fr f2 (by simpa using n42)).fr f3 (by simpa using n43)
   refine r_st1 b4 Tryz.sizeOf31 (λ W4 k4 f4=>?_)
   have k2':=(k2.fr f3 (by simpa using Ne.symm n32)).fr f4 (by simpa using Ne.symm n42)
   have k3':=k3.fr f4 (by simpa using Ne.symm n43)
   have g:Fr [v2,v3,v4] W W4:=((f2.mono (λ q hq=>by simp at hq;subst hq;simp)).trans (f3.mono (λ q hq=>by simp at hq;subst hq;simp))).trans (f4.mono (λ q hq=>by simp at hq;subst hq;simp))
   refine r_ldn (k2'.rd rfl) ?_
   refine r_ld (k3'.cell rfl) ?_
   refine r_ld (k4.cell rfl) ?_
   refine r_ret1 (dkeep hD g (by simp;omega)) (λ w' f=>⟨[vf,vt,vc,vg,vr,I s.c.budget,I s.c.requests,I s.c.pending],by rw [e],?_,(h1.F.trans_new g (λ q hq=>.inr (by simp at hq;omega))).trans_new f (λ q hq=>.inr (by simp at hq;omega))⟩)
   rw [e]
   intro S hSS w'' f''
   refine RMx.conf (w:=w'') (((h1.M.fr g (λ q hq=>?_)).fr f (λ q hq=>?_)).fr f'' (λ q hq=>?_)) (Sm.of h1.m)
   ·have hq2:q < w7.heap.size∧q≠p:=by simp at hq;omega
    exact ⟨hq2.2,λ h=>by have:=(h1.M.O.lt q h).1;omega⟩
   ·simp at hq;subst hq
    exact ⟨λ e=>hDb (by subst e;simp [bsP]),λ h=>hDb (by simp only [bsP,List.mem_cons];simp [h])⟩
   ·have:=hSS q hq
    exact ⟨by omega,λ h=>by have:=(h1.M.O.lt q h).1;omega⟩
 ·rintro D bs W j ⟨hj,n,h1,k2,k3,k4,rfl,F,sz⟩ hDb hwD hD
  obtain rfl:j=0:=by omega
  refine r_ldn (k2.rd rfl) ?_
  refine r_ld (k3.cell rfl) ?_
  refine r_ld (k4.cell rfl) ?_
  exact r_ret1 hD (λ w' f=>⟨zC,by rw [h1],by rw [h1];exact λ _ _ _ _=>c0_r,F.trans_new f (λ q hq=>.inr (by simp at hq;omega))⟩)
end
end Go.Proofs.YtppodgdhdddfkaaGreatDoor.Cg
set_option linter.unusedVariables false
set_option linter.unusedSimpArgs false
namespace Go.Proofs.YtppodgdhdddfkaaGreatDoor.Cg
open Go Go.RowKit Go.Proofs Go.Proofs.YtppodgdhdddfkaaGreatDoor.Sx
open Go.Proofs.YtppodgdhdddfkaaGreatDoor.Bi (mixed take_s Has_t rHas_t)
open Go.Proofs.YtppodgdhdddfkaaGreatDoor.Cf
theorem neTenant (u v:GTenant) (w:World):(binOp .neq 82 (.agg (eTenant u).toArray) (.agg (eTenant v).toArray)).run Tryz.prog w=.ok (.bool (decide (¬ u=v))) w:=by
 obtain ⟨a1,a2⟩:=u
 obtain ⟨b1,b2⟩:=v
 unfold eTenant
 go_simp
 (repeat' split)<;>simp_all
theorem egTenant (op:BinOp) (x y:Operand) (u v:GTenant) (w:World):(eqGuard op 82 x y (.agg (eTenant u).toArray) (.agg (eTenant v).toArray)).run Tryz.prog w=.ok () w:=by
 unfold eTenant
 cases op<;>go_simp
theorem neLane (u v:GLane) (w:World):(binOp .neq 145 (.agg (eLane u).toArray) (.agg (eLane v).toArray)).run Tryz.prog w=.ok (.bool (decide (¬ u=v))) w:=by
 obtain ⟨a1,a2,a3⟩:=u
 obtain ⟨b1,b2,b3⟩:=v
 unfold eLane
 go_simp
 (repeat' split)<;>simp_all
theorem egLane (op:BinOp) (x y:Operand) (u v:GLane) (w:World):(eqGuard op 145 x y (.agg (eLane u).toArray) (.agg (eLane v).toArray)).run Tryz.prog w=.ok () w:=by
 unfold eLane
 cases op<;>go_simp
theorem neReceiver (u v:GReceiver) (w:World):(binOp .neq 147 (.agg (eReceiver u).toArray) (.agg (eReceiver v).toArray)).run Tryz.prog w=.ok (.bool (decide (¬ u=v))) w:=by
 obtain ⟨a1,a2⟩:=u
 obtain ⟨b1,b2⟩:=v
 unfold eReceiver
 go_simp
 (repeat' split)<;>simp_all
theorem egReceiver (op:BinOp) (x y:Operand) (u v:GReceiver) (w:World):(eqGuard op 147 x y (.agg (eReceiver u).toArray) (.agg (eReceiver v).toArray)).run Tryz.prog w=.ok () w:=by
 unfold eReceiver
 cases op<;>go_simp
theorem neGate (u v:GGate) (w:World):(binOp .neq 89 (.agg (eGate u).toArray) (.agg (eGate v).toArray)).run Tryz.prog w=.ok (.bool (decide (¬ u=v))) w:=by
 obtain ⟨a1,a2,a3⟩:=u
 obtain ⟨b1,b2,b3⟩:=v
 unfold eGate
 go_simp
 (repeat' split)<;>simp_all
theorem egGate (op:BinOp) (x y:Operand) (u v:GGate) (w:World):(eqGuard op 89 x y (.agg (eGate u).toArray) (.agg (eGate v).toArray)).run Tryz.prog w=.ok () w:=by
 unfold eGate
 cases op<;>go_simp
theorem eq_all {α:Type} {a b:List α} (hl:a.length=b.length) (h:∀ j,j < a.length→a[j]? = b[j]?):a=b:=by
 apply List.ext_getElem?
 intro j
 rcases Nat.lt_or_ge j a.length with hj | hj
 ·exact h j hj
 ·rw [List.getElem?_eq_none hj,List.getElem?_eq_none (by omega)]
section
variable {Z:ZP} {w:World}
theorem rsameCh_t {xs ys:List Value} {x y:GChannel} (hx:rChannel.r w xs x) (hy:rChannel.r w ys y):Cz Tryz.prog 43 [.agg xs.toArray,.agg ys.toArray] w (λ r w'=>r=.bool (decide (x=y))∧Fr [] w w') Z:=by
 obtain ⟨A1,c1,A2,c2,hxs,k1,k2⟩:=oChannel hx
 obtain ⟨B1,d1,B2,d2,hys,m1,m2⟩:=oChannel hy
 have b1:=k1.2.1
 have b2:=k2.2.1
 simp only [big] at b1 b2
 refine go mixed Tryz.func43 Tryz.call43 rfl (Tr.e43 _ _) ?_
 refine b_box (Bx.nil w) (λ v2 w1 H=>?_)
 refine b_box H (λ v3 w2 H=>?_)
 refine b_ld H 1 rfl (by rw [hxs];rfl) ?_
 refine b_ld H 0 rfl (by rw [hys];rfl) ?_
 refine r_if (λ h=>b_ret H (λ F=>⟨by rw [decide_eq_false (λ e=>h (by rw [e]))],F⟩)) (λ h0=>?_)
 refine b_ld H 1 rfl (by rw [hxs];rfl) ?_
 refine b_ld H 0 rfl (by rw [hys];rfl) ?_
 refine r_if (λ h=>b_ret H (λ F=>⟨by rw [decide_eq_false (λ e=>h (by rw [e]))],F⟩)) (λ h=>?_)
 have llanes:x.lanes.length=y.lanes.length:=by omega
 clear h
 refine b_ld H 1 rfl (by rw [hxs];rfl) ?_
 refine b_ld H 0 rfl (by rw [hys];rfl) ?_
 refine r_if (λ h=>b_ret H (λ F=>⟨by rw [decide_eq_false (λ e=>h (by rw [e]))],F⟩)) (λ h=>?_)
 have lreceivers:x.receivers.length=y.receivers.length:=by omega
 clear h
 refine r_loop (λ (i:Nat)=>[I (i:Int),B false]) (λ i w'=>i≤x.lanes.length∧(∀ j,j < i→x.lanes[j]? = y.lanes[j]?)∧Bx w w' [(v3,87,ys),(v2,87,xs)]) (λ i=>x.lanes.length-i) 0 ⟨Nat.zero_le _,λ _ h=>by omega,H⟩ rfl ?_
 rintro i w1 ⟨hi,hok,H⟩
 refine b_ld H 1 rfl (by rw [hxs];rfl) ?_
 refine r_if (λ h1=>?_) (λ h1=>?_)
 ·obtain ⟨x1,hx1⟩:=gt (xs:=x.lanes) (j:=i) (by omega)
  obtain ⟨y1,hy1⟩:=gt (xs:=y.lanes) (j:=i) (by omega)
  refine b_dr H (λ w2 H=>?_)
  obtain ⟨ad,es,hAx,rd,e3⟩:=(k1.2.2.up H.F) i x1 hx1
  obtain ⟨ad2,es2,hAy,rd2,e4⟩:=(m1.2.2.up H.F) i y1 hy1
  obtain rfl:=e3
  obtain rfl:=e4
  refine b_ld H 1 rfl (by rw [hxs,hAx];rfl) ?_
  refine r_ob ⟨by omega,by omega⟩ ?_
  refine r_ldn rd ?_
  refine b_ld H 0 rfl (by rw [hys,hAy];rfl) ?_
  refine r_ob ⟨by omega,by omega⟩ ?_
  refine r_ldn rd2 ?_
  refine ⟨_,λ w'=>by
   rw [Sem.run_bind,egLane,Result.andThen_ok,neLane],?_⟩
  refine r_if (λ h2=>?_) (λ h2=>?_)
  ·exact b_ret H (λ F=>⟨by rw [decide_eq_false (λ e=>h2 (by rw [e,hy1] at hx1;cases hx1;rfl))],F⟩)
  ·refine r_ar (by omega) ?_
   refine r_ag (i+1) ⟨by omega,λ j hj=>?_,H⟩ (by omega) rfl
   rcases Nat.lt_or_ge j i with h' | h'
   ·exact hok j h'
   ·obtain rfl:j=i:=by omega
    rw [hx1,hy1,show x1=y1 by first | exact h2 | exact Classical.not_not.1 h2]
 obtain rfl:i=x.lanes.length:=by omega
 have qlanes:x.lanes=y.lanes:=eq_all llanes hok
 refine r_brk ?_
 clear hi hok h1
 refine r_loop (λ (i:Nat)=>[I (i:Int),B false]) (λ i w'=>i≤x.receivers.length∧(∀ j,j < i→x.receivers[j]? = y.receivers[j]?)∧Bx w w' [(v3,87,ys),(v2,87,xs)]) (λ i=>x.receivers.length-i) 0 ⟨Nat.zero_le _,λ _ h=>by omega,H⟩ rfl ?_
 rintro i w1 ⟨hi,hok,H⟩
 refine b_ld H 1 rfl (by rw [hxs];rfl) ?_
 refine r_if (λ h1=>?_) (λ h1=>?_)
 ·obtain ⟨x1,hx1⟩:=gt (xs:=x.receivers) (j:=i) (by omega)
  obtain ⟨y1,hy1⟩:=gt (xs:=y.receivers) (j:=i) (by omega)
  refine b_dr H (λ w2 H=>?_)
  obtain ⟨ad,es,hAx,rd,e3⟩:=(k2.2.2.up H.F) i x1 hx1
  obtain ⟨ad2,es2,hAy,rd2,e4⟩:=(m2.2.2.up H.F) i y1 hy1
  obtain rfl:=e3
  obtain rfl:=e4
  refine b_ld H 1 rfl (by rw [hxs,hAx];rfl) ?_
  refine r_ob ⟨by omega,by omega⟩ ?_
  refine r_ldn rd ?_
  refine b_ld H 0 rfl (by rw [hys,hAy];rfl) ?_
  refine r_ob ⟨by omega,by omega⟩ ?_
  refine r_ldn rd2 ?_
  refine ⟨_,λ w'=>by
   rw [Sem.run_bind,egReceiver,Result.andThen_ok,neReceiver],?_⟩
  refine r_if (λ h2=>?_) (λ h2=>?_)
  ·exact b_ret H (λ F=>⟨by rw [decide_eq_false (λ e=>h2 (by rw [e,hy1] at hx1;cases hx1;rfl))],F⟩)
  ·refine r_ar (by omega) ?_
   refine r_ag (i+1) ⟨by omega,λ j hj=>?_,H⟩ (by omega) rfl
   rcases Nat.lt_or_ge j i with h' | h'
   ·exact hok j h'
   ·obtain rfl:j=i:=by omega
    rw [hx1,hy1,show x1=y1 by first | exact h2 | exact Classical.not_not.1 h2]
 obtain rfl:i=x.receivers.length:=by omega
 have qreceivers:x.receivers=y.receivers:=eq_all lreceivers hok
 refine r_brk ?_
 clear hi hok h1
 refine b_ret H (λ F=>⟨?_,F⟩)
 obtain ⟨xl,xa,xb⟩:=x
 obtain ⟨yl,ya,yb⟩:=y
 dsimp only at *
 have h0:=Classical.not_not.1 h0
 subst h0 qlanes qreceivers
 simp
theorem rSame_t {xs ys:List Value} {x y:GConf} (hx:rConf.r w xs x) (hy:rConf.r w ys y):Cz Tryz.prog 13 [.agg xs.toArray,.agg ys.toArray] w (λ r w'=>r=.bool (decide (x=y))∧Fr [] w w') Z:=by
 obtain ⟨A0,c0,A1,c1,A2,c2,A3,c3,A4,c4,hxs,k0,k1,k2,k3,k4⟩:=oConf hx
 obtain ⟨B0,d0,B1,d1,B2,d2,B3,d3,B4,d4,hys,m0,m1,m2,m3,m4⟩:=oConf hy
 have b0:=k0.2.1
 have b1:=k1.2.1
 have b2:=k2.2.1
 have b3:=k3.2.1
 have b4:=k4.2.1
 simp only [big] at b0 b1 b2 b3 b4
 refine go mixed Tryz.func13 Tryz.call13 rfl (Tr.e13 _ _) ?_
 refine b_box (Bx.nil w) (λ v2 w1 H=>?_)
 refine b_box H (λ v3 w2 H=>?_)
 refine b_ld H 1 rfl (by rw [hxs];rfl) ?_
 refine b_ld H 0 rfl (by rw [hys];rfl) ?_
 refine b_call (v:=.bool (decide (x.flows=y.flows))) H (rSameU_t (k0.2.2.up H.F) (m0.2.2.up H.F) k0.2.1) (λ w3 H=>?_)
 refine r_ifn (λ h=>b_ret H (λ F=>⟨by rw [decide_eq_false (λ e=>h (by rw [e]))],F⟩)) (λ qflows=>?_)
 refine b_ld H 1 rfl (by rw [hxs];rfl) ?_
 refine b_ld H 0 rfl (by rw [hys];rfl) ?_
 refine r_if (λ h=>b_ret H (λ F=>⟨by rw [decide_eq_false (λ e=>h (by rw [e]))],F⟩)) (λ h=>?_)
 have ltenants:x.tenants.length=y.tenants.length:=by omega
 clear h
 refine b_ld H 1 rfl (by rw [hxs];rfl) ?_
 refine b_ld H 0 rfl (by rw [hys];rfl) ?_
 refine r_if (λ h=>b_ret H (λ F=>⟨by rw [decide_eq_false (λ e=>h (by rw [e]))],F⟩)) (λ h=>?_)
 have lchannels:x.channels.length=y.channels.length:=by omega
 clear h
 refine b_ld H 1 rfl (by rw [hxs];rfl) ?_
 refine b_ld H 0 rfl (by rw [hys];rfl) ?_
 refine r_if (λ h=>b_ret H (λ F=>⟨by rw [decide_eq_false (λ e=>h (by rw [e]))],F⟩)) (λ h=>?_)
 have lgates:x.gates.length=y.gates.length:=by omega
 clear h
 refine b_ld H 1 rfl (by rw [hxs];rfl) ?_
 refine b_ld H 0 rfl (by rw [hys];rfl) ?_
 refine r_if (λ h=>b_ret H (λ F=>⟨by rw [decide_eq_false (λ e=>h (by rw [e]))],F⟩)) (λ h=>?_)
 have lframe:x.frame.length=y.frame.length:=by omega
 clear h
 refine r_loop (λ (i:Nat)=>[I (i:Int),B false]) (λ i w'=>i≤x.tenants.length∧(∀ j,j < i→x.tenants[j]? = y.tenants[j]?)∧Bx w w' [(v3,29,ys),(v2,29,xs)]) (λ i=>x.tenants.length-i) 0 ⟨Nat.zero_le _,λ _ h=>by omega,H⟩ rfl ?_
 rintro i w1 ⟨hi,hok,H⟩
 refine b_ld H 1 rfl (by rw [hxs];rfl) ?_
 refine r_if (λ h1=>?_) (λ h1=>?_)
 ·obtain ⟨x1,hx1⟩:=gt (xs:=x.tenants) (j:=i) (by omega)
  obtain ⟨y1,hy1⟩:=gt (xs:=y.tenants) (j:=i) (by omega)
  refine b_dr H (λ w2 H=>?_)
  obtain ⟨ad,es,hAx,rd,e3⟩:=(k1.2.2.up H.F) i x1 hx1
  obtain ⟨ad2,es2,hAy,rd2,e4⟩:=(m1.2.2.up H.F) i y1 hy1
  obtain rfl:=e3
  obtain rfl:=e4
  refine b_ld H 1 rfl (by rw [hxs,hAx];rfl) ?_
  refine r_ob ⟨by omega,by omega⟩ ?_
  refine r_ldn rd ?_
  refine b_ld H 0 rfl (by rw [hys,hAy];rfl) ?_
  refine r_ob ⟨by omega,by omega⟩ ?_
  refine r_ldn rd2 ?_
  refine ⟨_,λ w'=>by
   rw [Sem.run_bind,egTenant,Result.andThen_ok,neTenant],?_⟩
  refine r_if (λ h2=>?_) (λ h2=>?_)
  ·exact b_ret H (λ F=>⟨by rw [decide_eq_false (λ e=>h2 (by rw [e,hy1] at hx1;cases hx1;rfl))],F⟩)
  ·refine r_ar (by omega) ?_
   refine r_ag (i+1) ⟨by omega,λ j hj=>?_,H⟩ (by omega) rfl
   rcases Nat.lt_or_ge j i with h' | h'
   ·exact hok j h'
   ·obtain rfl:j=i:=by omega
    rw [hx1,hy1,show x1=y1 by first | exact h2 | exact Classical.not_not.1 h2]
 obtain rfl:i=x.tenants.length:=by omega
 have qtenants:x.tenants=y.tenants:=eq_all ltenants hok
 refine r_brk ?_
 clear hi hok h1
 refine r_loop (λ (i:Nat)=>[I (i:Int),B false]) (λ i w'=>i≤x.channels.length∧(∀ j,j < i→x.channels[j]? = y.channels[j]?)∧Bx w w' [(v3,29,ys),(v2,29,xs)]) (λ i=>x.channels.length-i) 0 ⟨Nat.zero_le _,λ _ h=>by omega,H⟩ rfl ?_
 rintro i w1 ⟨hi,hok,H⟩
 refine b_ld H 1 rfl (by rw [hxs];rfl) ?_
 refine r_if (λ h1=>?_) (λ h1=>?_)
 ·obtain ⟨x1,hx1⟩:=gt (xs:=x.channels) (j:=i) (by omega)
  obtain ⟨y1,hy1⟩:=gt (xs:=y.channels) (j:=i) (by omega)
  refine b_dr H (λ w2 H=>?_)
  obtain ⟨ad,es,hAx,rd,e3⟩:=(k2.2.2.up H.F) i x1 hx1
  obtain ⟨ad2,es2,hAy,rd2,e4⟩:=(m2.2.2.up H.F) i y1 hy1
  refine b_ld H 1 rfl (by rw [hxs,hAx];rfl) ?_
  refine r_ob ⟨by omega,by omega⟩ ?_
  refine r_ldn rd ?_
  refine b_ld H 0 rfl (by rw [hys,hAy];rfl) ?_
  refine r_ob ⟨by omega,by omega⟩ ?_
  refine r_ldn rd2 ?_
  refine b_call (v:=.bool (decide (x1=y1))) H (rsameCh_t e3 e4) (λ w3 H=>?_)
  refine r_ifn (λ h2=>?_) (λ h2=>?_)
  ·exact b_ret H (λ F=>⟨by rw [decide_eq_false (λ e=>h2 (by rw [e,hy1] at hx1;cases hx1;rfl))],F⟩)
  ·refine r_ar (by omega) ?_
   refine r_ag (i+1) ⟨by omega,λ j hj=>?_,H⟩ (by omega) rfl
   rcases Nat.lt_or_ge j i with h' | h'
   ·exact hok j h'
   ·obtain rfl:j=i:=by omega
    rw [hx1,hy1,show x1=y1 by first | exact h2 | exact Classical.not_not.1 h2]
 obtain rfl:i=x.channels.length:=by omega
 have qchannels:x.channels=y.channels:=eq_all lchannels hok
 refine r_brk ?_
 clear hi hok h1
 refine r_loop (λ (i:Nat)=>[I (i:Int),B false]) (λ i w'=>i≤x.gates.length∧(∀ j,j < i→x.gates[j]? = y.gates[j]?)∧Bx w w' [(v3,29,ys),(v2,29,xs)]) (λ i=>x.gates.length-i) 0 ⟨Nat.zero_le _,λ _ h=>by omega,H⟩ rfl ?_
 rintro i w1 ⟨hi,hok,H⟩
 refine b_ld H 1 rfl (by rw [hxs];rfl) ?_
 refine r_if (λ h1=>?_) (λ h1=>?_)
 ·obtain ⟨x1,hx1⟩:=gt (xs:=x.gates) (j:=i) (by omega)
  obtain ⟨y1,hy1⟩:=gt (xs:=y.gates) (j:=i) (by omega)
  refine b_dr H (λ w2 H=>?_)
  obtain ⟨ad,es,hAx,rd,e3⟩:=(k3.2.2.up H.F) i x1 hx1
  obtain ⟨ad2,es2,hAy,rd2,e4⟩:=(m3.2.2.up H.F) i y1 hy1
  obtain rfl:=e3
  obtain rfl:=e4
  refine b_ld H 1 rfl (by rw [hxs,hAx];rfl) ?_
  refine r_ob ⟨by omega,by omega⟩ ?_
  refine r_ldn rd ?_
  refine b_ld H 0 rfl (by rw [hys,hAy];rfl) ?_
  refine r_ob ⟨by omega,by omega⟩ ?_
  refine r_ldn rd2 ?_
  refine ⟨_,λ w'=>by
   rw [Sem.run_bind,egGate,Result.andThen_ok,neGate],?_⟩
  refine r_if (λ h2=>?_) (λ h2=>?_)
  ·exact b_ret H (λ F=>⟨by rw [decide_eq_false (λ e=>h2 (by rw [e,hy1] at hx1;cases hx1;rfl))],F⟩)
  ·refine r_ar (by omega) ?_
   refine r_ag (i+1) ⟨by omega,λ j hj=>?_,H⟩ (by omega) rfl
   rcases Nat.lt_or_ge j i with h' | h'
   ·exact hok j h'
   ·obtain rfl:j=i:=by omega
    rw [hx1,hy1,show x1=y1 by first | exact h2 | exact Classical.not_not.1 h2]
 obtain rfl:i=x.gates.length:=by omega
 have qgates:x.gates=y.gates:=eq_all lgates hok
 refine r_brk ?_
 clear hi hok h1
 refine r_loop (λ (i:Nat)=>[I (i:Int),B false]) (λ i w'=>i≤x.frame.length∧(∀ j,j < i→x.frame[j]? = y.frame[j]?)∧Bx w w' [(v3,29,ys),(v2,29,xs)]) (λ i=>x.frame.length-i) 0 ⟨Nat.zero_le _,λ _ h=>by omega,H⟩ rfl ?_
 rintro i w1 ⟨hi,hok,H⟩
 refine b_ld H 1 rfl (by rw [hxs];rfl) ?_
 refine r_if (λ h1=>?_) (λ h1=>?_)
 ·obtain ⟨x1,hx1⟩:=gt (xs:=x.frame) (j:=i) (by omega)
  obtain ⟨y1,hy1⟩:=gt (xs:=y.frame) (j:=i) (by omega)
  refine b_dr H (λ w2 H=>?_)
  obtain ⟨ad,es,hAx,rd,e3⟩:=(k4.2.2.up H.F) i x1 hx1
  obtain ⟨ad2,es2,hAy,rd2,e4⟩:=(m4.2.2.up H.F) i y1 hy1
  obtain rfl:=e3
  obtain rfl:=e4
  refine b_ld H 1 rfl (by rw [hxs,hAx];rfl) ?_
  refine r_ob ⟨by omega,by omega⟩ ?_
  refine r_ld (cell1 rd) ?_
  refine b_ld H 0 rfl (by rw [hys,hAy];rfl) ?_
  refine r_ob ⟨by omega,by omega⟩ ?_
  refine r_ld (cell1 rd2) ?_
  refine r_if (λ h2=>?_) (λ h2=>?_)
  ·exact b_ret H (λ F=>⟨by rw [decide_eq_false (λ e=>h2 (by rw [e,hy1] at hx1;cases hx1;rfl))],F⟩)
  ·refine r_ar (by omega) ?_
   refine r_ag (i+1) ⟨by omega,λ j hj=>?_,H⟩ (by omega) rfl
   rcases Nat.lt_or_ge j i with h' | h'
   ·exact hok j h'
   ·obtain rfl:j=i:=by omega
    rw [hx1,hy1,show x1=y1 by first | exact h2 | exact Classical.not_not.1 h2]
 obtain rfl:i=x.frame.length:=by omega
 have qframe:x.frame=y.frame:=eq_all lframe hok
 refine r_brk ?_
 clear hi hok h1
 refine b_ld H 1 rfl (by rw [hxs];rfl) ?_
 refine b_ld H 0 rfl (by rw [hys];rfl) ?_
 refine r_if (λ qbudget=>?_) (λ h=>b_ret H (λ F=>⟨by rw [decide_eq_false (λ e=>h (by rw [e]))],F⟩))
 refine b_ld H 1 rfl (by rw [hxs];rfl) ?_
 refine b_ld H 0 rfl (by rw [hys];rfl) ?_
 refine r_if (λ qrequests=>?_) (λ h=>b_ret H (λ F=>⟨by rw [decide_eq_false (λ e=>h (by rw [e]))],F⟩))
 refine b_ld H 1 rfl (by rw [hxs];rfl) ?_
 refine b_ld H 0 rfl (by rw [hys];rfl) ?_
 refine b_ret H (λ F=>⟨?_,F⟩)
 clear hx hy hxs hys H k0 k1 k2 k3 k4 m0 m1 m2 m3 m4 ltenants lchannels lgates lframe b0 b1 b2 b3 b4
 obtain ⟨x0,x1,x2,x3,x4,x5,x6,x7⟩:=x
 obtain ⟨y0,y1,y2,y3,y4,y5,y6,y7⟩:=y
 dsimp only at *
 subst qflows qtenants qchannels qgates qframe qbudget qrequests
 simp
end
end Go.Proofs.YtppodgdhdddfkaaGreatDoor.Cg
set_option linter.unusedVariables false
set_option linter.unusedSimpArgs false
namespace Go.Proofs.YtppodgdhdddfkaaGreatDoor.Cg
open Go Go.RowKit Go.Proofs.YtppodgdhdddfkaaGreatDoor.Sx
open Go.Proofs.YtppodgdhdddfkaaGreatDoor.Cf
open Go.Proofs.YtppodgdhdddfkaaGreatDoor.Sg
def isD (c:UInt8):Prop:=48≤c.toNat∧c.toNat≤57
theorem dig (d:Nat) (h:d < 10):(UInt8.ofNat (48+d)).toNat=48+d:=by
 rw [UInt8.toNat_ofNat']
 omega
theorem dec_unf (u:Nat):Lib.decDigits u=if u < 10 then [UInt8.ofNat (48+u)] else Lib.decDigits (u / 10)++[UInt8.ofNat (48+u % 10)]:=by
 rw [Lib.decDigits]
 split<;>rfl
theorem dec_all:∀ (k u:Nat),u≤k→(∀ c∈Lib.decDigits u,isD c)∧Lib.decDigits u≠[]:=by
 intro k
 induction k with
 | zero =>
  intro u hu
  obtain rfl:u=0:=by omega
  rw [dec_unf]
  simp [isD]
 | succ k ih =>
  intro u hu
  rw [dec_unf]
  split
  ·rename_i h
   refine ⟨λ c hc=>?_,by simp⟩
   obtain rfl:=List.mem_singleton.1 hc
   unfold isD
   rw [dig u h];omega
  ·rename_i h
   obtain ⟨h1,h2⟩:=ih (u / 10) (by omega)
   refine ⟨λ c hc=>?_,by simp⟩
   rcases List.mem_append.1 hc with hc | hc
   ·exact h1 c hc
   ·obtain rfl:=List.mem_singleton.1 hc
    unfold isD
    rw [dig (u % 10) (by omega)];omega
theorem parse_app (l:Bs) (c:UInt8):∀ (acc v:Nat),Lib.parseUint10 acc l=.ok v→Lib.parseUint10 acc (l++[c])=Lib.parseUint10 v [c]:=by
 induction l with
 | nil=>intro acc v h;simp only [Lib.parseUint10] at h;cases h;rfl
 | cons b r ih =>
  intro acc v h
  simp only [List.cons_append,Lib.parseUint10] at h ⊢
  by_cases h1:48≤b.toNat∧b.toNat≤57
  ·rw [if_pos h1] at h
   rw [if_pos h1]
   by_cases h2:1844674407370955162≤acc
   ·rw [if_pos h2] at h;cases h
   ·rw [if_neg h2] at h
    rw [if_neg h2]
    by_cases h3:18446744073709551616≤acc * 10+(b.toNat-48)
    ·rw [if_pos h3] at h;cases h
    ·rw [if_neg h3] at h
     rw [if_neg h3,ih _ v h]
     simp only [Lib.parseUint10]
  ·rw [if_neg h1] at h;cases h
theorem parse_dec:∀ (k u:Nat),u≤k→u < 18446744073709551616→Lib.parseUint10 0 (Lib.decDigits u)=.ok u:=by
 intro k
 induction k with
 | zero =>
  intro u hu _
  obtain rfl:u=0:=by omega
  rw [dec_unf]
  rfl
 | succ k ih =>
  intro u hu hb
  rw [dec_unf]
  split
  ·rename_i h
   simp only [Lib.parseUint10,dig u h]
   rw [if_pos (by omega),if_neg (by omega),if_neg (by omega)]
   congr 1;omega
  ·rename_i h
   rw [parse_app _ _ 0 _ (ih (u / 10) (by omega) (by omega))]
   simp only [Lib.parseUint10,dig (u % 10) (by omega)]
   rw [if_pos (by omega),if_neg (by omega),if_neg (by omega)]
   congr 1;omega
theorem mag_dec (u:Nat) (h:u < 18446744073709551616):Lib.parseMag (Lib.decDigits u)=.ok u:=by
 unfold Lib.parseMag
 rw [if_neg (dec_all u u (Nat.le_refl _)).2]
 exact parse_dec u u (Nat.le_refl _) h
theorem atoi_itoa (n:Int) (h:in64 n):atoiP (Lib.itoa n)=some n:=by
 obtain ⟨h1,h2⟩:=h
 unfold atoiP
 have e:Lib.atoiAll (Lib.itoa n)=.ok n:=by
  unfold Lib.itoa
  by_cases hn:n < 0
  ·rw [if_pos hn,Lib.atoiAll_minus,mag_dec _ (by omega)]
   simp only [Lib.signed]
   rw [if_neg (by omega)]
   congr 1;omega
  ·rw [if_neg hn]
   have hd:=dec_all n.toNat n.toNat (Nat.le_refl _)
   have hm:=mag_dec n.toNat (by omega)
   cases hc:Lib.decDigits n.toNat with
   | nil=>exact absurd hc hd.2
   | cons c r =>
    rw [hc] at hm hd
    have hcd:=hd.1 c (by simp)
    unfold isD at hcd
    rw [Lib.atoiAll_plain c r (by omega) (by omega),hm]
    simp only [Lib.signless]
    rw [if_neg (by omega)]
    congr 1;omega
 rw [e]
theorem itoa_all (n:Int):(∀ c∈Lib.itoa n,c=45∨isD c)∧Lib.itoa n≠[]:=by
 unfold Lib.itoa
 split
 ·refine ⟨λ c hc=>?_,by simp⟩
  rcases List.mem_cons.1 hc with rfl | hc
  ·exact .inl rfl
  ·exact .inr ((dec_all _ _ (Nat.le_refl _)).1 c hc)
 ·exact ⟨λ c hc=>.inr ((dec_all _ _ (Nat.le_refl _)).1 c hc),(dec_all _ _ (Nat.le_refl _)).2⟩
theorem itoa_no {n:Int} {c:UInt8} (h:¬ (c=45∨isD c)):c∉Lib.itoa n:=λ hc=>h ((itoa_all n).1 c hc)
theorem no32:¬ ((32:UInt8)=45∨isD 32):=by unfold isD;decide
theorem no10:¬ ((10:UInt8)=45∨isD 10):=by unfold isD;decide
theorem no111:¬ ((111:UInt8)=45∨isD 111):=by unfold isD;decide
theorem itoa_opens (n:Int):Lib.itoa n≠kOpens:=λ h=>itoa_no (n:=n) no111 (by rw [h];simp [kOpens])
def joinW (k:Bs) (ws:List Bs):Bs:=k++ws.flatMap (λ x=>32 :: x)
theorem splitP_no {c:UInt8} {a:Bs} (h:c∉a):splitP c a=[a]:=by
 induction a with
 | nil=>rfl
 | cons b r ih =>
  simp only [List.mem_cons,not_or] at h
  unfold splitP
  rw [if_neg (λ e=>h.1 e.symm),ih h.2]
  rfl
theorem splitP_app {c:UInt8} {a r:Bs} (h:c∉a):splitP c (a++c :: r)=a :: splitP c r:=by
 induction a with
 | nil=>show splitP c (c :: r)=_;rw [splitP,if_pos rfl]
 | cons b a ih =>
  simp only [List.mem_cons,not_or] at h
  show splitP c (b :: (a++c :: r))=_
  rw [splitP,if_neg (λ e=>h.1 e.symm),ih h.2]
  rfl
theorem split_join {k:Bs} {ws:List Bs} (hk:(32:UInt8)∉k) (hw:∀ x∈ws,(32:UInt8)∉x):splitP 32 (joinW k ws)=k :: ws:=by
 induction ws generalizing k with
 | nil=>simp [joinW,splitP_no hk]
 | cons x r ih =>
  have h:=ih (k:=x) (hw x (by simp)) (λ y hy=>hw y (by simp [hy]))
  have e:joinW k (x :: r)=k++32 :: joinW x r:=by simp [joinW]
  rw [e,splitP_app hk,h]
theorem join_split (a:Bs):joinW ((splitP 32 a).headD []) (splitP 32 a).tail=a:=by
 induction a with
 | nil=>rfl
 | cons b r ih =>
  unfold splitP
  split
  ·rename_i h
   subst h
   cases hs:splitP 32 r with
   | nil=>exact absurd hs (splitP_ne _ _)
   | cons y l =>
    rw [hs] at ih
    simp only [joinW,List.headD_cons,List.tail_cons,List.nil_append,List.flatMap_cons,List.cons_append] at ih ⊢
    rw [ih]
  ·simp only [joinW,List.headD_cons,List.tail_cons,List.cons_append] at ih ⊢
   rw [ih]
theorem nums_join (k:Bs) (ns:List Int):k++nums ns=joinW k (ns.map Lib.itoa):=by
 unfold joinW nums
 rw [List.flatMap_map]
 rfl
theorem numsO_join (k:Bs) (ns:List Int) (o:Bool):(k++nums ns)++opB o=joinW k (ns.map Lib.itoa++if o=true then [kOpens] else []):=by
 rw [nums_join]
 unfold joinW
 cases o<;>simp [opB,kOpens]
theorem nums_itoa (ns:List Int) (h:∀ n∈ns,in64 n):numsP (ns.map Lib.itoa)=some ns:=by
 induction ns with
 | nil=>rfl
 | cons n r ih =>
  rw [List.map_cons,numsP,atoi_itoa n (h n (by simp)),ih (λ m hm=>h m (by simp [hm]))]
theorem words_no {ns:List Int}:∀ x∈ns.map Lib.itoa,(32:UInt8)∉x:=by
 intro x hx
 obtain ⟨n,_,rfl⟩:=List.mem_map.1 hx
 exact itoa_no no32
theorem suf_nl (l:Bs):Lib.hasSuffix (l++[10]) [10]=true∧Lib.trimSuffix (l++[10]) [10]=l:=by
 have h:Lib.hasSuffix (l++[10]) [10]=true:=by unfold Lib.hasSuffix;rw [List.isSuffixOf_iff_suffix];exact ⟨l,rfl⟩
 refine ⟨h,?_⟩
 unfold Lib.trimSuffix
 rw [if_pos h]
 simp
theorem ib_app {l r:Bs} {c:UInt8} (h:c∉l):Lib.indexByte (l++c :: r) c=l.length:=by
 induction l with
 | nil=>simp [Lib.indexByte]
 | cons b l ih =>
  simp only [List.mem_cons,not_or] at h
  show Lib.indexByte (b :: (l++c :: r)) c=_
  rw [Lib.indexByte,if_neg (by simp;exact λ e=>h.1 e.symm),ih h.2,if_neg (λ e=>by have:=eq_of_beq e;omega)]
  simp
theorem lines_app {l r:Bs} (h:(10:UInt8)∉l):linesOf (l++[10]++r)=(l++[10]) :: linesOf r:=by
 have e:l++[10]++r=l++10 :: r:=by simp
 rw [e,linesOf_ne (by simp),ib_app h,if_pos (by omega)]
 have e2:((l.length:Int).toNat+1)=(l++[10]).length:=by simp
 have e3:l++10 :: r=(l++[10])++r:=by simp
 rw [e2,e3,List.take_left,List.drop_left]
theorem lines_flat (ls:List Bs) (h:∀ l∈ls,(10:UInt8)∉l):linesOf (ls.map (λ l=>l++[10])).flatten=ls.map (λ l=>l++[10]):=by
 induction ls with
 | nil=>simp [linesOf]
 | cons l r ih =>
  rw [List.map_cons,List.flatten_cons,lines_app (h l (by simp)),ih (λ x hx=>h x (by simp [hx]))]
theorem lines_back:∀ (k:Nat) (a:Bs),a.length≤k→(linesOf a).flatten=a:=by
 intro k
 induction k with
 | zero =>
  intro a ha
  have:a=[]:=List.eq_nil_of_length_eq_zero (by omega)
  subst this
  simp [linesOf]
 | succ k ih =>
  intro a ha
  cases a with
  | nil=>simp [linesOf]
  | cons b r =>
   rw [linesOf_ne (by simp)]
   split
   ·rw [List.flatten_cons,ih _ (by rw [List.length_drop];simp at ha ⊢;omega),List.take_append_drop]
   ·simp
end Go.Proofs.YtppodgdhdddfkaaGreatDoor.Cg
set_option linter.unusedVariables false
set_option linter.unusedSimpArgs false
namespace Go.Proofs.YtppodgdhdddfkaaGreatDoor.Cg
set_option maxRecDepth 100000
open Go Go.RowKit Go.Proofs.YtppodgdhdddfkaaGreatDoor.Sx
open Go.Proofs.YtppodgdhdddfkaaGreatDoor.Cf
open Go.Proofs.YtppodgdhdddfkaaGreatDoor.Sg
theorem few_of {c:GConf} (h:c.flows.length≤16∧c.tenants.length≤16∧c.channels.length≤32∧c.gates.length≤16∧c.frame.length≤64∧∀ x∈c.channels,x.lanes.length≤16∧x.receivers.length≤16):manyP c=false:=by
 obtain ⟨h0,h1,h2,h3,h4,h5⟩:=h
 unfold manyP
 simp only [Bool.or_eq_false_iff,decide_eq_false_iff_not,List.any_eq_false,Nat.not_lt]
 refine ⟨⟨⟨⟨⟨h0,h1⟩,h2⟩,h3⟩,h4⟩,λ x hx=>?_⟩
 have:=h5 x hx
 unfold manyCh
 simp only [Bool.or_eq_true,decide_eq_true_eq,not_or,Nat.not_lt]
 exact this
theorem opn_words (ns:List Int) (o:Bool):opn (ns.map Lib.itoa++if o=true then [kOpens] else [])=o∧bod (ns.map Lib.itoa++if o=true then [kOpens] else [])=ns.map Lib.itoa:=by
 have h:opn (ns.map Lib.itoa++if o=true then [kOpens] else [])=o:=by
  unfold opn
  cases o with
  | true=>simp
  | false =>
   simp only [Bool.false_eq_true,if_false,List.append_nil,decide_eq_false_iff_not]
   intro h
   obtain ⟨n,_,hn⟩:=List.mem_map.1 (List.mem_of_getLast? h)
   exact itoa_opens n hn
 refine ⟨h,?_⟩
 unfold bod
 rw [h]
 cases o with
 | true=>simp
 | false=>simp
theorem take_line {s:RS} {k:Bs} {is:Int} {ns:List Int} {o:Bool} {c':GConf} (hk:(32:UInt8)∉k) (hr:rankI k=is) (hf:followsI s.was is=true) (hc:caseP is k (ns.map Lib.itoa) o s.c=some (c',(k++nums ns)++opB o)) (hm:manyP c'=false):takeP s ((k++nums ns)++opB o)=some ⟨c',is⟩:=by
 have hw:∀ x∈(ns.map Lib.itoa++if o=true then [kOpens] else []),(32:UInt8)∉x:=by
  intro x hx
  rcases List.mem_append.1 hx with hx | hx
  ·exact words_no x hx
  ·cases o with
   | true=>simp at hx;subst hx;decide
   | false=>simp at hx
 unfold takeP
 have hs:splitP 32 ((k++nums ns)++opB o)=k :: (ns.map Lib.itoa++if o=true then [kOpens] else []):=by rw [numsO_join,split_join hk hw]
 rw [hs]
 obtain ⟨e1,e2⟩:=opn_words ns o
 show takeK s _ k (ns.map Lib.itoa++if o=true then [kOpens] else [])=_
 unfold takeK
 rw [hr,if_pos hf,e1,e2,hc]
 show (if (k++nums ns)++opB o=(k++nums ns)++opB o∧manyP c'=false then _ else _)=_
 rw [if_pos ⟨rfl,hm⟩]
theorem take_line0 {s:RS} {k:Bs} {is:Int} {ns:List Int} {c':GConf} (hk:(32:UInt8)∉k) (hr:rankI k=is) (hf:followsI s.was is=true) (hc:caseP is k (ns.map Lib.itoa) false s.c=some (c',k++nums ns)) (hm:manyP c'=false):takeP s (k++nums ns)=some ⟨c',is⟩:=by
 have h:=take_line (o:=false) hk hr hf (by rw [hc];simp [opB]) hm
 have e:(k++nums ns)++opB false=k++nums ns:=by simp [opB]
 rwa [e] at h
theorem step_nl {s:RS} {l:Bs} (h:s.was≠8):stepP s (l++[10])=takeP s l:=by
 unfold stepP
 rw [if_pos ⟨(suf_nl l).1,h⟩,(suf_nl l).2]
theorem fold_cons {s s':RS} {l:Bs} {r:List Bs} (h:s.was≠8) (ht:takeP s l=some s'):foldP s ((l++[10]) :: r)=foldP s' r:=by
 show (stepP s (l++[10])).bind _=_
 rw [step_nl h,ht]
 rfl
theorem foldP_app (s:RS) (a b:List Bs):foldP s (a++b)=(foldP s a).bind λ s'=>foldP s' b:=by
 induction a generalizing s with
 | nil=>rfl
 | cons z r ih =>
  show (stepP s z).bind _=((stepP s z).bind _).bind _
  cases stepP s z with
  | none=>rfl
  | some s'=>exact ih s'
theorem numsN_itoa {n:Nat} {ns:List Int} (h:∀ x∈ns,in64 x) (hn:n≤ns.length):numsN n (ns.map Lib.itoa)=some ns:=by
 unfold numsN
 rw [List.length_map,if_neg (by omega),nums_itoa ns h]
theorem rk1:rankI kFlows=1:=by decide
theorem rk2:rankI kTen=2:=by decide
theorem rk3:rankI kCh=3:=by decide
theorem rk4:rankI kLane=4:=by decide
theorem rk5:rankI kRec=5:=by decide
theorem rk6:rankI kGate=6:=by decide
theorem rk7:rankI kFrame=7:=by decide
theorem rk8:rankI kBud=8:=by decide
theorem fo_mid {was is:Int} (h:is=1∨is=2∨is=6) (hw:was≤is):followsI was is=true:=by
 unfold followsI
 rcases h with rfl | rfl | rfl<;>simp<;>omega
theorem in64_bit {b:BitVec 64}:∀ n∈Bt.memI b,in64 n:=memI_in64 b
theorem mem_ok (b:BitVec 64):okB (Bt.memI b)=true:=by
 unfold okB
 rw [List.all_eq_true]
 intro n hn
 unfold Bt.memI Bt.mem at hn
 obtain ⟨j,hj,rfl⟩:=List.mem_map.1 hn
 have:=List.mem_range.1 (List.mem_filter.1 hj).1
 simp;omega
theorem ofB_get:∀ (l:List Int) (a:BitVec 64) (j:Nat),(∀ n∈l,0≤n∧n < 64)→(l.foldl (λ s n=>s ||| ((1#64) <<< n.toNat)) a).getLsbD j=(a.getLsbD j || decide ((j:Int)∈l)):=by
 intro l
 induction l with
 | nil=>intro a j _;simp
 | cons n r ih =>
  intro a j h
  rw [List.foldl_cons,ih _ j (λ m hm=>h m (by simp [hm]))]
  obtain ⟨h1,h2⟩:=h n (by simp)
  rw [Bt.or1 a (i:=n.toNat) (by omega) j]
  rw [Bool.or_assoc]
  congr 1
  simp only [List.mem_cons]
  by_cases e:(j:Int)=n
  ·have h9:j=n.toNat:=by omega
   rw [decide_eq_true h9,decide_eq_true (Or.inl e)]
   rfl
  ·have:¬ j=n.toNat:=by omega
   simp [e,this]
theorem ofB_mem (b:BitVec 64):ofB (Bt.memI b)=b:=by
 apply Bt.ext
 intro j hj
 unfold ofB
 rw [ofB_get _ _ _ (λ n hn=>by have:=List.all_eq_true.1 (mem_ok b) n hn;simpa using this)]
 have:((j:Int)∈Bt.memI b)↔b.getLsbD j=true:=by
  unfold Bt.memI
  simp only [List.mem_map]
  constructor
  ·rintro ⟨i,hi,e⟩
   have:i=j:=by omega
   subst this
   exact (Bt.mem_iff.1 hi).2
  ·intro h;exact ⟨j,Bt.mem_iff.2 ⟨hj,h⟩,rfl⟩
 cases hb:b.getLsbD j with
 | true=>simp [this,hb]
 | false=>simp [this,hb]
theorem fold_flows (fs:List Int):∀ (s:RS),s.was≤1→(∀ z∈fs,0≤z∧z < 18446744073709551616)→manyP { s.c with flows:=s.c.flows++fs }=false→∃ was',was'≤1∧foldP s (fs.map (λ z=>flowL z++[10]))=some ⟨{ s.c with flows:=s.c.flows++fs },was'⟩:=by
 induction fs with
 | nil=>intro s hw _ _;exact ⟨s.was,hw,by simp [foldP]⟩
 | cons z r ih =>
  intro s hw hz hm
  have hfew:=few hm
  have hm1:manyP { s.c with flows:=s.c.flows++[z] }=false:=few_of ⟨by have:=hfew.1;simp at this ⊢;omega,hfew.2⟩
  have ht:takeP s (flowL z)=some ⟨{ s.c with flows:=s.c.flows++[z] },1⟩:=by
   refine take_line0 (by decide) rk1 (fo_mid (.inl rfl) hw) ?_ hm1
   unfold caseP
   rw [if_pos rfl,numsN_itoa in64_bit (Nat.zero_le _)]
   show (if okB (Bt.memI (BitVec.ofInt 64 z))=true then _ else _)=_
   rw [if_pos (mem_ok _),ofB_mem]
   obtain ⟨h1,h2⟩:=hz z (by simp)
   have:(((BitVec.ofInt 64 z).toNat:Nat):Int)=z:=by rw [BitVec.toNat_ofInt];omega
   rw [this]
  obtain ⟨was',h1,h2⟩:=ih ⟨{ s.c with flows:=s.c.flows++[z] },1⟩ (show (1:Int)≤1 by decide) (λ y hy=>hz y (by simp [hy])) (by show manyP { s.c with flows:=(s.c.flows++[z])++r }=false;rw [List.append_assoc];exact hm)
  refine ⟨was',h1,?_⟩
  rw [List.map_cons,fold_cons (by omega) ht,h2]
  simp
theorem fold_tens (fs:List GTenant):∀ (s:RS),s.was≤2→(∀ t∈fs,in64 t.label∧in64 t.quota)→manyP { s.c with tenants:=s.c.tenants++fs }=false→∃ was',was'≤2∧foldP s (fs.map (λ z=>tenL z++[10]))=some ⟨{ s.c with tenants:=s.c.tenants++fs },was'⟩:=by
 induction fs with
 | nil=>intro s hw _ _;exact ⟨s.was,hw,by simp [foldP]⟩
 | cons z r ih =>
  intro s hw hz hm
  have hfew:=few hm
  have hm1:manyP { s.c with tenants:=s.c.tenants++[z] }=false:=few_of ⟨hfew.1,by have:=hfew.2.1;simp at this ⊢;omega,hfew.2.2⟩
  have ht:takeP s (tenL z)=some ⟨{ s.c with tenants:=s.c.tenants++[z] },2⟩:=by
   refine take_line0 (by decide) rk2 (fo_mid (.inr (.inl rfl)) hw) ?_ hm1
   unfold caseP
   rw [if_neg (by decide),if_pos rfl,numsN_itoa (by simpa using hz z (by simp)) (by simp)]
   rfl
  obtain ⟨was',h1,h2⟩:=ih ⟨{ s.c with tenants:=s.c.tenants++[z] },2⟩ (show (2:Int)≤2 by decide) (λ y hy=>hz y (by simp [hy])) (by show manyP { s.c with tenants:=(s.c.tenants++[z])++r }=false;rw [List.append_assoc];exact hm)
  refine ⟨was',h1,?_⟩
  rw [List.map_cons,fold_cons (by omega) ht,h2]
  simp
theorem fold_gats (fs:List GGate):∀ (s:RS),s.was≤6→(∀ g∈fs,in64 g.frm∧in64 g.til∧in64 g.room)→manyP { s.c with gates:=s.c.gates++fs }=false→∃ was',was'≤6∧foldP s (fs.map (λ z=>gateL z++[10]))=some ⟨{ s.c with gates:=s.c.gates++fs },was'⟩:=by
 induction fs with
 | nil=>intro s hw _ _;exact ⟨s.was,hw,by simp [foldP]⟩
 | cons z r ih =>
  intro s hw hz hm
  have hfew:=few hm
  have hm1:manyP { s.c with gates:=s.c.gates++[z] }=false:=few_of ⟨hfew.1,hfew.2.1,hfew.2.2.1,by have:=hfew.2.2.2.1;simp at this ⊢;omega,hfew.2.2.2.2⟩
  have ht:takeP s (gateL z)=some ⟨{ s.c with gates:=s.c.gates++[z] },6⟩:=by
   refine take_line0 (by decide) rk6 (fo_mid (.inr (.inr rfl)) hw) ?_ hm1
   unfold caseP
   rw [if_neg (by decide),if_neg (by decide),if_neg (by decide),if_neg (by decide),if_neg (by decide),if_pos rfl,numsN_itoa (by simpa using hz z (by simp)) (by simp)]
   rfl
  obtain ⟨was',h1,h2⟩:=ih ⟨{ s.c with gates:=s.c.gates++[z] },6⟩ (show (6:Int)≤6 by decide) (λ y hy=>hz y (by simp [hy])) (by show manyP { s.c with gates:=(s.c.gates++[z])++r }=false;rw [List.append_assoc];exact hm)
  refine ⟨was',h1,?_⟩
  rw [List.map_cons,fold_cons (by omega) ht,h2]
  simp
theorem lastU_at {c:GConf} {cs:List GChannel} {x:GChannel} {f:GChannel→GChannel} (h:c.channels=cs++[x]):lastU c f={ c with channels:=cs++[f x] }:=by
 unfold lastU
 rw [h]
 simp
theorem fold_lanes (fs:List GLane):∀ (s:RS) (cs:List GChannel) (x:GChannel),s.c.channels=cs++[x]→(s.was=3∨s.was=4)→(∀ g∈fs,in64 g.tenant∧in64 g.credit)→manyP { s.c with channels:=cs++[{ x with lanes:=x.lanes++fs }] }=false→∃ was',(was'=3∨was'=4)∧foldP s (fs.map (λ z=>laneL z++[10]))=some ⟨{ s.c with channels:=cs++[{ x with lanes:=x.lanes++fs }] },was'⟩:=by
 induction fs with
 | nil=>intro s cs x hc hw _ _;exact ⟨s.was,hw,by simp [foldP,← hc]⟩
 | cons z r ih =>
  intro s cs x hc hw hz hm
  have hfew:=few hm
  have hm1:manyP { s.c with channels:=cs++[{ x with lanes:=x.lanes++[z] }] }=false:=by
   refine few_of ⟨hfew.1,hfew.2.1,by have:=hfew.2.2.1;simp at this ⊢;omega,hfew.2.2.2.1,hfew.2.2.2.2.1,λ y hy=>?_⟩
   have h5:=hfew.2.2.2.2.2
   rcases List.mem_append.1 hy with hy | hy
   ·exact h5 y (List.mem_append.2 (.inl hy))
   ·simp at hy;subst hy
    have:=h5 { x with lanes:=x.lanes++z :: r } (by simp)
    simp at this ⊢;omega
  have ht:takeP s (laneL z)=some ⟨{ s.c with channels:=cs++[{ x with lanes:=x.lanes++[z] }] },4⟩:=by
   refine take_line (by decide) rk4 (by unfold followsI;simp;exact hw) ?_ hm1
   unfold caseP
   rw [if_neg (by decide),if_neg (by decide),if_neg (by decide),if_pos rfl,numsN_itoa (by simpa using hz z (by simp)) (by simp)]
   show some _=_
   rw [lastU_at hc]
   rfl
  obtain ⟨was',h1,h2⟩:=ih ⟨{ s.c with channels:=cs++[{ x with lanes:=x.lanes++[z] }] },4⟩ cs { x with lanes:=x.lanes++[z] } rfl (.inr rfl) (λ y hy=>hz y (by simp [hy])) (by show manyP { s.c with channels:=cs++[{ x with lanes:=(x.lanes++[z])++r }] }=false;rw [List.append_assoc];exact hm)
  refine ⟨was',h1,?_⟩
  rw [List.map_cons,fold_cons (by omega) ht,h2]
  simp
theorem fold_recs (fs:List GReceiver):∀ (s:RS) (cs:List GChannel) (x:GChannel),s.c.channels=cs++[x]→(3≤s.was∧s.was≤5)→(∀ g∈fs,in64 g.tenant)→manyP { s.c with channels:=cs++[{ x with receivers:=x.receivers++fs }] }=false→∃ was',(3≤was'∧was'≤5)∧foldP s (fs.map (λ z=>recL z++[10]))=some ⟨{ s.c with channels:=cs++[{ x with receivers:=x.receivers++fs }] },was'⟩:=by
 induction fs with
 | nil=>intro s cs x hc hw _ _;exact ⟨s.was,hw,by simp [foldP,← hc]⟩
 | cons z r ih =>
  intro s cs x hc hw hz hm
  have hfew:=few hm
  have hm1:manyP { s.c with channels:=cs++[{ x with receivers:=x.receivers++[z] }] }=false:=by
   refine few_of ⟨hfew.1,hfew.2.1,by have:=hfew.2.2.1;simp at this ⊢;omega,hfew.2.2.2.1,hfew.2.2.2.2.1,λ y hy=>?_⟩
   have h5:=hfew.2.2.2.2.2
   rcases List.mem_append.1 hy with hy | hy
   ·exact h5 y (List.mem_append.2 (.inl hy))
   ·simp at hy;subst hy
    have:=h5 { x with receivers:=x.receivers++z :: r } (by simp)
    simp at this ⊢;omega
  have ht:takeP s (recL z)=some ⟨{ s.c with channels:=cs++[{ x with receivers:=x.receivers++[z] }] },5⟩:=by
   refine take_line (by decide) rk5 (by unfold followsI;simp;exact hw) ?_ hm1
   unfold caseP
   rw [if_neg (by decide),if_neg (by decide),if_neg (by decide),if_neg (by decide),if_pos rfl,numsN_itoa (by simpa using hz z (by simp)) (by simp)]
   show some _=_
   rw [lastU_at hc]
   rfl
  obtain ⟨was',h1,h2⟩:=ih ⟨{ s.c with channels:=cs++[{ x with receivers:=x.receivers++[z] }] },5⟩ cs { x with receivers:=x.receivers++[z] } rfl ⟨show (3:Int)≤5 by decide,show (5:Int)≤5 by decide⟩ (λ y hy=>hz y (by simp [hy])) (by show manyP { s.c with channels:=cs++[{ x with receivers:=(x.receivers++[z])++r }] }=false;rw [List.append_assoc];exact hm)
  refine ⟨was',h1,?_⟩
  rw [List.map_cons,fold_cons (by omega) ht,h2]
  simp
theorem fold_chs (fs:List GChannel):∀ (s:RS),s.was≤5→(∀ x∈fs,in64 x.label∧(∀ l∈x.lanes,in64 l.tenant∧in64 l.credit)∧∀ r∈x.receivers,in64 r.tenant)→manyP { s.c with channels:=s.c.channels++fs }=false→∃ was',was'≤5∧foldP s ((fs.flatMap chL).map (λ z=>z++[10]))=some ⟨{ s.c with channels:=s.c.channels++fs },was'⟩:=by
 induction fs with
 | nil=>intro s hw _ _;exact ⟨s.was,hw,by simp [foldP]⟩
 | cons x r ih =>
  intro s hw hz hm
  have hfew:=few hm
  obtain ⟨z1,z2,z3⟩:=hz x (by simp)
  have hx16:=hfew.2.2.2.2.2 x (by simp)
  have hmk:∀ (y:GChannel),y.lanes.length≤16→y.receivers.length≤16→manyP { s.c with channels:=s.c.channels++[y] }=false:=by
   intro y h1 h2
   refine few_of ⟨hfew.1,hfew.2.1,by have:=hfew.2.2.1;simp at this ⊢;omega,hfew.2.2.2.1,hfew.2.2.2.2.1,λ y' hy=>?_⟩
   rcases List.mem_append.1 hy with hy | hy
   ·exact hfew.2.2.2.2.2 y' (List.mem_append.2 (.inl hy))
   ·simp at hy;subst hy;exact ⟨h1,h2⟩
  have ht:takeP s (kCh++nums [x.label])=some ⟨{ s.c with channels:=s.c.channels++[⟨x.label,[],[]⟩] },3⟩:=by
   refine take_line0 (by decide) rk3 (by unfold followsI;simp;exact hw) ?_ (hmk _ (by simp) (by simp))
   unfold caseP
   rw [if_neg (by decide),if_neg (by decide),if_pos rfl,numsN_itoa (by simpa using z1) (by simp)]
   rfl
  obtain ⟨w1,h1,e1⟩:=fold_lanes x.lanes ⟨{ s.c with channels:=s.c.channels++[⟨x.label,[],[]⟩] },3⟩ s.c.channels ⟨x.label,[],[]⟩ rfl (.inl rfl) z2 (hmk _ (by simpa using hx16.1) (by simp))
  obtain ⟨w2,h2,e2⟩:=fold_recs x.receivers ⟨{ s.c with channels:=s.c.channels++[⟨x.label,x.lanes,[]⟩] },w1⟩ s.c.channels ⟨x.label,x.lanes,[]⟩ rfl (by show 3≤w1∧w1≤5;omega) z3 (hmk _ hx16.1 (by simpa using hx16.2))
  obtain ⟨w3,h3,e3⟩:=ih ⟨{ s.c with channels:=s.c.channels++[x] },w2⟩ h2.2 (λ y hy=>hz y (by simp [hy])) (by show manyP { s.c with channels:=(s.c.channels++[x])++r }=false;rw [List.append_assoc];exact hm)
  refine ⟨w3,h3,?_⟩
  have el:((x :: r).flatMap chL).map (λ z=>z++[10])=(((kCh++nums [x.label])++[10]) :: x.lanes.map (λ z=>laneL z++[10]))++(x.receivers.map (λ z=>recL z++[10])++(r.flatMap chL).map (λ z=>z++[10])):=by
   simp [chL,Function.comp_def]
  rw [el,foldP_app,fold_cons (by omega) ht,e1]
  show foldP _ _=_
  have e2':foldP ⟨{ s.c with channels:=s.c.channels++[{ (⟨x.label,[],[]⟩:GChannel) with lanes:=[]++x.lanes }] },w1⟩ (x.receivers.map (λ z=>recL z++[10]))=some ⟨{ s.c with channels:=s.c.channels++[x] },w2⟩:=e2
  have e2'':foldP ⟨{ s.c with channels:=s.c.channels++[{ (⟨x.label,[],[]⟩:GChannel) with lanes:=(⟨x.label,[],[]⟩:GChannel).lanes++x.lanes }] },w1⟩ (x.receivers.map (λ z=>recL z++[10])++(r.flatMap chL).map (λ z=>z++[10]))=some ⟨{ s.c with channels:=(s.c.channels++[x])++r },w3⟩:=by
   rw [foldP_app]
   have:=e2'
   rw [show ({ (⟨x.label,[],[]⟩:GChannel) with lanes:=(⟨x.label,[],[]⟩:GChannel).lanes++x.lanes }:GChannel)={ (⟨x.label,[],[]⟩:GChannel) with lanes:=[]++x.lanes } from rfl,this]
   exact e3
  rw [e2'']
  simp
theorem back_fold {c:GConf} (hi:In64 c) (hm:manyP c=false):foldP s0 (nlL c)=some ⟨c,8⟩:=by
 have hfew:=few hm
 have hemp:∀ x∈([]:List GChannel),x.lanes.length≤16∧x.receivers.length≤16:=by simp
 obtain ⟨w1,h1,e1⟩:=fold_flows c.flows s0 (by decide) hi.fl (few_of ⟨by simpa [s0,c0] using hfew.1,by simp [s0,c0],by simp [s0,c0],by simp [s0,c0],by simp [s0,c0],by simp [s0,c0]⟩)
 obtain ⟨w2,h2,e2⟩:=fold_tens c.tenants ⟨⟨c.flows,[],[],[],[],0,0,0⟩,w1⟩ (by show w1≤2;omega) hi.te (few_of ⟨hfew.1,by simpa using hfew.2.1,by simp,by simp,by simp,by simp⟩)
 obtain ⟨w3,h3,e3⟩:=fold_chs c.channels ⟨⟨c.flows,c.tenants,[],[],[],0,0,0⟩,w2⟩ (by show w2≤5;omega) hi.ch (few_of ⟨hfew.1,hfew.2.1,by simpa using hfew.2.2.1,by simp,by simp,by simpa using hfew.2.2.2.2.2⟩)
 obtain ⟨w4,h4,e4⟩:=fold_gats c.gates ⟨⟨c.flows,c.tenants,c.channels,[],[],0,0,0⟩,w3⟩ (by show w3≤6;omega) hi.ga (few_of ⟨hfew.1,hfew.2.1,hfew.2.2.1,by simpa using hfew.2.2.2.1,by simp,hfew.2.2.2.2.2⟩)
 have t7:takeP ⟨⟨c.flows,c.tenants,c.channels,c.gates,[],0,0,0⟩,w4⟩ (kFrame++nums c.frame)=some ⟨⟨c.flows,c.tenants,c.channels,c.gates,c.frame,0,0,0⟩,7⟩:=by
  refine take_line0 (by decide) rk7 (by unfold followsI;simp;omega) ?_ (few_of ⟨hfew.1,hfew.2.1,hfew.2.2.1,hfew.2.2.2.1,hfew.2.2.2.2.1,hfew.2.2.2.2.2⟩)
  unfold caseP
  rw [if_neg (by decide),if_neg (by decide),if_neg (by decide),if_neg (by decide),if_neg (by decide),if_neg (by decide),if_pos rfl,numsN_itoa hi.fr (Nat.zero_le _)]
  rfl
 have t8:takeP ⟨⟨c.flows,c.tenants,c.channels,c.gates,c.frame,0,0,0⟩,7⟩ (kBud++nums [c.budget,c.requests,c.pending])=some ⟨c,8⟩:=by
  refine take_line0 (by decide) rk8 (show followsI 7 8=true by decide) ?_ hm
  unfold caseP
  rw [if_neg (by decide),if_neg (by decide),if_neg (by decide),if_neg (by decide),if_neg (by decide),if_neg (by decide),if_neg (by decide),if_pos rfl,numsN_itoa (by simpa using hi.bu) (by simp)]
  rfl
 have el:nlL c=c.flows.map (λ z=>flowL z++[10])++(c.tenants.map (λ z=>tenL z++[10])++((c.channels.flatMap chL).map (λ z=>z++[10])++(c.gates.map (λ z=>gateL z++[10])++[(kFrame++nums c.frame)++[10],(kBud++nums [c.budget,c.requests,c.pending])++[10]]))):=by
  simp [nlL,linesP,lines3,lines2,lines1,Function.comp_def]
 have e1':foldP s0 (c.flows.map (λ z=>flowL z++[10]))=some ⟨⟨c.flows,[],[],[],[],0,0,0⟩,w1⟩:=e1
 have e2':foldP ⟨⟨c.flows,[],[],[],[],0,0,0⟩,w1⟩ (c.tenants.map (λ z=>tenL z++[10]))=some ⟨⟨c.flows,c.tenants,[],[],[],0,0,0⟩,w2⟩:=e2
 have e3':foldP ⟨⟨c.flows,c.tenants,[],[],[],0,0,0⟩,w2⟩ ((c.channels.flatMap chL).map (λ z=>z++[10]))=some ⟨⟨c.flows,c.tenants,c.channels,[],[],0,0,0⟩,w3⟩:=e3
 have e4':foldP ⟨⟨c.flows,c.tenants,c.channels,[],[],0,0,0⟩,w3⟩ (c.gates.map (λ z=>gateL z++[10]))=some ⟨⟨c.flows,c.tenants,c.channels,c.gates,[],0,0,0⟩,w4⟩:=e4
 rw [el,foldP_app,e1']
 show foldP _ _=_
 rw [foldP_app,e2']
 show foldP _ _=_
 rw [foldP_app,e3']
 show foldP _ _=_
 rw [foldP_app,e4']
 show foldP _ _=_
 rw [fold_cons (by show w4≠8;omega) t7,fold_cons (show (7:Int)≠8 by decide) t8]
 rfl
theorem no10_line {c:GConf}:∀ l∈linesP c,(10:UInt8)∉l:=by
 have hn:∀ ns:List Int,(10:UInt8)∉nums ns:=by
  intro ns h
  unfold nums at h
  obtain ⟨n,_,hn⟩:=List.mem_flatMap.1 h
  unfold num at hn
  rcases List.mem_cons.1 hn with h | h
  ·exact absurd h (by decide)
  ·exact itoa_no no10 h
 have ho:∀ o,(10:UInt8)∉opB o:=by intro o;cases o<;>decide
 have go:∀ (k:Bs) (ns:List Int),(10:UInt8)∉k→(10:UInt8)∉k++nums ns:=λ k ns hk h=>by
  rcases List.mem_append.1 h with h | h
  ·exact hk h
  ·exact hn ns h
 intro l hl
 simp only [linesP,lines3,lines2,lines1,List.mem_append,List.mem_map,List.mem_flatMap,List.mem_cons,List.not_mem_nil,or_false] at hl
 rcases hl with (((⟨z,hz,rfl⟩ | ⟨z,hz,rfl⟩) | ⟨x,hx,hl⟩) | ⟨z,hz,rfl⟩) | rfl | rfl
 ·exact go _ _ (by decide)
 ·exact go _ _ (by decide)
 ·simp only [chL,List.mem_append,List.mem_cons,List.mem_map] at hl
  rcases hl with (rfl | ⟨z,hz,rfl⟩) | ⟨z,hz,rfl⟩
  ·exact go _ _ (by decide)
  ·intro h
   rcases List.mem_append.1 h with h | h
   ·exact go _ _ (by decide) h
   ·exact ho _ h
  ·intro h
   rcases List.mem_append.1 h with h | h
   ·exact go _ _ (by decide) h
   ·exact ho _ h
 ·exact go _ _ (by decide)
 ·exact go _ _ (by decide)
 ·exact go _ _ (by decide)
theorem back {c:GConf} (hi:In64 c) (hm:manyP c=false) (hl:(strP c).length≤65536):parseP (strP c)=(c,0,0):=by
 have e:linesOf (strP c)=nlL c:=lines_flat (linesP c) no10_line
 unfold parseP
 rw [if_neg (by omega),e,back_fold hi hm]
 rfl
end Go.Proofs.YtppodgdhdddfkaaGreatDoor.Cg
set_option linter.unusedVariables false
set_option linter.unusedSimpArgs false
namespace Go.Proofs.YtppodgdhdddfkaaGreatDoor.Cg
open Go Go.RowKit Go.Proofs.YtppodgdhdddfkaaGreatDoor.Sx
open Go.Proofs.YtppodgdhdddfkaaGreatDoor.Bi (mixed take_s)
open Go.Proofs.YtppodgdhdddfkaaGreatDoor.Cf
open Go.Proofs.YtppodgdhdddfkaaGreatDoor.Sg
section
variable {Z:ZP} {w:World}
end
end Go.Proofs.YtppodgdhdddfkaaGreatDoor.Cg
