import Derived.Test.YtppodgdhdddfkaaGreatDoorQNa
set_option linter.unusedVariables false
set_option linter.unusedSimpArgs false
namespace Go.Proofs.YtppodgdhdddfkaaGreatDoor.Sc
set_option maxRecDepth 100000
open Go Go.RowKit Go.Proofs.YtppodgdhdddfkaaGreatDoor.Sx
open Go.Proofs.YtppodgdhdddfkaaGreatDoor.Sg
open Go.Proofs.YtppodgdhdddfkaaGreatDoor.Bi (mixed take_s)
open Go.Proofs.YtppodgdhdddfkaaGreatDoor.Hd (WfB Ebyte)
open Go.Proofs.YtppodgdhdddfkaaGreatDoor.Cg (mn toI textP)
def tE:GTick:=⟨[],[]⟩
theorem tE_small:smallT tE=true:=by decide
theorem tE_wf:WfG tE:=⟨λ b hb=>(nomatch hb),λ n hn=>(nomatch hn)⟩
theorem tE_bytes:bytesT tE=[0,0]:=by decide
theorem rep_bytes (m:Nat):((List.replicate m tE).flatMap bytesT).length=2 * m:=by
 induction m with
 | zero=>rfl
 | succ m ih=>rw [List.replicate_succ,List.flatMap_cons,List.length_append,ih,tE_bytes];simp;omega
theorem rep_text (m:Nat):(scrB (List.replicate m tE)).length=5 * m:=by
 unfold scrB scrL
 induction m with
 | zero=>rfl
 | succ m ih =>
  rw [List.replicate_succ,List.flatMap_cons,List.flatten_append,List.length_append,ih]
  have:(tickL tE).flatten.length=5:=by decide
  omega
theorem rep_small (m:Nat):∀ t∈List.replicate m tE,smallT t=true∧WfG t:=λ t ht=>by
 obtain rfl:=(List.mem_replicate.1 ht).2
 exact ⟨tE_small,tE_wf⟩
theorem rep_wf (m:Nat):WfB ((List.replicate m tE).flatMap bytesT++[0,0,0]):=λ z hz=>by
 rcases List.mem_append.1 hz with hz | hz
 ·obtain ⟨t,ht,hz⟩:=List.mem_flatMap.1 hz
  obtain rfl:=(List.mem_replicate.1 ht).2
  rw [tE_bytes] at hz
  simp at hz;omega
 ·simp at hz;omega
theorem textS_many {m:Nat} (h:4096 < m):textS exO (List.replicate m tE)=([],3)∧bytesS (List.replicate m tE)=([],3):=by
 have hs:smallS (List.replicate m tE)=false:=by
  unfold smallS
  rw [decide_eq_false (by rw [List.length_replicate];omega)]
  rfl
 exact ⟨by unfold textS;rw [if_pos hs],by unfold bytesS;rw [if_neg (by rw [hs];decide)]⟩
theorem textS_few {m:Nat} (h:m≤4096):(textS exO (List.replicate m tE)).2=0∧bytesS (List.replicate m tE)=((List.replicate m tE).flatMap bytesT,0):=by
 have hb:bytesS (List.replicate m tE)=((List.replicate m tE).flatMap bytesT,0):=bytesS_ok (λ t ht=>(rep_small m t ht).1) (by rw [List.length_replicate];exact h)
 have hs:smallS (List.replicate m tE)=true:=by
  unfold smallS
  simp only [Bool.and_eq_true,decide_eq_true_eq,List.all_eq_true]
  exact ⟨by rw [List.length_replicate];exact h,λ t ht=>(rep_small m t ht).1⟩
 refine ⟨?_,hb⟩
 have hl:(textP exO).1.length≤65536:=textP_len
 have h0:(textP exO).2=0:=by rw [exO_text]
 have hr:=rep_text m
 unfold textS
 rw [if_neg (by rw [hs];decide),if_neg (by rw [h0];decide),if_neg (by rw [List.length_append];omega)]
theorem read_many {m:Nat} (h:m≤4096):(readN 4096 ((List.replicate m tE).flatMap bytesT++[0,0,0])).1.length=min (m+1) 4096∧(readN 4096 ((List.replicate m tE).flatMap bytesT++[0,0,0])).2.length=if m=4096 then 3 else 1:=by
 rw [readN_back _ 4096 [0,0,0] (rep_small m) (by rw [List.length_replicate];exact h),List.length_replicate]
 have t1:tickR [0,0,0]=some (tE,[0]):=by rfl
 have t2:tickR [0]=none:=by rfl
 by_cases hm:m=4096
 ·subst hm
  rw [Nat.sub_self,if_pos rfl]
  simp [readN]
 ·rw [readN_go t1 (by omega),readN_no t2,if_neg hm]
  simp
  omega
section
variable {Z:ZP} {w w0:World} {R:Value→World→Prop} {A:List Nat→List Value→World→Prop} {B:List Nat→Nat→List Value→World→Prop} {ds:List Nat} {k:Value→T}
theorem rwBlk {α:Type} {e:Rl α} {w:World} {b:Nat} {T:TypeId} {cells:List Value} {xs:List α} (hB:Blk w b T cells) (h:∀ (j:Nat) x,xs[j]? = some x→e.r w ((cells.drop (j * e.n)).take e.n) x):Rw e w (some ⟨b,0,none⟩) xs:=by
 intro j x hj
 have hr:=h j x hj
 refine ⟨_,_,rfl,⟨e.len hr,λ i u hi=>?_⟩,hr⟩
 have hi2:cells[j * e.n+i]? = some u:=by
  rw [List.getElem?_take] at hi
  split at hi
  ·rw [List.getElem?_drop] at hi;exact hi
  ·cases hi
 show w.cell? ⟨b,0+j * e.n+i,none⟩=some u
 rw [Nat.zero_add]
 exact hB.cell hi2
theorem flat_dt (m j:Nat) (hj:j < m):((flat (λ (_:Unit)=>zT) (List.replicate m ())).drop (j * 2)).take 2=zT:=by
 apply List.ext_getElem?
 intro i
 rw [List.getElem?_take]
 split
 ·rename_i hi
  rw [List.getElem?_drop]
  exact flat_get (enc:=λ (_:Unit)=>zT) (k:=2) (λ _=>rfl) (i:=j) (x:=()) (by rw [List.getElem?_replicate,if_pos hj]) hi
 ·rename_i hi
  exact (List.getElem?_eq_none (by simp;omega)).symm
theorem r_mkT {m:Nat} (hm:m≤1000000) (hk:∀ X w',Rw rTick w' X (List.replicate m tE)→Fr [] w w'→wp Tryz.prog Z R ds (k (.slice X m m)) w' A B):wp Tryz.prog Z R ds (.hv (Instr.makeSlice 30 (I (m:Int)) (I (m:Int))) k) w A B:=by
 have hmk:madeCells (Value.agg #[.slice none 0 0,.slice none 0 0]).cells (m * 2)=(flat (λ (_:Unit)=>zT) (List.replicate m ())).toArray:=made_flat (enc:=λ (_:Unit)=>zT) (k:=2) (λ _=>rfl) () m
 refine r_hv (o:=⟨none,.makeSlice 30 (.const (I m)) (.const (I m)),0, "",#[],none⟩) (x_mk (l:=[]) (e:=76) 2 48 (.agg #[.slice none 0 0,.slice none 0 0]) rfl rfl (by kernel_rfl) (by kernel_rfl) hmk (by omega) (by omega)).ev ?_ rfl
 rintro _ w2 ⟨rfl,rfl⟩
 refine hk _ _ (rwBlk (Blk.alloc w _ _) (λ j x hj=>?_)) (Fr.alloc w _)
 rw [List.getElem?_replicate] at hj
 split at hj
 ·rename_i hjm
  cases hj
  show rTick.r _ (((flat (λ (_:Unit)=>zT) (List.replicate m ())).drop (j * 2)).take 2) tE
  rw [flat_dt m j hjm]
  exact mTick (x:=tE) ⟨Nat.le_refl _,Nat.zero_le _,λ j x hj=>(nomatch hj)⟩ ⟨Nat.le_refl _,Nat.zero_le _,λ j x hj=>(nomatch hj)⟩
 ·cases hj
theorem bs3 (w:World):(Instr.buildSlice 48 3 [(0,(.int .u8 0)),(1,(.int .u8 0)),(2,(.int .u8 0))].toArray).run Tryz.prog w=.ok (.slice (some ⟨w.heap.size,0,none⟩) 3 3) (w.alloc (.cells [Value.int .u8 0,Value.int .u8 0,Value.int .u8 0].toArray 5)):=by kernel_rfl
theorem rw3 (w:World):Rw (rI .u8) (w.alloc (.cells [Value.int .u8 0,Value.int .u8 0,Value.int .u8 0].toArray 5)) (some ⟨w.heap.size,0,none⟩) [0,0,0]:=rwBlk (Blk.alloc w _ _) (λ j x hj=>by
 match j,hj with
 | 0,hj=>cases hj;rfl
 | 1,hj=>cases hj;rfl
 | 2,hj=>cases hj;rfl)
theorem many26_t (G:SW w) {n:Int} (hn:0≤n∧n < 256):Cz Tryz.prog 6 [.int .u8 n] w (λ r w'=>r=.bool true∧Fr [] w w') Z:=by
 refine go mixed Tryz.func6 Tryz.call6 rfl (Tr.e6 _) ?_
 refine r_call (awake_t G) ?_
 rintro _ w1 ⟨rfl,f1⟩
 refine r_are (y:=n) (by rw [IntKind.wrap_i64];omega) ?_
 refine r_rem (by decide) ?_
 have e1:n.tmod 10=n % 10:=Int.tmod_eq_emod_of_nonneg hn.1
 rw [e1]
 obtain ⟨m,hm⟩:∃ m:Nat,4091+n % 10=(m:Int):=⟨(4091+n % 10).toNat,by omega⟩
 refine r_are (y:=(m:Int)) (by rw [IntKind.wrap_i64];omega) ?_
 have hm1:4091≤m∧m≤4100:=by omega
 clear hm e1
 refine r_mkT (by omega) (λ X w2 hr f2=>?_)
 have hll:(List.replicate m tE).length=m:=List.length_replicate
 refine r_call one_t ?_
 rintro _ w3 ⟨us,rfl,hus,f3⟩
 have hr:=hr.up f3
 have F3:=(f1.trans f2).trans f3
 have hs1:=sText_t (Z:=ZD [] Z) (cp:=m) hus exO_in hr (by rw [hll];simp only [big];omega) (λ t ht=>(rep_small m t ht).2) (G.up F3)
 rw [hll] at hs1
 refine r_call hs1 ?_
 rintro _ w4 ⟨rfl,f4⟩
 have hs2:=sBytes_t (Z:=ZD [] Z) (cp:=m) (hr.up f4) (by rw [hll];simp only [big];omega) (λ t ht=>(rep_small m t ht).2)
 rw [hll] at hs2
 refine r_call hs2 ?_
 rintro _ w5 ⟨v5,rfl,O5,f5⟩
 have F5:=(F3.trans f4).trans f5
 refine r_if (λ h=>?_) (λ h=>?_)
 ·obtain ⟨k1,k2⟩:=textS_many (m:=m) (by omega)
  rw [k1,k2]
  rw [k2] at O5
  obtain ⟨X5,c5,rfl,_⟩:=O5.row (by decide)
  refine r_teq (a:=[]) (b:=[]) ?_
  exact r_ret ⟨rfl,F5⟩
 ·obtain ⟨k1,k2⟩:=textS_few (m:=m) (by omega)
  rw [k1,k2]
  rw [k2] at O5
  have hb:=rep_bytes m
  obtain ⟨q1,q2⟩:=read_many (m:=m) (by omega)
  have hwf:=rep_wf m
  generalize hbs:(List.replicate m tE).flatMap bytesT=bs at O5 hb q1 q2 hwf
  obtain ⟨X5,c5,rfl,_⟩:=O5.row (by dsimp only;simp only [big];omega)
  refine ⟨_,_,bs3 w5,?_⟩
  have f6:=Fr.alloc w5 (.cells [Value.int .u8 0,Value.int .u8 0,Value.int .u8 0].toArray 5)
  have r3:=rw3 w5
  generalize (w5.alloc (.cells [Value.int .u8 0,Value.int .u8 0,Value.int .u8 0].toArray 5))=w6 at f6 r3 ⊢
  refine r_apps (xs:=[0,0,0]) Ebyte (O5.fr0 f6) rfl (Cg.RwO.plain plainI r3) (by simp only [big,List.length_cons,List.length_nil];omega) (by have:=f4.size;have:=f5.size;have:=f6.size;omega) (λ v7 w7 O7 f7 o7=>?_)
  have F7:=(F5.trans f6).trans_new f7 (λ q hq=>.inr (by have:=(O5.lt q hq).1;have:=F3.size;have:=f4.size;omega))
  have hbl:(bs++[0,0,0]).length=2 * m+3:=by rw [List.length_append,hb];rfl
  dsimp only at O7
  obtain ⟨X7,c7,rfl,y1,_,y3⟩:=O7.row (by rw [hbl];simp only [big];omega)
  refine r_call (sRead_t y3 y1 hwf (by omega)) ?_
  rintro _ w8 ⟨v8,rfl,S8,f8⟩
  obtain ⟨X8,c8,rfl,_⟩:=S8
  rw [q2,hbl,q1]
  have F8:=F7.trans f8
  refine r_if (λ h2=>?_) (λ h2=>?_)
  ·have h2:m=4096:=by omega
   refine r_if (λ _=>?_) (λ h=>absurd (by omega) h)
   refine r_ret ⟨?_,F8⟩
   rw [decide_eq_true (by rw [if_pos h2];dsimp only;omega)]
  ·refine r_ar (by omega) ?_
   refine r_if (λ _=>?_) (λ h=>absurd (by omega) h)
   refine r_ar (by dsimp only;omega) ?_
   refine r_ret ⟨?_,F8⟩
   rw [decide_eq_true (by rw [if_neg (by omega)];dsimp only;omega)]
theorem many_c (W:World) (G:SW W) (n:Int) (hn:(Lit.int .u8 n).wf=true):Cl Tryz.prog 6 [.int .u8 n] W (λ r w'=>r=.bool true∧Fr [] W w'):=by
 simp [Lit.wf,IntKind.min,IntKind.max,IntKind.bits,IntKind.signed] at hn
 exact (many26_t G (n:=n) (by omega)).cl
end
end Go.Proofs.YtppodgdhdddfkaaGreatDoor.Sc
