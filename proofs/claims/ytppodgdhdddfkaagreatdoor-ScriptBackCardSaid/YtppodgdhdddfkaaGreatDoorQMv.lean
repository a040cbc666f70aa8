import Derived.Test.YtppodgdhdddfkaaGreatDoorQMu
import Derived.Lib.AppendZerosOnto
set_option linter.unusedVariables false
set_option linter.unusedSimpArgs false
namespace Go.Proofs.YtppodgdhdddfkaaGreatDoor.Sc
set_option maxRecDepth 100000
open Go Go.RowKit Go.Proofs.YtppodgdhdddfkaaGreatDoor.Sx
open Go.Proofs.YtppodgdhdddfkaaGreatDoor.Sg
open Go.Proofs.YtppodgdhdddfkaaGreatDoor.Bi (mixed take_s Eint)
open Go.Proofs.YtppodgdhdddfkaaGreatDoor.Hd (WfB)
open Go.Proofs.YtppodgdhdddfkaaGreatDoor.Cg (splitP joinW splitP_len split_no head_no splitL_eq rw_blk r_callZ r_nnil r_nheld r_tne split_cons2 atoiP)
def Nu (w w':World) (φ:World→Prop):Prop:=∀ W S,Fr S w' W→(∀ q∈S,q < w.heap.size∨w'.heap.size≤q)→φ W
theorem Nu.now {w w':World} {φ:World→Prop} (h:Nu w w' φ):φ w':=h w' [] (Fr.refl [] w') (λ q hq=>(nomatch hq))
theorem Nu.go {w w' w2:World} {φ:World→Prop} {S:List Nat} (h:Nu w w' φ) (f:Fr S w' w2) (hS:∀ q∈S,q < w.heap.size∨w'.heap.size≤q):Nu w w2 φ:=λ W S' f' h'=>h W (S++S') ((f.mono (λ q hq=>by simp [hq])).trans (f'.mono (λ q hq=>by simp [hq]))) (λ q hq=>by
 rcases List.mem_append.1 hq with hq | hq
 ·exact hS q hq
 ·rcases h' q hq with h1 | h1
  ·exact .inl h1
  ·have:=f.size;exact .inr (by omega))
theorem Nu.off {w w':World} {φ:World→Prop} {S:List Nat} (h:Nu w w' φ) (hS:∀ q∈S,q < w.heap.size∨w'.heap.size≤q):Off S φ w':=λ W f=>h W S f hS
theorem cans_none {ls:List Bs} {i:Nat} {a:Bs} (h:ls[i]? = some a) (ha:canI a=none):cans ls=none:=by
 induction ls generalizing i with
 | nil=>simp at h
 | cons b r ih =>
  cases i with
  | zero=>simp at h;subst h;rw [cans,ha]
  | succ i=>rw [cans,ih (i:=i) (by simpa using h)];cases canI b<;>rfl
theorem cans_take {ls:List Bs} {i:Nat} {a:Bs} {v:Int} {l:List Int} (h:ls[i]? = some a) (ha:canI a=some v) (hl:cans (ls.take i)=some l):cans (ls.take (i+1))=some (l++[v]):=by
 induction ls generalizing i l with
 | nil=>simp at h
 | cons b r ih =>
  cases i with
  | zero =>
   simp at h;subst h
   simp [cans] at hl;subst hl
   simp [cans,ha]
  | succ i =>
   simp only [List.take_succ_cons,cans] at hl ⊢
   cases hb:canI b with
   | none=>rw [hb] at hl;simp at hl
   | some v0 =>
    rw [hb] at hl
    cases hr:cans (r.take i) with
    | none=>rw [hr] at hl;simp at hl
    | some l0 =>
     rw [hr] at hl
     simp at hl;subst hl
     rw [ih (i:=i) (by simpa using h) hr]
     rfl
theorem cans_len:∀ {ls:List Bs} {l:List Int},cans ls=some l→l.length=ls.length∧∀ n∈l,in64 n:=by
 intro ls
 induction ls with
 | nil=>intro l h;cases h;exact ⟨rfl,λ n hn=>(nomatch hn)⟩
 | cons b r ih =>
  intro l h
  rw [cans] at h
  cases hb:canI b with
  | none=>rw [hb] at h;cases h
  | some v =>
   rw [hb] at h
   cases hr:cans r with
   | none=>rw [hr] at h;cases h
   | some l0 =>
    rw [hr] at h
    cases h
    obtain ⟨h1,h2⟩:=ih hr
    refine ⟨by simp [h1],λ n hn=>?_⟩
    rcases List.mem_cons.1 hn with rfl | hn
    ·exact (canI_ok hb).2
    ·exact h2 n hn
def PkR (w0:World) (s:Bs) (r:Value) (w':World):Prop:=∃ cs t,picksP s=some t∧r=.agg cs.toArray∧Nu w0 w' (λ W=>rTick.r W cs t)∧Fr [] w0 w'
abbrev zT:List Value:=[.slice none 0 0,.slice none 0 0]
section
variable {Z:ZP} {w w0:World} {R:Value→World→Prop} {A:List Nat→List Value→World→Prop} {B:List Nat→Nat→List Value→World→Prop}
theorem picks_t (s:Bs) (hl:s.length≤9000000) (G:GW w):Cz Tryz.prog 76 [Tx s] w (PkR w s) (ZS (picksP s=none) [] w):=by
 have hsp:=split_cons2 s
 have hln:=splitP_len 32 s
 have epk:picksP s=if (splitP 32 s).headD []=kTick then (cans (splitP 32 s).tail).bind λ v=>if smallT ⟨[],v⟩=true then some ⟨[],v⟩ else none else none:=rfl
 refine go mixed Tryz.func76 Tryz.call76 rfl (Tr.e76 _) ?_
 refine b_al (zs:=zT) (Bx.nil w) Tryz.zeroValue76 (λ v2 w1 H=>?_)
 refine r_call (Split_t s 32 hl (G.up H.F).m) ?_
 rintro vw w2 ⟨HW,f2⟩
 have H:=H.fr f2
 rw [splitL_eq] at HW
 generalize (splitP 32 s).headD []=h at hsp epk
 generalize (splitP 32 s).tail=ws at hsp epk
 rw [hsp] at HW hln
 obtain ⟨X,c,rfl,hc1,hc2,hr⟩:=HW
 have hwl:∀ a∈h :: ws,a.length≤9000000:=λ a ha=>Nat.le_trans (hln.2 a ha) hl
 refine b_al (zs:=zT) (Bx.nil w2) Tryz.zeroValue76 (λ v4 w3 H4=>?_)
 have f4:=H4.F
 have g4:=H4.ge (i:=0) rfl
 have H:=bjoin H H4
 clear H4
 obtain ⟨ad,es,rfl,rd,e3⟩:=hr 0 h rfl
 obtain rfl:=e3
 refine r_ob ⟨by decide,by simp⟩ ?_
 refine r_ld (cell1 (rd.fr f4)) ?_
 refine r_tne ?_
 refine r_if (λ hk=>?_) (λ hk=>?_)
 ·refine r_pans ⟨?_,rfl,H.F⟩
  rw [epk]
  exact if_neg hk
 have epk:picksP s=(cans ws).bind λ v=>if smallT ⟨[],v⟩=true then some ⟨[],v⟩ else none:=epk.trans (if_pos (Classical.not_not.1 hk))
 refine r_sll (e:=rT) (l:=1) Tryz.underlying71 Tryz.sizeOf9 rfl (by simp) hc1 (λ X' hX'=>?_)
 have hr2:=hX' _ _ hr
 have e1:(((h :: ws).drop 1).take ((h :: ws).length-1))=ws:=by simp
 rw [e1] at hr2
 have e2:(h :: ws).length-1=ws.length:=by simp
 rw [e2]
 have hwn:ws.length≤9000001:=by have:=hln.1;simp at this;omega
 have l4:=(H.blk (i:=0) rfl).lt
 have l2:=(H.blk (i:=1) rfl).lt
 refine r_loop (λ (i:Nat)=>[I (i:Int)]) (λ i W=>i≤ws.length∧Fr [v4] w3 W∧∃ l u,cans (ws.take i)=some l∧Bx w W [(v4,76,[.slice none 0 0,u]),(v2,76,zT)]∧Or (rI .i64) 3 w3.heap.size [] W u l) (λ i=>ws.length-i) 0 ⟨Nat.zero_le _,(Fr.refl [] w3).of0,[],.slice none 0 0,rfl,H,Or.nil⟩ rfl ?_
 rintro i W ⟨hi,FW,l,u,hcl,HW,HO⟩
 have hll:=(cans_len hcl).1
 rw [List.length_take] at hll
 refine r_if (λ hlt=>?_) (λ hlt=>?_)
 ·obtain ⟨a,ha⟩:=gt (xs:=ws) (j:=i) (by omega)
  have hal:=hwl a (List.mem_cons_of_mem _ (List.mem_of_getElem? ha))
  have F2:Fr [] w2 W:=f4.trans_new FW (λ q hq=>.inr (by simp at hq;omega))
  obtain ⟨ad2,es2,rfl,rd2,e4⟩:=(hr2.up F2) i a ha
  obtain rfl:=e4
  refine r_ob ⟨by omega,by omega⟩ ?_
  refine r_ld (cell1 rd2) ?_
  refine r_call (Atoi_t a hal (G.up HW.F).e) ?_
  rintro _ W1 ⟨F1,⟨v,hv,rfl⟩ | ⟨hv,z,tt,p,rfl⟩⟩
  ·have hcan:canI a=if Lib.itoa v=a then some v else none:=by
    rw [canI_atoi]
    unfold atoiP
    rw [hv]
   have hv64:in64 v:=Cg.atoiP_in64 (a:=a) (by unfold atoiP;rw [hv])
   refine r_nnil _ (by kernel_rfl) ?_
   have HW:=HW.fr F1
   refine r_call (Itoa_t v hv64 (G.up HW.F).t) ?_
   rintro _ W3 ⟨rfl,F3⟩
   have HW:=HW.fr F3
   have HO:=HO.fr0 (F1.trans F3)
   have FW:=FW.trans ((F1.trans F3).mono (by simp))
   refine r_tne ?_
   refine r_if (λ hne=>?_) (λ hne=>?_)
   ·refine r_pans ⟨?_,rfl,HW.F⟩
    rw [epk,cans_none ha (by rw [hcan,if_neg hne])];rfl
   have hvs:canI a=some v:=by rw [hcan,if_pos (Classical.not_not.1 hne)]
   refine b_ld HW 0 (j:=1) rfl rfl ?_
   refine r_appL (x:=v) (es:=[I v]) Eint HO (λ _ _=>rfl) (by simp only [big];omega) FW.size (λ u' W4 O4 f4' o4=>?_)
   have hown:∀ q∈u.ownBlock.toList,w3.heap.size≤q:=λ q hq=>(HO.lt q hq).1
   have HW:=HW.frS f4' (λ q hq=>by have:=hown q hq;have:=H.F.size;omega) (λ q hq p hp=>by
    have:=hown q hq
    simp only [List.mem_cons,List.not_mem_nil,or_false] at hp
    rcases hp with rfl | rfl<;>(dsimp only;omega))
   have hl4:(l++[v]).length≤big:=by simp only [big,List.length_append,List.length_singleton];omega
   obtain ⟨X4,c4,rfl,_⟩:=O4.row hl4
   refine r_st1 (o:=1) (HW.blk (i:=0) rfl) Tryz.sizeOf27 (λ W5 B5 f5=>?_)
   have HW:=HW.set (i:=0) rfl B5 f5
   have hown4:∀ q∈(Value.slice X4 (l++[v]).length c4).ownBlock.toList,q≠v4:=λ q hq e=>by have:=(O4.lt q hq).1;omega
   refine r_ar (by omega) ?_
   refine r_ag (i+1) ⟨by omega,(FW.trans_new f4' (λ q hq=>.inr (hown q hq))).trans f5,l++[v],_,cans_take ha hvs hcl,HW,O4.upP plainI f5 (λ q hq hm=>hown4 q hm (by simpa using hq))⟩ (by omega) rfl
  ·refine r_nheld (by kernel_rfl) ?_
   refine r_pans ⟨?_,rfl,(HW.fr F1).F⟩
   have hcan:canI a=none:=by
    rw [canI_atoi]
    unfold atoiP
    rcases hx:Lib.atoiAll a with v | _ | _
    ·exact absurd hx (hv v)
    ·rfl
    ·rfl
   rw [epk,cans_none ha hcan];rfl
 ·obtain rfl:i=ws.length:=by omega
  rw [List.take_length] at hcl
  rw [hcl] at epk
  refine r_brk ?_
  obtain ⟨X1,c1,rfl,u1,u2,u3⟩:=HO.row (by simp only [big];omega)
  refine b_ldn HW 0 rfl ?_
  have htk:rTick.r W [.slice none 0 0,.slice X1 l.length c1] ⟨[],l⟩:=mTick (x:=⟨[],l⟩) ⟨Nat.le_refl _,Nat.zero_le _,Rw.nil⟩ ⟨u1,u2,u3⟩
  refine r_call (smallTick_t htk) ?_
  rintro _ W2 ⟨rfl,f2⟩
  have HW:=HW.fr f2
  have HO:=HO.fr0 f2
  refine r_ifbn (λ hs=>?_) (λ hs=>?_)
  ·refine r_pans ⟨?_,rfl,HW.F⟩
   rw [epk]
   show (if smallT ⟨[],l⟩=true then _ else _)=_
   rw [hs];rfl
  ·refine b_ldn HW 0 rfl ?_
   refine r_stn (cs:=[.slice none 0 0,.slice X1 l.length c1]) (HW.blk (i:=1) rfl) Tryz.sizeOf76 (by simp [Value.oneCell']) (λ W3 B3 f3=>?_)
   have HW:=HW.set (i:=1) rfl B3 f3
   refine b_ldn HW 1 rfl ?_
   refine b_ret HW (λ F=>⟨[.slice none 0 0,.slice X1 l.length c1],⟨[],l⟩,?_,rfl,?_,F⟩)
   ·rw [epk]
    show (if smallT ⟨[],l⟩=true then _ else _)=_
    rw [if_pos hs]
   ·have HO3:=HO.upP (S2:=[]) plainI f3 (λ q hq hm=>by have:=(HO.lt q hm).1;simp at hq;omega)
    intro W4 S f4' hS
    have:=H.F.size
    have HO4:=HO3.upP (S2:=[]) plainI f4' (λ q hq hm=>by have:=HO3.lt q hm;rcases hS q hq with h | h<;>omega)
    exact mTick (x:=⟨[],l⟩) ⟨Nat.le_refl _,Nat.zero_le _,Rw.nil⟩ (by
     obtain ⟨_,_,e0,g1,g2,g3⟩:=HO4.row (by simp only [big];omega)
     cases e0
     exact ⟨g1,g2,g3⟩)
end
end Go.Proofs.YtppodgdhdddfkaaGreatDoor.Sc
set_option linter.unusedVariables false
set_option linter.unusedSimpArgs false
namespace Go.Proofs.YtppodgdhdddfkaaGreatDoor.Sc
set_option maxRecDepth 100000
open Go Go.RowKit Go.Proofs.YtppodgdhdddfkaaGreatDoor.Sx
open Go.Proofs.YtppodgdhdddfkaaGreatDoor.Sg
open Go.Proofs.YtppodgdhdddfkaaGreatDoor.Bi (mixed take_s Eint)
open Go.Proofs.YtppodgdhdddfkaaGreatDoor.Hd (WfB Ebyte)
open Go.Proofs.YtppodgdhdddfkaaGreatDoor.Cg (r_callZ)
def dgC:List Value:=[.int .u8 48,.int .u8 49,.int .u8 50,.int .u8 51,.int .u8 52,.int .u8 53,.int .u8 54,.int .u8 55,.int .u8 56,.int .u8 57,.int .u8 97,.int .u8 98,.int .u8 99,.int .u8 100,.int .u8 101,.int .u8 102]
theorem dg_index (w:World):∀ k:Nat,k < 16→(Instr.index 194 (.agg dgC.toArray) (I k)).run Tryz.prog w=.ok (.int .u8 (hxI k)) w
 | 0,_=>by kernel_rfl
 | 1,_=>by kernel_rfl
 | 2,_=>by kernel_rfl
 | 3,_=>by kernel_rfl
 | 4,_=>by kernel_rfl
 | 5,_=>by kernel_rfl
 | 6,_=>by kernel_rfl
 | 7,_=>by kernel_rfl
 | 8,_=>by kernel_rfl
 | 9,_=>by kernel_rfl
 | 10,_=>by kernel_rfl
 | 11,_=>by kernel_rfl
 | 12,_=>by kernel_rfl
 | 13,_=>by kernel_rfl
 | 14,_=>by kernel_rfl
 | 15,_=>by kernel_rfl
 | n+16,h=>absurd h (by omega)
theorem dg_get:∀ k:Nat,k < 16→dgC[k]? = some (.int .u8 (hxI k))
 | 0,_=>rfl
 | 1,_=>rfl
 | 2,_=>rfl
 | 3,_=>rfl
 | 4,_=>rfl
 | 5,_=>rfl
 | 6,_=>rfl
 | 7,_=>rfl
 | 8,_=>rfl
 | 9,_=>rfl
 | 10,_=>rfl
 | 11,_=>rfl
 | 12,_=>rfl
 | 13,_=>rfl
 | 14,_=>rfl
 | 15,_=>rfl
 | n+16,h=>absurd h (by omega)
theorem dg_rd {w:World} (D:DgW w):Rd w 16 ⟨0,0,none⟩ dgC:=⟨rfl,λ j v h=>by
 have hj:j < 16:=(List.getElem?_eq_some_iff.1 h).1
 have:=D j hj
 rw [Nat.mul_one] at this
 rw [dg_get j hj] at h
 cases h
 exact this⟩
theorem unD_some {c:UInt8} {d:Nat} (hd:d < 16) (h:hxI d=(c.toNat:Nat)):unD c=some (d:Int):=by
 unfold hxI at h
 unfold unD
 split at h
 ·rw [if_pos (by omega)];congr 1;omega
 ·rw [if_neg (by omega),if_pos (by omega)];congr 1;omega
theorem unD_none {c:UInt8} (h:∀ d:Nat,d < 16→hxI d≠(c.toNat:Nat)):unD c=none:=by
 unfold unD
 split
 ·rename_i hc
  exact absurd (by unfold hxI;rw [if_pos (by omega)];omega) (h (c.toNat-48) (by omega))
 ·split
  ·rename_i hc
   exact absurd (by unfold hxI;rw [if_neg (by omega)];omega) (h (c.toNat-87) (by omega))
  ·rfl
theorem unD_lt {c:UInt8} {d:Int} (h:unD c=some d):0≤d∧d < 16:=by
 unfold unD at h
 split at h
 ·cases h;omega
 ·split at h
  ·cases h;omega
  ·cases h
theorem or16:∀ d e:Fin 16,bits .or .u8 (16 * (d.val:Int)) (e.val:Int)=16 * (d.val:Int)+e.val:=by decide
section
variable {P:Program} {Z:ZP} {R:Value→World→Prop} {w w0:World} {A:List Nat→List Value→World→Prop} {B:List Nat→Nat→List Value→World→Prop} {ds:List Nat} {k:Value→T}
theorem r_or16 {ty:Nat} {d e:Int} (hd:0≤d∧d < 16) (he:0≤e∧e < 16) (hk:wp P Z R ds (k (.int .u8 (16 * d+e))) w A B):wp P Z R ds (.pu (binOp .or ty (.int .u8 (16 * d)) (.int .u8 e)) k) w A B:=by
 have h:=or16 ⟨d.toNat,by omega⟩ ⟨e.toNat,by omega⟩
 rw [show (((⟨d.toNat,by omega⟩:Fin 16).val:Nat):Int)=d from (by show ((d.toNat:Nat):Int)=d;omega),show (((⟨e.toNat,by omega⟩:Fin 16).val:Nat):Int)=e from (by show ((e.toNat:Nat):Int)=e;omega)] at h
 exact ⟨_,λ w'=>by rw [binOp_or];rw [← h];rfl,hk⟩
theorem r_shl8 {ty:Nat} {d:Int} (hd:0≤d∧d < 16) (hk:wp P Z R ds (k (.int .u8 (16 * d))) w A B):wp P Z R ds (.pu (binOp .shl ty (.int .u8 d) (.int .u64 4)) k) w A B:=by
 have e:Op.shift .shl .u8 d .u64 4=pure (.int .u8 (16 * d)):=by
  unfold Op.shift
  rw [if_neg (by omega)]
  show (pure (.int .u8 (IntKind.u8.wrap (d * 2 ^ 4))):Sem Value)=_
  rw [u8w]
  congr 2
  omega
 exact ⟨_,λ w'=>by rw [binOp_shl,e];rfl,hk⟩
end
section
variable {Z:ZP} {w w0:World} {R:Value→World→Prop} {A:List Nat→List Value→World→Prop} {B:List Nat→Nat→List Value→World→Prop}
theorem half_t (c:UInt8) (D:DgW w):Cz Tryz.prog 163 [.int .u8 (c.toNat:Nat)] w (λ r w'=>∃ d,unD c=some d∧r=.int .u8 d∧w'=w) (ZS (unD c=none) [] w):=by
 refine go mixed Tryz.func163 Tryz.call163 rfl (Tr.e163 _) ?_
 refine r_ldn (dg_rd D) ?_
 refine r_loop (λ (i:Nat)=>[I (i:Int),.int .u8 0]) (λ i w'=>i≤16∧(∀ d:Nat,d < i→hxI d≠(c.toNat:Nat))∧w'=w) (λ i=>16-i) 0 ⟨Nat.zero_le _,λ d h=>absurd h (by omega),rfl⟩ rfl ?_
 rintro i w1 ⟨hi,hno,rfl⟩
 refine r_if (λ h=>?_) (λ h=>?_)
 ·refine r_pus (λ w'=>dg_index w' i (by omega)) ?_
  refine r_if (λ e=>?_) (λ e=>?_)
  ·have hd:=unD_some (c:=c) (d:=i) (by omega) e
   refine r_are (y:=(i:Int)) (by rw [u8w];omega) ?_
   exact r_ret ⟨i,hd,rfl,rfl⟩
  ·refine r_ar (by omega) ?_
   refine r_ag (i+1) ⟨by omega,λ d hd=>?_,rfl⟩ (by omega) rfl
   rcases Nat.lt_or_ge d i with h' | h'
   ·exact hno d h'
   ·obtain rfl:d=i:=by omega
    exact e
 ·obtain rfl:i=16:=by omega
  refine r_brk ?_
  exact r_pans ⟨unD_none hno,rfl,Fr.refl _ _⟩
theorem unhexP_two {a b:UInt8} {r:Bs} {x y:Int} (ha:unD a=some x) (hb:unD b=some y):unhexP (a :: b :: r)=(unhexP r).map λ l=>(16 * x+y) :: l:=by
 rw [unhexP,ha,hb]
 cases unhexP r<;>rfl
theorem unhexP_bad {a b:UInt8} {r:Bs} (h:unD a=none∨unD b=none):unhexP (a :: b :: r)=none:=by
 rw [unhexP]
 rcases h with h | h
 ·rw [h]
 ·rw [h];cases unD a<;>rfl
theorem unhexP_odd:∀ (n:Nat) (s:Bs),s.length≤n→s.length % 2=1→unhexP s=none:=by
 intro n
 induction n with
 | zero=>intro s h h1;omega
 | succ n ih =>
  intro s h h1
  match s,h,h1 with
  | [_],_,_=>rfl
  | a :: b :: r,h,h1 =>
   rw [unhexP,ih r (by simp at h;omega) (by simp at h1;omega)]
   cases unD a<;>cases unD b<;>rfl
theorem unhex_t (s:Bs) (G:DgW w):Cz Tryz.prog 123 [Tx s] w (λ r w'=>s.length≤32∧s≠[]∧∃ b,unhexP s=some b∧WfB b∧Or (rI .u8) 5 w.heap.size [] w' r b∧Fr [] w w') (ZS (unhexP s=none∨32 < s.length∨s=[]) [] w):=by
 refine go mixed Tryz.func123 Tryz.call123 rfl (Tr.e123 _) ?_
 refine r_tlen Tryz.underlying9 ?_
 refine r_rem (by decide) ?_
 refine r_if (λ h=>?_) (λ h=>?_)
 ·refine r_pans ⟨.inl (unhexP_odd s.length s (Nat.le_refl _) ?_),rfl,Fr.refl _ _⟩
  rw [Int.tmod_eq_emod_of_nonneg (by omega)] at h
  omega
 have hev:s.length % 2=0:=by
  have h:=Classical.not_not.1 h
  rw [Int.tmod_eq_emod_of_nonneg (by omega)] at h
  omega
 refine r_tlen Tryz.underlying9 ?_
 refine r_if (λ h2=>?_) (λ h2=>?_)
 ·exact r_pans ⟨.inr (.inl (by omega)),rfl,Fr.refl _ _⟩
 refine r_teq (a:=s) (b:=[]) ?_
 refine r_if (λ h3=>?_) (λ h3=>?_)
 ·exact r_pans ⟨.inr (.inr h3),rfl,Fr.refl _ _⟩
 refine r_loop (λ (x:Nat × Value)=>[I ((2 * x.1:Nat):Int),x.2]) (λ x W=>2 * x.1≤s.length∧Fr [] w W∧∃ b,b.length=x.1∧WfB b∧Or (rI .u8) 5 w.heap.size [] W x.2 b∧unhexP s=(unhexP (s.drop (2 * x.1))).map λ l=>b++l) (λ x=>s.length-2 * x.1) (0,.slice none 0 0) ⟨Nat.zero_le _,Fr.refl _ _,[],rfl,λ _ h=>(nomatch h),Or.nil,by simp⟩ rfl ?_
 rintro ⟨i,v⟩ W ⟨hi,F,b,hb,hwb,HO,hu⟩
 dsimp only at hi hb HO hu
 refine r_tlen Tryz.underlying9 ?_
 refine r_if (λ h4=>?_) (λ h4=>?_)
 ·dsimp only at h4
  obtain ⟨x,hx⟩:=gt (xs:=s) (j:=2 * i) (by omega)
  obtain ⟨y,hy⟩:=gt (xs:=s) (j:=2 * i+1) (by omega)
  have hdr:s.drop (2 * i)=x :: y :: s.drop (2 * (i+1)):=by
   rw [List.drop_eq_getElem_cons (by omega),List.drop_eq_getElem_cons (i:=2 * i+1) (by omega),show 2 * i+1+1=2 * (i+1) by omega,(List.getElem?_eq_some_iff.1 hx).2,(List.getElem?_eq_some_iff.1 hy).2]
  rw [hdr] at hu
  refine r_dr (λ W1 f1=>?_)
  refine r_tix (a:=s) Tryz.underlying9 (2 * i) rfl hx ?_
  refine r_ar (by dsimp only;omega) ?_
  refine r_tix (a:=s) Tryz.underlying9 (2 * i+1) (by dsimp only;omega) hy ?_
  refine r_callZ (half_t x (G.up (F.trans f1))) ?_ (λ c w' hz=>?_)
  rotate_left
  ·obtain ⟨h1,rfl,h3⟩:=hz
   exact ⟨.inl (by rw [hu,unhexP_bad (.inl h1)];rfl),rfl,(F.trans f1).trans h3⟩
  rintro _ W2 ⟨d,hd,rfl,rfl⟩
  refine r_shl8 (unD_lt hd) ?_
  refine r_callZ (half_t y (G.up (F.trans f1))) ?_ (λ c w' hz=>?_)
  rotate_left
  ·obtain ⟨h1,rfl,h3⟩:=hz
   exact ⟨.inl (by rw [hu,unhexP_bad (.inr h1)];rfl),rfl,(F.trans f1).trans h3⟩
  rintro _ W3 ⟨e,he,rfl,rfl⟩
  have l1:=unD_lt hd
  have l2:=unD_lt he
  refine r_or16 l1 l2 ?_
  refine r_appL (x:=16 * d+e) (es:=[.int .u8 (16 * d+e)]) Ebyte (HO.fr0 f1) (λ _ _=>rfl) (by simp only [big];omega) (F.trans f1).size (λ v' W4 O4 f4 o4=>?_)
  refine r_ar (by dsimp only;omega) ?_
  refine r_ag (s:=(i,v)) (i+1,v') ⟨by dsimp only;omega,(F.trans f1).trans_new f4 (λ q hq=>.inr (HO.lt q hq).1),b++[16 * d+e],by simp [hb],?_,O4,?_⟩ (by dsimp only;omega) (by dsimp only;rw [show ((2 * (i+1):Nat):Int)=((2 * i:Nat):Int)+2 by omega])
  ·intro z hz
   rcases List.mem_append.1 hz with hz | hz
   ·exact hwb z hz
   ·simp at hz;subst hz;omega
  ·rw [hu,unhexP_two hd he]
   dsimp only
   cases unhexP (s.drop (2 * (i+1))) with
   | none=>rfl
   | some l=>simp
 ·dsimp only at h4
  rw [List.drop_of_length_le (by omega)] at hu
  refine r_brk (r_ret ⟨by omega,h3,b,?_,hwb,HO,F⟩)
  rw [hu,unhexP]
  simp
end
end Go.Proofs.YtppodgdhdddfkaaGreatDoor.Sc
set_option linter.unusedVariables false
set_option linter.unusedSimpArgs false
namespace Go.Proofs.YtppodgdhdddfkaaGreatDoor.Sx
open Go Go.RowKit
section
variable {w w':World}
theorem off_blk {α:Type} {e:Rl α} {S:List Nat} {a:Addr} {xs:List α} (h:Off S (λ w=>Rw e w (some a) xs) w) (hn:0 < e.n) (hx:xs≠[]):a.block∉S:=by
 intro hS
 let W:World:={ w with heap:=w.heap.setIfInBounds a.block (.deferred (some [])) }
 have f:Fr S w W:=⟨rfl,rfl,rfl,by simp [W],λ k hk hkS=>by
  have hne:a.block≠k:=λ e=>hkS (e ▸ hS)
  show (w.heap.setIfInBounds a.block (.deferred (some [])))[k]? = _
  rw [Array.getElem?_setIfInBounds_ne hne]⟩
 obtain ⟨x,r,rfl⟩:=List.exists_cons_of_ne_nil hx
 obtain ⟨a',es,e1,rd,_⟩:=h W f 0 x rfl
 cases e1
 have h0:0 < es.length:=by rw [rd.1];exact hn
 have hc:=rd.2 0 es[0] (List.getElem?_eq_getElem h0)
 have hb:(addA (addA a (0 * e.n)) 0).block=a.block:=by
  rw [addA_eq,addA_eq]
  simp [Addr.add]
 unfold World.cell? at hc
 rw [hb] at hc
 have hW:W.heap[a.block]? = some (.deferred (some []))∨W.heap[a.block]? = none:=by
  show (w.heap.setIfInBounds a.block (.deferred (some [])))[a.block]? = _∨(w.heap.setIfInBounds a.block (.deferred (some [])))[a.block]? = _
  rw [Array.getElem?_setIfInBounds_self]
  split
  ·exact .inl rfl
  ·exact .inr rfl
 rcases hW with h1 | h1<;>rw [h1] at hc<;>cases hc
theorem rd_fr {S:List Nat} {n:Nat} {a:Addr} {cs:List Value} (h:Rd w n a cs) (f:Fr S w w') (hS:a.block∉S):Rd w' n a cs:=⟨h.1,λ j v hv=>f.cell (h.2 j v hv) (by rw [addA_eq];unfold Addr.add;split<;>exact hS)⟩
theorem rd_inj {n:Nat} {a:Addr} {cs ds:List Value} (h:Rd w n a cs) (h2:Rd w n a ds):cs=ds:=by
 apply List.ext_getElem?
 intro i
 rcases Nat.lt_or_ge i n with hi | hi
 ·obtain ⟨u,hu⟩:=gt (xs:=cs) (j:=i) (by rw [h.1];exact hi)
  obtain ⟨v,hv⟩:=gt (xs:=ds) (j:=i) (by rw [h2.1];exact hi)
  have e1:=h.2 i u hu
  have e2:=h2.2 i v hv
  rw [e1] at e2
  rw [hu,hv]
  exact e2
 ·rw [List.getElem?_eq_none (by rw [h.1];exact hi),List.getElem?_eq_none (by rw [h2.1];exact hi)]
theorem addA_block (a:Addr) (n:Nat):(addA a n).block=a.block:=by
 rw [addA_eq];unfold Addr.add;split<;>rfl
theorem offO {α:Type} {e:Rl α} {S:List Nat} {A:Option Addr} {xs:List α} (h:Off S (λ w=>Rw e w A xs) w) (hn:0 < e.n):RwO S e w A xs:=by
 intro j x hj
 obtain ⟨a,es,rfl,rd,er⟩:=h.now j x hj
 have hx:xs≠[]:=by rintro rfl;simp at hj
 have hb:=off_blk h hn hx
 refine ⟨a,es,rfl,rd,λ W f=>?_⟩
 obtain ⟨a',es',e0,rd',er'⟩:=h W f j x hj
 cases e0
 have:=rd_inj rd' (rd_fr rd f (by rw [addA_block];exact hb))
 subst this
 exact er'
theorem splice_get (vs:List Value):∀ (cs:List Value) (o:Nat),o+vs.length≤cs.length→∀ k,(splice cs o vs)[k]? = if o≤k∧k < o+vs.length then vs[k-o]? else cs[k]?:=by
 induction vs with
 | nil=>intro cs o h k;rw [if_neg (by rintro ⟨h1,h2⟩;simp at h2;omega)];rfl
 | cons v r ih =>
  intro cs o h k
  rw [List.length_cons] at h
  show (splice (cs.set o v) (o+1) r)[k]? = _
  rw [ih (cs.set o v) (o+1) (by rw [List.length_set];omega) k,List.length_cons]
  rcases Nat.lt_trichotomy k o with hk | hk | hk
  ·rw [if_neg (by omega),if_neg (by omega),List.getElem?_set_ne (by omega)]
  ·subst hk
   rw [if_neg (by omega),if_pos (by omega),List.getElem?_set_self (by omega),Nat.sub_self]
   try rfl
  ·by_cases h2:k < o+(r.length+1)
   ·rw [if_pos (by omega),if_pos (by omega),show k-o=(k-(o+1))+1 by omega,List.getElem?_cons_succ]
   ·rw [if_neg (by omega),if_neg (by omega),List.getElem?_set_ne (by omega)]
theorem window {l l':List Value} {p n:Nat} (h:∀ k,k < n→l[p+k]? = l'[p+k]?):(l.drop p).take n=(l'.drop p).take n:=by
 apply List.ext_getElem?
 intro k
 rw [List.getElem?_take,List.getElem?_take]
 split
 ·rw [List.getElem?_drop,List.getElem?_drop];exact h k (by assumption)
 ·rfl
theorem Or.put {α:Type} {e:Rl α} {ety base g len cap i:Nat} {S:List Nat} {xs:List α} {x:α} {es:List Value} (HO:Or e ety base S w (.slice (some ⟨g,0,none⟩) len cap) xs) (hi:i < xs.length) (hes:es.length=e.n) (hx:Off (g :: S) (λ w=>e.r w es x) w) :
  ∃ cells,Blk w g ety cells∧i * e.n+e.n≤cells.length∧∀ w',Blk w' g ety (splice cells (i * e.n) es)→Fr [g] w w'→Or e ety base S w' (.slice (some ⟨g,0,none⟩) len cap) (xs.set i x):=by
 obtain ⟨cells,⟨hl,⟨h0,_⟩ | ⟨g',cap',cur,h0,hbg,hg,hnc,hcm,hcs,htake⟩⟩,hxs⟩:=HO
 ·cases h0
 cases h0
 have hle:(i+1) * e.n≤xs.length * e.n:=Nat.mul_le_mul_right _ hi
 rw [Nat.add_mul,Nat.one_mul] at hle
 have hle2:xs.length * e.n≤cap * e.n:=Nat.mul_le_mul_right _ hnc
 have hct:cur.toList.length=cap * e.n:=by simpa using hcs
 have hcl:i * e.n+e.n≤cur.toList.length:=by rw [hct];omega
 refine ⟨cur.toList,by unfold Blk;rw [hg],hcl,λ w' hB f=>?_⟩
 have hlen:=splice_length es cur.toList (i * e.n)
 refine ⟨(splice cur.toList (i * e.n) es).take (xs.length * e.n),⟨?_,.inr ⟨g,cap,(splice cur.toList (i * e.n) es).toArray,by rw [List.length_set],hbg,hB,by rw [List.length_set];exact hnc,hcm,?_,by rw [List.length_set]⟩⟩,λ j y hj=>?_⟩
 ·rw [List.length_take,hlen,hct,List.length_set];omega
 ·rw [List.size_toArray,hlen,hct]
 ·have hjl:=(List.getElem?_eq_some_iff.1 hj).1
  rw [List.length_set] at hjl
  have hjle:(j+1) * e.n≤xs.length * e.n:=Nat.mul_le_mul_right _ hjl
  rw [Nat.add_mul,Nat.one_mul] at hjle
  have hget:=splice_get es cur.toList (i * e.n) (by rw [hes];exact hcl)
  rw [List.getElem?_set] at hj
  by_cases hij:i=j
  ·subst hij
   rw [if_pos rfl,if_pos hi] at hj
   cases hj
   have ew:(((splice cur.toList (i * e.n) es).take (xs.length * e.n)).drop (i * e.n)).take e.n=es:=by
    apply List.ext_getElem?
    intro k
    rw [List.getElem?_take]
    split
    ·rw [List.getElem?_drop,List.getElem?_take,if_pos (by omega),hget,if_pos (by omega),Nat.add_sub_cancel_left]
    ·rw [List.getElem?_eq_none (by omega)]
   rw [ew]
   exact hx.go f (λ q hq=>.inl (by simp at hq;subst hq;simp)) (λ q hq=>.inl hq)
  ·rw [if_neg hij] at hj
   have ew:(((splice cur.toList (i * e.n) es).take (xs.length * e.n)).drop (j * e.n)).take e.n=(cells.drop (j * e.n)).take e.n:=by
    refine window (λ k hk=>?_)
    rw [← htake,List.getElem?_take,List.getElem?_take,if_pos (by omega),if_pos (by omega),hget,if_neg ?_]
    rintro ⟨h1,h2⟩
    rcases Nat.lt_or_ge j i with h | h
    ·have:(j+1) * e.n≤i * e.n:=Nat.mul_le_mul_right _ h
     rw [Nat.add_mul,Nat.one_mul] at this
     omega
    ·have:(i+1) * e.n≤j * e.n:=Nat.mul_le_mul_right _ (by omega)
     rw [Nat.add_mul,Nat.one_mul] at this
     omega
   rw [ew]
   exact (hxs j y hj).go f (λ q hq=>.inl (by simp at hq;subst hq;simp [Value.ownBlock])) (λ q hq=>.inl hq)
end
section
variable {P:Program} {Z:ZP} {R:Value→World→Prop} {w:World} {A:List Nat→List Value→World→Prop} {B:List Nat→Nat→List Value→World→Prop} {ds:List Nat} {t:T}
theorem r_stO1 {α:Type} {e:Rl α} {ty ety base g len cap o:Nat} (i:Nat) {S:List Nat} {xs:List α} {x:α} {u:Value} (HO:Or e ety base S w (.slice (some ⟨g,0,none⟩) len cap) xs) (h1:e.n=1) (hi:i < xs.length) (ho:o=i) (hx:Off (g :: S) (λ w=>e.r w [u] x) w) (hs:∀ w,(sizeOf ty).run P w=.ok 1 w)
  (hk:∀ w',Or e ety base S w' (.slice (some ⟨g,0,none⟩) len cap) (xs.set i x)→Fr [g] w w'→wp P Z R ds t w' A B) (hc:u.cells=#[u]:=by rfl) (hv:u.oneCell'=true:=by rfl):wp P Z R ds (.ef (Instr.storeAt ty (Pt g o) u) t) w A B:=by
 subst ho
 obtain ⟨cells,hB,hl,h⟩:=HO.put hi (by rw [h1];rfl) hx
 rw [h1,Nat.mul_one] at hl h
 refine r_st1 hB hs (λ w' B' f=>hk w' (h w' B' f) f) hc hv ?_
 exact (by simpa using (by omega:o < cells.length))
theorem r_stOn {α:Type} {e:Rl α} {ty ety base g len cap o:Nat} (i:Nat) {S:List Nat} {xs:List α} {x:α} {es:List Value} (HO:Or e ety base S w (.slice (some ⟨g,0,none⟩) len cap) xs) (hes:es.length=e.n) (hi:i < xs.length) (ho:o=i * e.n) (hx:Off (g :: S) (λ w=>e.r w es x) w) (h1:∀ v∈es,v.oneCell'=true) (hs:∀ w,(sizeOf ty).run P w=.ok e.n w)
  (hk:∀ w',Or e ety base S w' (.slice (some ⟨g,0,none⟩) len cap) (xs.set i x)→Fr [g] w w'→wp P Z R ds t w' A B):wp P Z R ds (.ef (Instr.storeAt ty (Pt g o) (.agg es.toArray)) t) w A B:=by
 subst ho
 obtain ⟨cells,hB,hl,h⟩:=HO.put hi hes hx
 exact r_ef (o:=⟨none,.store ty (.const (Pt g (i * e.n))) (.const (.agg es.toArray)),0, "",#[],none⟩) (v_n (l:=[]) rfl rfl h1 hs hes hB hl) (λ w' hh=>hk w' (h w' hh.1 hh.2) hh.2) rfl
end
end Go.Proofs.YtppodgdhdddfkaaGreatDoor.Sx
namespace Go.Proofs.YtppodgdhdddfkaaGreatDoor.Sc
set_option maxRecDepth 100000
open Go Go.RowKit Go.Proofs.YtppodgdhdddfkaaGreatDoor.Sx
open Go.Proofs.YtppodgdhdddfkaaGreatDoor.Sg
open Go.Proofs.YtppodgdhdddfkaaGreatDoor.Bi (mixed take_s Eint)
open Go.Proofs.YtppodgdhdddfkaaGreatDoor.Hd (WfB Ebyte Erow)
open Go.Proofs.YtppodgdhdddfkaaGreatDoor.Cg (r_callZ RwO.go)
abbrev TO (S:List Nat) (w:World) (cs:List Value) (t:GTick):Prop:=Off S (λ w=>rTick.r w cs t) w
theorem to_parts {S:List Nat} {w:World} {A0 A1:Option Addr} {n0 n1 c0 c1:Nat} {t:GTick} (h:TO S w [.slice A0 n0 c0,.slice A1 n1 c1] t):RwO S (rL (rI .u8)) w A0 t.bytes∧Off S (λ w=>Rw (rI .i64) w A1 t.picks) w:=by
 refine ⟨offO (λ W f=>?_) (by decide),λ W f=>?_⟩
 ·obtain ⟨B0,d0,B1,d1,e,k0,k1⟩:=oTick (h W f)
  cases e
  exact k0.2.2
 ·obtain ⟨B0,d0,B1,d1,e,k0,k1⟩:=oTick (h W f)
  cases e
  exact k1.2.2
section
variable {Z:ZP} {w w0:World}
theorem cloneR_t {S:List Nat} {X:Option Addr} {cp:Nat} {xs:List By} (hx:RwO S (rL (rI .u8)) w X xs) (hb:xs.length≤1000000):Cz Tryz.prog 125 [.slice X xs.length cp] w (λ r w'=>Or (rL (rI .u8)) 48 w.heap.size S w' r xs∧Fr [] w w') Z:=by
 refine go mixed Tryz.func125 Tryz.call125 rfl (Tr.e125 _) ?_
 cases X with
 | none =>
  obtain rfl:xs=[]:=by
   cases xs with
   | nil=>rfl
   | cons x r=>obtain ⟨a,_,h1,_⟩:=hx 0 x rfl;cases h1
  refine ⟨.bool true,λ w'=>by kernel_rfl,?_⟩
  exact r_ret ⟨Or.nil,Fr.refl _ _⟩
 | some ad =>
  refine ⟨.bool false,λ w'=>by kernel_rfl,?_⟩
  refine r_ifb (λ h=>by cases h) (λ _=>?_)
  refine r_bs0 (e:=rL (rI .u8)) (S:=S) Erow (λ v5 w2 HV f2 hv5=>?_)
  refine r_apps (xs:=xs) Erow HV rfl (RwO.go hx f2 (λ q hq=>?_)) (by simp only [big] at *;simp;omega) f2.size (λ v7 w3 H3 f3 o3=>?_)
  ·rcases List.mem_append.1 hq with hq | hq
   ·exact .inr (HV.lt q hq).1
   ·exact .inl hq
  rw [List.nil_append] at H3
  exact r_ret ⟨H3,f2.trans_new f3 (λ q hq=>.inr (HV.lt q hq).1)⟩
theorem cloneB_t {X:Option Addr} {cp:Nat} {xs:By} (hx:Rw (rI .u8) w X xs) (hb:xs.length≤1000000):Cz Tryz.prog 95 [.slice X xs.length cp] w (λ r w'=>Or (rI .u8) 5 w.heap.size [] w' r xs∧Fr [] w w') Z:=by
 refine go mixed Tryz.func95 Tryz.call95 rfl (Tr.e95 _) ?_
 cases X with
 | none =>
  obtain rfl:xs=[]:=by
   cases xs with
   | nil=>rfl
   | cons x r=>obtain ⟨a,_,h1,_⟩:=hx 0 x rfl;cases h1
  refine ⟨.bool true,λ w'=>by kernel_rfl,?_⟩
  exact r_ret ⟨Or.nil,Fr.refl _ _⟩
 | some ad =>
  refine ⟨.bool false,λ w'=>by kernel_rfl,?_⟩
  refine r_ifb (λ h=>by cases h) (λ _=>?_)
  refine r_bs0 (e:=rI .u8) (S:=[]) Ebyte (λ v5 w2 HV f2 hv5=>?_)
  refine r_apps (xs:=xs) Ebyte HV rfl (Cg.RwO.plain plainI (hx.up f2)) (by simp only [big] at *;simp;omega) f2.size (λ v7 w3 H3 f3 o3=>?_)
  rw [List.nil_append] at H3
  exact r_ret ⟨H3,f2.trans_new f3 (λ q hq=>.inr (HV.lt q hq).1)⟩
theorem grow_t (n:Nat) (hn:n≤1000000):Cz Tryz.prog 165 [.slice none 0 0,I n] w (λ r w'=>Or (rI .u8) 5 w.heap.size [] w' r ([]:By)∧Fr [] w w') Z:=by
 refine go mixed Tryz.func165 Tryz.call165 rfl (Tr.e165 _ _) ?_
 have hcap:∀ w',(Builtin.cap_ #[48] 3 [.slice none 0 0].toArray).run Tryz.prog w'=.ok (I 0) w':=λ w'=>by kernel_rfl
 refine ⟨I 0,w,hcap w,?_⟩
 refine r_ar (by omega) ?_
 refine r_ar (z:=(n:Int)-(0-0)) (by omega) ?_
 refine r_if (λ h=>?_) (λ h=>?_)
 ·refine ⟨I 0,w,hcap w,?_⟩
  refine r_slh (m:=0) Tryz.underlying48 Tryz.sizeOf5 (by decide) (by decide) rfl ?_
  have hn0:0 < n:=by omega
  obtain ⟨ty0,hty⟩:∃ i,(Tryz.prog).info? 5=some i∧i.zero=some (.int .u8 0)∧i.size=1∧i.bytes=1:=by
   have:=Ebyte.i
   obtain ⟨i,h1,h2,h3,h4⟩:=info_parts this
   exact ⟨i,h1,h2,h3,h4⟩
  obtain ⟨h1,h2,h3,h4⟩:=hty
  have hold:(Builtin.firstCells ty0.size 0 (.slice none 0 0)).run Tryz.prog w.drew=.ok ([]:List Value).toArray w.drew:=by rw [h3];rfl
  have hnx:Builtin.nextslicecap (0+n) 0=n:=by
   unfold Builtin.nextslicecap
   rw [if_pos (by omega)];omega
  have happ:=Lib.run_append_grow_zeros (P:=Tryz.prog) w 48 3 48 5 ty0 (.int .u8 0) .i64 .i64 Tryz.underlying48 Tryz.underlying3 h1 h2 none 0 0 [] hold n hn0 (by omega) (by omega) (by omega) (by rw [h4];omega) (by rw [hnx,h4];omega)
  rw [show (n:Int)-(0-0)=n by omega]
  refine ⟨_,_,happ,?_⟩
  have g1:=grownCap_ge w (0+n) 0 5
  have g2:=grownCap_le_maxLen w (0+n) 0 5 (by simp only [maxLen];omega)
  generalize grownCap w (0+n) 0 5=cap at g1 g2 ⊢
  refine r_slh (m:=0) Tryz.underlying48 Tryz.sizeOf5 (by decide) (by omega) rfl ?_
  have hfr:∀ o,Fr [] w (w.drew.alloc o):=λ o=>(Fr.drew w).trans (Fr.alloc w.drew o)
  refine r_ret ⟨⟨[],World.ownsRow_made w.drew _ cap (Nat.le_refl _) g2 ?_,λ j x hj=>by simp at hj⟩,hfr _⟩
  show _=cap * 1
  simp [Builtin.zeroCells,Value.cells]
  omega
 ·exact r_ret ⟨Or.nil,Fr.refl _ _⟩
theorem concat_t {X:Option Addr} {cp:Nat} {ls:List By} (hr:Rw (rL (rI .u8)) w X ls) (hl:ls.length≤100) (hs:ls.flatten.length≤1000000):Cz Tryz.prog 126 [.slice X ls.length cp] w (λ r w'=>Or (rI .u8) 5 w.heap.size [] w' r ls.flatten∧Fr [] w w') Z:=by
 have hpre:∀ i,(ls.take i).flatten.length≤1000000:=λ i=>by
  have:ls.flatten.length=(ls.take i).flatten.length+(ls.drop i).flatten.length:=by rw [← List.length_append,← List.flatten_append,List.take_append_drop]
  omega
 refine go mixed Tryz.func126 Tryz.call126 rfl (Tr.e126 _) ?_
 refine r_loop (λ (i:Nat)=>[I (i:Int),I (((ls.take i).flatten.length:Nat):Int)]) (λ i W=>i≤ls.length∧W=w) (λ i=>ls.length-i) 0 ⟨Nat.zero_le _,rfl⟩ (by simp) ?_
 rintro i W ⟨hi,rfl⟩
 refine r_if (λ h=>?_) (λ h=>?_)
 ·obtain ⟨b,hb⟩:=gt (xs:=ls) (j:=i) (by omega)
  have hst:(ls.take (i+1)).flatten.length=(ls.take i).flatten.length+b.length:=by rw [take_s hb,List.flatten_append];simp
  have h1:=hpre (i+1)
  obtain ⟨ad,es,rfl,rd,Y,cy,rfl,y1,y2,y3⟩:=hr i b hb
  refine r_ob ⟨by omega,by omega⟩ ?_
  refine r_ld (cell1 rd) ?_
  refine r_are (y:=(((ls.take (i+1)).flatten.length:Nat):Int)) (by rw [IntKind.wrap_i64,hst];omega) ?_
  refine r_ar (by omega) ?_
  exact r_ag (i+1) ⟨by omega,rfl⟩ (by omega) rfl
 ·obtain rfl:i=ls.length:=by omega
  refine r_brk ?_
  rw [List.take_length]
  refine r_call (grow_t ls.flatten.length hs) ?_
  rintro v w1 ⟨HO,f1⟩
  refine r_loop (λ (s:Nat × Value)=>[I (s.1:Int),s.2]) (λ s W'=>s.1≤ls.length∧Or (rI .u8) 5 W.heap.size [] W' s.2 (ls.take s.1).flatten∧Fr [] W W') (λ s=>ls.length-s.1) (0,v) ⟨Nat.zero_le _,HO,f1⟩ rfl ?_
  rintro ⟨i,v⟩ w2 ⟨hi,HO,F⟩
  dsimp only at hi HO
  refine r_if (λ h=>?_) (λ h=>?_)
  ·dsimp only at h
   obtain ⟨b,hb⟩:=gt (xs:=ls) (j:=i) (by omega)
   have hst:(ls.take (i+1)).flatten=(ls.take i).flatten++b:=by rw [take_s hb,List.flatten_append];simp
   have h1:=hpre (i+1)
   rw [hst,List.length_append] at h1
   obtain ⟨ad,es,rfl,rd,Y,cy,rfl,y1,y2,y3⟩:=(hr.up F) i b hb
   refine r_ob ⟨by dsimp only;omega,by dsimp only;omega⟩ ?_
   refine r_ld (cell1 rd) ?_
   refine r_apps (xs:=b) Ebyte HO rfl (Cg.RwO.plain plainI y3) (by simp only [big];omega) F.size (λ v7 w3 H3 f3 o3=>?_)
   refine r_ar (by dsimp only;omega) ?_
   refine r_ag (s:=(i,v)) (i+1,v7) ⟨by dsimp only;omega,?_,F.trans_new f3 (λ q hq=>.inr (HO.lt q hq).1)⟩ (by dsimp only;omega) rfl
   dsimp only
   rw [hst]
   exact H3
  ·dsimp only at h
   obtain rfl:i=ls.length:=by omega
   rw [List.take_length] at HO
   exact r_brk (r_ret ⟨HO,F⟩)
end
end Go.Proofs.YtppodgdhdddfkaaGreatDoor.Sc
set_option linter.unusedVariables false
set_option linter.unusedSimpArgs false
namespace Go.Proofs.YtppodgdhdddfkaaGreatDoor.Sc
set_option maxRecDepth 100000
open Go Go.RowKit Go.Proofs.YtppodgdhdddfkaaGreatDoor.Sx
open Go.Proofs.YtppodgdhdddfkaaGreatDoor.Sg
open Go.Proofs.YtppodgdhdddfkaaGreatDoor.Bi (mixed take_s Eint)
open Go.Proofs.YtppodgdhdddfkaaGreatDoor.Hd (WfB Ebyte Erow isReq rtB zR at0 le reqOf)
open Go.Proofs.YtppodgdhdddfkaaGreatDoor.Cg (splitP splitP_ne index1 r_callZ r_nnil r_nheld r_tne atoiP RwO.go)
theorem idx_split (c:UInt8):∀ a:Bs,(Lib.index a [c] = -1∧splitP c a=[a])∨∃ i:Nat,Lib.index a [c]=i∧i < a.length∧(splitP c a).headD []=a.take i∧2≤(splitP c a).length:=by
 intro a
 induction a with
 | nil=>exact .inl ⟨rfl,rfl⟩
 | cons b r ih =>
  rw [index1]
  by_cases h:b=c
  ·subst h
   rw [if_pos rfl]
   refine .inr ⟨0,rfl,by simp,by simp [splitP],?_⟩
   have:=List.length_pos_iff.2 (splitP_ne b r)
   simp [splitP];omega
  ·rw [if_neg h]
   have es:splitP c (b :: r)=(b :: (splitP c r).headD []) :: (splitP c r).tail:=by rw [splitP,if_neg h]
   rcases ih with ⟨h1,h2⟩ | ⟨i,h1,h2,h3,h4⟩
   ·rw [if_pos h1,es,h2]
    exact .inl ⟨rfl,rfl⟩
   ·rw [if_neg (by omega),es]
    refine .inr ⟨i+1,by omega,by simp;omega,by rw [List.headD_cons,h3];rfl,?_⟩
    rw [List.length_cons,List.length_tail];omega
theorem cut_two {c:UInt8} {a:Bs} (h:2≤(splitP c a).length):Lib.cut a [c]=((splitP c a).headD [],a.drop (((splitP c a).headD []).length+1),true):=by
 rcases idx_split c a with ⟨h1,h2⟩ | ⟨i,h1,h2,h3,h4⟩
 ·rw [h2] at h;simp at h
 ·unfold Lib.cut
  rw [h1,if_pos (by omega),h3,List.length_take]
  simp [Nat.min_eq_left (Nat.le_of_lt h2)]
theorem cut_one {c:UInt8} {a:Bs} (h:¬ 2≤(splitP c a).length):Lib.cut a [c]=(a,[],false)∧splitP c a=[a]:=by
 rcases idx_split c a with ⟨h1,h2⟩ | ⟨i,h1,h2,h3,h4⟩
 ·refine ⟨?_,h2⟩
  unfold Lib.cut
  rw [h1,if_neg (by decide)]
 ·exact absurd h4 h
theorem pre_take {s p:Bs}:Lib.hasPrefix s p=true↔s.take p.length=p:=by
 unfold Lib.hasPrefix
 rw [List.isPrefixOf_iff_prefix,List.prefix_iff_eq_take]
 exact ⟨λ h=>h.symm,λ h=>h.symm⟩
theorem le_low:∀ (n:Nat) (x:Int),0≤x→x < 256 ^ n→Hd.le (lowB n x)=x:=by
 intro n
 induction n with
 | zero=>intro x h1 h2;simp at h2;show (0:Int)=x;omega
 | succ n ih =>
  intro x h1 h2
  rw [lowB]
  show Hd.le (lowB n (x / 256)) * 256+x % 256=x
  rw [ih (x / 256) (by omega) (by rw [Int.pow_succ] at h2;omega)]
  omega
theorem parse_bytesQ {q:GRequest} (hw:WfQ q) (h:isReq q=true):Hd.parse (bytesQ q)=(q,0):=by
 have e4:((bytesQ q).drop 4).take 4=lowB 4 q.handle:=by
  unfold bytesQ
  rw [List.append_assoc]
  show (lowB 4 q.handle++lowB 8 q.payload).take 4=_
  exact List.take_left' (lowB_len 4 _)
 have e8:(bytesQ q).drop 8=lowB 8 q.payload:=by
  unfold bytesQ
  exact List.drop_left' (by simp [lowB_len])
 have hr:reqOf (bytesQ q)=q:=by
  unfold reqOf
  rw [e4,e8,le_low 4 _ hw.h.1 (by have:=hw.h.2;simpa using this),le_low 8 _ hw.p.1 (by have:=hw.p.2;simpa using this)]
  rfl
 unfold Hd.parse
 rw [hr,if_pos ⟨bytesQ_len q,rfl,h⟩]
theorem pieceT_bytesQ {q:GRequest} (hw:WfQ q) (h:isReq q=true):pieceT (bytesQ q)=reqT q:=by
 unfold pieceT
 rw [parse_bytesQ hw h,if_pos rfl]
theorem kind_hex {s:Bs} (h:s.take 4=kHex):(parseRq s).2≠0:=by
 intro h0
 obtain ⟨h1,h2,h3,h4⟩:=parseRq_ok h0
 have hk:=kinds9 h1
 rw [← h2] at h
 unfold reqT at h
 rcases hk with e | e | e | e | e | e | e | e | e<;>rw [e] at h<;>simp [wordQ,kOpen,kClose,kSend,kRecv,kGrant,kRevoke,kReset,kRelease,kPoll,kHex] at h
section
variable {w w':World}
theorem Or.isS {α:Type} {e:Rl α} {ty base:Nat} {S:List Nat} {v:Value} {xs:List α} (h:Or e ty base S w v xs) (hn:0 < xs.length):∃ g cap,v=.slice (some ⟨g,0,none⟩) xs.length cap:=by
 obtain ⟨_,⟨_,⟨_,h0⟩ | ⟨g,cap,cur,rfl,_⟩⟩,_⟩:=h
 ·omega
 ·exact ⟨g,cap,rfl⟩
theorem Or.goS {α:Type} {e:Rl α} {ty base:Nat} {S S2:List Nat} {v:Value} {xs:List α} (h:Or e ty base S w v xs) (f:Fr [] w w') (hS:∀ q∈S2,q∈S∨w.heap.size≤q):Or e ty base S2 w' v xs:=by
 obtain ⟨cells,ho,hx⟩:=h
 refine ⟨cells,own_f ho f (by simp),λ j x hj=>(hx j x hj).go f (by simp) (λ q hq=>?_)⟩
 rcases List.mem_append.1 hq with hq | hq
 ·exact .inl (List.mem_append.2 (.inl hq))
 ·rcases hS q hq with h | h
  ·exact .inl (List.mem_append.2 (.inr h))
  ·exact .inr h
theorem rw_two {T b:Nat} {u v:Value} {x y:By} (hB:Blk w b T [u,v]) (h1:Sl (rI .u8) w u x) (h2:Sl (rI .u8) w v y):Rw (rL (rI .u8)) w (some ⟨b,0,none⟩) [x,y]:=by
 intro j z hj
 match j,hj with
 | 0,hj=>cases hj;exact ⟨_,[u],rfl,hB.rdo 0 rfl rfl,h1.r⟩
 | 1,hj=>cases hj;exact ⟨_,[v],rfl,hB.rdo 1 rfl rfl,h2.r⟩
end
def moL (v4 v13 v23 v62:Value):T:=.loop [] (λ z1=>faT 0 v13 λ v81=>.ld v81 λ v82=>lnT v82 λ v83=>biT true .leq v83 v23 λ v85=>gi v85 (faT 0 v13 λ v86=>.ld v86 λ v87=>.hv (Instr.buildSlice 74 1 [(0,(.slice none 0 0))].toArray) λ v88=>.hv (Builtin.append_ #[74,74] 74 [v87,v88].toArray) λ v89=>faT 0 v13 λ v90=>.ef (Instr.storeAt 74 v90 v89) (.again [])) (.brk 0 [])) (λ i1 z1=>bq i1 0 (faT 0 v13 λ v91=>.ld v91 λ v92=>ixT 1 v92 v23 λ v94=>.ld v94 λ v95=>lnT v95 λ v96=>.pu (binOp .rem 3 v96 (I 16)) λ v97=>biT true .neq v97 (I 0) λ v98=>gi v98 (bdT [] [] λ v99=>.pan (Instr.panic (.iface 130 (.agg v99.toArray)))) (.dr (faT 0 v13 λ v101=>.ld v101 λ v102=>faT 0 v13 λ v104=>.ld v104 λ v105=>ixT 1 v105 v23 λ v107=>.ld v107 λ v108=>.hv (Instr.buildSlice 74 2 [(0,v108),(1,v62)].toArray) λ v110=>.chk none v101 v102 (.call 126 [v110] λ v111=>.chk none v101 v102 (ixT 1 v102 v23 λ v112=>.ef (Instr.storeAt 48 v112 v111) (.ldn 2 v13 λ v113=>.call 92 [v113] λ v114=>notT v114 λ v115=>gi v115 (bdT [] [] λ v116=>.pan (Instr.panic (.iface 130 (.agg v116.toArray)))) (.ldn 2 v13 λ v118=>.ef (Instr.storeAt 76 v4 v118) (.ldn 2 v4 λ r0=>.ret r0)))))))) (.bad))
def moA (v2 v4 v18 v23 v62:Value):T:=.call 103 [v62] λ v70=>.pu (do eqGuard .neq 9 (.tmp 70) (.tmp 71) v70 v18;binOp .neq 9 v70 v18) λ v72=>gi v72 (bdT [] [] λ v73=>.pan (Instr.panic (.iface 130 (.agg v73.toArray)))) (.dr (faT 1 v2 λ v75=>.ld v75 λ v76=>faT 0 v2 λ v77=>.ld v77 λ v78=>.amb (.call 125 [v78] λ v79=>.chk none v75 v76 (bdT [(1,v76),(0,v79)] [(.slice none 0 0),(.slice none 0 0)] λ v80=>.hv (Instr.alloc 76 true (.tuple #[])) λ v13=>.chk none v75 v76 (.chk none v77 v78 (.ef (Instr.storeAt 76 v13 (.agg v80.toArray)) (moL v4 v13 v23 v62))))) (.hv (Instr.alloc 76 true (.tuple #[])) λ v13=>.chk none v75 v76 (.chk none v77 v78 (.call 125 [v78] λ v79=>.chk none v75 v76 (bdT [(1,v76),(0,v79)] [(.slice none 0 0),(.slice none 0 0)] λ v80=>.ef (Instr.storeAt 76 v13 (.agg v80.toArray)) (moL v4 v13 v23 v62)))))))
def MrR (S:List Nat) (w0:World) (t:GTick) (s:Bs) (r:Value) (w':World):Prop:=∃ cs x,moreP t s=some x∧r=.agg cs.toArray∧TO S w' cs x∧Fr [] w0 w'
theorem grow_at {bs:List By} {n:Nat} (h:n < 1000):∃ x,(grow bs n)[n]? = some x∧(((grow bs n)[n]?).getD [])=x∧n < (grow bs n).length:=by
 have hl:n < (grow bs n).length:=by unfold grow;rw [List.length_append,List.length_replicate];omega
 exact ⟨(grow bs n)[n],List.getElem?_eq_getElem hl,by rw [List.getElem?_eq_getElem hl];rfl,hl⟩
section
variable {Z:ZP} {w w0:World} {R:Value→World→Prop} {A:List Nat→List Value→World→Prop} {B:List Nat→Nat→List Value→World→Prop}
theorem moL_wp {S:List Nat} {t:GTick} {s:Bs} {n v2 v4 v13 base c1 cb:Nat} {A1 Bb:Option Addr} {bp:By} {wb W:World} {u:Value} {cs:List Value} (H:Bx w0 W [(v13,76,[u,.slice A1 t.picks.length c1]),(v4,76,zT),(v2,76,cs)])
  (HO:Or (rL (rI .u8)) 48 base (v13 :: v4 :: v2 :: S) W u t.bytes) (h13:v13∉u.ownBlock.toList) (hb4:v4 < base) (hb2:v2 < base) (hb0:w0.heap.size≤base) (hbW:base≤W.heap.size) (hP:Off S (λ w=>Rw (rI .i64) w A1 t.picks) w0) (hP1:t.picks.length≤c1) (hB:Sl (rI .u8) wb (.slice Bb bp.length cb) bp) (Fb:Fr [] wb W) (hwb:w0.heap.size≤wb.heap.size) (hbl:bp.length≤1000)
  (hn:n < 16) (hln:t.bytes.length≤n+1) (hsm:smallT t=true) (hmr:moreP t s=moreT t n bp) (hS:∀ q∈S,q < w0.heap.size) (hwbb:wb.heap.size≤base) (g13b:wb.heap.size≤v13) :
  wp Tryz.prog (ZS (moreP t s=none) [] w0) (MrR S w0 t s) [] (moL (Pt v4 0) (Pt v13 0) (I n) (.slice Bb bp.length cb)) W A B:=by
 obtain ⟨q1,q2,q3⟩:=small_parts hsm
 have hN:=H.N
 simp only [List.map_cons,List.map_nil,List.nodup_cons,List.mem_cons,List.not_mem_nil,or_false,not_or] at hN
 obtain ⟨⟨n134,n132⟩,n42,_⟩:=hN
 have l13:=(H.blk (i:=0) rfl).lt
 have g13:=H.ge (i:=0) rfl
 have bx_own:∀ {W1 W2:World} {u1:Value} {xs:List By} {S':List Nat} {csv:List Value},Bx w0 W1 [(v13,76,csv),(v4,76,zT),(v2,76,cs)]→Or (rL (rI .u8)) 48 base S' W1 u1 xs→v13∉u1.ownBlock.toList→Fr u1.ownBlock.toList W1 W2→Bx w0 W2 [(v13,76,csv),(v4,76,zT),(v2,76,cs)]:=by
  intro W1 W2 u1 xs S' csv hH hO h1 f
  refine hH.frS f (λ q hq=>by have:=(hO.lt q hq).1;omega) (λ q hq p hp=>?_)
  have:=(hO.lt q hq).1
  simp only [List.mem_cons,List.not_mem_nil,or_false] at hp
  rcases hp with rfl | rfl | rfl
  ·exact λ e=>h1 (by rw [show v13=q from e];exact hq)
  ·dsimp only;omega
  ·dsimp only;omega
 refine r_loop (λ (_:Nat)=>[]) (λ m W'=>∃ u',Fr [] wb W'∧W.heap.size≤W'.heap.size∧Bx w0 W' [(v13,76,[u',.slice A1 t.picks.length c1]),(v4,76,zT),(v2,76,cs)]∧Or (rL (rI .u8)) 48 base (v13 :: v4 :: v2 :: S) W' u' (t.bytes++List.replicate m [])∧v13∉u'.ownBlock.toList∧(m=0∨t.bytes.length+m≤n+1)) (λ m=>n+1-(t.bytes.length+m)) 0 ⟨u,Fb,Nat.le_refl _,H,by simpa using HO,h13,.inl rfl⟩ rfl ?_
 clear HO H Fb h13
 rintro m W1 ⟨u,Fb,hsz,H,HO,h13,hm⟩
 have hlx:(t.bytes++List.replicate m ([]:By)).length=t.bytes.length+m:=by simp
 obtain ⟨X,cx,rfl,x1,x2,x3⟩:=HO.row (by rw [hlx];simp only [big];omega)
 refine b_ld H 0 rfl rfl ?_
 refine r_if (λ h=>?_) (λ h=>?_)
 ·rw [hlx] at h
  refine b_ld H 0 rfl rfl ?_
  refine r_appL (x:=[]) (es:=[.slice none 0 0]) Erow HO (λ _ _=>Sl.nil.r) (by rw [hlx];simp only [big];omega) (Nat.le_trans hbW hsz) (λ u' W2 O2 f2 o2=>?_)
  have H:=bx_own H HO h13 f2
  have h13':v13∉u'.ownBlock.toList:=λ hq=>by
   rcases o2 _ hq with h | h
   ·exact h13 h
   ·omega
  obtain ⟨X2,cx2,rfl,_⟩:=O2.row (by rw [List.length_append,hlx];simp only [big,List.length_singleton];omega)
  refine r_st1 (o:=0) (H.blk (i:=0) rfl) Tryz.sizeOf74 (λ W3 B3 f3=>?_)
  have H:=H.set (i:=0) rfl B3 f3
  have ex:(t.bytes++List.replicate m ([]:By))++[[]]=t.bytes++List.replicate (m+1) []:=by rw [List.append_assoc,← List.replicate_succ']
  have O3:=O2.up f3 (λ q hq hm=>h13' (by simp at hq;subst hq;exact hm)) (λ q hq=>.inl (by simp at hq;subst hq;simp))
  rw [ex] at O3 H h13'
  refine r_ag (m+1) ⟨_,?_,by have:=f2.size;have:=f3.size;omega,H,O3,h13',.inr (by omega)⟩ (by omega) rfl
  exact (Fb.trans_new f2 (λ q hq=>.inr (by have:=(HO.lt q hq).1;omega))).trans_new f3 (λ q hq=>.inr (by simp at hq;omega))
 ·rw [hlx] at h
  have eg:t.bytes++List.replicate m []=grow t.bytes n:=by unfold grow;congr 2;omega
  rw [eg] at HO H h13 hlx x1 x2 x3
  obtain ⟨xn,e1,e2,e3⟩:=grow_at (bs:=t.bytes) (n:=n) (by omega)
  obtain ⟨g,cap,e0⟩:=Or.isS HO (by omega)
  cases e0
  have emr:moreT t n bp=if xn.length % 16≠0 then none else if smallT ⟨(grow t.bytes n).set n (xn++bp),t.picks⟩=true then some ⟨(grow t.bytes n).set n (xn++bp),t.picks⟩ else none:=by unfold moreT;rw [e2]
  rw [emr] at hmr
  have hglen:(grow t.bytes n).length≤17:=by rw [hlx];rcases hm with rfl | hm<;>omega
  have hxl:xn.length≤1024:=by
   have hmem:=List.mem_of_getElem? e1
   unfold grow at hmem
   rcases List.mem_append.1 hmem with h | h
   ·exact q3 xn h
   ·rw [(List.mem_replicate.1 h).2];simp
  refine r_brk ?_
  refine b_ld H 0 rfl rfl ?_
  obtain ⟨ad,es,e4,rd,Y,cy,rfl,y1,y2,y3⟩:=x3 n xn e1
  cases e4
  refine r_ob ⟨by omega,by omega⟩ ?_
  refine r_ld (cell1 rd) ?_
  refine r_rem (by decide) ?_
  refine r_if (λ h1=>?_) (λ h1=>?_)
  ·rw [if_pos (by rw [Int.tmod_eq_emod_of_nonneg (by omega)] at h1;omega)] at hmr
   exact r_pans ⟨hmr,rfl,H.F⟩
  rw [if_neg (by rw [Int.tmod_eq_emod_of_nonneg (by omega)] at h1;omega)] at hmr
  refine r_dr (λ W2 f2=>?_)
  have H:=H.fr f2
  have HO:=HO.fr0 f2
  have Fb:=Fb.trans f2
  refine b_ld H 0 rfl rfl ?_
  refine b_ld H 0 rfl rfl ?_
  refine r_ob ⟨by omega,by omega⟩ ?_
  refine r_ld (cell1 (rd.fr f2)) ?_
  refine r_new (v:=.slice (some ⟨W2.heap.size,0,none⟩) 2 2) (T:=48) (cs:=[.slice Y xn.length cy,.slice Bb bp.length cb]) (by kernel_rfl) (λ b3 w3 eb3 B3 f3=>?_)
  rw [← eb3]
  have H:=H.fr f3
  have HO:=HO.fr0 f3
  have Fb:=Fb.trans f3
  have hrow:=rw_two B3 ⟨Y,cy,rfl,y1,y2,(y3.up f2).up f3⟩ (hB.up Fb)
  refine b_chk H 0 rfl rfl ?_
  have lw3:∀ q∈(g :: v13 :: v4 :: v2 :: S),q < w3.heap.size:=by
   intro q hq
   have h1:=HO.lt g (by simp [Value.ownBlock])
   have h2:=(H.blk (i:=0) rfl).lt
   have h3:=(H.blk (i:=1) rfl).lt
   have h4:=(H.blk (i:=2) rfl).lt
   have h5:=H.F.size
   simp only [List.mem_cons] at hq
   rcases hq with rfl | rfl | rfl | rfl | hq
   ·exact h1.2
   ·exact h2
   ·exact h3
   ·exact h4
   ·exact Nat.lt_of_lt_of_le (hS q hq) h5
  refine r_call (concat_t (ls:=[xn,bp]) (cp:=2) hrow (by simp) (by simp;omega)) ?_
  rintro vn w4 ⟨On,f4⟩
  have H:=H.fr f4
  have HO:=HO.fr0 f4
  have Fb:=Fb.trans f4
  refine b_chk H 0 rfl rfl ?_
  refine r_ob ⟨by omega,by omega⟩ ?_
  have efl:[xn,bp].flatten=xn++bp:=by simp
  rw [efl] at On
  have hnl:(xn++bp).length≤big:=by rw [List.length_append];simp only [big];omega
  have hoff:Off (g :: v13 :: v4 :: v2 :: S) (λ w=>(rL (rI .u8)).r w [vn] (xn++bp)) w4:=λ W f=>((On.upP (S2:=[]) plainI f (λ q hq hq2=>by have:=lw3 q hq;have:=(On.lt q hq2).1;omega)).row hnl).r
  obtain ⟨Xn,cn,rfl,_⟩:=On.row hnl
  refine r_stO1 (e:=rL (rI .u8)) n HO rfl e3 (by omega) hoff Tryz.sizeOf48 (λ w5 HO5 f5=>?_)
  have H:=bx_own H HO h13 (f5.mono (by simp [Value.ownBlock]))
  have Fb5:=Fb.trans_new f5 (λ q hq=>.inr (by simp at hq;subst hq;have:=HO.lt q (by simp [Value.ownBlock]);omega))
  obtain ⟨xs',hxs'⟩:∃ xs',xs'=(grow t.bytes n).set n (xn++bp):=⟨_,rfl⟩
  have hxl':xs'.length=(grow t.bytes n).length:=by rw [hxs',List.length_set]
  rw [← hxs'] at HO5 hmr
  have tk:∀ W,Or (rL (rI .u8)) 48 base (v13 :: v4 :: v2 :: S) W (.slice (some ⟨g,0,none⟩) (grow t.bytes n).length cx) xs'→Rw (rI .i64) W A1 t.picks→rTick.r W [.slice (some ⟨g,0,none⟩) (grow t.bytes n).length cx,.slice A1 t.picks.length c1] ⟨xs',t.picks⟩:=λ W hO hp=>by
   obtain ⟨X5,c5,e5,z1,z2,z3⟩:=hO.row (by rw [hxl'];simp only [big];omega)
   rw [hxl'] at e5
   cases e5
   have hm:=mTick (x:=⟨xs',t.picks⟩) ⟨z1,z2,z3⟩ ⟨hP1,by simp only [big];omega,hp⟩
   rw [show (⟨xs',t.picks⟩:GTick).bytes.length=(grow t.bytes n).length from hxl'] at hm
   exact hm
  have hPW:∀ W,Fr S w0 W→Rw (rI .i64) W A1 t.picks:=λ W f=>hP W f
  refine b_ldn H 0 rfl ?_
  refine r_call (smallTick_t (tk w5 HO5 (hPW w5 (H.F.mono (by simp))))) ?_
  rintro _ w6 ⟨rfl,f6⟩
  have H:=H.fr f6
  have HO6:=HO5.fr0 f6
  refine r_ifbn (λ hs=>?_) (λ hs=>?_)
  ·rw [if_neg (by rw [hs];decide)] at hmr
   exact r_pans ⟨hmr,rfl,H.F⟩
  ·rw [if_pos hs] at hmr
   refine b_ldn H 0 rfl ?_
   refine r_stn (cs:=[.slice (some ⟨g,0,none⟩) (grow t.bytes n).length cx,.slice A1 t.picks.length c1]) (H.blk (i:=1) rfl) Tryz.sizeOf76 (by simp [Value.oneCell']) (λ w7 B7 f7=>?_)
   have H:=H.set (i:=1) rfl B7 f7
   have hg4:base≤g:=(HO6.lt g (by simp [Value.ownBlock])).1
   have HO7:=HO6.up f7 (λ q hq hm=>by simp [Value.ownBlock] at hq hm;omega) (λ q hq=>.inl (by simp at hq;subst hq;simp))
   refine b_ldn H 1 rfl ?_
   refine b_ret H (λ F=>⟨_,⟨xs',t.picks⟩,hmr,rfl,λ W fW=>?_,F⟩)
   exact tk W (HO7.up fW (λ q hq hm=>by simp [Value.ownBlock] at hm;have:=hS q hq;omega) (λ q hq=>.inl (by simp [hq]))) (hPW W ((F.mono (by simp)).trans fW))
end
end Go.Proofs.YtppodgdhdddfkaaGreatDoor.Sc
set_option linter.unusedVariables false
set_option linter.unusedSimpArgs false
namespace Go.Proofs.YtppodgdhdddfkaaGreatDoor.Sc
set_option maxRecDepth 100000
open Go Go.RowKit Go.Proofs.YtppodgdhdddfkaaGreatDoor.Sx
open Go.Proofs.YtppodgdhdddfkaaGreatDoor.Sg
open Go.Proofs.YtppodgdhdddfkaaGreatDoor.Bi (mixed take_s Eint)
open Go.Proofs.YtppodgdhdddfkaaGreatDoor.Hd (WfB Ebyte Erow isReq rtB zR at0 le reqOf)
open Go.Proofs.YtppodgdhdddfkaaGreatDoor.Cg (splitP splitP_ne splitP_len index1 r_callZ r_nnil r_nheld r_tne atoiP RwO.go)
theorem unhexP_len:∀ (n:Nat) (s:Bs) {b:By},s.length≤n→unhexP s=some b→s.length=2 * b.length∧WfB b:=by
 intro n
 induction n with
 | zero =>
  intro s b h hu
  obtain rfl:s=[]:=List.eq_nil_of_length_eq_zero (by omega)
  cases hu
  exact ⟨rfl,λ z hz=>(nomatch hz)⟩
 | succ n ih =>
  intro s b h hu
  match s,h,hu with
  | [],_,hu=>cases hu;exact ⟨rfl,λ z hz=>(nomatch hz)⟩
  | [_],_,hu=>cases hu
  | x :: y :: r,h,hu =>
   rw [unhexP] at hu
   cases hx:unD x with
   | none=>rw [hx] at hu;cases hu
   | some d =>
    cases hy:unD y with
    | none=>rw [hx,hy] at hu;cases hu
    | some e =>
     cases hr:unhexP r with
     | none=>rw [hx,hy,hr] at hu;cases hu
     | some l =>
      rw [hx,hy,hr] at hu
      cases hu
      obtain ⟨h1,h2⟩:=ih r (by simp at h;omega) hr
      have l1:=unD_lt hx
      have l2:=unD_lt hy
      refine ⟨by simp;omega,λ z hz=>?_⟩
      rcases List.mem_cons.1 hz with rfl | hz
      ·omega
      ·exact h2 z hz
section
variable {Z:ZP} {w w0:World} {R:Value→World→Prop} {A:List Nat→List Value→World→Prop} {B:List Nat→Nat→List Value→World→Prop}
theorem moA_wp {S:List Nat} {t:GTick} {s text:Bs} {n v2 v4 c0 c1 cb:Nat} {A0 A1 Bb:Option Addr} {bp:By} {W:World} (H:Bx w0 W [(v4,76,zT),(v2,76,[.slice A0 t.bytes.length c0,.slice A1 t.picks.length c1])])
  (hT:TO S w0 [.slice A0 t.bytes.length c0,.slice A1 t.picks.length c1] t) (hP1:t.picks.length≤c1) (hB:Sl (rI .u8) W (.slice Bb bp.length cb) bp) (hwb:WfB bp) (hbl:bp.length≤1000) (G:SW w0)
  (hn:n < 16) (hln:t.bytes.length≤n+1) (hsm:smallT t=true) (hmp:pieceT bp=text→moreP t s=moreT t n bp) (hno:pieceT bp≠text→moreP t s=none) (hS:∀ q∈S,q < w0.heap.size) :
  wp Tryz.prog (ZS (moreP t s=none) [] w0) (MrR S w0 t s) [] (moA (Pt v2 0) (Pt v4 0) (Tx text) (I n) (.slice Bb bp.length cb)) W A B:=by
 obtain ⟨q1,q2,q3⟩:=small_parts hsm
 obtain ⟨hR,hP⟩:=to_parts hT
 obtain ⟨_,_,e0,b1,b2,b3⟩:=hB
 cases e0
 refine r_call (piece_t b3 hwb (by omega) (G.up H.F)) ?_
 rintro _ W1 ⟨rfl,f1⟩
 have H:=H.fr f1
 refine r_tne ?_
 refine r_if (λ hne=>?_) (λ hne=>?_)
 ·exact r_pans ⟨hno hne,rfl,H.F⟩
 have hmr:=hmp (Classical.not_not.1 hne)
 refine r_dr (λ W2 f2=>?_)
 have H:=H.fr f2
 have hB2:Sl (rI .u8) W2 (.slice Bb bp.length cb) bp:=⟨_,_,rfl,b1,b2,(b3.up f1).up f2⟩
 refine b_ld H 1 (j:=1) rfl rfl ?_
 refine b_ld H 1 (j:=0) rfl rfl ?_
 have l4:=(H.blk (i:=0) rfl).lt
 have l2:=(H.blk (i:=1) rfl).lt
 have g4:=H.ge (i:=0) rfl
 have g2:=H.ge (i:=1) rfl
 have hs0:=H.F.size
 have hR2:RwO (v4 :: v2 :: S) (rL (rI .u8)) W2 A0 t.bytes:=RwO.go hR H.F (λ q hq=>by
  rcases List.mem_cons.1 hq with rfl | hq
  ·exact .inr g4
  ·rcases List.mem_cons.1 hq with rfl | hq
   ·exact .inr g2
   ·exact .inl hq)
 refine ⟨?_,?_⟩
 ·refine r_call (cloneR_t hR2 (by omega)) ?_
  rintro u W3 ⟨HO,f3⟩
  have H:=H.fr f3
  obtain ⟨X,cx,rfl,_⟩:=HO.row (by simp only [big];omega)
  refine b_chk H 1 (j:=1) rfl rfl ?_
  refine r_al (zs:=zT) Tryz.zeroValue76 (λ v13 W4 e13 B13 f4=>?_)
  have H:=H.add e13 B13 f4
  refine b_chk H 2 (j:=1) rfl rfl ?_
  refine b_chk H 2 (j:=0) rfl rfl ?_
  have hown:∀ q∈(Value.slice X t.bytes.length cx).ownBlock.toList,q < W3.heap.size:=λ q hq=>(HO.lt q hq).2
  have HO:=Or.goS (S2:=v13 :: v4 :: v2 :: S) HO f4 (λ q hq=>by
   rcases List.mem_cons.1 hq with rfl | hq
   ·exact .inr (by omega)
   ·exact .inl hq)
  refine r_stn (cs:=[.slice X t.bytes.length cx,.slice A1 t.picks.length c1]) (H.blk (i:=0) rfl) Tryz.sizeOf76 (by simp [Value.oneCell']) (λ W5 B5 f5=>?_)
  have H:=H.set (i:=0) rfl B5 f5
  have h13:v13∉(Value.slice X t.bytes.length cx).ownBlock.toList:=λ hq=>by have:=hown _ hq;omega
  have HO:=HO.up f5 (λ q hq hm=>h13 (by simp at hq;subst hq;exact hm)) (λ q hq=>.inl (by simp at hq;subst hq;simp))
  have F25:Fr [] W2 W5:=(f3.trans f4).trans_new f5 (λ q hq=>.inr (by simp at hq;have:=f3.size;omega))
  exact moL_wp H HO h13 l4 l2 hs0 F25.size hP hP1 hB2 F25 hs0 hbl hn hln hsm hmr hS (Nat.le_refl _) (by have:=f3.size;omega)
 ·refine r_al (zs:=zT) Tryz.zeroValue76 (λ v13 W3 e13 B13 f3=>?_)
  have H:=H.add e13 B13 f3
  refine b_chk H 2 (j:=1) rfl rfl ?_
  refine b_chk H 2 (j:=0) rfl rfl ?_
  have hR3:RwO (v13 :: v4 :: v2 :: S) (rL (rI .u8)) W3 A0 t.bytes:=RwO.go hR2 f3 (λ q hq=>by
   rcases List.mem_cons.1 hq with rfl | hq
   ·exact .inr (by omega)
   ·exact .inl hq)
  refine r_call (cloneR_t hR3 (by omega)) ?_
  rintro u W4 ⟨HO,f4⟩
  have H:=H.fr f4
  obtain ⟨X,cx,rfl,_⟩:=HO.row (by simp only [big];omega)
  refine b_chk H 2 (j:=1) rfl rfl ?_
  have l13:=B13.lt
  have h13:v13∉(Value.slice X t.bytes.length cx).ownBlock.toList:=λ hq=>by have:=(HO.lt _ hq).1;omega
  refine r_stn (cs:=[.slice X t.bytes.length cx,.slice A1 t.picks.length c1]) (H.blk (i:=0) rfl) Tryz.sizeOf76 (by simp [Value.oneCell']) (λ W5 B5 f5=>?_)
  have H:=H.set (i:=0) rfl B5 f5
  have HO:=HO.up f5 (λ q hq hm=>h13 (by simp at hq;subst hq;exact hm)) (λ q hq=>.inl (by simp at hq;subst hq;simp))
  have F25:Fr [] W2 W5:=(f3.trans f4).trans_new f5 (λ q hq=>.inr (by simp at hq;omega))
  exact moL_wp H HO h13 (by have:=f3.size;omega) (by have:=f3.size;omega) (by have:=f3.size;omega) (by have:=f4.size;have:=f5.size;omega) hP hP1 hB2 F25 hs0 hbl hn hln hsm hmr hS f3.size (by omega)
theorem more_t {S:List Nat} {cs:List Value} {t:GTick} (hT:TO S w cs t) (hS:∀ q∈S,q < w.heap.size) (hsm:smallT t=true) (s:Bs) (hl:s.length≤9000000) (G:SW w):Cz Tryz.prog 77 [.agg cs.toArray,Tx s] w (MrR S w t s) (ZS (moreP t s=none) [] w):=by
 obtain ⟨A0,c0,A1,c1,rfl,k0,k1⟩:=oTick hT.now
 refine go mixed Tryz.func77 Tryz.call77 rfl (Tr.e77 _ _) ?_
 refine b_box (cs:=[.slice A0 t.bytes.length c0,.slice A1 t.picks.length c1]) (Bx.nil w) (λ v2 w1 H=>?_)
 refine b_al (zs:=zT) H Tryz.zeroValue76 (λ v4 w2 H=>?_)
 refine r_call (Cut_t s [32] hl (G.up H.F).g.m) ?_
 rintro _ w3 ⟨rfl,f3⟩
 have H:=H.fr f3
 have emr:moreP t s=if (splitP 32 s).length < 2 then none else (canI ((splitP 32 s).headD [])).bind λ n=>if 0≤n∧n < 16∧(t.bytes.length:Int)-1≤n then (pieceP (s.drop (((splitP 32 s).headD []).length+1))).bind (moreT t n.toNat) else none:=rfl
 by_cases h2:2≤(splitP 32 s).length
 rotate_left
 ·rw [(cut_one h2).1]
  rw [if_pos (by omega)] at emr
  refine r_call (Atoi_t s hl (G.up H.F).g.e) ?_
  rintro _ w4 ⟨F4,⟨v,hv,rfl⟩ | ⟨hv,z,tt,p,rfl⟩⟩
  ·exact r_pans ⟨emr,rfl,(H.fr F4).F⟩
  ·exact r_pans ⟨emr,rfl,(H.fr F4).F⟩
 rw [cut_two h2]
 rw [if_neg (by omega)] at emr
 have hhl:((splitP 32 s).headD []).length≤9000000:=by
  have:=splitP_len 32 s
  cases hsp:splitP 32 s with
  | nil=>exact absurd hsp (splitP_ne 32 s)
  | cons x r=>rw [hsp] at this;exact Nat.le_trans (this.2 x (by simp)) hl
 have htl:(s.drop (((splitP 32 s).headD []).length+1)).length≤9000000:=by rw [List.length_drop];omega
 generalize (splitP 32 s).headD []=h at emr hhl htl
 generalize s.drop (h.length+1)=text at emr htl
 refine r_call (Atoi_t h hhl (G.up H.F).g.e) ?_
 rintro _ w4 ⟨F4,⟨v,hv,rfl⟩ | ⟨hv,z,tt,p,rfl⟩⟩
 rotate_left
 ·have H:=H.fr F4
  refine r_nheld (by kernel_rfl) ?_
  refine r_pans ⟨?_,rfl,H.F⟩
  have hcan:canI h=none:=by
   rw [canI_atoi]
   unfold atoiP
   rcases hx:Lib.atoiAll h with v | _ | _
   ·exact absurd hx (hv v)
   ·rfl
   ·rfl
  rw [emr,hcan];rfl
 have H:=H.fr F4
 have hcan:canI h=if Lib.itoa v=h then some v else none:=by
  rw [canI_atoi]
  unfold atoiP
  rw [hv]
 have hv64:in64 v:=Cg.atoiP_in64 (a:=h) (by unfold atoiP;rw [hv])
 refine r_nnil _ (by kernel_rfl) ?_
 refine r_call (Itoa_t v hv64 (G.up H.F).g.t) ?_
 rintro _ w5 ⟨rfl,F5⟩
 have H:=H.fr F5
 refine r_tne ?_
 refine r_if (λ hne=>?_) (λ hne=>?_)
 ·refine r_pans ⟨?_,rfl,H.F⟩
  rw [emr,hcan,if_neg hne];rfl
 rw [if_pos (Classical.not_not.1 hne)] at hcan
 have emr:moreP t s=if 0≤v∧v < 16∧(t.bytes.length:Int)-1≤v then (pieceP text).bind (moreT t v.toNat) else none:=by rw [emr,hcan];rfl
 refine r_if (λ h3=>?_) (λ h3=>?_)
 ·exact r_pans ⟨by rw [emr,if_neg (by omega)],rfl,H.F⟩
 refine r_if (λ h4=>?_) (λ h4=>?_)
 ·exact r_pans ⟨by rw [emr,if_neg (by omega)],rfl,H.F⟩
 refine b_ld H 1 (j:=0) rfl rfl ?_
 refine r_ar (by have:=k0.2.1;simp only [big] at this;omega) ?_
 refine r_if (λ h5=>?_) (λ h5=>?_)
 ·exact r_pans ⟨by rw [emr,if_neg (by omega)],rfl,H.F⟩
 rw [if_pos (by omega)] at emr
 obtain ⟨n,rfl⟩:∃ n:Nat,v=n:=⟨v.toNat,by omega⟩
 rw [Int.toNat_natCast] at emr
 refine r_call (CutPrefix_t text [104,101,120,32]) ?_
 rintro _ w6 ⟨rfl,rfl⟩
 refine r_ifb (λ hh=>?_) (λ hh=>?_)
 ·have htk:text.take 4=kHex:=pre_take.1 hh
  have etp:Lib.trimPrefix text [104,101,120,32]=text.drop 4:=by unfold Lib.trimPrefix;rw [if_pos hh];rfl
  rw [etp]
  have epc:pieceP text=if text.take 4=kHex∧4 < text.length then (unhexP (text.drop 4)).bind λ b=>if b.length≤16∧pieceT b=text then some b else none else if (parseRq text).2=0 then some (bytesQ (parseRq text).1) else none:=rfl
  refine r_callZ (unhex_t (text.drop 4) (G.up H.F).d) ?_ (λ c w' hz=>?_)
  rotate_left
  ·obtain ⟨hz,rfl,fz⟩:=hz
   refine ⟨?_,rfl,H.F.trans fz⟩
   rw [emr]
   have:pieceP text=none:=by
    rw [epc]
    by_cases h4l:4 < text.length
    ·rw [if_pos ⟨htk,h4l⟩]
     cases hu:unhexP (text.drop 4) with
     | none=>rfl
     | some b =>
      obtain ⟨e1,_⟩:=unhexP_len _ _ (Nat.le_refl _) hu
      rcases hz with hz | hz | hz
      ·rw [hz] at hu;cases hu
      ·show (if b.length≤16∧_ then _ else _)=_
       rw [if_neg (by omega)]
      ·have:=congrArg List.length hz
       rw [List.length_drop,List.length_nil] at this
       omega
    ·rw [if_neg (by omega),if_neg (kind_hex htk)]
   rw [this];rfl
  ·rintro r w7 ⟨hl32,hne0,b,hub,hwb,HO,f7⟩
   have H:=H.fr f7
   obtain ⟨e1,_⟩:=unhexP_len _ _ (Nat.le_refl _) hub
   have h4l:4 < text.length:=by
    have:=List.length_pos_iff.2 hne0
    rw [List.length_drop] at this
    omega
   have epc:pieceP text=if b.length≤16∧pieceT b=text then some b else none:=by rw [epc,if_pos ⟨htk,h4l⟩,hub];rfl
   obtain ⟨Xb,cb,rfl,z1,z2,z3⟩:=HO.row (by simp only [big];omega)
   exact moA_wp (text:=text) H hT k1.1 ⟨_,_,rfl,z1,z2,z3⟩ hwb (by omega) G (by omega) (by omega) hsm (λ e=>by rw [emr,epc,if_pos ⟨by omega,e⟩];rfl) (λ e=>by rw [emr,epc,if_neg (λ h=>e h.2)];rfl) hS
 ·have htk:¬ text.take 4=kHex:=λ e=>by
   have:=(pre_take (s:=text) (p:=[104,101,120,32])).2 e
   rw [hh] at this;cases this
  have epc:pieceP text=if (parseRq text).2=0 then some (bytesQ (parseRq text).1) else none:=by unfold pieceP;rw [if_neg (λ h=>htk h.1)]
  refine r_callZ (request_t text htl (G.up H.F).g) ?_ (λ c w' hz=>?_)
  rotate_left
  ·obtain ⟨hz,rfl,fz⟩:=hz
   refine ⟨?_,rfl,H.F.trans fz⟩
   rw [emr,epc,if_neg hz];rfl
  ·rintro _ w7 ⟨h0,rfl,f7⟩
   have H:=H.fr f7
   rw [if_pos h0] at epc
   obtain ⟨hq,hqt,hqw,_⟩:=parseRq_ok h0
   refine r_call (Bytes_t (parseRq text).1 hqw (G.up H.F).l) ?_
   rintro _ w8 ⟨vb,rfl,HO,f8⟩
   have H:=H.fr f8
   rw [if_pos hq] at HO
   rw [if_pos hq]
   have hbl:=bytesQ_len (parseRq text).1
   obtain ⟨Xb,cb,rfl,z1,z2,z3⟩:=HO.row (by simp only [big];omega)
   have ept:=pieceT_bytesQ hqw hq
   exact moA_wp (text:=text) H hT k1.1 ⟨_,_,rfl,z1,z2,z3⟩ (bytesQ_wf hqw) (by omega) G (by omega) (by omega) hsm (λ e=>by rw [emr,epc];rfl) (λ e=>absurd (ept.trans hqt) e) hS
end
end Go.Proofs.YtppodgdhdddfkaaGreatDoor.Sc
