import Derived.Test.YtppodgdhdddfkaaGreatDoorQMy
set_option linter.unusedVariables false
set_option linter.unusedSimpArgs false
namespace Go.Proofs.YtppodgdhdddfkaaGreatDoor.Sc
set_option maxRecDepth 100000
open Go Go.RowKit Go.Proofs.YtppodgdhdddfkaaGreatDoor.Sx
open Go.Proofs.YtppodgdhdddfkaaGreatDoor.Sg
open Go.Proofs.YtppodgdhdddfkaaGreatDoor.Bi (mixed take_s Eint)
open Go.Proofs.YtppodgdhdddfkaaGreatDoor.Hd (WfB Ebyte Erow Etick le le_bound le_max le_snoc le_drop shl_or wrap_u64 u_eq r_shlu)
open Go.Proofs.YtppodgdhdddfkaaGreatDoor.Cg (r_callZ r_tne toI take_flat)
def pkB (p:Int):By:=lowB 8 (p % 18446744073709551616)
def rwB (b:By):By:=lowB 2 (b.length:Int)++b
theorem bytesT_eq (t:GTick) (a:By):a++bytesT t=(((a++[(t.picks.length:Int) % 256])++t.picks.flatMap pkB)++[(t.bytes.length:Int) % 256])++t.bytes.flatMap rwB:=by
 unfold bytesT pkB rwB
 simp
theorem flat_bound {α:Type} (f:α→By) (k:Nat):∀ (l:List α),(∀ x∈l,(f x).length≤k)→(l.flatMap f).length≤k * l.length:=by
 intro l
 induction l with
 | nil=>intro _;simp
 | cons x r ih =>
  intro h
  have h1:=h x (by simp)
  have h2:=ih (λ y hy=>h y (by simp [hy]))
  rw [List.flatMap_cons,List.length_append,List.length_cons,Nat.mul_add,Nat.mul_one]
  omega
theorem pk_len (p:Int):(pkB p).length=8:=lowB_len 8 _
theorem rw_len {t:GTick} (hs:smallT t=true):∀ b∈t.bytes,(rwB b).length≤1026:=λ b hb=>by
 have:=(small_parts hs).2.2 b hb
 unfold rwB
 rw [List.length_append,lowB_len];omega
theorem picks_len {t:GTick} (hs:smallT t=true) (j:Nat):((t.picks.take j).flatMap pkB).length≤512:=by
 have h1:=flat_bound pkB 8 (t.picks.take j) (λ x _=>Nat.le_of_eq (pk_len x))
 have h2:=(small_parts hs).1
 rw [List.length_take] at h1
 omega
theorem rows_len {t:GTick} (hs:smallT t=true) (j:Nat):((t.bytes.take j).flatMap rwB).length≤16416:=by
 have h1:=flat_bound rwB 1026 (t.bytes.take j) (λ x hx=>rw_len hs x (List.mem_of_mem_take hx))
 have h2:=(small_parts hs).2.1
 rw [List.length_take] at h1
 omega
theorem bytesT_len {t:GTick} (hs:smallT t=true):(bytesT t).length≤17000:=by
 have e:=bytesT_eq t []
 have h1:=picks_len hs t.picks.length
 have h2:=rows_len hs t.bytes.length
 rw [List.take_length] at h1 h2
 have:=congrArg List.length e
 simp only [List.length_append,List.nil_append,List.length_cons,List.length_nil] at this
 omega
theorem scr_len {l:List GTick} (h:∀ t∈l,smallT t=true) (i:Nat):((l.take i).flatMap bytesT).length≤17000 * l.length:=by
 have h1:=flat_bound bytesT 17000 (l.take i) (λ x hx=>bytesT_len (h x (List.mem_of_mem_take hx)))
 rw [List.length_take] at h1
 have:17000 * min i l.length≤17000 * l.length:=Nat.mul_le_mul_left _ (by omega)
 omega
section
variable {P:Program} {Z:ZP} {R:Value→World→Prop} {w w0:World} {A:List Nat→List Value→World→Prop} {B:List Nat→Nat→List Value→World→Prop} {ds:List Nat} {k:Value→T}
theorem r_shrI8 {ty:Nat} {x:Int} (hx:0≤x) (hk:wp P Z R ds (k (I (x / 256))) w A B):wp P Z R ds (.pu (binOp .shr ty (I x) (.int .u64 8)) k) w A B:=by
 have e:Op.shift .shr .i64 x .u64 8=pure (I (x / 256)):=by
  unfold Op.shift
  rw [if_neg (by omega)]
  show (pure (.int .i64 (x.fdiv (2 ^ 8))):Sem Value)=_
  rw [Int.fdiv_eq_ediv_of_nonneg _ (by decide)]
  rfl
 exact ⟨_,λ w'=>by rw [binOp_shr,e];rfl,hk⟩
theorem r_ap1 {base v6:Nat} {v:Value} {xs:By} {z:Int} {T6:Nat} {cs6:List Value} (HO:Or (rI .u8) 5 base [] w v xs) (B6:Blk w v6 T6 cs6) (n6:v6∉v.ownBlock.toList) (hb:xs.length+1≤100000000000) (hbase:base≤w.heap.size)
  (hk:∀ v' w',Or (rI .u8) 5 base [] w' v' (xs++[z])→Blk w' v6 T6 cs6→v6∉v'.ownBlock.toList→Fr v.ownBlock.toList w w'→wp Tryz.prog Z R ds (k v') w' A B):wp Tryz.prog Z R ds (.hv (Instr.buildSlice 48 1 [(0,.int .u8 z)].toArray) λ s=>.hv (Builtin.append_ #[48,48] 48 [v,s].toArray) k) w A B:=by
 refine r_appL (x:=z) (es:=[.int .u8 z]) Ebyte HO (λ _ _=>rfl) (by simp only [big];omega) hbase (λ v' w' O' f' o'=>?_)
 refine hk v' w' O' (B6.fr f' n6) (λ hq=>?_) f'
 rcases o' _ hq with h | h
 ·exact n6 h
 ·have:=B6.lt;omega
end
section
variable {Z:ZP} {w w0:World} {R:Value→World→Prop} {A:List Nat→List Value→World→Prop} {B:List Nat→Nat→List Value→World→Prop}
theorem sBytes_t {X:Option Addr} {cp:Nat} {l:List GTick} (hr:Rw rTick w X l) (hb:l.length≤big) (hw:∀ t∈l,WfG t):Cz Tryz.prog 21 [.slice X l.length cp] w (λ r w'=>∃ v,r=.tuple #[v,I (bytesS l).2]∧Or (rI .u8) 5 w.heap.size [] w' v (bytesS l).1∧Fr [] w w') Z:=by
 refine go mixed Tryz.func21 Tryz.call21 rfl (Tr.e21 _) ?_
 refine r_call (small_t hr hb) ?_
 rintro _ w1 ⟨rfl,f1⟩
 refine r_ifbn (λ hs=>?_) (λ hs=>?_)
 ·have e:bytesS l=([],3):=by unfold bytesS;rw [if_neg (by rw [hs];decide)]
  exact r_ret ⟨.slice none 0 0,by rw [e],by rw [e];exact Or.nil,f1⟩
 have e:bytesS l=(l.flatMap bytesT,0):=by unfold bytesS;rw [if_pos hs]
 obtain ⟨q1,q2⟩:=smallS_parts hs
 refine r_loop (λ (s:Nat × Value)=>[I (s.1:Int),s.2]) (λ s W=>s.1≤l.length∧Or (rI .u8) 5 w.heap.size [] W s.2 ((l.take s.1).flatMap bytesT)∧Fr [] w W) (λ s=>l.length-s.1) (0,.slice none 0 0) ⟨Nat.zero_le _,Or.nil,f1⟩ rfl ?_
 rintro ⟨i,v⟩ W ⟨hi,HO,F⟩
 dsimp only at hi HO
 refine r_if (λ h=>?_) (λ h=>?_)
 rotate_left
 ·dsimp only at h
  obtain rfl:i=l.length:=by omega
  rw [List.take_length] at HO
  exact r_brk (r_ret ⟨v,by rw [e];rfl,by rw [e];exact HO,F⟩)
 dsimp only at h
 obtain ⟨t,ht⟩:=gt (xs:=l) (j:=i) (by omega)
 have htw:=hw t (List.mem_of_getElem? ht)
 have hts:=q2 t (List.mem_of_getElem? ht)
 obtain ⟨p1,p2,p3⟩:=small_parts hts
 have hsl:=scr_len q2 i
 have hsl2:((l.take i).flatMap bytesT).length≤70000000:=by omega
 obtain ⟨ad,es,rfl,rd,e3⟩:=hr i t ht
 obtain ⟨A0,c0,A1,c1,rfl,k0,k1⟩:=oTick e3
 refine r_ob ⟨by dsimp only;omega,by dsimp only;omega⟩ ?_
 refine r_ldn (rd.fr F) ?_
 refine r_as (cs:=[.slice A0 t.bytes.length c0,.slice A1 t.picks.length c1]) (zs:=zT) (n:=2) (λ v6 W1 e6 B6 g1=>?_) Tryz.zeroValue76 Tryz.sizeOf76 (by simp [Value.oneCell'])
 have n6:v6∉v.ownBlock.toList:=λ hq=>by have:=(HO.lt _ hq).2;omega
 have F1:=F.trans g1
 have HO:=HO.fr0 g1
 refine r_ld (B6.cell (o:=1) rfl) ?_
 refine r_are (y:=(t.picks.length:Int) % 256) (u8w _) ?_
 refine r_ap1 HO B6 n6 (by omega) F1.size (λ v1 W2 O2 B6 n6 g2=>?_)
 have F2:=F1.trans_new g2 (λ q hq=>.inr (HO.lt q hq).1)
 refine r_ld (B6.cell (o:=1) rfl) ?_
 have hlow:∀ (x:Int) (k:Nat),(lowB k x).length=k:=λ x k=>lowB_len k x
 generalize ha1:(l.take i).flatMap bytesT++[(t.picks.length:Int) % 256]=a1 at O2
 have la1:a1.length≤70000001:=by rw [← ha1,List.length_append,List.length_singleton];omega
 refine r_loop (λ (s:Nat × Value)=>[I (s.1:Int),s.2]) (λ s W=>s.1≤t.picks.length∧Or (rI .u8) 5 w.heap.size [] W s.2 (a1++(t.picks.take s.1).flatMap pkB)∧Blk W v6 76 [.slice A0 t.bytes.length c0,.slice A1 t.picks.length c1]∧v6∉s.2.ownBlock.toList∧Fr [] w W) (λ s=>t.picks.length-s.1) (0,v1) ⟨Nat.zero_le _,by simpa using O2,B6,n6,F2⟩ rfl ?_
 clear HO O2 B6 n6
 rintro ⟨j,v2⟩ W3 ⟨hj,HO,B6,n6,F3⟩
 dsimp only at hj HO n6
 have hpl:=picks_len hts j
 refine r_if (λ h2=>?_) (λ h2=>?_)
 ·dsimp only at h2
  obtain ⟨p,hp⟩:=gt (xs:=t.picks) (j:=j) (by omega)
  have hp64:=htw.p p (List.mem_of_getElem? hp)
  obtain ⟨ad2,es2,rfl,rd2,e4⟩:=(k1.2.2.up F3) j p hp
  obtain rfl:=e4
  refine r_ob ⟨by dsimp only;omega,by dsimp only;omega⟩ ?_
  refine r_ld (Cf.cell_int rd2) ?_
  have hx:0≤p % 18446744073709551616∧p % 18446744073709551616 < 18446744073709551616:=by omega
  generalize ha2:a1++(t.picks.take j).flatMap pkB=a2 at HO
  have la2:a2.length≤70001000:=by rw [← ha2,List.length_append];omega
  refine r_loop (λ (s:Nat × Value)=>[I (s.1:Int),s.2]) (λ s W=>s.1≤8∧Or (rI .u8) 5 w.heap.size [] W s.2 (a2++lowB s.1 (p % 18446744073709551616))∧Blk W v6 76 [.slice A0 t.bytes.length c0,.slice (some ad2) t.picks.length c1]∧v6∉s.2.ownBlock.toList∧Fr [] w W) (λ s=>8-s.1) (0,v2) ⟨Nat.zero_le _,by simpa [lowB] using HO,B6,n6,F3⟩ rfl ?_
  clear HO B6 n6 rd2
  rintro ⟨k,v3⟩ W4 ⟨hk,HO,B6,n6,F4⟩
  dsimp only at hk HO n6
  refine r_if (λ h3=>?_) (λ h3=>?_)
  ·dsimp only at h3
   refine r_are (y:=p % 18446744073709551616) (by rw [Bt.wrap_u]) ?_
   refine r_ar (z:=8 * (k:Int)) (by omega) ?_
   have e8:(8 * (k:Int))=((8 * k:Nat):Int):=by omega
   rw [e8]
   refine r_shrU hx (n:=8 * k) (by omega) ?_
   rw [pow2_256 k]
   refine r_are (y:=p % 18446744073709551616 / 256 ^ k % 256) (u8w _) ?_
   refine r_ap1 HO B6 n6 (by rw [List.length_append,hlow];omega) F4.size (λ v4 W5 O5 B6 n6 g5=>?_)
   refine r_ar (by dsimp only;omega) ?_
   refine r_ag (s:=(k,v3)) (k+1,v4) ⟨by dsimp only;omega,?_,B6,n6,F4.trans_new g5 (λ q hq=>.inr (HO.lt q hq).1)⟩ (by dsimp only;omega) rfl
   dsimp only
   rw [lowB_snoc,← List.append_assoc]
   exact O5
  ·dsimp only at h3
   obtain rfl:k=8:=by omega
   refine r_brk ?_
   refine r_ar (by dsimp only;omega) ?_
   refine r_ag (s:=(j,v2)) (j+1,v3) ⟨by dsimp only;omega,?_,B6,n6,F4⟩ (by dsimp only;omega) rfl
   dsimp only
   rw [take_flat pkB hp,← List.append_assoc,ha2]
   exact HO
 ·dsimp only at h2
  obtain rfl:j=t.picks.length:=by omega
  rw [List.take_length] at HO hpl
  refine r_brk ?_
  refine r_ld (B6.cell (o:=0) rfl) ?_
  refine r_are (y:=(t.bytes.length:Int) % 256) (u8w _) ?_
  refine r_ap1 HO B6 n6 (by rw [List.length_append];omega) F3.size (λ v4 W4 O4 B6 n6 g4=>?_)
  have F4:=F3.trans_new g4 (λ q hq=>.inr (HO.lt q hq).1)
  refine r_ld (B6.cell (o:=0) rfl) ?_
  generalize ha3:(a1++t.picks.flatMap pkB)++[(t.bytes.length:Int) % 256]=a3 at O4
  have la3:a3.length≤70002000:=by rw [← ha3,List.length_append,List.length_append,List.length_singleton];omega
  refine r_loop (λ (s:Nat × Value)=>[I (s.1:Int),s.2]) (λ s W=>s.1≤t.bytes.length∧Or (rI .u8) 5 w.heap.size [] W s.2 (a3++(t.bytes.take s.1).flatMap rwB)∧Fr [] w W) (λ s=>t.bytes.length-s.1) (0,v4) ⟨Nat.zero_le _,by simpa using O4,F4⟩ rfl ?_
  clear HO O4 B6 n6
  rintro ⟨j,v5⟩ W5 ⟨hj,HO,F5⟩
  dsimp only at hj HO
  have hrl:=rows_len hts j
  refine r_if (λ h3=>?_) (λ h3=>?_)
  ·dsimp only at h3
   obtain ⟨b,hbj⟩:=gt (xs:=t.bytes) (j:=j) (by omega)
   have hbl:=p3 b (List.mem_of_getElem? hbj)
   obtain ⟨ad2,es2,rfl,rd2,Y,cy,rfl,y1,y2,y3⟩:=k0.2.2 j b hbj
   refine r_ob ⟨by dsimp only;omega,by dsimp only;omega⟩ ?_
   refine r_ld (cell1 (rd2.fr F5)) ?_
   refine r_are (y:=(b.length:Int) % 256) (u8w _) ?_
   refine r_shrI8 (by omega) ?_
   refine r_are (y:=(b.length:Int) / 256 % 256) (u8w _) ?_
   generalize ha4:a3++(t.bytes.take j).flatMap rwB=a4 at HO
   have la4:a4.length≤70020000:=by rw [← ha4,List.length_append];omega
   refine r_app2 HO (by omega) F5.size (λ v7 W6 O6 g6=>?_)
   have F6:=F5.trans_new g6 (λ q hq=>.inr (HO.lt q hq).1)
   refine r_apps (xs:=b) Ebyte O6 rfl (Cg.RwO.plain plainI (y3.up F6)) (by simp only [big,List.length_append,List.length_cons,List.length_nil];omega) F6.size (λ v8 W7 O7 g7 o7=>?_)
   have F7:=F6.trans_new g7 (λ q hq=>.inr (O6.lt q hq).1)
   refine r_ar (by dsimp only;omega) ?_
   refine r_ag (s:=(j,v5)) (j+1,v8) ⟨by dsimp only;omega,?_,F7⟩ (by dsimp only;omega) rfl
   dsimp only
   have er:rwB b=[(b.length:Int) % 256,(b.length:Int) / 256 % 256]++b:=by
    unfold rwB;rfl
   rw [take_flat rwB hbj,← List.append_assoc,ha4,er,← List.append_assoc]
   have e5:a4++[(b.length:Int) % 256,(b.length:Int) / 256 % 256]=a4++[(b.length:Int) % 256]++[(b.length:Int) / 256 % 256]:=by simp
   rw [e5]
   exact O7
  ·dsimp only at h3
   obtain rfl:j=t.bytes.length:=by omega
   rw [List.take_length] at HO
   refine r_brk ?_
   refine r_ar (by dsimp only;omega) ?_
   refine r_ag (s:=(i,v)) (i+1,v5) ⟨by dsimp only;omega,?_,F5⟩ (by dsimp only;omega) rfl
   dsimp only
   rw [take_flat bytesT ht,bytesT_eq,ha1,ha3]
   exact HO
end
end Go.Proofs.YtppodgdhdddfkaaGreatDoor.Sc
set_option linter.unusedVariables false
set_option linter.unusedSimpArgs false
namespace Go.Proofs.YtppodgdhdddfkaaGreatDoor.Sc
set_option maxRecDepth 100000
open Go Go.RowKit Go.Proofs.YtppodgdhdddfkaaGreatDoor.Sx
open Go.Proofs.YtppodgdhdddfkaaGreatDoor.Sg
open Go.Proofs.YtppodgdhdddfkaaGreatDoor.Bi (mixed take_s Eint)
open Go.Proofs.YtppodgdhdddfkaaGreatDoor.Hd (WfB Ebyte Erow Etick le le_bound le_max le_snoc le_drop shl_or wrap_u64 u_eq r_shlu)
open Go.Proofs.YtppodgdhdddfkaaGreatDoor.Cg (r_callZ r_tne toI take_flat)
section
variable {Z:ZP} {w w0:World} {R:Value→World→Prop} {A:List Nat→List Value→World→Prop} {B:List Nat→Nat→List Value→World→Prop}
end
end Go.Proofs.YtppodgdhdddfkaaGreatDoor.Sc
set_option linter.unusedVariables false
set_option linter.unusedSimpArgs false
namespace Go.Proofs.YtppodgdhdddfkaaGreatDoor.Sc
set_option maxRecDepth 100000
open Go Go.RowKit Go.Proofs.YtppodgdhdddfkaaGreatDoor.Sx
open Go.Proofs.YtppodgdhdddfkaaGreatDoor.Sg
open Go.Proofs.YtppodgdhdddfkaaGreatDoor.Bi (mixed take_s Eint)
open Go.Proofs.YtppodgdhdddfkaaGreatDoor.Hd (WfB Ebyte Erow Etick le le_bound le_max le_snoc le_drop shl_or wrap_u64 u_eq r_shlu)
open Go.Proofs.YtppodgdhdddfkaaGreatDoor.Cg (r_callZ r_tne toI take_flat)
section
variable {Z:ZP} {w w0:World} {R:Value→World→Prop} {A:List Nat→List Value→World→Prop} {B:List Nat→Nat→List Value→World→Prop}
end
end Go.Proofs.YtppodgdhdddfkaaGreatDoor.Sc
set_option linter.unusedVariables false
set_option linter.unusedSimpArgs false
namespace Go.Proofs.YtppodgdhdddfkaaGreatDoor.Sc
set_option maxRecDepth 100000
open Go Go.RowKit Go.Proofs.YtppodgdhdddfkaaGreatDoor.Sx
open Go.Proofs.YtppodgdhdddfkaaGreatDoor.Sg
open Go.Proofs.YtppodgdhdddfkaaGreatDoor.Bi (mixed take_s Eint)
open Go.Proofs.YtppodgdhdddfkaaGreatDoor.Hd (WfB Ebyte Erow Etick le le_bound le_max le_snoc le_drop shl_or wrap_u64 u_eq r_shlu)
open Go.Proofs.YtppodgdhdddfkaaGreatDoor.Cg (r_callZ r_tne toI take_flat)
section
variable {Z:ZP} {w w0:World} {R:Value→World→Prop} {A:List Nat→List Value→World→Prop} {B:List Nat→Nat→List Value→World→Prop}
theorem rJust_t {X Y:Option Addr} {c d:Nat} {l:List GTick} (ha:Rw rTick w X l) (hb:Rw rTick w Y l) (la:l.length≤big) (wa:∀ t∈l,∀ x∈t.bytes,WfB x):Cz Tryz.prog 14 [.slice X l.length c,.slice Y l.length d] w (λ r w'=>r=.bool true∧Fr [] w w') Z:=by
 have hb2:=la
 simp only [big] at la
 refine go mixed Tryz.func14 Tryz.call14 rfl (Tr.e14 _ _) ?_
 refine r_call (rSame_t ha hb hb2 wa wa) ?_
 rintro _ w1 ⟨rfl,f1⟩
 refine r_ifbn (λ h=>by rw [sameS_rfl] at h;cases h) (λ _=>?_)
 refine r_loop (λ (i:Nat)=>[I (i:Int),.bool false]) (λ i W=>i≤l.length∧Fr [] w W) (λ i=>l.length-i) 0 ⟨Nat.zero_le _,f1⟩ rfl ?_
 rintro i W ⟨hi,F⟩
 refine r_if (λ h=>?_) (λ h=>?_)
 ·obtain ⟨t,ht⟩:=gt (xs:=l) (j:=i) (by omega)
  obtain ⟨a1,es1,rfl,rd1,e1⟩:=ha i t ht
  obtain ⟨a2,es2,rfl,rd2,e2⟩:=hb i t ht
  obtain ⟨A0,c0,A1,c1,rfl,_⟩:=oTick e1
  obtain ⟨B0,d0,B1,d1,rfl,_⟩:=oTick e2
  refine r_dr (λ W1 g1=>?_)
  have F1:=F.trans g1
  refine r_ob ⟨by omega,by omega⟩ ?_
  refine r_ld (ad:=addA (addA a1 (i * 2)) 0) ((rd1.fr F1).2 0 _ rfl) ?_
  refine r_ob ⟨by omega,by omega⟩ ?_
  refine r_ld (ad:=addA (addA a2 (i * 2)) 0) ((rd2.fr F1).2 0 _ rfl) ?_
  refine r_if (λ h=>?_) (λ _=>?_)
  ·exact absurd rfl h
  refine r_ar (by omega) ?_
  exact r_ag (i+1) ⟨by omega,F1⟩ (by omega) rfl
 ·exact r_brk (r_ret ⟨rfl,F⟩)
end
end Go.Proofs.YtppodgdhdddfkaaGreatDoor.Sc
set_option linter.unusedVariables false
set_option linter.unusedSimpArgs false
namespace Go.Proofs.YtppodgdhdddfkaaGreatDoor.Sc
set_option maxRecDepth 100000
open Go Go.RowKit Go.Proofs.YtppodgdhdddfkaaGreatDoor.Sx
open Go.Proofs.YtppodgdhdddfkaaGreatDoor.Sg
open Go.Proofs.YtppodgdhdddfkaaGreatDoor.Hd (WfB le le_bound)
open Go.Proofs.YtppodgdhdddfkaaGreatDoor.Cg (toI)
theorem pkB_back {p:Int} (h:in64 p):pickOf (pkB p)=p:=by
 unfold pickOf pkB
 have hp:0≤p % 18446744073709551616∧p % 18446744073709551616 < 18446744073709551616:=by omega
 rw [le_low 8 _ hp.1 (by have:=hp.2;simpa using this)]
 unfold in64 at h
 unfold toI
 split<;>omega
theorem picksR_back:∀ (l:List Int) (r:By),(∀ p∈l,in64 p)→picksR l.length (l.flatMap pkB++r)=some (l,r):=by
 intro l
 induction l with
 | nil=>intro r _;rfl
 | cons p l ih =>
  intro r h
  rw [List.length_cons,picksR,List.flatMap_cons,List.append_assoc,if_pos (by rw [List.length_append,pk_len];omega),List.drop_left' (pk_len p),List.take_left' (pk_len p),ih r (λ q hq=>h q (by simp [hq])),pkB_back (h p (by simp))]
  rfl
theorem lenOf_rw (b:By) (hb:b.length≤1024) (r:By):lenOf (rwB b++r)=b.length:=by
 unfold lenOf rwB
 rw [List.append_assoc,List.take_left' (lowB_len 2 _),le_low 2 _ (by omega) (by have:(b.length:Int) < 65536:=by omega
                                                                                simpa using this)]
 omega
theorem rowsR_back:∀ (l:List By) (r:By),(∀ b∈l,b.length≤1024)→rowsR l.length (l.flatMap rwB++r)=some (l,r):=by
 intro l
 induction l with
 | nil=>intro r _;rfl
 | cons b l ih =>
  intro r h
  have hb:=h b (by simp)
  have e1:lenOf (rwB b++(l.flatMap rwB++r))=b.length:=lenOf_rw b hb _
  have e2:(rwB b++(l.flatMap rwB++r)).drop 2=b++(l.flatMap rwB++r):=by
   unfold rwB
   rw [List.append_assoc,List.drop_left' (lowB_len 2 _)]
  have e3:2≤(rwB b++(l.flatMap rwB++r)).length:=by unfold rwB;simp only [List.length_append,lowB_len];omega
  rw [List.length_cons,List.flatMap_cons,List.append_assoc,rowsR,e1,e2,if_pos ⟨e3,by rw [List.length_append];omega⟩,List.drop_left' rfl,List.take_left' rfl,ih r (λ q hq=>h q (by simp [hq]))]
  rfl
theorem tickR_back {t:GTick} (hw:WfG t) (hs:smallT t=true) (r:By):tickR (bytesT t++r)=some (t,r):=by
 obtain ⟨p1,p2,p3⟩:=small_parts hs
 have e:bytesT t++r=(t.picks.length:Int) :: (t.picks.flatMap pkB++((t.bytes.length:Int) :: (t.bytes.flatMap rwB++r))):=by
  have:=bytesT_eq t []
  rw [List.nil_append] at this
  rw [this,show (t.picks.length:Int) % 256=t.picks.length by omega,show (t.bytes.length:Int) % 256=t.bytes.length by omega]
  simp
 rw [e]
 show (picksR ((t.picks.length:Int)).toNat _).bind midR=_
 rw [Int.toNat_natCast,picksR_back _ _ hw.p]
 show (rowsR ((t.bytes.length:Int)).toNat _).bind (endR t.picks)=_
 rw [Int.toNat_natCast,rowsR_back _ _ p3]
 show endR t.picks (t.bytes,r)=_
 unfold endR
 exact if_pos hs
theorem readN_back:∀ (l:List GTick) (n:Nat) (r:By),(∀ t∈l,smallT t=true∧WfG t)→l.length≤n→readN n (l.flatMap bytesT++r)=(l++(readN (n-l.length) r).1,(readN (n-l.length) r).2):=by
 intro l
 induction l with
 | nil=>intro n r _ _;rfl
 | cons t l ih =>
  intro n r h hn
  rw [List.length_cons] at hn
  obtain ⟨hs,hg⟩:=h t (by simp)
  rw [List.flatMap_cons,List.append_assoc,readN_go (tickR_back hg hs _) (by omega),ih (n-1) r (λ u hu=>h u (by simp [hu])) (by omega),List.length_cons,show n-1-l.length=n-(l.length+1) by omega]
  rfl
theorem bytesS_ok {l:List GTick} (h:∀ t∈l,smallT t=true) (hl:l.length≤4096):bytesS l=(l.flatMap bytesT,0):=by
 unfold bytesS
 rw [if_pos]
 unfold smallS
 simp only [Bool.and_eq_true,decide_eq_true_eq,List.all_eq_true]
 exact ⟨hl,h⟩
theorem bytes_back {l:List GTick} (hw:∀ t∈l,WfG t) (hs:smallS l=true):readN 4096 (bytesS l).1=(l,[]):=by
 obtain ⟨q1,q2⟩:=smallS_parts hs
 have e:=readN_back l 4096 [] (λ t ht=>⟨q2 t ht,hw t ht⟩) q1
 rw [bytesS_ok q2 q1]
 rw [List.append_nil] at e
 show readN 4096 (l.flatMap bytesT)=_
 rw [e]
 have:readN (4096-l.length) []=([],[]):=readN_no rfl
 rw [this,List.append_nil]
end Go.Proofs.YtppodgdhdddfkaaGreatDoor.Sc
set_option linter.unusedVariables false
set_option linter.unusedSimpArgs false
namespace Go.Proofs.YtppodgdhdddfkaaGreatDoor.Sc
set_option maxRecDepth 100000
open Go Go.RowKit Go.Proofs.YtppodgdhdddfkaaGreatDoor.Sx
open Go.Proofs.YtppodgdhdddfkaaGreatDoor.Sg
open Go.Proofs.YtppodgdhdddfkaaGreatDoor.Bi (mixed take_s)
open Go.Proofs.YtppodgdhdddfkaaGreatDoor.Hd (WfB)
open Go.Proofs.YtppodgdhdddfkaaGreatDoor.Cg (mn toI)
section
variable {Z:ZP} {w w0:World} {R:Value→World→Prop} {A:List Nat→List Value→World→Prop} {B:List Nat→Nat→List Value→World→Prop}
end
end Go.Proofs.YtppodgdhdddfkaaGreatDoor.Sc
