import Derived.Test.YtppodgdhdddfkaaGreatDoorQMy
set_option linter.unusedVariables false
set_option linter.unusedSimpArgs false
namespace Go.Proofs.YtppodgdhdddfkaaGreatDoor.Sc
set_option maxRecDepth 100000
open Go Go.RowKit Go.Proofs.YtppodgdhdddfkaaGreatDoor.Sx
open Go.Proofs.YtppodgdhdddfkaaGreatDoor.Sg
open Go.Proofs.YtppodgdhdddfkaaGreatDoor.Bi (mixed take_s Eint)
open Go.Proofs.YtppodgdhdddfkaaGreatDoor.Hd (WfB Ebyte Erow Etick le le_bound le_max le_snoc le_drop shl_or wrap_u64 u_eq r_shlu)
open Go.Proofs.YtppodgdhdddfkaaGreatDoor.Cg (r_callZ r_tne toI take_flat)
def pkB (p:Int):By:=lowB 8 (p % 18446744073709551616)
def rwB (b:By):By:=lowB 2 (b.length:Int)++b
theorem bytesT_eq (t:GTick) (a:By):a++bytesT t=(((a++[(t.picks.length:Int) % 256])++t.picks.flatMap pkB)++[(t.bytes.length:Int) % 256])++t.bytes.flatMap rwB:=by
 unfold bytesT pkB rwB
 simp
theorem flat_bound {α:Type} (f:α→By) (k:Nat):∀ (l:List α),(∀ x∈l,(f x).length≤k)→(l.flatMap f).length≤k * l.length:=by
 intro l
 induction l with
 | nil=>intro _;simp
 | cons x r ih =>
  intro h
  have h1:=h x (by simp)
  have h2:=ih (λ y hy=>h y (by simp [hy]))
  rw [List.flatMap_cons,List.length_append,List.length_cons,Nat.mul_add,Nat.mul_one]
  omega
theorem pk_len (p:Int):(pkB p).length=8:=lowB_len 8 _
theorem rw_len {t:GTick} (hs:smallT t=true):∀ b∈t.bytes,(rwB b).length≤1026:=λ b hb=>by
 have:=(small_parts hs).2.2 b hb
 unfold rwB
 rw [List.length_append,lowB_len];omega
theorem picks_len {t:GTick} (hs:smallT t=true) (j:Nat):((t.picks.take j).flatMap pkB).length≤512:=by
 have h1:=flat_bound pkB 8 (t.picks.take j) (λ x _=>Nat.le_of_eq (pk_len x))
 have h2:=(small_parts hs).1
 rw [List.length_take] at h1
 omega
theorem rows_len {t:GTick} (hs:smallT t=true) (j:Nat):((t.bytes.take j).flatMap rwB).length≤16416:=by
 have h1:=flat_bound rwB 1026 (t.bytes.take j) (λ x hx=>rw_len hs x (List.mem_of_mem_take hx))
 have h2:=(small_parts hs).2.1
 rw [List.length_take] at h1
 omega
theorem bytesT_len {t:GTick} (hs:smallT t=true):(bytesT t).length≤17000:=by
 have e:=bytesT_eq t []
 have h1:=picks_len hs t.picks.length
 have h2:=rows_len hs t.bytes.length
 rw [List.take_length] at h1 h2
 have:=congrArg List.length e
 simp only [List.length_append,List.nil_append,List.length_cons,List.length_nil] at this
 omega
theorem scr_len {l:List GTick} (h:∀ t∈l,smallT t=true) (i:Nat):((l.take i).flatMap bytesT).length≤17000 * l.length:=by
 have h1:=flat_bound bytesT 17000 (l.take i) (λ x hx=>bytesT_len (h x (List.mem_of_mem_take hx)))
 rw [List.length_take] at h1
 have:17000 * min i l.length≤17000 * l.length:=Nat.mul_le_mul_left _ (by omega)
 omega
section
variable {P:Program} {Z:ZP} {R:Value→World→Prop} {w w0:World} {A:List Nat→List Value→World→Prop} {B:List Nat→Nat→List Value→World→Prop} {ds:List Nat} {k:Value→T}
theorem r_shrI8 {ty:Nat} {x:Int} (hx:0≤x) (hk:wp P Z R ds (k (I (x / 256))) w A B):wp P Z R ds (.pu (binOp .shr ty (I x) (.int .u64 8)) k) w A B:=by
 have e:Op.shift .shr .i64 x .u64 8=pure (I (x / 256)):=by
  unfold Op.shift
  rw [if_neg (by omega)]
  show (pure (.int .i64 (x.fdiv (2 ^ 8))):Sem Value)=_
  rw [Int.fdiv_eq_ediv_of_nonneg _ (by decide)]
  rfl
 exact ⟨_,λ w'=>by rw [binOp_shr,e];rfl,hk⟩
theorem r_ap1 {base v6:Nat} {v:Value} {xs:By} {z:Int} {T6:Nat} {cs6:List Value} (HO:Or (rI .u8) 5 base [] w v xs) (B6:Blk w v6 T6 cs6) (n6:v6∉v.ownBlock.toList) (hb:xs.length+1≤100000000000) (hbase:base≤w.heap.size)
  (hk:∀ v' w',Or (rI .u8) 5 base [] w' v' (xs++[z])→Blk w' v6 T6 cs6→v6∉v'.ownBlock.toList→Fr v.ownBlock.toList w w'→wp Tryz.prog Z R ds (k v') w' A B):wp Tryz.prog Z R ds (.hv (Instr.buildSlice 48 1 [(0,.int .u8 z)].toArray) λ s=>.hv (Builtin.append_ #[48,48] 48 [v,s].toArray) k) w A B:=by
 refine r_appL (x:=z) (es:=[.int .u8 z]) Ebyte HO (λ _ _=>rfl) (by simp only [big];omega) hbase (λ v' w' O' f' o'=>?_)
 refine hk v' w' O' (B6.fr f' n6) (λ hq=>?_) f'
 rcases o' _ hq with h | h
 ·exact n6 h
 ·have:=B6.lt;omega
end
section
variable {Z:ZP} {w w0:World} {R:Value→World→Prop} {A:List Nat→List Value→World→Prop} {B:List Nat→Nat→List Value→World→Prop}
theorem sBytes_t {X:Option Addr} {cp:Nat} {l:List GTick} (hr:Rw rTick w X l) (hb:l.length≤big) (hw:∀ t∈l,WfG t):Cz Tryz.prog 21 [.slice X l.length cp] w (λ r w'=>∃ v,r=.tuple #[v,I (bytesS l).2]∧Or (rI .u8) 5 w.heap.size [] w' v (bytesS l).1∧Fr [] w w') Z:=by
 refine go mixed Tryz.func21 Tryz.call21 rfl (Tr.e21 _) ?_
 refine r_call (small_t hr hb) ?_
 rintro _ w1 ⟨rfl,f1⟩
 refine r_ifbn (λ hs=>?_) (λ hs=>?_)
 ·have e:bytesS l=([],3):=by unfold bytesS;rw [if_neg (by rw [hs];decide)]
  exact r_ret ⟨.slice none 0 0,by rw [e],by rw [e];exact Or.nil,f1⟩
 have e:bytesS l=(l.flatMap bytesT,0):=by unfold bytesS;rw [if_pos hs]
 obtain ⟨q1,q2⟩:=smallS_parts hs
 refine r_loop (λ (s:Nat × Value)=>[I (s.1:Int),s.2]) (λ s W=>s.1≤l.length∧Or (rI .u8) 5 w.heap.size [] W s.2 ((l.take s.1).flatMap bytesT)∧Fr [] w W) (λ s=>l.length-s.1) (0,.slice none 0 0) ⟨Nat.zero_le _,Or.nil,f1⟩ rfl ?_
 rintro ⟨i,v⟩ W ⟨hi,HO,F⟩
 dsimp only at hi HO
 refine r_if (λ h=>?_) (λ h=>?_)
 rotate_left
 ·dsimp only at h
  obtain rfl:i=l.length:=by omega
  rw [List.take_length] at HO
  exact r_brk (r_ret ⟨v,by rw [e];rfl,by rw [e];exact HO,F⟩)
 dsimp only at h
 obtain ⟨t,ht⟩:=gt (xs:=l) (j:=i) (by omega)
 have htw:=hw t (List.mem_of_getElem? ht)
 have hts:=q2 t (List.mem_of_getElem? ht)
 obtain ⟨p1,p2,p3⟩:=small_parts hts
 have hsl:=scr_len q2 i
 have hsl2:((l.take i).flatMap bytesT).length≤70000000:=by omega
 obtain ⟨ad,es,rfl,rd,e3⟩:=hr i t ht
 obtain ⟨A0,c0,A1,c1,rfl,k0,k1⟩:=oTick e3
 refine r_ob ⟨by dsimp only;omega,by dsimp only;omega⟩ ?_
 refine r_ldn (rd.fr F) ?_
 refine r_as (cs:=[.slice A0 t.bytes.length c0,.slice A1 t.picks.length c1]) (zs:=zT) (n:=2) (λ v6 W1 e6 B6 g1=>?_) Tryz.zeroValue76 Tryz.sizeOf76 (by simp [Value.oneCell'])
 have n6:v6∉v.ownBlock.toList:=λ hq=>by have:=(HO.lt _ hq).2;omega
 have F1:=F.trans g1
 have HO:=HO.fr0 g1
 refine r_ld (B6.cell (o:=1) rfl) ?_
 refine r_are (y:=(t.picks.length:Int) % 256) (u8w _) ?_
 refine r_ap1 HO B6 n6 (by omega) F1.size (λ v1 W2 O2 B6 n6 g2=>?_)
 have F2:=F1.trans_new g2 (λ q hq=>.inr (HO.lt q hq).1)
 refine r_ld (B6.cell (o:=1) rfl) ?_
 have hlow:∀ (x:Int) (k:Nat),(lowB k x).length=k:=λ x k=>lowB_len k x
 generalize ha1:(l.take i).flatMap bytesT++[(t.picks.length:Int) % 256]=a1 at O2
 have la1:a1.length≤70000001:=by rw [← ha1,List.length_append,List.length_singleton];omega
 refine r_loop (λ (s:Nat × Value)=>[I (s.1:Int),s.2]) (λ s W=>s.1≤t.picks.length∧Or (rI .u8) 5 w.heap.size [] W s.2 (a1++(t.picks.take s.1).flatMap pkB)∧Blk W v6 76 [.slice A0 t.bytes.length c0,.slice A1 t.picks.length c1]∧v6∉s.2.ownBlock.toList∧Fr [] w W) (λ s=>t.picks.length-s.1) (0,v1) ⟨Nat.zero_le _,by simpa using O2,B6,n6,F2⟩ rfl ?_
 clear HO O2 B6 n6
 rintro ⟨j,v2⟩ W3 ⟨hj,HO,B6,n6,F3⟩
 dsimp only at hj HO n6
 have hpl:=picks_len hts j
 refine r_if (λ h2=>?_) (λ h2=>?_)
 ·dsimp only at h2
  obtain ⟨p,hp⟩:=gt (xs:=t.picks) (j:=j) (by omega)
  have hp64:=htw.p p (List.mem_of_getElem? hp)
  obtain ⟨ad2,es2,rfl,rd2,e4⟩:=(k1.2.2.up F3) j p hp
  obtain rfl:=e4
  refine r_ob ⟨by dsimp only;omega,by dsimp only;omega⟩ ?_
  refine r_ld (Cf.cell_int rd2) ?_
  have hx:0≤p % 18446744073709551616∧p % 18446744073709551616 < 18446744073709551616:=by omega
  generalize ha2:a1++(t.picks.take j).flatMap pkB=a2 at HO
  have la2:a2.length≤70001000:=by rw [← ha2,List.length_append];omega
  refine r_loop (λ (s:Nat × Value)=>[I (s.1:Int),s.2]) (λ s W=>s.1≤8∧Or (rI .u8) 5 w.heap.size [] W s.2 (a2++lowB s.1 (p % 18446744073709551616))∧Blk W v6 76 [.slice A0 t.bytes.length c0,.slice (some ad2) t.picks.length c1]∧v6∉s.2.ownBlock.toList∧Fr [] w W) (λ s=>8-s.1) (0,v2) ⟨Nat.zero_le _,by simpa [lowB] using HO,B6,n6,F3⟩ rfl ?_
  clear HO B6 n6 rd2
  rintro ⟨k,v3⟩ W4 ⟨hk,HO,B6,n6,F4⟩
  dsimp only at hk HO n6
  refine r_if (λ h3=>?_) (λ h3=>?_)
  ·dsimp only at h3
   refine r_are (y:=p % 18446744073709551616) (by rw [Bt.wrap_u]) ?_
   refine r_ar (z:=8 * (k:Int)) (by omega) ?_
   have e8:(8 * (k:Int))=((8 * k:Nat):Int):=by omega
   rw [e8]
   refine r_shrU hx (n:=8 * k) (by omega) ?_
   rw [pow2_256 k]
   refine r_are (y:=p % 18446744073709551616 / 256 ^ k % 256) (u8w _) ?_
   refine r_ap1 HO B6 n6 (by rw [List.length_append,hlow];omega) F4.size (λ v4 W5 O5 B6 n6 g5=>?_)
   refine r_ar (by dsimp only;omega) ?_
   refine r_ag (s:=(k,v3)) (k+1,v4) ⟨by dsimp only;omega,?_,B6,n6,F4.trans_new g5 (λ q hq=>.inr (HO.lt q hq).1)⟩ (by dsimp only;omega) rfl
   dsimp only
   rw [lowB_snoc,← List.append_assoc]
   exact O5
  ·dsimp only at h3
   obtain rfl:k=8:=by omega
   refine r_brk ?_
   refine r_ar (by dsimp only;omega) ?_
   refine r_ag (s:=(j,v2)) (j+1,v3) ⟨by dsimp only;omega,?_,B6,n6,F4⟩ (by dsimp only;omega) rfl
   dsimp only
   rw [take_flat pkB hp,← List.append_assoc,ha2]
   exact HO
 ·dsimp only at h2
  obtain rfl:j=t.picks.length:=by omega
  rw [List.take_length] at HO hpl
  refine r_brk ?_
  refine r_ld (B6.cell (o:=0) rfl) ?_
  refine r_are (y:=(t.bytes.length:Int) % 256) (u8w _) ?_
  refine r_ap1 HO B6 n6 (by rw [List.length_append];omega) F3.size (λ v4 W4 O4 B6 n6 g4=>?_)
  have F4:=F3.trans_new g4 (λ q hq=>.inr (HO.lt q hq).1)
  refine r_ld (B6.cell (o:=0) rfl) ?_
  generalize ha3:(a1++t.picks.flatMap pkB)++[(t.bytes.length:Int) % 256]=a3 at O4
  have la3:a3.length≤70002000:=by rw [← ha3,List.length_append,List.length_append,List.length_singleton];omega
  refine r_loop (λ (s:Nat × Value)=>[I (s.1:Int),s.2]) (λ s W=>s.1≤t.bytes.length∧Or (rI .u8) 5 w.heap.size [] W s.2 (a3++(t.bytes.take s.1).flatMap rwB)∧Fr [] w W) (λ s=>t.bytes.length-s.1) (0,v4) ⟨Nat.zero_le _,by simpa using O4,F4⟩ rfl ?_
  clear HO O4 B6 n6
  rintro ⟨j,v5⟩ W5 ⟨hj,HO,F5⟩
  dsimp only at hj HO
  have hrl:=rows_len hts j
  refine r_if (λ h3=>?_) (λ h3=>?_)
  ·dsimp only at h3
   obtain ⟨b,hbj⟩:=gt (xs:=t.bytes) (j:=j) (by omega)
   have hbl:=p3 b (List.mem_of_getElem? hbj)
   obtain ⟨ad2,es2,rfl,rd2,Y,cy,rfl,y1,y2,y3⟩:=k0.2.2 j b hbj
   refine r_ob ⟨by dsimp only;omega,by dsimp only;omega⟩ ?_
   refine r_ld (cell1 (rd2.fr F5)) ?_
   refine r_are (y:=(b.length:Int) % 256) (u8w _) ?_
   refine r_shrI8 (by omega) ?_
   refine r_are (y:=(b.length:Int) / 256 % 256) (u8w _) ?_
   generalize ha4:a3++(t.bytes.take j).flatMap rwB=a4 at HO
   have la4:a4.length≤70020000:=by rw [← ha4,List.length_append];omega
   refine r_app2 HO (by omega) F5.size (λ v7 W6 O6 g6=>?_)
   have F6:=F5.trans_new g6 (λ q hq=>.inr (HO.lt q hq).1)
   refine r_apps (xs:=b) Ebyte O6 rfl (Cg.RwO.plain plainI (y3.up F6)) (by simp only [big,List.length_append,List.length_cons,List.length_nil];omega) F6.size (λ v8 W7 O7 g7 o7=>?_)
   have F7:=F6.trans_new g7 (λ q hq=>.inr (O6.lt q hq).1)
   refine r_ar (by dsimp only;omega) ?_
   refine r_ag (s:=(j,v5)) (j+1,v8) ⟨by dsimp only;omega,?_,F7⟩ (by dsimp only;omega) rfl
   dsimp only
   have er:rwB b=[(b.length:Int) % 256,(b.length:Int) / 256 % 256]++b:=by
    unfold rwB;rfl
   rw [take_flat rwB hbj,← List.append_assoc,ha4,er,← List.append_assoc]
   have e5:a4++[(b.length:Int) % 256,(b.length:Int) / 256 % 256]=a4++[(b.length:Int) % 256]++[(b.length:Int) / 256 % 256]:=by simp
   rw [e5]
   exact O7
  ·dsimp only at h3
   obtain rfl:j=t.bytes.length:=by omega
   rw [List.take_length] at HO
   refine r_brk ?_
   refine r_ar (by dsimp only;omega) ?_
   refine r_ag (s:=(i,v)) (i+1,v5) ⟨by dsimp only;omega,?_,F5⟩ (by dsimp only;omega) rfl
   dsimp only
   rw [take_flat bytesT ht,bytesT_eq,ha1,ha3]
   exact HO
end
end Go.Proofs.YtppodgdhdddfkaaGreatDoor.Sc
set_option linter.unusedVariables false
set_option linter.unusedSimpArgs false
namespace Go.Proofs.YtppodgdhdddfkaaGreatDoor.Sc
set_option maxRecDepth 100000
open Go Go.RowKit Go.Proofs.YtppodgdhdddfkaaGreatDoor.Sx
open Go.Proofs.YtppodgdhdddfkaaGreatDoor.Sg
open Go.Proofs.YtppodgdhdddfkaaGreatDoor.Bi (mixed take_s Eint)
open Go.Proofs.YtppodgdhdddfkaaGreatDoor.Hd (WfB Ebyte Erow Etick le le_bound le_max le_snoc le_drop shl_or wrap_u64 u_eq r_shlu)
open Go.Proofs.YtppodgdhdddfkaaGreatDoor.Cg (r_callZ r_tne toI take_flat)
section
variable {Z:ZP} {w w0:World} {R:Value→World→Prop} {A:List Nat→List Value→World→Prop} {B:List Nat→Nat→List Value→World→Prop}
theorem rBytesS_t {X:Option Addr} {cp:Nat} {l:List GTick} (hr:Rw rTick w X l) (hb:l.length≤big) (hw:∀ t∈l,WfG t):Cz Tryz.prog 22 [.slice X l.length cp] w (λ r w'=>∃ v,r=.tuple #[v,I (bytesS l).2]∧Or (rI .u8) 5 w.heap.size [] w' v (bytesS l).1∧Fr [] w w') Z:=by
 refine go mixed Tryz.func22 Tryz.call22 rfl (Tr.e22 _) ?_
 refine r_call (rsmall_t hr hb) ?_
 rintro _ w1 ⟨rfl,f1⟩
 refine r_ifbn (λ hs=>?_) (λ hs=>?_)
 ·have e:bytesS l=([],3):=by unfold bytesS;rw [if_neg (by rw [hs];decide)]
  exact r_ret ⟨.slice none 0 0,by rw [e],by rw [e];exact Or.nil,f1⟩
 have e:bytesS l=(l.flatMap bytesT,0):=by unfold bytesS;rw [if_pos hs]
 obtain ⟨q1,q2⟩:=smallS_parts hs
 refine r_loop (λ (s:Nat × Value)=>[I (s.1:Int),s.2]) (λ s W=>s.1≤l.length∧Or (rI .u8) 5 w.heap.size [] W s.2 ((l.take s.1).flatMap bytesT)∧Fr [] w W) (λ s=>l.length-s.1) (0,.slice none 0 0) ⟨Nat.zero_le _,Or.nil,f1⟩ rfl ?_
 rintro ⟨i,v⟩ W ⟨hi,HO,F⟩
 dsimp only at hi HO
 refine r_if (λ h=>?_) (λ h=>?_)
 rotate_left
 ·dsimp only at h
  obtain rfl:i=l.length:=by omega
  rw [List.take_length] at HO
  exact r_brk (r_ret ⟨v,by rw [e];rfl,by rw [e];exact HO,F⟩)
 dsimp only at h
 obtain ⟨t,ht⟩:=gt (xs:=l) (j:=i) (by omega)
 have htw:=hw t (List.mem_of_getElem? ht)
 have hts:=q2 t (List.mem_of_getElem? ht)
 obtain ⟨p1,p2,p3⟩:=small_parts hts
 have hsl:=scr_len q2 i
 have hsl2:((l.take i).flatMap bytesT).length≤70000000:=by omega
 obtain ⟨ad,es,rfl,rd,e3⟩:=hr i t ht
 obtain ⟨A0,c0,A1,c1,rfl,k0,k1⟩:=oTick e3
 have c_0:∀ {W:World},Fr [] w W→W.cell? (addA (addA ad (i * 2)) 0)=some (.slice A0 t.bytes.length c0):=λ F=>(rd.fr F).2 0 _ rfl
 have c_1:∀ {W:World},Fr [] w W→W.cell? (addA (addA ad (i * 2)) 1)=some (.slice A1 t.picks.length c1):=λ F=>(rd.fr F).2 1 _ rfl
 have hob:∀ {P:Prop},(0≤(i:Int)∧(i:Int) < (l.length:Int)→P)→P:=λ h'=>h' ⟨by omega,by omega⟩
 refine r_ob ⟨by dsimp only;omega,by dsimp only;omega⟩ ?_
 refine r_ld (c_1 F) ?_
 refine r_are (y:=(t.picks.length:Int) % 256) (u8w _) ?_
 refine r_appL (x:=(t.picks.length:Int) % 256) (es:=[.int .u8 ((t.picks.length:Int) % 256)]) Ebyte HO (λ _ _=>rfl) (by simp only [big];omega) F.size (λ v1 W2 O2 g2 o2=>?_)
 have F2:=F.trans_new g2 (λ q hq=>.inr (HO.lt q hq).1)
 generalize ha1:(l.take i).flatMap bytesT++[(t.picks.length:Int) % 256]=a1 at O2
 have la1:a1.length≤70000001:=by rw [← ha1,List.length_append,List.length_singleton];omega
 refine r_loop (λ (s:Nat × Value)=>[I (s.1:Int),s.2]) (λ s W=>s.1≤t.picks.length∧Or (rI .u8) 5 w.heap.size [] W s.2 (a1++(t.picks.take s.1).flatMap pkB)∧Fr [] w W) (λ s=>t.picks.length-s.1) (0,v1) ⟨Nat.zero_le _,by simpa using O2,F2⟩ rfl ?_
 clear HO O2
 rintro ⟨j,v2⟩ W3 ⟨hj,HO,F3⟩
 dsimp only at hj HO
 have hpl:=picks_len hts j
 refine r_ob ⟨by dsimp only;omega,by dsimp only;omega⟩ ?_
 refine r_ld (c_1 F3) ?_
 refine r_if (λ h2=>?_) (λ h2=>?_)
 ·dsimp only at h2
  obtain ⟨p,hp⟩:=gt (xs:=t.picks) (j:=j) (by omega)
  obtain ⟨ad2,es2,rfl,rd2,e4⟩:=k1.2.2 j p hp
  obtain rfl:=e4
  refine r_ob ⟨by dsimp only;omega,by dsimp only;omega⟩ ?_
  refine r_ld (c_1 F3) ?_
  refine r_ob ⟨by dsimp only;omega,by dsimp only;omega⟩ ?_
  refine r_ld (Cf.cell_int (rd2.fr F3)) ?_
  refine r_are (y:=p % 18446744073709551616) (by rw [Bt.wrap_u]) ?_
  refine r_call (low26_t (n:=8) (by omega) (Nat.le_refl _)) ?_
  rintro v4 W5 ⟨OL,f5⟩
  obtain ⟨X5,c5,rfl,_,_,rw5⟩:=OL.row (by rw [lowB_len];decide)
  refine r_apps (xs:=pkB p) Ebyte (HO.fr0 f5) (by rw [pk_len,lowB_len]) (Cg.RwO.plain plainI rw5) (by simp only [big,List.length_append,pk_len];omega) (F3.trans f5).size (λ v8 W7 O7 g7 o7=>?_)
  have F7:=(F3.trans f5).trans_new g7 (λ q hq=>.inr ((HO.fr0 f5).lt q hq).1)
  refine r_ar (by dsimp only;omega) ?_
  refine r_ag (s:=(j,v2)) (j+1,v8) ⟨by dsimp only;omega,?_,F7⟩ (by dsimp only;omega) rfl
  dsimp only
  rw [take_flat pkB hp,← List.append_assoc]
  exact O7
 ·dsimp only at h2
  obtain rfl:j=t.picks.length:=by omega
  rw [List.take_length] at HO hpl
  refine r_brk ?_
  refine r_ob ⟨by dsimp only;omega,by dsimp only;omega⟩ ?_
  refine r_ld (c_0 F3) ?_
  refine r_are (y:=(t.bytes.length:Int) % 256) (u8w _) ?_
  refine r_appL (x:=(t.bytes.length:Int) % 256) (es:=[.int .u8 ((t.bytes.length:Int) % 256)]) Ebyte HO (λ _ _=>rfl) (by simp only [big,List.length_append];omega) F3.size (λ v4 W4 O4 g4 o4=>?_)
  have F4:=F3.trans_new g4 (λ q hq=>.inr (HO.lt q hq).1)
  generalize ha3:(a1++t.picks.flatMap pkB)++[(t.bytes.length:Int) % 256]=a3 at O4
  have la3:a3.length≤70002000:=by rw [← ha3,List.length_append,List.length_append,List.length_singleton];omega
  refine r_loop (λ (s:Nat × Value)=>[I (s.1:Int),s.2]) (λ s W=>s.1≤t.bytes.length∧Or (rI .u8) 5 w.heap.size [] W s.2 (a3++(t.bytes.take s.1).flatMap rwB)∧Fr [] w W) (λ s=>t.bytes.length-s.1) (0,v4) ⟨Nat.zero_le _,by simpa using O4,F4⟩ rfl ?_
  clear HO O4
  rintro ⟨j,v5⟩ W5 ⟨hj,HO,F5⟩
  dsimp only at hj HO
  have hrl:=rows_len hts j
  refine r_ob ⟨by dsimp only;omega,by dsimp only;omega⟩ ?_
  refine r_ld (c_0 F5) ?_
  refine r_if (λ h3=>?_) (λ h3=>?_)
  ·dsimp only at h3
   obtain ⟨b,hbj⟩:=gt (xs:=t.bytes) (j:=j) (by omega)
   have hbl:=p3 b (List.mem_of_getElem? hbj)
   obtain ⟨ad2,es2,rfl,rd2,Y,cy,rfl,y1,y2,y3⟩:=k0.2.2 j b hbj
   refine r_dr (λ W6 f6=>?_)
   have F6:=F5.trans f6
   refine r_ob ⟨by dsimp only;omega,by dsimp only;omega⟩ ?_
   refine r_ld (c_0 F6) ?_
   refine r_ob ⟨by dsimp only;omega,by dsimp only;omega⟩ ?_
   refine r_ld (cell1 (rd2.fr F6)) ?_
   refine r_are (y:=(b.length:Int)) (by rw [Bt.wrap_u];omega) ?_
   refine r_ob ⟨by dsimp only;omega,by dsimp only;omega⟩ ?_
   refine r_ld (c_0 F6) ?_
   refine r_ob ⟨by dsimp only;omega,by dsimp only;omega⟩ ?_
   refine r_ld (cell1 (rd2.fr F6)) ?_
   refine r_call (low26_t (n:=2) (by omega) (by decide)) ?_
   rintro v9 W7 ⟨OL,f7⟩
   have F7:=F6.trans f7
   have HO7:=(HO.fr0 f6).fr0 f7
   refine r_chk (c_0 F7) ?_
   refine r_chk (cell1 (rd2.fr F7)) ?_
   obtain ⟨X5,c5,rfl,_,_,rw5⟩:=OL.row (by rw [lowB_len];decide)
   generalize ha4:a3++(t.bytes.take j).flatMap rwB=a4 at HO7
   have la4:a4.length≤70020000:=by rw [← ha4,List.length_append];omega
   refine r_apps (xs:=lowB 2 (b.length:Int)) Ebyte HO7 rfl (Cg.RwO.plain plainI rw5) (by simp only [big,List.length_append,lowB_len];omega) F7.size (λ v8 W8 O8 g8 o8=>?_)
   have F8:=F7.trans_new g8 (λ q hq=>.inr (HO7.lt q hq).1)
   refine r_chk (c_0 F8) ?_
   refine r_chk (cell1 (rd2.fr F8)) ?_
   refine r_apps (xs:=b) Ebyte O8 rfl (Cg.RwO.plain plainI (y3.up F8)) (by simp only [big,List.length_append,lowB_len];omega) F8.size (λ v10 W9 O9 g9 o9=>?_)
   have F9:=F8.trans_new g9 (λ q hq=>.inr (O8.lt q hq).1)
   refine r_ar (by dsimp only;omega) ?_
   refine r_ag (s:=(j,v5)) (j+1,v10) ⟨by dsimp only;omega,?_,F9⟩ (by dsimp only;omega) rfl
   dsimp only
   have er:rwB b=lowB 2 (b.length:Int)++b:=rfl
   rw [take_flat rwB hbj,← List.append_assoc,ha4,er,← List.append_assoc]
   exact O9
  ·dsimp only at h3
   obtain rfl:j=t.bytes.length:=by omega
   rw [List.take_length] at HO
   refine r_brk ?_
   refine r_ar (by dsimp only;omega) ?_
   refine r_ag (s:=(i,v)) (i+1,v5) ⟨by dsimp only;omega,?_,F5⟩ (by dsimp only;omega) rfl
   dsimp only
   rw [take_flat bytesT ht,bytesT_eq,ha1,ha3]
   exact HO
end
end Go.Proofs.YtppodgdhdddfkaaGreatDoor.Sc
set_option linter.unusedVariables false
set_option linter.unusedSimpArgs false
namespace Go.Proofs.YtppodgdhdddfkaaGreatDoor.Sc
set_option maxRecDepth 100000
open Go Go.RowKit Go.Proofs.YtppodgdhdddfkaaGreatDoor.Sx
open Go.Proofs.YtppodgdhdddfkaaGreatDoor.Sg
open Go.Proofs.YtppodgdhdddfkaaGreatDoor.Bi (mixed take_s Eint)
open Go.Proofs.YtppodgdhdddfkaaGreatDoor.Hd (WfB Ebyte Erow Etick le le_bound le_max le_snoc le_drop shl_or wrap_u64 u_eq r_shlu)
open Go.Proofs.YtppodgdhdddfkaaGreatDoor.Cg (r_callZ r_tne toI take_flat)
theorem picksR_has:∀ (n:Nat) (b:By),8 * n≤b.length→∃ l,picksR n b=some (l,b.drop (8 * n))∧l.length=n:=by
 intro n
 induction n with
 | zero=>intro b _;exact ⟨[],rfl,rfl⟩
 | succ n ih =>
  intro b h
  obtain ⟨l,e,hl⟩:=ih (b.drop 8) (by rw [List.length_drop];omega)
  refine ⟨pickOf (b.take 8) :: l,?_,by simp [hl]⟩
  rw [picksR,if_pos (by omega),e,List.drop_drop,show 8+8 * n=8 * (n+1) by omega]
  rfl
theorem picksR_len:∀ {n:Nat} {b r:By} {l:List Int},picksR n b=some (l,r)→l.length=n∧b.length=8 * n+r.length:=by
 intro n
 induction n with
 | zero=>intro b r l h;cases h;exact ⟨rfl,by omega⟩
 | succ n ih =>
  intro b r l h
  rw [picksR] at h
  split at h
  ·cases hp:picksR n (b.drop 8) with
   | none=>rw [hp] at h;cases h
   | some x =>
    rw [hp] at h
    cases h
    obtain ⟨h1,h2⟩:=ih (l:=x.1) (r:=x.2) hp
    rw [List.length_drop] at h2
    exact ⟨by simp [h1],by omega⟩
  ·cases h
theorem rowsR_len:∀ {n:Nat} {b r:By} {l:List By},rowsR n b=some (l,r)→l.length=n:=by
 intro n
 induction n with
 | zero=>intro b r l h;cases h;rfl
 | succ n ih =>
  intro b r l h
  rw [rowsR] at h
  split at h
  ·cases hp:rowsR n ((b.drop 2).drop (lenOf b)) with
   | none=>rw [hp] at h;cases h
   | some x =>
    rw [hp] at h
    cases h
    simp [ih (l:=x.1) (r:=x.2) hp]
  ·cases h
theorem tickR_inv {np:Int} {r rest:By} {t:GTick} (h:tickR (np :: r)=some (t,rest)):∃ nb r2,picksR np.toNat r=some (t.picks,nb :: r2)∧rowsR nb.toNat r2=some (t.bytes,rest)∧smallT t=true:=by
 unfold tickR at h
 dsimp only at h
 cases hp:picksR np.toNat r with
 | none=>rw [hp] at h;cases h
 | some x =>
  rw [hp] at h
  replace h:midR x=some (t,rest):=h
  unfold midR at h
  obtain ⟨ps,xr⟩:=x
  cases xr with
  | nil=>cases h
  | cons nb r2 =>
   dsimp only at h
   cases hr:rowsR nb.toNat r2 with
   | none=>rw [hr] at h;cases h
   | some y =>
    rw [hr] at h
    replace h:endR ps y=some (t,rest):=h
    unfold endR at h
    split at h
    ·rename_i hs
     cases h
     exact ⟨nb,r2,rfl,hr,hs⟩
    ·cases h
theorem none_of {α β:Type} {o:Option (α × β)} (h:∀ a b,o=some (a,b)→False):o=none:=by
 cases o with
 | none=>rfl
 | some x=>exact (h x.1 x.2 rfl).elim
def RdR (bs:By) (w:World) (r:Value) (w':World):Prop:=((∃ cs:List Value,r=.tuple #[.agg cs.toArray,I 0]∧cs.length=2∧(∀ v∈cs,v.oneCell'=true)∧tickR bs=none)∨(∃ cs t rest,tickR bs=some (t,rest)∧r=.tuple #[.agg cs.toArray,I ((bs.length-rest.length:Nat):Int)]∧Nu w w' (λ W=>rTick.r W cs t)))∧Fr [] w w'
theorem one_sl (A1 A2:Option Addr) (a b c d:Nat):∀ v∈[Value.slice A1 a b,Value.slice A2 c d],v.oneCell'=true:=by
 intro v hv
 simp only [List.mem_cons,List.not_mem_nil,or_false] at hv
 rcases hv with rfl | rfl<;>rfl
section
variable {Z:ZP} {w w0:World} {R:Value→World→Prop} {A:List Nat→List Value→World→Prop} {B:List Nat→Nat→List Value→World→Prop}
theorem high_t {X:Option Addr} {cp:Nat} {b:By} (hr:Rw (rI .u8) w X b) (hw:WfB b) (hl:b.length≤8):Cz Tryz.prog 96 [.slice X b.length cp] w (λ r w'=>r=.int .u64 (le b)∧w'=w) Z:=by
 refine go mixed Tryz.func96 Tryz.call96 rfl (Tr.e96 _) ?_
 refine r_ar (by omega) ?_
 refine r_loop (λ (k:Nat)=>[I ((b.length:Int)-1-(k:Int)),.int .u64 (le (b.drop (b.length-k)))]) (λ k W=>k≤b.length∧W=w) (λ k=>b.length-k) 0 ⟨Nat.zero_le _,rfl⟩ (by rw [Nat.sub_zero,List.drop_length];simp [le]) ?_
 rintro k _ ⟨hk,rfl⟩
 refine r_if (λ h=>?_) (λ h=>?_)
 ·have hkl:k < b.length:=by omega
  obtain ⟨z,hz⟩:=gt (xs:=b) (j:=b.length-1-k) (by omega)
  have hzb:=hw.at hz
  have e1:=le_drop hz
  rw [show b.length-1-k+1=b.length-k by omega] at e1
  have hb1:=le_bound (hw.drop (b.length-k))
  have hb2:=le_bound (hw.drop (b.length-1-k))
  have hlen:(b.drop (b.length-1-k)).length=k+1:=by rw [List.length_drop];omega
  rw [hlen] at hb2
  have hp:(256:Int) ^ (k+1)≤18446744073709551616:=by
   have h8:k+1≤8:=by omega
   have:(256:Int) ^ (k+1)≤256 ^ 8:=by
    have:=Nat.pow_le_pow_right (n:=256) (by decide) h8
    exact_mod_cast this
   exact Int.le_trans this (by decide)
  obtain ⟨ad,es,rfl,rd,e3⟩:=hr _ z hz
  obtain rfl:=e3
  refine r_are (y:=le (b.drop (b.length-k)) * 256) (wrap_u64 (by omega)) ?_
  have ei:((b.length:Int)-1-(k:Int))=((b.length-1-k:Nat):Int):=by omega
  rw [ei]
  refine r_ob ⟨by omega,by omega⟩ ?_
  refine r_ld (cell1 rd) ?_
  refine r_are (y:=z) (wrap_u64 (by omega)) ?_
  refine r_are (y:=le (b.drop (b.length-k)) * 256+z) (wrap_u64 (by omega)) ?_
  refine r_ar (by omega) ?_
  refine r_ag (s:=k) (k+1) ⟨by omega,rfl⟩ (by omega) ?_
  rw [← e1,show b.length-(k+1)=b.length-1-k by omega]
  have e2:((b.length:Int)-1-((k+1:Nat):Int))=((b.length-1-k:Nat):Int)-1:=by omega
  rw [e2]
 ·obtain rfl:k=b.length:=by omega
  refine r_brk (r_ret ⟨?_,rfl⟩)
  rw [Nat.sub_self]
  rfl
theorem rread_t {X:Option Addr} {cp:Nat} {bs:By} (hr:Rw (rI .u8) w X bs) (hc:bs.length≤cp) (hw:WfB bs) (hb:bs.length≤1000000):Cz Tryz.prog 58 [.slice X bs.length cp] w (RdR bs w) Z:=by
 refine go mixed Tryz.func58 Tryz.call58 rfl (Tr.e58 _) ?_
 refine b_al (zs:=zT) (Bx.nil w) Tryz.zeroValue76 (λ v2 w1 H=>?_)
 refine b_al (zs:=zT) H Tryz.zeroValue76 (λ v4 w2 H=>?_)
 have fail:∀ {W:World} {cs:List Value} {A:List Nat→List Value→World→Prop} {B:List Nat→Nat→List Value→World→Prop},Bx w W [(v4,76,cs),(v2,76,zT)]→cs.length=2→(∀ v∈cs,v.oneCell'=true)→tickR bs=none→wp Tryz.prog Z (RdR bs w) [] (.ldn 2 (Pt v4 0) λ v30=>.ef (Instr.storeAt 76 (Pt v2 0) v30) (.ldn 2 (Pt v2 0) λ r0=>.ret (.tuple [r0,(I 0)].toArray))) W A B:=by
  intro W cs A B H hl h1 hn
  refine b_ldn H 0 rfl ?_ hl
  refine r_stn (cs:=cs) (H.blk (i:=1) rfl) Tryz.sizeOf76 h1 (λ W1 B1 f1=>?_) rfl hl
  have H:=H.set (i:=1) rfl B1 f1
  refine b_ldn H 1 rfl ?_ hl
  exact b_ret H (λ F=>⟨.inl ⟨cs,rfl,hl,h1,hn⟩,F⟩)
 have one0:∀ v∈zT,v.oneCell'=true:=one_sl none none 0 0 0 0
 refine r_if (λ h=>?_) (λ h=>?_)
 ·obtain rfl:bs=[]:=List.eq_nil_of_length_eq_zero (by omega)
  exact fail H rfl one0 rfl
 obtain ⟨np,r,rfl⟩:∃ np r,bs=np :: r:=by
  cases bs with
  | nil=>exact absurd (by simp) h
  | cons a r=>exact ⟨a,r,rfl⟩
 have hnp:=hw np (by simp)
 have hl1:(np :: r).length=r.length+1:=rfl
 obtain ⟨N,rfl⟩:∃ N:Nat,np=N:=⟨np.toNat,by omega⟩
 obtain ⟨ad,es,rfl,rd,e4⟩:=hr 0 (N:Int) rfl
 obtain rfl:=e4
 have c0:∀ {W:World},Fr [] w W→W.cell? (addA ad (0 * 1))=some (.int .u8 (N:Int)):=λ F=>cell1 (rd.fr F)
 refine r_ob ⟨by decide,by omega⟩ ?_
 refine r_ld (c0 H.F) ?_
 refine r_if (λ h2=>?_) (λ h2=>?_)
 ·refine fail H rfl one0 (none_of (λ t rest ht=>?_))
  obtain ⟨nb,r2,k1,k2,k3⟩:=tickR_inv ht
  have:=(picksR_len k1).1
  have:=(small_parts k3).1
  omega
 refine r_ob ⟨by decide,by omega⟩ ?_
 refine r_ld (c0 H.F) ?_
 refine r_are (y:=(N:Int)) (by rw [IntKind.wrap_i64];omega) ?_
 refine r_ar (z:=8 * (N:Int)) (by omega) ?_
 refine r_ar (z:=2+8 * (N:Int)) (by omega) ?_
 refine r_if (λ h3=>?_) (λ h3=>?_)
 ·refine fail H rfl one0 (none_of (λ t rest ht=>?_))
  obtain ⟨nb,r2,k1,k2,k3⟩:=tickR_inv ht
  have:=(picksR_len k1).2
  simp only [List.length_cons] at this
  omega
 obtain ⟨pl,epl,hpl⟩:=picksR_has N r (by omega)
 have hs2:w.heap.size≤w2.heap.size:=H.F.size
 have l2:=(H.blk (i:=1) rfl).lt
 have l4:=(H.blk (i:=0) rfl).lt
 have g4:=H.ge (i:=0) rfl
 have g2:=H.ge (i:=1) rfl
 have bx_own:∀ {W1 W2:World} {c1 c2:List Value} {O:List Nat},Bx w W1 [(v4,76,c1),(v2,76,c2)]→Fr O W1 W2→(∀ q∈O,w2.heap.size≤q)→Bx w W2 [(v4,76,c1),(v2,76,c2)]:=λ hH f hO =>
  hH.frS f (λ q hq=>by have:=hO q hq;omega) (λ q hq p hp=>by
   have:=hO q hq
   simp only [List.mem_cons,List.not_mem_nil,or_false] at hp
   rcases hp with rfl | rfl<;>(dsimp only;omega))
 refine r_loop (λ (k:Nat)=>[I (k:Int),I ((1+8 * k:Nat):Int)]) (λ k W=>k≤N∧∃ u,Bx w W [(v4,76,[.slice none 0 0,u]),(v2,76,zT)]∧Or (rI .i64) 3 w2.heap.size [] W u (pl.take k)∧w2.heap.size≤W.heap.size∧picksR (N-k) (r.drop (8 * k))=some (pl.drop k,r.drop (8 * N))) (λ k=>N-k) 0 ⟨Nat.zero_le _,.slice none 0 0,H,Or.nil,Nat.le_refl _,epl⟩ rfl ?_
 rintro k W ⟨hk,u,H,HO,hsz,hpk⟩
 refine r_ob ⟨by decide,by omega⟩ ?_
 refine r_ld (c0 H.F) ?_
 refine r_are (y:=(N:Int)) (by rw [IntKind.wrap_i64];omega) ?_
 refine r_if (λ h4=>?_) (λ h4=>?_)
 ·refine r_dr (λ W1 f1=>?_)
  have H:=H.fr f1
  have HO:=HO.fr0 f1
  refine b_ld H 0 (j:=1) rfl rfl ?_
  refine r_ar (by omega) ?_
  refine r_sl2 (e:=rI .u8) (l:=1+8 * k) (h:=1+8 * k+8) Tryz.underlying48 Tryz.sizeOf5 rfl (by omega) (by omega) (by omega) (λ X' hX'=>?_)
  have hrow:=hX' _ _ (hr.up H.F)
  have e1:(((N:Int) :: r).drop (1+8 * k)).take (1+8 * k+8-(1+8 * k))=(r.drop (8 * k)).take 8:=by
   rw [Nat.add_comm 1 (8 * k),List.drop_succ_cons]
   congr 1;omega
  rw [e1] at hrow
  have hx8:((r.drop (8 * k)).take 8).length=8:=by rw [List.length_take,List.length_drop];omega
  have hwr:WfB r:=λ z hz=>hw z (by simp [hz])
  have hwx:WfB ((r.drop (8 * k)).take 8):=(hwr.drop _).take 8
  have el:1+8 * k+8-(1+8 * k)=((r.drop (8 * k)).take 8).length:=by omega
  rw [el]
  refine r_call (high_t hrow hwx (by omega)) ?_
  rintro _ _ ⟨rfl,rfl⟩
  rw [picksR_go (by rw [List.length_drop];omega) (by omega)] at hpk
  generalize hx:(r.drop (8 * k)).take 8=x at hx8 hwx hpk
  have hp64:=le_bound hwx
  rw [hx8] at hp64
  have e64:(256:Int) ^ 8=18446744073709551616:=by decide
  rw [e64] at hp64
  rw [List.drop_drop,show 8 * k+8=8 * (k+1) by omega,show N-k-1=N-(k+1) by omega] at hpk
  cases hq:picksR (N-(k+1)) (r.drop (8 * (k+1))) with
  | none=>rw [hq] at hpk;cases hpk
  | some y =>
  rw [hq] at hpk
  have hpk':pickOf x :: y.1=pl.drop k∧y.2=r.drop (8 * N):=by
   have:=Option.some.inj hpk
   exact ⟨congrArg Prod.fst this,congrArg Prod.snd this⟩
  obtain ⟨ek,er⟩:=hpk'
  have hkp:pl[k]? = some (pickOf x):=by rw [← List.head?_drop,← ek];rfl
  refine b_chk H 0 (j:=1) rfl rfl ?_
  refine r_are (y:=pickOf x) (toI_wrap hp64) ?_
  have HO0:=HO
  refine r_bs1 (cs:=[I (pickOf x)]) Eint (λ b6 W6 e6 B6 f6=>?_) rfl rfl
  have H:=H.fr f6
  have HO:=HO.fr0 f6
  refine b_chk H 0 (j:=1) rfl rfl ?_
  have s1:=f1.size
  have s6:=f6.size
  refine r_appR (x:=pickOf x) (es:=[I (pickOf x)]) Eint HO (B6.rd rfl) (λ _ _=>rfl) (by simp only [big];rw [List.length_take];omega) (by omega) (λ u' W7 O7 f7 o7=>?_)
  have H:=bx_own H f7 (λ q hq=>(HO.lt q hq).1)
  obtain ⟨X7,c7,rfl,_⟩:=O7.row (by simp only [big,List.length_append,List.length_singleton];rw [List.length_take];omega)
  refine r_st1 (o:=1) (H.blk (i:=0) rfl) Tryz.sizeOf27 (λ W8 B8 f8=>?_)
  have H:=H.set (i:=0) rfl B8 f8
  have s7:=f7.size
  have s8:=f8.size
  refine r_ar (by omega) ?_
  refine r_ar (by omega) ?_
  refine r_ag (s:=k) (k+1) ⟨by omega,_,H,?_,by omega,?_⟩ (by omega) ?_
  ·have:pl.take (k+1)=pl.take k++[pickOf x]:=take_s hkp
   rw [this]
   exact O7.upP plainI f8 (λ q hq hm=>by have:=(O7.lt q hm).1;simp at hq;omega)
  ·rw [hq]
   have e5:pl.drop (k+1)=y.1:=by
    have:=congrArg List.tail ek
    rw [List.tail_cons,List.tail_drop] at this
    exact this.symm
   rw [e5,← er]
  ·congr 2
 obtain rfl:k=N:=by omega
 refine r_brk ?_
 rw [List.take_of_length_le (by omega)] at HO
 clear hpk
 have hrl:(r.drop (8 * k)).length=r.length-8 * k:=List.length_drop
 obtain ⟨nb,r3,hr3⟩:∃ nb r3,r.drop (8 * k)=nb :: r3:=by
  cases hd:r.drop (8 * k) with
  | nil=>rw [hd] at hrl;simp at hrl;omega
  | cons a q=>exact ⟨a,q,rfl⟩
 have hat:((k:Int) :: r)[1+8 * k]? = some nb:=by
  rw [Nat.add_comm 1 (8 * k),List.getElem?_cons_succ,← List.head?_drop,hr3];rfl
 have hdr:∀ m,((k:Int) :: r).drop (2+8 * k+m)=r3.drop m:=λ m=>by
  rw [show 2+8 * k+m=(8 * k+(1+m))+1 by omega,List.drop_succ_cons,← List.drop_drop,hr3,Nat.add_comm 1 m]
  rfl
 have hnb:=hw nb (List.mem_of_getElem? hat)
 obtain ⟨M,rfl⟩:∃ M:Nat,nb=M:=⟨nb.toNat,by omega⟩
 have etk:tickR ((k:Int) :: r)=(rowsR M r3).bind (endR pl):=by
  show (picksR k r).bind midR=_
  rw [epl,hr3]
  rfl
 have hpl64:pl.length≤64:=by omega
 obtain ⟨ad1,es1,e1,rd1,e4⟩:=hr _ _ hat
 cases e1
 obtain rfl:=e4
 refine r_ob ⟨by omega,by omega⟩ ?_
 refine r_ld (cell1 (rd1.fr H.F)) ?_
 refine r_are (y:=(M:Int)) (by rw [IntKind.wrap_i64];omega) ?_
 refine r_ar (by omega) ?_
 obtain ⟨Xu,cu,rfl,_⟩:=HO.row (by simp only [big];omega)
 refine r_if (λ h5=>?_) (λ h5=>?_)
 ·refine fail H rfl (one_sl _ _ _ _ _ _) (none_of (λ t rest ht=>?_))
  rw [etk] at ht
  cases hq:rowsR M r3 with
  | none=>rw [hq] at ht;cases ht
  | some y =>
   rw [hq] at ht
   replace ht:endR pl y=some (t,rest):=ht
   unfold endR at ht
   split at ht
   ·rename_i hs
    have h1:=rowsR_len (l:=y.1) (r:=y.2) hq
    have h2:=(small_parts hs).2.1
    dsimp only at h2
    omega
   ·cases ht
 have hr3l:r3.length=r.length-8 * k-1:=by
  have:=congrArg List.length hr3
  rw [List.length_cons,hrl] at this
  omega
 have hu1:=λ q hq=>HO.lt q hq
 refine r_loop (λ (s:Nat × Nat)=>[I (s.1:Int),I ((2+8 * k+s.2:Nat):Int),I 0]) (λ s Wj=>s.1≤M∧s.2≤r3.length∧W.heap.size≤Wj.heap.size∧∃ rows u2,rowsR M r3=(rowsR (M-s.1) (r3.drop s.2)).map (λ x=>(rows++x.1,x.2))∧rows.length=s.1∧(∀ b∈rows,b.length≤1024)∧Bx w Wj [(v4,76,[u2,.slice Xu pl.length cu]),(v2,76,zT)]∧Or (rL (rI .u8)) 48 W.heap.size (v4 :: v2 :: List.range w.heap.size) Wj u2 rows∧Or (rI .i64) 3 w2.heap.size [] Wj (.slice Xu pl.length cu) pl) (λ s=>M-s.1) (0,0) ⟨Nat.zero_le _,Nat.zero_le _,Nat.le_refl _,[],.slice none 0 0,by simp,rfl,by simp,H,Or.nil,HO⟩ ?_ ?_
 ·dsimp only
  have e:((2+8 * k+0:Nat):Int)=((1+8 * k:Nat):Int)+1:=by omega
  rw [e]
  rfl
 clear HO H
 rintro ⟨j,at_⟩ Wj ⟨hj,hat_,hszj,rows,u2,hrw,hrowl,hrow1,H,HR,HO⟩
 dsimp only at hj hat_ hrw hrowl
 have hown2:∀ q∈u2.ownBlock.toList,W.heap.size≤q∧q < Wj.heap.size:=λ q hq=>HR.lt q hq
 obtain ⟨X2,c2,rfl,_⟩:=HR.row (by simp only [big];omega)
 refine r_if (λ h6=>?_) (λ h6=>?_)
 ·dsimp only at h6
  refine r_ar (by dsimp only;omega) ?_
  have hdl:(r3.drop at_).length=r3.length-at_:=List.length_drop
  refine r_if (λ h7=>?_) (λ h7=>?_)
  ·refine fail H rfl (one_sl _ _ _ _ _ _) ?_
   rw [etk,hrw,rowsR_end (λ hh=>by rw [hdl] at hh;dsimp only at h7;omega) (by omega)]
   rfl
  have h7':at_+2≤r3.length:=by dsimp only at h7;omega
  refine r_ar (by dsimp only;omega) ?_
  refine r_sl2 (e:=rI .u8) (l:=2+8 * k+at_) (h:=2+8 * k+at_+2) Tryz.underlying48 Tryz.sizeOf5 rfl (by dsimp only;omega) (by omega) (by omega) (λ X' hX'=>?_)
  have hrow:=hX' _ _ (hr.up H.F)
  rw [hdr at_,show 2+8 * k+at_+2-(2+8 * k+at_)=2 by omega] at hrow
  have hwr3:WfB r3:=λ z hz=>hw z (by have h1:z∈r.drop (8 * k):=by rw [hr3];simp [hz]
                                     simp [List.mem_of_mem_drop h1])
  have hwx:WfB ((r3.drop at_).take 2):=(hwr3.drop _).take 2
  have hx2:((r3.drop at_).take 2).length=2:=by rw [List.length_take];omega
  have el:2+8 * k+at_+2-(2+8 * k+at_)=((r3.drop at_).take 2).length:=by omega
  rw [el]
  refine r_call (high_t hrow hwx (by omega)) ?_
  rintro _ _ ⟨rfl,rfl⟩
  have hk2:=le_bound hwx
  rw [hx2] at hk2
  have e2:(256:Int) ^ 2=65536:=by decide
  rw [e2] at hk2
  have eln:le ((r3.drop at_).take 2)=(lenOf (r3.drop at_):Int):=by unfold lenOf;omega
  rw [eln] at hk2 ⊢
  have hgo:=rowsR_go (n:=M-j) (b:=r3.drop at_)
  generalize hn:lenOf (r3.drop at_)=n at hk2 hgo
  refine r_are (y:=(n:Int)) (by rw [IntKind.wrap_i64];omega) ?_
  refine r_ar (by dsimp only;omega) ?_
  refine r_if (λ h8=>?_) (λ h8=>?_)
  ·refine fail H rfl (one_sl _ _ _ _ _ _) (none_of (λ t rest ht=>?_))
   rw [etk,hrw] at ht
   by_cases hfit:n≤((r3.drop at_).drop 2).length
   ·rw [hgo ⟨by omega,hfit⟩ (by omega)] at ht
    cases hq:rowsR (M-j-1) (((r3.drop at_).drop 2).drop n) with
    | none=>rw [hq] at ht;cases ht
    | some y =>
     rw [hq] at ht
     replace ht:endR pl (rows++(((r3.drop at_).drop 2).take n :: y.1),y.2)=some (t,rest):=ht
     unfold endR at ht
     split at ht
     ·rename_i hs
      have h2:=(small_parts hs).2.2 (((r3.drop at_).drop 2).take n) (by simp)
      rw [List.length_take] at h2
      omega
     ·cases ht
   ·rw [rowsR_end (λ hh=>hfit (by rw [hn] at hh;exact hh.2)) (by omega)] at ht
    cases ht
  refine r_ar (by dsimp only;omega) ?_
  have hdl2:((r3.drop at_).drop 2).length=r3.length-at_-2:=by rw [List.length_drop,hdl]
  refine r_if (λ h9=>?_) (λ h9=>?_)
  ·refine fail H rfl (one_sl _ _ _ _ _ _) ?_
   rw [etk,hrw,rowsR_end (λ hh=>by rw [hn,hdl2] at hh;dsimp only at h9;omega) (by omega)]
   rfl
  have h9':at_+2+n≤r3.length:=by dsimp only at h9;omega
  refine r_dr (λ W1 f1=>?_)
  have H:=H.fr f1
  have HR:=HR.fr0 f1
  have HO:=HO.fr0 f1
  refine b_ld H 0 (j:=0) rfl rfl ?_
  refine r_ar (by dsimp only;omega) ?_
  refine r_sl2 (e:=rI .u8) (l:=2+8 * k+at_+2) (h:=2+8 * k+at_+2+n) Tryz.underlying48 Tryz.sizeOf5 (by dsimp only;omega) (by dsimp only;omega) (by omega) (by omega) (λ X3 hX3=>?_)
  have hrow3:=hX3 _ _ (hr.up H.F)
  rw [show 2+8 * k+at_+2=2+8 * k+(at_+2) by omega,hdr (at_+2),show 2+8 * k+(at_+2)+n-(2+8 * k+(at_+2))=n by omega,← List.drop_drop] at hrow3
  rw [show 2+8 * k+at_+2+n-(2+8 * k+at_+2)=n by omega]
  have hgo:=hgo ⟨by omega,by omega⟩ (by omega)
  have hyl:(((r3.drop at_).drop 2).take n).length=n:=by rw [List.length_take];omega
  generalize hy:((r3.drop at_).drop 2).take n=y at hyl hrow3 hgo
  refine r_bs0 (e:=rI .u8) (S:=[]) Ebyte (λ v5 W5 HV f5 hv5=>?_)
  refine b_chk (H.fr f5) 0 (j:=0) rfl rfl ?_
  refine r_apps (xs:=y) Ebyte HV hyl.symm (Cg.RwO.plain plainI (hrow3.up f5)) (by simp only [big,List.length_nil];omega) f5.size (λ v6 W6 On f6 o6=>?_)
  have f16:=f5.trans_new f6 (λ q hq=>.inr (HV.lt q hq).1)
  have H:=H.fr f16
  have HR:=HR.fr0 f16
  have HO:=HO.fr0 f16
  have s1:=f1.size
  have s5:=f16.size
  refine b_chk H 0 (j:=0) rfl rfl ?_
  rw [List.nil_append] at On
  obtain ⟨X6,c6,rfl,_⟩:=On.row (by simp only [big];omega)
  refine r_bs1 (cs:=[.slice X6 y.length c6]) Erow (λ b6 W7 e6 B6 f7=>?_) rfl rfl
  have H:=H.fr f7
  have HR:=HR.fr0 f7
  have HO:=HO.fr0 f7
  have On:=On.fr0 f7
  have s7:=f7.size
  refine b_chk H 0 (j:=0) rfl rfl ?_
  refine r_appR (x:=y) (es:=[.slice X6 y.length c6]) Erow HR (B6.rd rfl) (λ W' f'=>?_) (by simp only [big];omega) (by omega) (λ u3 W8 O7 f8 o8=>?_)
  ·refine ((On.upP (S2:=[]) plainI f' (λ q hq hm=>?_)).row (by simp only [big];omega)).r
   have h5:=(On.lt q hm).1
   rcases List.mem_append.1 hq with hq | hq
   ·have:=(hown2 q hq).2;omega
   ·simp only [List.mem_cons,List.mem_range] at hq
    omega
  have H:=bx_own H f8 (λ q hq=>by have:=(hown2 q hq).1;omega)
  obtain ⟨X7,c7,rfl,_⟩:=O7.row (by simp only [big,List.length_append,List.length_singleton];omega)
  refine r_st1 (o:=0) (H.blk (i:=0) rfl) Tryz.sizeOf74 (λ W9 B9 f9=>?_)
  have H:=H.set (i:=0) rfl B9 f9
  have s8:=f8.size
  have s9:=f9.size
  have HO:=(HO.upP (S2:=[]) plainI f8 (λ q hq hm=>by have:=(hown2 q hq).1;have:=(hu1 q hm).2;omega)).upP (S2:=[]) plainI f9 (λ q hq hm=>by simp at hq;subst hq;have:=(hu1 _ hm).1;omega)
  refine r_ar (by dsimp only;omega) ?_
  refine r_ar (by dsimp only;omega) ?_
  refine r_ag (s:=(j,at_)) (j+1,at_+2+n) ⟨by dsimp only;omega,by dsimp only;omega,by omega,rows++[y],_,?_,by simp [hrowl],?_,H,O7.up f9 (λ q hq hm=>by have:=(O7.lt q hm).1;simp at hq;omega) (λ q hq=>.inl (by simp at hq;subst hq;simp)),HO⟩ (by dsimp only;omega) ?_
  ·dsimp only
   rw [hrw,hgo,List.drop_drop,List.drop_drop,show M-j-1=M-(j+1) by omega,show at_+2+n=at_+(2+n) by omega]
   cases rowsR (M-(j+1)) (r3.drop (at_+(2+n))) with
   | none=>rfl
   | some q=>simp
  ·intro b hb
   rcases List.mem_append.1 hb with hb | hb
   ·exact hrow1 b hb
   ·simp only [List.mem_singleton] at hb
    subst hb;omega
  ·dsimp only
   have e:((2+8 * k+(at_+2+n):Nat):Int)=((2+8 * k+at_:Nat):Int)+2+(n:Int):=by omega
   rw [e]
   rfl
 ·dsimp only at h6
  obtain rfl:j=M:=by omega
  have hrw:rowsR j r3=some (rows,r3.drop at_):=by rw [hrw,Nat.sub_self];simp [rowsR]
  have hsm:smallT ⟨rows,pl⟩=true:=small_of hpl64 (by dsimp only;omega) hrow1
  have etk:tickR ((k:Int) :: r)=some (⟨rows,pl⟩,r3.drop at_):=by
   rw [etk,hrw]
   show endR pl (rows,r3.drop at_)=_
   unfold endR
   rw [if_pos hsm]
  refine r_brk ?_
  obtain ⟨_,_,e0,k1,k2,k3⟩:=HR.row (by simp only [big];omega)
  cases e0
  refine b_ldn H 0 rfl ?_
  refine r_stn (cs:=[.slice X2 rows.length c2,.slice Xu pl.length cu]) (H.blk (i:=1) rfl) Tryz.sizeOf76 (one_sl _ _ _ _ _ _) (λ W3 B3 f3=>?_)
  have H:=H.set (i:=1) rfl B3 f3
  refine b_ldn H 1 rfl ?_
  have HR3:=HR.up f3 (λ q hq hm=>by have:=(HR.lt q hm).1;simp at hq;omega) (λ q hq=>.inl (by simp at hq;subst hq;simp))
  have HO3:=HO.upP (S2:=[]) plainI f3 (λ q hq hm=>by have:=(HO.lt q hm).1;simp at hq;omega)
  refine b_ret H (λ F=>⟨.inr ⟨[.slice X2 rows.length c2,.slice Xu pl.length cu],⟨rows,pl⟩,r3.drop at_,etk,?_,?_⟩,F⟩)
  ·have e:((2+8 * k+at_:Nat):Int)=((((k:Int) :: r).length-(r3.drop at_).length:Nat):Int):=by
    rw [List.length_drop,hl1];omega
   rw [← e]
   rfl
  ·intro W4 S f4' hS
   have HR4:=HR3.up f4' (λ q hq hm=>by have:=HR3.lt q hm;rcases hS q hq with h | h<;>omega) (λ q hq=>by
    rcases hS q hq with h | h
    ·exact .inl (by simp;exact .inr (.inr h))
    ·exact .inr h)
   have HO4:=HO3.upP (S2:=[]) plainI f4' (λ q hq hm=>by have:=HO3.lt q hm;rcases hS q hq with h | h<;>omega)
   obtain ⟨_,_,e0,k1,k2,k3⟩:=HR4.row (by simp only [big];omega)
   cases e0
   obtain ⟨_,_,e0,m1,m2,m3⟩:=HO4.row (by simp only [big];omega)
   cases e0
   exact mTick (x:=⟨rows,pl⟩) ⟨k1,k2,k3⟩ ⟨m1,m2,m3⟩
end
end Go.Proofs.YtppodgdhdddfkaaGreatDoor.Sc
set_option linter.unusedVariables false
set_option linter.unusedSimpArgs false
namespace Go.Proofs.YtppodgdhdddfkaaGreatDoor.Sc
set_option maxRecDepth 100000
open Go Go.RowKit Go.Proofs.YtppodgdhdddfkaaGreatDoor.Sx
open Go.Proofs.YtppodgdhdddfkaaGreatDoor.Sg
open Go.Proofs.YtppodgdhdddfkaaGreatDoor.Bi (mixed take_s Eint)
open Go.Proofs.YtppodgdhdddfkaaGreatDoor.Hd (WfB Ebyte Erow Etick le le_bound le_max le_snoc le_drop shl_or wrap_u64 u_eq r_shlu)
open Go.Proofs.YtppodgdhdddfkaaGreatDoor.Cg (r_callZ r_tne toI take_flat)
section
variable {Z:ZP} {w w0:World} {R:Value→World→Prop} {A:List Nat→List Value→World→Prop} {B:List Nat→Nat→List Value→World→Prop}
theorem rRead_t {X:Option Addr} {cp:Nat} {bs:By} (hr:Rw (rI .u8) w X bs) (hc:bs.length≤cp) (hw:WfB bs) (hb:bs.length≤1000000):Cz Tryz.prog 24 [.slice X bs.length cp] w (λ r w'=>∃ v,r=.tuple #[v,I ((bs.length-(readN 4096 bs).2.length:Nat):Int)]∧Sl rTick w' v (readN 4096 bs).1∧Fr [] w w') Z:=by
 refine go mixed Tryz.func24 Tryz.call24 rfl (Tr.e24 _) ?_
 refine r_loop (λ (s:Nat × Value × List GTick)=>[I (s.1:Int),s.2.1,I 0,.slice none 0 0]) (λ s W=>s.1≤bs.length∧s.2.2.length≤4096∧Or rTick 76 w.heap.size [] W s.2.1 s.2.2∧readN 4096 bs=(s.2.2++(readN (4096-s.2.2.length) (bs.drop s.1)).1,(readN (4096-s.2.2.length) (bs.drop s.1)).2)∧Fr [] w W) (λ s=>4096-s.2.2.length) (0,.slice none 0 0,[]) ⟨Nat.zero_le _,Nat.zero_le _,Or.nil,by simp,Fr.refl _ _⟩ rfl ?_
 rintro ⟨at_,v,l⟩ W ⟨hat,hl,HO,hrd,F⟩
 dsimp only at hat hl HO hrd
 obtain ⟨Xv,cv,rfl,_⟩:=HO.row (by simp only [big];omega)
 have stop:readN (4096-l.length) (bs.drop at_)=([],bs.drop at_)→∀ {W':World} {A:List Nat→List Value→World→Prop} {B:List Nat→Nat→List Value→World→Prop},Or rTick 76 w.heap.size [] W' (.slice Xv l.length cv) l→Fr [] w W'→wp Tryz.prog Z (λ r w'=>∃ v,r=.tuple #[v,I ((bs.length-(readN 4096 bs).2.length:Nat):Int)]∧Sl rTick w' v (readN 4096 bs).1∧Fr [] w w') [] (.ret (.tuple [.slice Xv l.length cv,I (at_:Int)].toArray)) W' A B:=by
  intro h W' A B hO hF
  rw [h] at hrd
  refine r_ret ⟨.slice Xv l.length cv,?_,?_,hF⟩
  ·rw [hrd]
   dsimp only
   rw [List.length_drop,show bs.length-(bs.length-at_)=at_ by omega]
  ·rw [hrd]
   dsimp only
   rw [List.append_nil]
   exact hO.row (by simp only [big];omega)
 refine r_if (λ h=>?_) (λ h=>?_)
 rotate_left
 ·refine r_brk ?_
  exact stop (by rw [show 4096-l.length=0 by omega];rfl) HO F
 have hl2:l.length < 4096:=by omega
 refine r_sll (e:=rI .u8) (l:=at_) Tryz.underlying48 Tryz.sizeOf5 rfl hat hc (λ X' hX'=>?_)
 have hrow:=hX' _ _ (hr.up F)
 have e1:(bs.drop at_).take (bs.length-at_)=bs.drop at_:=List.take_of_length_le (by rw [List.length_drop];exact Nat.le_refl _)
 rw [e1] at hrow
 have hxl:(bs.drop at_).length=bs.length-at_:=List.length_drop
 rw [← hxl]
 refine r_call (rread_t hrow (by omega) (hw.drop at_) (by omega)) ?_
 rintro _ W1 ⟨⟨cs,rfl,hcl,hc1,hno⟩ | ⟨cs,t,rest,ht,rfl,hN⟩,f1⟩
 ·refine r_al (zs:=zT) Tryz.zeroValue76 (λ v6 W2 e6 B6 f2=>?_)
  refine r_stn (cs:=cs) B6 Tryz.sizeOf76 hc1 (λ W3 B7 f3=>?_) rfl hcl
  have f2s:=f2.size
  have f1s:=f1.size
  have f03:Fr [] W W3:=(f1.trans f2).trans_new f3 (λ q hq=>by simp at hq;exact .inr (by omega))
  exact stop (readN_no hno) (HO.fr0 f03) (F.trans f03)
 ·have hl2:=rTick.len hN.now
  obtain ⟨p,hp,hpne⟩:=tickR_suf ht
  have hpl:=congrArg List.length hp
  rw [List.length_append,hxl] at hpl
  have hp0:0 < p.length:=List.length_pos_iff.2 hpne
  have hrl:rest=bs.drop (bs.length-rest.length):=by
   have h1:bs.drop at_=p++rest:=hp
   have:bs.drop (at_+p.length)=rest:=by rw [← List.drop_drop,h1,List.drop_left]
   rw [show bs.length-rest.length=at_+p.length by omega]
   exact this.symm
  refine r_al (zs:=zT) Tryz.zeroValue76 (λ v6 W2 e6 B6 f2=>?_)
  have f2s:=f2.size
  have f1s:=f1.size
  refine r_stn (cs:=cs) B6 Tryz.sizeOf76 (rTick.one hN.now) (λ W3 B7 f3=>?_) rfl hl2
  have hN:=hN.go ((f2.mono (by simp)).trans f3:Fr [v6] W1 W3) (λ q hq=>by simp at hq;exact .inr (by omega))
  refine r_if (λ h=>?_) (λ _=>?_)
  ·rw [hxl] at h;omega
  refine r_ldn (B7.rd hl2) ?_
  have f03:Fr [] W W3:=(f1.trans f2).trans_new f3 (λ q hq=>by simp at hq;exact .inr (by omega))
  have HO3:=HO.fr0 f03
  have F3:=F.trans f03
  refine r_appL (x:=t) (es:=cs) Etick HO3 (hN.off (λ q hq=>?_)) (by simp only [big];omega) F3.size (λ v' W5 O5 f6 o6=>?_) rfl hl2
  ·rw [List.append_nil] at hq
   have:=(HO.lt q hq).2
   exact .inl (by omega)
  refine r_ar (by dsimp only;omega) ?_
  refine r_ag (s:=(at_,.slice Xv l.length cv,l)) (bs.length-rest.length,v',l++[t]) ⟨by dsimp only;omega,by dsimp only;rw [List.length_append,List.length_singleton];omega,O5,?_,F3.trans_new f6 (λ q hq=>.inr (HO.lt q hq).1)⟩ (by dsimp only;rw [List.length_append,List.length_singleton];omega) ?_
  ·dsimp only
   rw [hrd,readN_go ht (by omega),← hrl,List.length_append,List.length_singleton,show 4096-l.length-1=4096-(l.length+1) by omega]
   simp
  ·dsimp only
   have e:((bs.length-rest.length:Nat):Int)=(at_:Int)+(((bs.drop at_).length-rest.length:Nat):Int):=by rw [hxl];omega
   rw [e]
   rfl
theorem rJust_t {X Y:Option Addr} {c d:Nat} {l:List GTick} (ha:Rw rTick w X l) (hb:Rw rTick w Y l) (la:l.length≤big) (wa:∀ t∈l,∀ x∈t.bytes,WfB x):Cz Tryz.prog 14 [.slice X l.length c,.slice Y l.length d] w (λ r w'=>r=.bool true∧Fr [] w w') Z:=by
 have hb2:=la
 simp only [big] at la
 refine go mixed Tryz.func14 Tryz.call14 rfl (Tr.e14 _ _) ?_
 refine r_call (rSame_t ha hb hb2 wa wa) ?_
 rintro _ w1 ⟨rfl,f1⟩
 refine r_ifbn (λ h=>by rw [sameS_rfl] at h;cases h) (λ _=>?_)
 refine r_loop (λ (i:Nat)=>[I (i:Int),.bool false]) (λ i W=>i≤l.length∧Fr [] w W) (λ i=>l.length-i) 0 ⟨Nat.zero_le _,f1⟩ rfl ?_
 rintro i W ⟨hi,F⟩
 refine r_if (λ h=>?_) (λ h=>?_)
 ·obtain ⟨t,ht⟩:=gt (xs:=l) (j:=i) (by omega)
  obtain ⟨a1,es1,rfl,rd1,e1⟩:=ha i t ht
  obtain ⟨a2,es2,rfl,rd2,e2⟩:=hb i t ht
  obtain ⟨A0,c0,A1,c1,rfl,_⟩:=oTick e1
  obtain ⟨B0,d0,B1,d1,rfl,_⟩:=oTick e2
  refine r_dr (λ W1 g1=>?_)
  have F1:=F.trans g1
  refine r_ob ⟨by omega,by omega⟩ ?_
  refine r_ld (ad:=addA (addA a1 (i * 2)) 0) ((rd1.fr F1).2 0 _ rfl) ?_
  refine r_ob ⟨by omega,by omega⟩ ?_
  refine r_ld (ad:=addA (addA a2 (i * 2)) 0) ((rd2.fr F1).2 0 _ rfl) ?_
  refine r_if (λ h=>?_) (λ _=>?_)
  ·exact absurd rfl h
  refine r_ar (by omega) ?_
  exact r_ag (i+1) ⟨by omega,F1⟩ (by omega) rfl
 ·exact r_brk (r_ret ⟨rfl,F⟩)
end
end Go.Proofs.YtppodgdhdddfkaaGreatDoor.Sc
set_option linter.unusedVariables false
set_option linter.unusedSimpArgs false
namespace Go.Proofs.YtppodgdhdddfkaaGreatDoor.Sc
set_option maxRecDepth 100000
open Go Go.RowKit Go.Proofs.YtppodgdhdddfkaaGreatDoor.Sx
open Go.Proofs.YtppodgdhdddfkaaGreatDoor.Sg
open Go.Proofs.YtppodgdhdddfkaaGreatDoor.Hd (WfB le le_bound)
open Go.Proofs.YtppodgdhdddfkaaGreatDoor.Cg (toI)
theorem pkB_of {x:By} (hw:WfB x) (hl:x.length=8):pkB (pickOf x)=x∧in64 (pickOf x):=by
 have hb:=le_bound hw
 rw [hl] at hb
 have e:(256:Int) ^ 8=18446744073709551616:=by decide
 rw [e] at hb
 have h1:pickOf x % 18446744073709551616=le x:=by
  unfold pickOf toI
  split<;>omega
 refine ⟨?_,?_⟩
 ·unfold pkB
  rw [h1,← hl]
  exact low_le x hw
 ·unfold in64 pickOf toI
  split<;>omega
theorem picksR_of:∀ {n:Nat} {b r:By} {l:List Int},picksR n b=some (l,r)→WfB b→b=l.flatMap pkB++r∧∀ p∈l,in64 p:=by
 intro n
 induction n with
 | zero=>intro b r l h _;cases h;exact ⟨rfl,λ p hp=>(nomatch hp)⟩
 | succ n ih =>
  intro b r l h hw
  rw [picksR] at h
  split at h
  ·rename_i h8
   cases hp:picksR n (b.drop 8) with
   | none=>rw [hp] at h;cases h
   | some x =>
    rw [hp] at h
    cases h
    obtain ⟨h1,h2⟩:=ih (l:=x.1) (r:=x.2) hp (hw.drop 8)
    obtain ⟨k1,k2⟩:=pkB_of (hw.take 8) (by rw [List.length_take];omega)
    refine ⟨?_,λ p hp=>?_⟩
    ·rw [List.flatMap_cons,k1,List.append_assoc,← h1,List.take_append_drop]
    ·rcases List.mem_cons.1 hp with rfl | hp
     ·exact k2
     ·exact h2 p hp
  ·cases h
theorem rowsR_of:∀ {n:Nat} {b r:By} {l:List By},rowsR n b=some (l,r)→WfB b→(∀ x∈l,x.length≤1024)→b=l.flatMap rwB++r∧∀ x∈l,WfB x:=by
 intro n
 induction n with
 | zero=>intro b r l h _ _;cases h;exact ⟨rfl,λ p hp=>(nomatch hp)⟩
 | succ n ih =>
  intro b r l h hw hl
  rw [rowsR] at h
  split at h
  ·rename_i h2
   cases hp:rowsR n ((b.drop 2).drop (lenOf b)) with
   | none=>rw [hp] at h;cases h
   | some x =>
    rw [hp] at h
    cases h
    obtain ⟨k1,k2⟩:=ih (l:=x.1) (r:=x.2) hp ((hw.drop 2).drop _) (λ y hy=>hl y (by simp [hy]))
    have hlen:((b.drop 2).take (lenOf b)).length=lenOf b:=by rw [List.length_take];omega
    have e:rwB ((b.drop 2).take (lenOf b))=b.take 2++(b.drop 2).take (lenOf b):=by
     unfold rwB
     rw [hlen]
     have h3:=low_le (b.take 2) (hw.take 2)
     have hb:=le_bound (hw.take 2)
     have hl2:(b.take 2).length=2:=by rw [List.length_take];omega
     rw [hl2] at h3
     have:((lenOf b:Nat):Int)=le (b.take 2):=by unfold lenOf;omega
     rw [this,h3]
    refine ⟨?_,λ y hy=>?_⟩
    ·rw [List.flatMap_cons,e,List.append_assoc,List.append_assoc,← k1,List.take_append_drop,List.take_append_drop]
    ·rcases List.mem_cons.1 hy with rfl | hy
     ·exact (hw.drop 2).take _
     ·exact k2 y hy
  ·cases h
theorem tickR_of {b r:By} {t:GTick} (h:tickR b=some (t,r)) (hw:WfB b):b=bytesT t++r∧smallT t=true∧WfG t∧WfB r:=by
 cases b with
 | nil=>cases h
 | cons np q =>
  obtain ⟨nb,r2,k1,k2,k3⟩:=tickR_inv h
  obtain ⟨p1,p2,p3⟩:=small_parts k3
  have hq:WfB q:=λ z hz=>hw z (by simp [hz])
  have hnp:=hw np (by simp)
  obtain ⟨e1,w1⟩:=picksR_of k1 hq
  have hr:WfB (nb :: r2):=λ z hz=>hq z (by rw [e1];simp [List.mem_cons.1 hz])
  have hnb:=hr nb (by simp)
  have hr2:WfB r2:=λ z hz=>hr z (by simp [hz])
  obtain ⟨e2,w2⟩:=rowsR_of k2 hr2 p3
  have l1:=(picksR_len k1).1
  have l2:=rowsR_len k2
  have e:=bytesT_eq t []
  rw [List.nil_append] at e
  refine ⟨?_,k3,⟨w2,w1⟩,λ z hz=>hr2 z (by rw [e2];simp [hz])⟩
  rw [e,show (t.picks.length:Int) % 256=np by omega,show (t.bytes.length:Int) % 256=nb by omega,e1,e2]
  simp
theorem readN_of:∀ (n:Nat) (b:By),WfB b→b=(readN n b).1.flatMap bytesT++(readN n b).2∧(readN n b).1.length≤n∧∀ t∈(readN n b).1,smallT t=true∧WfG t:=by
 intro n
 induction n with
 | zero=>intro b _;exact ⟨rfl,Nat.le_refl _,λ t ht=>(nomatch ht)⟩
 | succ n ih =>
  intro b hw
  cases h:tickR b with
  | none=>rw [readN_no h];exact ⟨rfl,Nat.zero_le _,λ t ht=>(nomatch ht)⟩
  | some x =>
   obtain ⟨t,r⟩:=x
   obtain ⟨e,hs,hg,hr⟩:=tickR_of h hw
   obtain ⟨h1,h2,h3⟩:=ih r hr
   rw [readN_go h (by omega),Nat.add_sub_cancel]
   refine ⟨?_,by rw [List.length_cons];omega,λ u hu=>?_⟩
   ·rw [List.flatMap_cons,List.append_assoc,← h1];exact e
   ·rcases List.mem_cons.1 hu with rfl | hu
    ·exact ⟨hs,hg⟩
    ·exact h3 u hu
theorem bytesS_ok {l:List GTick} (h:∀ t∈l,smallT t=true) (hl:l.length≤4096):bytesS l=(l.flatMap bytesT,0):=by
 unfold bytesS
 rw [if_pos]
 unfold smallS
 simp only [Bool.and_eq_true,decide_eq_true_eq,List.all_eq_true]
 exact ⟨hl,h⟩
end Go.Proofs.YtppodgdhdddfkaaGreatDoor.Sc
set_option linter.unusedVariables false
set_option linter.unusedSimpArgs false
namespace Go.Proofs.YtppodgdhdddfkaaGreatDoor.Sc
set_option maxRecDepth 100000
open Go Go.RowKit Go.Proofs.YtppodgdhdddfkaaGreatDoor.Sx
open Go.Proofs.YtppodgdhdddfkaaGreatDoor.Sg
open Go.Proofs.YtppodgdhdddfkaaGreatDoor.Bi (mixed take_s)
open Go.Proofs.YtppodgdhdddfkaaGreatDoor.Hd (WfB)
open Go.Proofs.YtppodgdhdddfkaaGreatDoor.Cg (mn toI)
def bTl (v14 v19:Value):T:=.call 21 [v14] λ v22=>exT 0 v22 λ v23=>exT 1 v22 λ v24=>.call 22 [v14] λ v27=>exT 0 v27 λ v28=>exT 1 v27 λ v29=>.call 23 [v19] λ v32=>exT 0 v32 λ v33=>exT 1 v32 λ v34=>.call 24 [v19] λ v37=>exT 0 v37 λ v38=>exT 1 v37 λ v39=>.hv (convert 48 9 v23) λ v41=>.hv (convert 48 9 v28) λ v43=>.pu (do eqGuard .eql 9 (.tmp 41) (.tmp 43) v41 v43;binOp .eql 9 v41 v43) λ v44=>gi v44 (biT true .eql v24 v29 λ v48=>gi v48 (.call 14 [v33,v38] λ v53=>gi v53 (biT true .eql v34 v39 λ v58=>gi v58 (.call 15 [] λ v61=>.ret v61) (.ret (B false))) (.ret (B false))) (.ret (B false))) (.ret (B false))
section
variable {Z:ZP} {w w0:World} {R:Value→World→Prop} {A:List Nat→List Value→World→Prop} {B:List Nat→Nat→List Value→World→Prop}
theorem bTl_t {X Y:Option Addr} {cp cq:Nat} {l:List GTick} {b:By} (G:SW w) (hl:Rw rTick w X l) (lb:l.length≤big) (wl:∀ t∈l,WfG t) (hb:Rw (rI .u8) w Y b) (bc:b.length≤cq) (wb:WfB b) (hb3:b.length≤1000000) (F:Fr [] w0 w):wp Tryz.prog Z (λ r w'=>r=.bool true∧Fr [] w0 w') [] (bTl (.slice X l.length cp) (.slice Y b.length cq)) w A B:=by
 unfold bTl
 refine r_call (sBytes_t hl lb wl) ?_
 rintro _ w1 ⟨v1,rfl,O1,f1⟩
 refine r_call (rBytesS_t (hl.up f1) lb wl) ?_
 rintro _ w2 ⟨v2,rfl,O2,f2⟩
 have g2:=f1.trans f2
 refine r_call (sRead_t (hb.up g2) bc wb hb3) ?_
 rintro _ w3 ⟨v3,rfl,S3,f3⟩
 have g3:=g2.trans f3
 refine r_call (rRead_t (hb.up g3) bc wb hb3) ?_
 rintro _ w4 ⟨v4,rfl,S4,f4⟩
 have hlen:(bytesS l).1.length≤big:=by
  by_cases hs:smallS l=true
  ·obtain ⟨q1,q2⟩:=smallS_parts hs
   have h1:=scr_len q2 l.length
   rw [List.take_length] at h1
   rw [bytesS_ok q2 q1]
   show (l.flatMap bytesT).length≤_
   simp only [big];omega
  ·unfold bytesS
   rw [if_neg hs]
   exact Nat.zero_le _
 obtain ⟨X1,c1,rfl,_,_,r1⟩:=O1.row hlen
 obtain ⟨X2,c2,rfl,_,_,r2⟩:=O2.row hlen
 obtain ⟨X3,c3,rfl,k1,k2,k3⟩:=S3
 obtain ⟨X4,c4,rfl,_,_,m3⟩:=S4
 refine r_bstr (((r1.up f2).up f3).up f4) ?_
 refine r_bstr ((r2.up f3).up f4) ?_
 refine r_teq ?_
 refine r_if (λ _=>?_) (λ h=>absurd rfl h)
 refine r_if (λ _=>?_) (λ h=>absurd rfl h)
 refine r_call (rJust_t (k3.up f4) m3 k2 (λ t ht=>((readN_of 4096 b wb).2.2 t ht).2.b)) ?_
 rintro _ w5 ⟨rfl,f5⟩
 refine r_ifb (λ _=>?_) (λ h=>by cases h)
 refine r_if (λ _=>?_) (λ h=>absurd rfl h)
 have g5:=(g3.trans f4).trans f5
 exact r_call (awake_t (G.up g5)) (λ v w' h=>r_ret ⟨h.1,(F.trans g5).trans h.2⟩)
theorem bytes26_t {X Y:Option Addr} {cp cq:Nat} {l:List GTick} {b:By} (G:SW w) (hl:Rw rTick w X l) (lb:l.length≤big) (wl:∀ t∈l,WfG t) (hb:Rw (rI .u8) w Y b) (bc:b.length≤cq) (wb:WfB b):Cz Tryz.prog 5 [.slice X l.length cp,.slice Y b.length cq] w (λ r w'=>r=.bool true∧Fr [] w w') Z:=by
 refine go mixed Tryz.func5 Tryz.call5 rfl (Tr.e5 _ _) ?_
 refine r_dr (λ w1 f1=>?_)
 obtain ⟨m,em,lm,nm⟩:=mn b 3000
 have key:∀ {W:World} {v:Value} {A:List Nat→List Value→World→Prop} {B:List Nat→Nat→List Value→World→Prop},Off [] (λ w=>Sl rTick w v (fewP l)) W→Fr [] w W→wp Tryz.prog Z (λ r w'=>r=.bool true∧Fr [] w w') [] (bTl v (.slice Y m cq)) W A B:=by
  intro W v A B hO F
  obtain ⟨X1,c1,rfl,x1,x2,x3⟩:=hO.now
  rw [lm]
  exact bTl_t (G.up F) x3 x2 (fewP_wf wl) ((hb.take 3000).up F) (by omega) (wb.take 3000) (by rw [List.length_take];omega) F
 have sl:∀ {W:World} {A:List Nat→List Value→World→Prop} {B:List Nat→Nat→List Value→World→Prop} {k:Value→T},wp Tryz.prog Z (λ r w'=>r=.bool true∧Fr [] w w') [] (k (.slice Y m cq)) W A B→wp Tryz.prog Z (λ r w'=>r=.bool true∧Fr [] w w') [] (.hv (Builtin.min_ #[3,3] 3 [I (b.length:Int),(I 3000)].toArray) λ v18=>.pu (Instr.sliceAt 48 (.slice Y b.length cq) none (some v18) none) k) W A B:=by
  intro W A B k h
  refine r_min ?_
  rw [show (3000:Int)=((3000:Nat):Int) from rfl,em]
  exact r_slh (e:=5) (m:=m) Tryz.underlying48 Tryz.sizeOf5 (by omega) (by omega) (by omega) h
 refine ⟨?_,?_⟩
 ·refine r_call (few_o [] (hl.up f1) lb (Fr.refl _ _) (by simp)) ?_
  rintro v14 W ⟨hO,f2⟩
  exact ⟨sl (key hO (f1.trans f2)),sl (key hO (f1.trans f2))⟩
 ·refine sl ?_
  refine r_call (few_o [] (hl.up f1) lb (Fr.refl _ _) (by simp)) ?_
  rintro v14 W ⟨hO,f2⟩
  exact key hO (f1.trans f2)
theorem wfB_of {b:By} (h:∀ z∈b,(Lit.int .u8 z).wf=true):WfB b:=λ z hz=>by
 have:=h z hz
 simp [Lit.wf,IntKind.min,IntKind.max,IntKind.bits,IntKind.signed] at this
 omega
theorem bytes_c (W:World) (G:SW W) {X Y:Option Addr} {cp cq:Nat} {l:List GTick} {b:By} (hl:Rw rTick W X l) (lc:l.length≤cp) (lb:l.length≤big) (wl:∀ t∈l,WfL t) (hb:Rw (rI .u8) W Y b) (bc:b.length≤cq) (bb:b.length≤big) (wb:∀ z∈b,(Lit.int .u8 z).wf=true):Cl Tryz.prog 5 [.slice X l.length cp,.slice Y b.length cq] W (λ r w'=>r=.bool true∧Fr [] W w'):=
 (bytes26_t G hl lb (λ t ht=>wfG_of (wl t ht)) hb bc (wfB_of wb)).cl
end
end Go.Proofs.YtppodgdhdddfkaaGreatDoor.Sc
