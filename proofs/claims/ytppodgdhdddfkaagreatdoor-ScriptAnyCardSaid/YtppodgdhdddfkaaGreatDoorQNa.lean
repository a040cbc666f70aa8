import Derived.Test.YtppodgdhdddfkaaGreatDoorQMy
set_option linter.unusedVariables false
set_option linter.unusedSimpArgs false
namespace Go.Proofs.YtppodgdhdddfkaaGreatDoor.Sc
set_option maxRecDepth 100000
open Go Go.RowKit Go.Proofs.YtppodgdhdddfkaaGreatDoor.Sx
open Go.Proofs.YtppodgdhdddfkaaGreatDoor.Sg
open Go.Proofs.YtppodgdhdddfkaaGreatDoor.Bi (mixed take_s Eint)
open Go.Proofs.YtppodgdhdddfkaaGreatDoor.Hd (WfB Ebyte Erow Etick le le_bound le_max le_snoc le_drop shl_or wrap_u64 u_eq r_shlu)
open Go.Proofs.YtppodgdhdddfkaaGreatDoor.Cg (r_callZ r_tne toI take_flat)
def pkB (p:Int):By:=lowB 8 (p % 18446744073709551616)
def rwB (b:By):By:=lowB 2 (b.length:Int)++b
theorem bytesT_eq (t:GTick) (a:By):a++bytesT t=(((a++[(t.picks.length:Int) % 256])++t.picks.flatMap pkB)++[(t.bytes.length:Int) % 256])++t.bytes.flatMap rwB:=by
 unfold bytesT pkB rwB
 simp
theorem flat_bound {α:Type} (f:α→By) (k:Nat):∀ (l:List α),(∀ x∈l,(f x).length≤k)→(l.flatMap f).length≤k * l.length:=by
 intro l
 induction l with
 | nil=>intro _;simp
 | cons x r ih =>
  intro h
  have h1:=h x (by simp)
  have h2:=ih (λ y hy=>h y (by simp [hy]))
  rw [List.flatMap_cons,List.length_append,List.length_cons,Nat.mul_add,Nat.mul_one]
  omega
theorem pk_len (p:Int):(pkB p).length=8:=lowB_len 8 _
theorem rw_len {t:GTick} (hs:smallT t=true):∀ b∈t.bytes,(rwB b).length≤1026:=λ b hb=>by
 have:=(small_parts hs).2.2 b hb
 unfold rwB
 rw [List.length_append,lowB_len];omega
theorem picks_len {t:GTick} (hs:smallT t=true) (j:Nat):((t.picks.take j).flatMap pkB).length≤512:=by
 have h1:=flat_bound pkB 8 (t.picks.take j) (λ x _=>Nat.le_of_eq (pk_len x))
 have h2:=(small_parts hs).1
 rw [List.length_take] at h1
 omega
theorem rows_len {t:GTick} (hs:smallT t=true) (j:Nat):((t.bytes.take j).flatMap rwB).length≤16416:=by
 have h1:=flat_bound rwB 1026 (t.bytes.take j) (λ x hx=>rw_len hs x (List.mem_of_mem_take hx))
 have h2:=(small_parts hs).2.1
 rw [List.length_take] at h1
 omega
theorem bytesT_len {t:GTick} (hs:smallT t=true):(bytesT t).length≤17000:=by
 have e:=bytesT_eq t []
 have h1:=picks_len hs t.picks.length
 have h2:=rows_len hs t.bytes.length
 rw [List.take_length] at h1 h2
 have:=congrArg List.length e
 simp only [List.length_append,List.nil_append,List.length_cons,List.length_nil] at this
 omega
theorem scr_len {l:List GTick} (h:∀ t∈l,smallT t=true) (i:Nat):((l.take i).flatMap bytesT).length≤17000 * l.length:=by
 have h1:=flat_bound bytesT 17000 (l.take i) (λ x hx=>bytesT_len (h x (List.mem_of_mem_take hx)))
 rw [List.length_take] at h1
 have:17000 * min i l.length≤17000 * l.length:=Nat.mul_le_mul_left _ (by omega)
 omega
section
variable {P:Program} {Z:ZP} {R:Value→World→Prop} {w w0:World} {A:List Nat→List Value→World→Prop} {B:List Nat→Nat→List Value→World→Prop} {ds:List Nat} {k:Value→T}
theorem r_shrI8 {ty:Nat} {x:Int} (hx:0≤x) (hk:wp P Z R ds (k (I (x / 256))) w A B):wp P Z R ds (.pu (binOp .shr ty (I x) (.int .u64 8)) k) w A B:=by
 have e:Op.shift .shr .i64 x .u64 8=pure (I (x / 256)):=by
  unfold Op.shift
  rw [if_neg (by omega)]
  show (pure (.int .i64 (x.fdiv (2 ^ 8))):Sem Value)=_
  rw [Int.fdiv_eq_ediv_of_nonneg _ (by decide)]
  rfl
 exact ⟨_,λ w'=>by rw [binOp_shr,e];rfl,hk⟩
theorem r_ap1 {base v6:Nat} {v:Value} {xs:By} {z:Int} {T6:Nat} {cs6:List Value} (HO:Or (rI .u8) 5 base [] w v xs) (B6:Blk w v6 T6 cs6) (n6:v6∉v.ownBlock.toList) (hb:xs.length+1≤100000000000) (hbase:base≤w.heap.size)
  (hk:∀ v' w',Or (rI .u8) 5 base [] w' v' (xs++[z])→Blk w' v6 T6 cs6→v6∉v'.ownBlock.toList→Fr v.ownBlock.toList w w'→wp Tryz.prog Z R ds (k v') w' A B):wp Tryz.prog Z R ds (.hv (Instr.buildSlice 48 1 [(0,.int .u8 z)].toArray) λ s=>.hv (Builtin.append_ #[48,48] 48 [v,s].toArray) k) w A B:=by
 refine r_appL (x:=z) (es:=[.int .u8 z]) Ebyte HO (λ _ _=>rfl) (by simp only [big];omega) hbase (λ v' w' O' f' o'=>?_)
 refine hk v' w' O' (B6.fr f' n6) (λ hq=>?_) f'
 rcases o' _ hq with h | h
 ·exact n6 h
 ·have:=B6.lt;omega
end
section
variable {Z:ZP} {w w0:World} {R:Value→World→Prop} {A:List Nat→List Value→World→Prop} {B:List Nat→Nat→List Value→World→Prop}
theorem sBytes_t {X:Option Addr} {cp:Nat} {l:List GTick} (hr:Rw rTick w X l) (hb:l.length≤big) (hw:∀ t∈l,WfG t):Cz Tryz.prog 21 [.slice X l.length cp] w (λ r w'=>∃ v,r=.tuple #[v,I (bytesS l).2]∧Or (rI .u8) 5 w.heap.size [] w' v (bytesS l).1∧Fr [] w w') Z:=by
 refine go mixed Tryz.func21 Tryz.call21 rfl (Tr.e21 _) ?_
 refine r_call (small_t hr hb) ?_
 rintro _ w1 ⟨rfl,f1⟩
 refine r_ifbn (λ hs=>?_) (λ hs=>?_)
 ·have e:bytesS l=([],3):=by unfold bytesS;rw [if_neg (by rw [hs];decide)]
  exact r_ret ⟨.slice none 0 0,by rw [e],by rw [e];exact Or.nil,f1⟩
 have e:bytesS l=(l.flatMap bytesT,0):=by unfold bytesS;rw [if_pos hs]
 obtain ⟨q1,q2⟩:=smallS_parts hs
 refine r_loop (λ (s:Nat × Value)=>[I (s.1:Int),s.2]) (λ s W=>s.1≤l.length∧Or (rI .u8) 5 w.heap.size [] W s.2 ((l.take s.1).flatMap bytesT)∧Fr [] w W) (λ s=>l.length-s.1) (0,.slice none 0 0) ⟨Nat.zero_le _,Or.nil,f1⟩ rfl ?_
 rintro ⟨i,v⟩ W ⟨hi,HO,F⟩
 dsimp only at hi HO
 refine r_if (λ h=>?_) (λ h=>?_)
 rotate_left
 ·dsimp only at h
  obtain rfl:i=l.length:=by omega
  rw [List.take_length] at HO
  exact r_brk (r_ret ⟨v,by rw [e];rfl,by rw [e];exact HO,F⟩)
 dsimp only at h
 obtain ⟨t,ht⟩:=gt (xs:=l) (j:=i) (by omega)
 have htw:=hw t (List.mem_of_getElem? ht)
 have hts:=q2 t (List.mem_of_getElem? ht)
 obtain ⟨p1,p2,p3⟩:=small_parts hts
 have hsl:=scr_len q2 i
 have hsl2:((l.take i).flatMap bytesT).length≤70000000:=by omega
 obtain ⟨ad,es,rfl,rd,e3⟩:=hr i t ht
 obtain ⟨A0,c0,A1,c1,rfl,k0,k1⟩:=oTick e3
 refine r_ob ⟨by dsimp only;omega,by dsimp only;omega⟩ ?_
 refine r_ldn (rd.fr F) ?_
 refine r_as (cs:=[.slice A0 t.bytes.length c0,.slice A1 t.picks.length c1]) (zs:=zT) (n:=2) (λ v6 W1 e6 B6 g1=>?_) Tryz.zeroValue76 Tryz.sizeOf76 (by simp [Value.oneCell'])
 have n6:v6∉v.ownBlock.toList:=λ hq=>by have:=(HO.lt _ hq).2;omega
 have F1:=F.trans g1
 have HO:=HO.fr0 g1
 refine r_ld (B6.cell (o:=1) rfl) ?_
 refine r_are (y:=(t.picks.length:Int) % 256) (u8w _) ?_
 refine r_ap1 HO B6 n6 (by omega) F1.size (λ v1 W2 O2 B6 n6 g2=>?_)
 have F2:=F1.trans_new g2 (λ q hq=>.inr (HO.lt q hq).1)
 refine r_ld (B6.cell (o:=1) rfl) ?_
 have hlow:∀ (x:Int) (k:Nat),(lowB k x).length=k:=λ x k=>lowB_len k x
 generalize ha1:(l.take i).flatMap bytesT++[(t.picks.length:Int) % 256]=a1 at O2
 have la1:a1.length≤70000001:=by rw [← ha1,List.length_append,List.length_singleton];omega
 refine r_loop (λ (s:Nat × Value)=>[I (s.1:Int),s.2]) (λ s W=>s.1≤t.picks.length∧Or (rI .u8) 5 w.heap.size [] W s.2 (a1++(t.picks.take s.1).flatMap pkB)∧Blk W v6 76 [.slice A0 t.bytes.length c0,.slice A1 t.picks.length c1]∧v6∉s.2.ownBlock.toList∧Fr [] w W) (λ s=>t.picks.length-s.1) (0,v1) ⟨Nat.zero_le _,by simpa using O2,B6,n6,F2⟩ rfl ?_
 clear HO O2 B6 n6
 rintro ⟨j,v2⟩ W3 ⟨hj,HO,B6,n6,F3⟩
 dsimp only at hj HO n6
 have hpl:=picks_len hts j
 refine r_if (λ h2=>?_) (λ h2=>?_)
 ·dsimp only at h2
  obtain ⟨p,hp⟩:=gt (xs:=t.picks) (j:=j) (by omega)
  have hp64:=htw.p p (List.mem_of_getElem? hp)
  obtain ⟨ad2,es2,rfl,rd2,e4⟩:=(k1.2.2.up F3) j p hp
  obtain rfl:=e4
  refine r_ob ⟨by dsimp only;omega,by dsimp only;omega⟩ ?_
  refine r_ld (Cf.cell_int rd2) ?_
  have hx:0≤p % 18446744073709551616∧p % 18446744073709551616 < 18446744073709551616:=by omega
  generalize ha2:a1++(t.picks.take j).flatMap pkB=a2 at HO
  have la2:a2.length≤70001000:=by rw [← ha2,List.length_append];omega
  refine r_loop (λ (s:Nat × Value)=>[I (s.1:Int),s.2]) (λ s W=>s.1≤8∧Or (rI .u8) 5 w.heap.size [] W s.2 (a2++lowB s.1 (p % 18446744073709551616))∧Blk W v6 76 [.slice A0 t.bytes.length c0,.slice (some ad2) t.picks.length c1]∧v6∉s.2.ownBlock.toList∧Fr [] w W) (λ s=>8-s.1) (0,v2) ⟨Nat.zero_le _,by simpa [lowB] using HO,B6,n6,F3⟩ rfl ?_
  clear HO B6 n6 rd2
  rintro ⟨k,v3⟩ W4 ⟨hk,HO,B6,n6,F4⟩
  dsimp only at hk HO n6
  refine r_if (λ h3=>?_) (λ h3=>?_)
  ·dsimp only at h3
   refine r_are (y:=p % 18446744073709551616) (by rw [Bt.wrap_u]) ?_
   refine r_ar (z:=8 * (k:Int)) (by omega) ?_
   have e8:(8 * (k:Int))=((8 * k:Nat):Int):=by omega
   rw [e8]
   refine r_shrU hx (n:=8 * k) (by omega) ?_
   rw [pow2_256 k]
   refine r_are (y:=p % 18446744073709551616 / 256 ^ k % 256) (u8w _) ?_
   refine r_ap1 HO B6 n6 (by rw [List.length_append,hlow];omega) F4.size (λ v4 W5 O5 B6 n6 g5=>?_)
   refine r_ar (by dsimp only;omega) ?_
   refine r_ag (s:=(k,v3)) (k+1,v4) ⟨by dsimp only;omega,?_,B6,n6,F4.trans_new g5 (λ q hq=>.inr (HO.lt q hq).1)⟩ (by dsimp only;omega) rfl
   dsimp only
   rw [lowB_snoc,← List.append_assoc]
   exact O5
  ·dsimp only at h3
   obtain rfl:k=8:=by omega
   refine r_brk ?_
   refine r_ar (by dsimp only;omega) ?_
   refine r_ag (s:=(j,v2)) (j+1,v3) ⟨by dsimp only;omega,?_,B6,n6,F4⟩ (by dsimp only;omega) rfl
   dsimp only
   rw [take_flat pkB hp,← List.append_assoc,ha2]
   exact HO
 ·dsimp only at h2
  obtain rfl:j=t.picks.length:=by omega
  rw [List.take_length] at HO hpl
  refine r_brk ?_
  refine r_ld (B6.cell (o:=0) rfl) ?_
  refine r_are (y:=(t.bytes.length:Int) % 256) (u8w _) ?_
  refine r_ap1 HO B6 n6 (by rw [List.length_append];omega) F3.size (λ v4 W4 O4 B6 n6 g4=>?_)
  have F4:=F3.trans_new g4 (λ q hq=>.inr (HO.lt q hq).1)
  refine r_ld (B6.cell (o:=0) rfl) ?_
  generalize ha3:(a1++t.picks.flatMap pkB)++[(t.bytes.length:Int) % 256]=a3 at O4
  have la3:a3.length≤70002000:=by rw [← ha3,List.length_append,List.length_append,List.length_singleton];omega
  refine r_loop (λ (s:Nat × Value)=>[I (s.1:Int),s.2]) (λ s W=>s.1≤t.bytes.length∧Or (rI .u8) 5 w.heap.size [] W s.2 (a3++(t.bytes.take s.1).flatMap rwB)∧Fr [] w W) (λ s=>t.bytes.length-s.1) (0,v4) ⟨Nat.zero_le _,by simpa using O4,F4⟩ rfl ?_
  clear HO O4 B6 n6
  rintro ⟨j,v5⟩ W5 ⟨hj,HO,F5⟩
  dsimp only at hj HO
  have hrl:=rows_len hts j
  refine r_if (λ h3=>?_) (λ h3=>?_)
  ·dsimp only at h3
   obtain ⟨b,hbj⟩:=gt (xs:=t.bytes) (j:=j) (by omega)
   have hbl:=p3 b (List.mem_of_getElem? hbj)
   obtain ⟨ad2,es2,rfl,rd2,Y,cy,rfl,y1,y2,y3⟩:=k0.2.2 j b hbj
   refine r_ob ⟨by dsimp only;omega,by dsimp only;omega⟩ ?_
   refine r_ld (cell1 (rd2.fr F5)) ?_
   refine r_are (y:=(b.length:Int) % 256) (u8w _) ?_
   refine r_shrI8 (by omega) ?_
   refine r_are (y:=(b.length:Int) / 256 % 256) (u8w _) ?_
   generalize ha4:a3++(t.bytes.take j).flatMap rwB=a4 at HO
   have la4:a4.length≤70020000:=by rw [← ha4,List.length_append];omega
   refine r_app2 HO (by omega) F5.size (λ v7 W6 O6 g6=>?_)
   have F6:=F5.trans_new g6 (λ q hq=>.inr (HO.lt q hq).1)
   refine r_apps (xs:=b) Ebyte O6 rfl (Cg.RwO.plain plainI (y3.up F6)) (by simp only [big,List.length_append,List.length_cons,List.length_nil];omega) F6.size (λ v8 W7 O7 g7 o7=>?_)
   have F7:=F6.trans_new g7 (λ q hq=>.inr (O6.lt q hq).1)
   refine r_ar (by dsimp only;omega) ?_
   refine r_ag (s:=(j,v5)) (j+1,v8) ⟨by dsimp only;omega,?_,F7⟩ (by dsimp only;omega) rfl
   dsimp only
   have er:rwB b=[(b.length:Int) % 256,(b.length:Int) / 256 % 256]++b:=by
    unfold rwB;rfl
   rw [take_flat rwB hbj,← List.append_assoc,ha4,er,← List.append_assoc]
   have e5:a4++[(b.length:Int) % 256,(b.length:Int) / 256 % 256]=a4++[(b.length:Int) % 256]++[(b.length:Int) / 256 % 256]:=by simp
   rw [e5]
   exact O7
  ·dsimp only at h3
   obtain rfl:j=t.bytes.length:=by omega
   rw [List.take_length] at HO
   refine r_brk ?_
   refine r_ar (by dsimp only;omega) ?_
   refine r_ag (s:=(i,v)) (i+1,v5) ⟨by dsimp only;omega,?_,F5⟩ (by dsimp only;omega) rfl
   dsimp only
   rw [take_flat bytesT ht,bytesT_eq,ha1,ha3]
   exact HO
end
end Go.Proofs.YtppodgdhdddfkaaGreatDoor.Sc
set_option linter.unusedVariables false
set_option linter.unusedSimpArgs false
namespace Go.Proofs.YtppodgdhdddfkaaGreatDoor.Sc
set_option maxRecDepth 100000
open Go Go.RowKit Go.Proofs.YtppodgdhdddfkaaGreatDoor.Sx
open Go.Proofs.YtppodgdhdddfkaaGreatDoor.Sg
open Go.Proofs.YtppodgdhdddfkaaGreatDoor.Bi (mixed take_s Eint)
open Go.Proofs.YtppodgdhdddfkaaGreatDoor.Hd (WfB Ebyte Erow Etick le le_bound le_max le_snoc le_drop shl_or wrap_u64 u_eq r_shlu)
open Go.Proofs.YtppodgdhdddfkaaGreatDoor.Cg (r_callZ r_tne toI take_flat)
section
variable {Z:ZP} {w w0:World} {R:Value→World→Prop} {A:List Nat→List Value→World→Prop} {B:List Nat→Nat→List Value→World→Prop}
end
end Go.Proofs.YtppodgdhdddfkaaGreatDoor.Sc
set_option linter.unusedVariables false
set_option linter.unusedSimpArgs false
namespace Go.Proofs.YtppodgdhdddfkaaGreatDoor.Sc
set_option maxRecDepth 100000
open Go Go.RowKit Go.Proofs.YtppodgdhdddfkaaGreatDoor.Sx
open Go.Proofs.YtppodgdhdddfkaaGreatDoor.Sg
open Go.Proofs.YtppodgdhdddfkaaGreatDoor.Bi (mixed take_s Eint)
open Go.Proofs.YtppodgdhdddfkaaGreatDoor.Hd (WfB Ebyte Erow Etick le le_bound le_max le_snoc le_drop shl_or wrap_u64 u_eq r_shlu)
open Go.Proofs.YtppodgdhdddfkaaGreatDoor.Cg (r_callZ r_tne toI take_flat)
theorem picksR_len:∀ {n:Nat} {b r:By} {l:List Int},picksR n b=some (l,r)→l.length=n∧b.length=8 * n+r.length:=by
 intro n
 induction n with
 | zero=>intro b r l h;cases h;exact ⟨rfl,by omega⟩
 | succ n ih =>
  intro b r l h
  rw [picksR] at h
  split at h
  ·cases hp:picksR n (b.drop 8) with
   | none=>rw [hp] at h;cases h
   | some x =>
    rw [hp] at h
    cases h
    obtain ⟨h1,h2⟩:=ih (l:=x.1) (r:=x.2) hp
    rw [List.length_drop] at h2
    exact ⟨by simp [h1],by omega⟩
  ·cases h
theorem rowsR_len:∀ {n:Nat} {b r:By} {l:List By},rowsR n b=some (l,r)→l.length=n:=by
 intro n
 induction n with
 | zero=>intro b r l h;cases h;rfl
 | succ n ih =>
  intro b r l h
  rw [rowsR] at h
  split at h
  ·cases hp:rowsR n ((b.drop 2).drop (lenOf b)) with
   | none=>rw [hp] at h;cases h
   | some x =>
    rw [hp] at h
    cases h
    simp [ih (l:=x.1) (r:=x.2) hp]
  ·cases h
theorem tickR_inv {np:Int} {r rest:By} {t:GTick} (h:tickR (np :: r)=some (t,rest)):∃ nb r2,picksR np.toNat r=some (t.picks,nb :: r2)∧rowsR nb.toNat r2=some (t.bytes,rest)∧smallT t=true:=by
 unfold tickR at h
 dsimp only at h
 cases hp:picksR np.toNat r with
 | none=>rw [hp] at h;cases h
 | some x =>
  rw [hp] at h
  replace h:midR x=some (t,rest):=h
  unfold midR at h
  obtain ⟨ps,xr⟩:=x
  cases xr with
  | nil=>cases h
  | cons nb r2 =>
   dsimp only at h
   cases hr:rowsR nb.toNat r2 with
   | none=>rw [hr] at h;cases h
   | some y =>
    rw [hr] at h
    replace h:endR ps y=some (t,rest):=h
    unfold endR at h
    split at h
    ·rename_i hs
     cases h
     exact ⟨nb,r2,rfl,hr,hs⟩
    ·cases h
section
variable {Z:ZP} {w w0:World} {R:Value→World→Prop} {A:List Nat→List Value→World→Prop} {B:List Nat→Nat→List Value→World→Prop}
end
end Go.Proofs.YtppodgdhdddfkaaGreatDoor.Sc
set_option linter.unusedVariables false
set_option linter.unusedSimpArgs false
namespace Go.Proofs.YtppodgdhdddfkaaGreatDoor.Sc
set_option maxRecDepth 100000
open Go Go.RowKit Go.Proofs.YtppodgdhdddfkaaGreatDoor.Sx
open Go.Proofs.YtppodgdhdddfkaaGreatDoor.Sg
open Go.Proofs.YtppodgdhdddfkaaGreatDoor.Bi (mixed take_s Eint)
open Go.Proofs.YtppodgdhdddfkaaGreatDoor.Hd (WfB Ebyte Erow Etick le le_bound le_max le_snoc le_drop shl_or wrap_u64 u_eq r_shlu)
open Go.Proofs.YtppodgdhdddfkaaGreatDoor.Cg (r_callZ r_tne toI take_flat)
section
variable {Z:ZP} {w w0:World} {R:Value→World→Prop} {A:List Nat→List Value→World→Prop} {B:List Nat→Nat→List Value→World→Prop}
end
end Go.Proofs.YtppodgdhdddfkaaGreatDoor.Sc
set_option linter.unusedVariables false
set_option linter.unusedSimpArgs false
namespace Go.Proofs.YtppodgdhdddfkaaGreatDoor.Sc
set_option maxRecDepth 100000
open Go Go.RowKit Go.Proofs.YtppodgdhdddfkaaGreatDoor.Sx
open Go.Proofs.YtppodgdhdddfkaaGreatDoor.Sg
open Go.Proofs.YtppodgdhdddfkaaGreatDoor.Hd (WfB le le_bound)
open Go.Proofs.YtppodgdhdddfkaaGreatDoor.Cg (toI)
theorem pkB_of {x:By} (hw:WfB x) (hl:x.length=8):pkB (pickOf x)=x∧in64 (pickOf x):=by
 have hb:=le_bound hw
 rw [hl] at hb
 have e:(256:Int) ^ 8=18446744073709551616:=by decide
 rw [e] at hb
 have h1:pickOf x % 18446744073709551616=le x:=by
  unfold pickOf toI
  split<;>omega
 refine ⟨?_,?_⟩
 ·unfold pkB
  rw [h1,← hl]
  exact low_le x hw
 ·unfold in64 pickOf toI
  split<;>omega
theorem picksR_of:∀ {n:Nat} {b r:By} {l:List Int},picksR n b=some (l,r)→WfB b→b=l.flatMap pkB++r∧∀ p∈l,in64 p:=by
 intro n
 induction n with
 | zero=>intro b r l h _;cases h;exact ⟨rfl,λ p hp=>(nomatch hp)⟩
 | succ n ih =>
  intro b r l h hw
  rw [picksR] at h
  split at h
  ·rename_i h8
   cases hp:picksR n (b.drop 8) with
   | none=>rw [hp] at h;cases h
   | some x =>
    rw [hp] at h
    cases h
    obtain ⟨h1,h2⟩:=ih (l:=x.1) (r:=x.2) hp (hw.drop 8)
    obtain ⟨k1,k2⟩:=pkB_of (hw.take 8) (by rw [List.length_take];omega)
    refine ⟨?_,λ p hp=>?_⟩
    ·rw [List.flatMap_cons,k1,List.append_assoc,← h1,List.take_append_drop]
    ·rcases List.mem_cons.1 hp with rfl | hp
     ·exact k2
     ·exact h2 p hp
  ·cases h
theorem rowsR_of:∀ {n:Nat} {b r:By} {l:List By},rowsR n b=some (l,r)→WfB b→(∀ x∈l,x.length≤1024)→b=l.flatMap rwB++r∧∀ x∈l,WfB x:=by
 intro n
 induction n with
 | zero=>intro b r l h _ _;cases h;exact ⟨rfl,λ p hp=>(nomatch hp)⟩
 | succ n ih =>
  intro b r l h hw hl
  rw [rowsR] at h
  split at h
  ·rename_i h2
   cases hp:rowsR n ((b.drop 2).drop (lenOf b)) with
   | none=>rw [hp] at h;cases h
   | some x =>
    rw [hp] at h
    cases h
    obtain ⟨k1,k2⟩:=ih (l:=x.1) (r:=x.2) hp ((hw.drop 2).drop _) (λ y hy=>hl y (by simp [hy]))
    have hlen:((b.drop 2).take (lenOf b)).length=lenOf b:=by rw [List.length_take];omega
    have e:rwB ((b.drop 2).take (lenOf b))=b.take 2++(b.drop 2).take (lenOf b):=by
     unfold rwB
     rw [hlen]
     have h3:=low_le (b.take 2) (hw.take 2)
     have hb:=le_bound (hw.take 2)
     have hl2:(b.take 2).length=2:=by rw [List.length_take];omega
     rw [hl2] at h3
     have:((lenOf b:Nat):Int)=le (b.take 2):=by unfold lenOf;omega
     rw [this,h3]
    refine ⟨?_,λ y hy=>?_⟩
    ·rw [List.flatMap_cons,e,List.append_assoc,List.append_assoc,← k1,List.take_append_drop,List.take_append_drop]
    ·rcases List.mem_cons.1 hy with rfl | hy
     ·exact (hw.drop 2).take _
     ·exact k2 y hy
  ·cases h
theorem tickR_of {b r:By} {t:GTick} (h:tickR b=some (t,r)) (hw:WfB b):b=bytesT t++r∧smallT t=true∧WfG t∧WfB r:=by
 cases b with
 | nil=>cases h
 | cons np q =>
  obtain ⟨nb,r2,k1,k2,k3⟩:=tickR_inv h
  obtain ⟨p1,p2,p3⟩:=small_parts k3
  have hq:WfB q:=λ z hz=>hw z (by simp [hz])
  have hnp:=hw np (by simp)
  obtain ⟨e1,w1⟩:=picksR_of k1 hq
  have hr:WfB (nb :: r2):=λ z hz=>hq z (by rw [e1];simp [List.mem_cons.1 hz])
  have hnb:=hr nb (by simp)
  have hr2:WfB r2:=λ z hz=>hr z (by simp [hz])
  obtain ⟨e2,w2⟩:=rowsR_of k2 hr2 p3
  have l1:=(picksR_len k1).1
  have l2:=rowsR_len k2
  have e:=bytesT_eq t []
  rw [List.nil_append] at e
  refine ⟨?_,k3,⟨w2,w1⟩,λ z hz=>hr2 z (by rw [e2];simp [hz])⟩
  rw [e,show (t.picks.length:Int) % 256=np by omega,show (t.bytes.length:Int) % 256=nb by omega,e1,e2]
  simp
theorem readN_of:∀ (n:Nat) (b:By),WfB b→b=(readN n b).1.flatMap bytesT++(readN n b).2∧(readN n b).1.length≤n∧∀ t∈(readN n b).1,smallT t=true∧WfG t:=by
 intro n
 induction n with
 | zero=>intro b _;exact ⟨rfl,Nat.le_refl _,λ t ht=>(nomatch ht)⟩
 | succ n ih =>
  intro b hw
  cases h:tickR b with
  | none=>rw [readN_no h];exact ⟨rfl,Nat.zero_le _,λ t ht=>(nomatch ht)⟩
  | some x =>
   obtain ⟨t,r⟩:=x
   obtain ⟨e,hs,hg,hr⟩:=tickR_of h hw
   obtain ⟨h1,h2,h3⟩:=ih r hr
   rw [readN_go h (by omega),Nat.add_sub_cancel]
   refine ⟨?_,by rw [List.length_cons];omega,λ u hu=>?_⟩
   ·rw [List.flatMap_cons,List.append_assoc,← h1];exact e
   ·rcases List.mem_cons.1 hu with rfl | hu
    ·exact ⟨hs,hg⟩
    ·exact h3 u hu
theorem bytesS_ok {l:List GTick} (h:∀ t∈l,smallT t=true) (hl:l.length≤4096):bytesS l=(l.flatMap bytesT,0):=by
 unfold bytesS
 rw [if_pos]
 unfold smallS
 simp only [Bool.and_eq_true,decide_eq_true_eq,List.all_eq_true]
 exact ⟨hl,h⟩
theorem any_back {b:By} (hw:WfB b):bytesS (readN 4096 b).1=(b.take (b.length-(readN 4096 b).2.length),0):=by
 obtain ⟨h1,h2,h3⟩:=readN_of 4096 b hw
 rw [bytesS_ok (λ t ht=>(h3 t ht).1) h2]
 generalize hl:(readN 4096 b).1=l at *
 generalize hr:(readN 4096 b).2=r at *
 have:b.length-r.length=(l.flatMap bytesT).length:=by
  have:=congrArg List.length h1
  rw [List.length_append] at this
  omega
 rw [this]
 conv=>rhs;rw [h1]
 rw [List.take_left' rfl]
end Go.Proofs.YtppodgdhdddfkaaGreatDoor.Sc
set_option linter.unusedVariables false
set_option linter.unusedSimpArgs false
namespace Go.Proofs.YtppodgdhdddfkaaGreatDoor.Sc
set_option maxRecDepth 100000
open Go Go.RowKit Go.Proofs.YtppodgdhdddfkaaGreatDoor.Sx
open Go.Proofs.YtppodgdhdddfkaaGreatDoor.Sg
open Go.Proofs.YtppodgdhdddfkaaGreatDoor.Bi (mixed take_s)
open Go.Proofs.YtppodgdhdddfkaaGreatDoor.Hd (WfB)
open Go.Proofs.YtppodgdhdddfkaaGreatDoor.Cg (mn toI)
section
variable {Z:ZP} {w w0:World} {R:Value→World→Prop} {A:List Nat→List Value→World→Prop} {B:List Nat→Nat→List Value→World→Prop}
theorem any26_t {Y:Option Addr} {cq:Nat} {b:By} (G:SW w) (hb:Rw (rI .u8) w Y b) (bc:b.length≤cq) (wb:WfB b):Cz Tryz.prog 8 [.slice Y b.length cq] w (λ r w'=>r=.bool true∧Fr [] w w') Z:=by
 refine go mixed Tryz.func8 Tryz.call8 rfl (Tr.e8 _) ?_
 refine r_call (awake_t G) ?_
 rintro _ w1 ⟨rfl,f1⟩
 obtain ⟨m,em,lm,nm⟩:=mn b 3000
 refine r_min ?_
 rw [show (3000:Int)=((3000:Nat):Int) from rfl,em]
 refine r_slh (e:=5) (m:=m) Tryz.underlying48 Tryz.sizeOf5 (by omega) (by omega) (by omega) ?_
 have hb:=(hb.take 3000).up f1
 have wb:=wb.take 3000
 have lm2:m≤3000:=by rw [lm,List.length_take];omega
 generalize b.take 3000=b at hb wb lm
 subst lm
 refine r_call (sRead_t hb (by omega) wb (by omega)) ?_
 rintro _ w2 ⟨v2,rfl,S2,f2⟩
 obtain ⟨X2,c2,rfl,k1,k2,k3⟩:=S2
 have hw2:=readN_of 4096 b wb
 refine r_call (sBytes_t k3 k2 (λ t ht=>(hw2.2.2 t ht).2)) ?_
 rintro _ w3 ⟨v3,rfl,O3,f3⟩
 rw [any_back wb] at O3 ⊢
 generalize hn:b.length-(readN 4096 b).2.length=n at O3 ⊢
 have hnb:n≤b.length:=by omega
 have hln:(b.take n).length=n:=by rw [List.length_take];omega
 obtain ⟨X3,c3,rfl,_,_,r3⟩:=O3.row (by dsimp only;rw [hln];simp only [big];omega)
 dsimp only at r3 ⊢
 refine r_dr (λ w4 f4=>?_)
 refine r_if (λ _=>?_) (λ h=>absurd (by omega) h)
 refine r_slh (e:=5) (m:=n) Tryz.underlying48 Tryz.sizeOf5 (by omega) (by omega) (by omega) ?_
 have F4:=(f2.trans f3).trans f4
 have rb:Rw (rI .u8) w4 Y (b.take n):=(hb.take n).up F4
 replace r3:=r3.up f4
 clear hn
 generalize b.take n=y at hln r3 rb
 subst hln
 have fin:∀ {A:List Nat→List Value→World→Prop} {B:List Nat→Nat→List Value→World→Prop},wp Tryz.prog Z (λ r w'=>r=.bool true∧Fr [] w w') [] (.ret (.bool (decide (by8 y=by8 y)))) w4 A B:=by
  intro A B
  exact r_ret ⟨by rw [decide_eq_true rfl],f1.trans F4⟩
 refine ⟨?_,?_⟩
 ·refine r_bstr r3 ?_
  refine r_bstr rb ?_
  exact r_teq fin
 ·refine r_bstr rb ?_
  refine r_bstr r3 ?_
  exact r_teq fin
theorem wfB_of {b:By} (h:∀ z∈b,(Lit.int .u8 z).wf=true):WfB b:=λ z hz=>by
 have:=h z hz
 simp [Lit.wf,IntKind.min,IntKind.max,IntKind.bits,IntKind.signed] at this
 omega
theorem any_c (W:World) (G:SW W) {Y:Option Addr} {cq:Nat} {b:By} (hb:Rw (rI .u8) W Y b) (bc:b.length≤cq) (bb:b.length≤big) (wb:∀ z∈b,(Lit.int .u8 z).wf=true):Cl Tryz.prog 8 [.slice Y b.length cq] W (λ r w'=>r=.bool true∧Fr [] W w'):=
 (any26_t G hb bc (wfB_of wb)).cl
end
end Go.Proofs.YtppodgdhdddfkaaGreatDoor.Sc
