import Derived.Test.YtppodgdhdddfkaaGreatDoorQMo
import Derived.Laws.IdiomStrings
import Derived.Laws.Unary
set_option linter.unusedVariables false
set_option linter.unusedSimpArgs false
namespace Go.Proofs.YtppodgdhdddfkaaGreatDoor.Cg
open Go Go.RowKit Go.Proofs.YtppodgdhdddfkaaGreatDoor.Sx
open Go.Proofs.YtppodgdhdddfkaaGreatDoor.Bi (mixed take_s Nw rList_t)
open Go.Proofs.YtppodgdhdddfkaaGreatDoor.Cf
open Go.Proofs.YtppodgdhdddfkaaGreatDoor.Sg
theorem wrap_u8 (z:Int):IntKind.u8.wrap z=z % 256:=by simp [IntKind.wrap,IntKind.bits,IntKind.signed]
section
variable {P:Program} {Z:ZP} {R:Value→World→Prop} {w:World} {A:List Nat→List Value→World→Prop} {B:List Nat→Nat→List Value→World→Prop} {ds:List Nat} {k:Value→T}
theorem Ebyte4:El Tryz.prog 48 5 1 1 (.int .u8 0):=⟨by kernel_rfl,by kernel_rfl,Tryz.sizeOf5,Tryz.zeroValue5,rfl⟩
theorem r_remU {ty x:Nat} (hk:wp P Z R ds (k (.int .u64 ((x % 10:Nat):Int))) w A B):wp P Z R ds (.pu (binOp .rem ty (.int .u64 (x:Int)) (.int .u64 10)) k) w A B:=by
 refine r_rem (by decide) ?_
 have e:((x:Nat):Int).tmod 10=((x % 10:Nat):Int):=by rw [Int.tmod_eq_emod_of_nonneg (by omega)];omega
 rw [e]
 exact hk
theorem r_quoU {ty x:Nat} (hx:x < 18446744073709551616) (hk:wp P Z R ds (k (.int .u64 ((x / 10:Nat):Int))) w A B):wp P Z R ds (.pu (binOp .quo ty (.int .u64 (x:Int)) (.int .u64 10)) k) w A B:=by
 have h1:IntKind.u64.wrap (((x:Nat):Int).tdiv 10)=((x / 10:Nat):Int):=by
  rw [Bt.wrap_u,Int.tdiv_eq_ediv_of_nonneg (by omega)];omega
 have e:(Op.intDiv .quo .u64 ((x:Nat):Int) 10:Sem Value)=pure (.int .u64 ((x / 10:Nat):Int)):=by
  unfold Op.intDiv
  rw [if_neg (by decide)]
  show (pure (.int .u64 (IntKind.u64.wrap (((x:Nat):Int).tdiv 10))):Sem Value)=_
  rw [h1]
 exact ⟨_,λ w'=>by rw [binOp_quo,e];rfl,hk⟩
theorem r_negU {a:Int} (hk:wp P Z R ds (k (.int .u64 (IntKind.u64.wrap (0-a)))) w A B):wp P Z R ds (.pu (Op.unary .neg (.int .u64 a)) k) w A B:=⟨_,λ w'=>by rw [unary_neg];rfl,hk⟩
theorem r_dig {x:Nat} (hk:∀ w',Fr [] w w'→wp Tryz.prog Z R ds (k (Tx [UInt8.ofNat (48+x % 10)])) w' A B):wp Tryz.prog Z R ds (.pu (binOp .rem 40 (.int .u64 (x:Int)) (.int .u64 10)) λ v12=>biT false .add (.int .u64 48) v12 λ v13=>cvT .u8 v13 λ v14=>.hv (Instr.buildSlice 48 1 [(0,v14)].toArray) λ v15=>.hv (convert 48 9 v15) k) w A B:=by
 refine r_remU ?_
 refine r_are (y:=((48+x % 10:Nat):Int)) (by rw [Bt.wrap_u];omega) ?_
 refine r_are (y:=((48+x % 10:Nat):Int)) (by rw [wrap_u8];omega) ?_
 refine r_bs1 Ebyte4 (cs:=[.int .u8 ((48+x % 10:Nat):Int)]) (λ b w1 hb B1 f1=>?_)
 have hd:=dig (x % 10) (by omega)
 refine ⟨_,w1,run_convert_bytes_back w1 48 9 5 ⟨b,0,none⟩ 1 [UInt8.ofNat (48+x % 10)] Tryz.underlying48 Tryz.underlying5 Tryz.underlying9 (λ j hj=>?_),hk w1 f1⟩
 obtain rfl:j=0:=by simpa using hj
 rw [addr_add]
 have h1:=B1.cell (o:=0) rfl
 show w1.cell? ⟨b,0+0,none⟩=some (.int .u8 (((UInt8.ofNat (48+x % 10)).toNat:Nat):Int))
 rw [hd]
 exact h1
end
def nmT (x0 y:Value):T:=.pu (binOp .rem 40 y (.int .u64 10)) λ v12=>biT false .add (.int .u64 48) v12 λ v13=>cvT .u8 v13 λ v14=>.hv (Instr.buildSlice 48 1 [(0,v14)].toArray) λ v15=>.hv (convert 48 9 v15) λ v16=>.pu (binOp .quo 40 y (.int .u64 10)) λ v18=>.loop [v18,v16] (λ z2=>biT true .gtr (nv z2 0) (.int .u64 0) λ v20=>gi v20 (.pu (binOp .rem 40 (nv z2 0) (.int .u64 10)) λ v24=>biT false .add (.int .u64 48) v24 λ v25=>cvT .u8 v25 λ v26=>.hv (Instr.buildSlice 48 1 [(0,v26)].toArray) λ v27=>.hv (convert 48 9 v27) λ v28=>.pu (binOp .add 9 v28 (nv z2 1)) λ v30=>.pu (binOp .quo 40 (nv z2 0) (.int .u64 10)) λ v22=>.again [v22,v30]) (.brk 0 [(nv z2 0),(nv z2 1)])) (λ i2 z2=>bq i2 0 (biT true .lss x0 (I 0) λ v32=>gi v32 (.pu (binOp .add 9 (.string {data:=#[45]}) (nv z2 1)) λ v34=>.pu (binOp .add 9 (.string {data:=#[32]}) v34) λ v36=>.ret v36) (.pu (binOp .add 9 (.string {data:=#[32]}) (nv z2 1)) λ v36=>.ret v36)) (.bad))
section
variable {Z:ZP} {w:World}
theorem dec_len {u:Nat} (hu:u < 18446744073709551616):(Lib.decDigits u).length≤20:=by rw [Lib.decDigits_length];exact Lib.nDigits_le20 u hu
theorem nm_wp {R:Value→World→Prop} {A:List Nat→List Value→World→Prop} {B:List Nat→Nat→List Value→World→Prop} {n:Int} {u:Nat} (hu:u < 18446744073709551616) (hn:Lib.itoa n=if n < 0 then 45 :: Lib.decDigits u else Lib.decDigits u) (k:∀ w',Fr [] w w'→R (Tx (num n)) w'):wp Tryz.prog Z R [] (nmT (I n) (.int .u64 (u:Int))) w A B:=by
 have hul:=dec_len hu
 refine r_dig (λ w1 f1=>?_)
 refine r_quoU hu ?_
 refine r_loop (λ (s:Nat × Bs)=>[.int .u64 (s.1:Int),Tx s.2]) (λ s w'=>s.1 < 18446744073709551616∧(if s.1=0 then s.2 else Lib.decDigits s.1++s.2)=Lib.decDigits u∧Fr [] w w') (λ s=>s.1) (u / 10,[UInt8.ofNat (48+u % 10)]) ⟨by dsimp only;omega,?_,f1⟩ rfl ?_
 ·show (if u / 10=0 then _ else _)=_
  rw [dec_unf u]
  by_cases h:u < 10
  ·rw [if_pos (by omega),if_pos h,Nat.mod_eq_of_lt h]
  ·rw [if_neg (by omega),if_neg h]
 rintro ⟨x,s⟩ w2 ⟨hx,hs,F⟩
 dsimp only at hx hs
 refine r_if (λ h=>?_) (λ h=>?_)
 ·dsimp only at h
  have hx0:¬ x=0:=by omega
  rw [if_neg hx0] at hs
  have hsl:s.length≤20:=by
   have:=congrArg List.length hs
   rw [List.length_append] at this
   omega
  refine r_dig (λ w3 f3=>?_)
  refine r_cat (a:=[UInt8.ofNat (48+x % 10)]) (b:=s) (by simp only [List.length_cons,List.length_nil];omega) ?_
  refine r_quoU hx ?_
  refine r_ag (s:=(x,s)) (x / 10,[UInt8.ofNat (48+x % 10)]++s) ⟨by dsimp only;omega,?_,F.trans f3⟩ (by dsimp only;omega) rfl
  dsimp only
  rw [← hs]
  rw [dec_unf x]
  by_cases h1:x < 10
  ·rw [if_pos (by omega),if_pos h1,Nat.mod_eq_of_lt h1]
  ·rw [if_neg (by omega),if_neg h1,List.append_assoc]
 ·dsimp only at h
  have hx0:x=0:=by omega
  rw [if_pos hx0] at hs
  subst hs
  refine r_brk ?_
  refine r_if (λ hn0=>?_) (λ hn0=>?_)
  ·refine r_cat (a:=[45]) (by simp only [List.length_cons,List.length_nil];omega) ?_
   refine r_cat (a:=[32]) (by simp only [List.length_cons,List.length_append,List.length_nil];omega) ?_
   have e:num n=[32]++([45]++Lib.decDigits u):=by unfold num;rw [hn,if_pos hn0];rfl
   have:=k w2 F
   rw [e] at this
   exact r_ret this
  ·refine r_cat (a:=[32]) (by simp only [List.length_cons,List.length_nil];omega) ?_
   have e:num n=[32]++Lib.decDigits u:=by unfold num;rw [hn,if_neg hn0];rfl
   have:=k w2 F
   rw [e] at this
   exact r_ret this
theorem rnumber_t (n:Int) (hn:in64 n):Cz Tryz.prog 108 [I n] w (λ r w'=>r=Tx (num n)∧Fr [] w w') Z:=by
 obtain ⟨h1,h2⟩:=hn
 refine go mixed Tryz.func108 Tryz.call108 rfl (Tr.e108 _) ?_
 refine r_are (Bt.wrap_u n) ?_
 refine r_if (λ h=>?_) (λ h=>?_)
 ·refine r_negU ?_
  have e:IntKind.u64.wrap (0-n % 18446744073709551616)=((n.natAbs:Nat):Int):=by rw [Bt.wrap_u];omega
  rw [e]
  exact nm_wp (n:=n) (u:=n.natAbs) (by omega) (by unfold Lib.itoa;rw [if_pos h,if_pos h]) (λ w' F=>⟨rfl,F⟩)
 ·have e:n % 18446744073709551616=((n.toNat:Nat):Int):=by omega
  rw [e]
  exact nm_wp (n:=n) (u:=n.toNat) (by omega) (by unfold Lib.itoa;rw [if_neg h,if_neg h]) (λ w' F=>⟨rfl,F⟩)
theorem rnumbers_t {v:Value} {l:List Int} (hv:Sl (rI .i64) w v l) (hn:∀ n∈l,in64 n) (hl:l.length≤100000):Cz Tryz.prog 106 [v] w (λ r w'=>r=Tx (nums l)∧Fr [] w w') Z:=by
 obtain ⟨X,c,rfl,hc,_,hr⟩:=hv
 refine go mixed Tryz.func106 Tryz.call106 rfl (Tr.e106 _) ?_
 refine r_loop (λ (i:Nat)=>[I (i:Int),Tx (nums (l.take i))]) (λ i w'=>i≤l.length∧Fr [] w w') (λ i=>l.length-i) 0 ⟨Nat.zero_le _,Fr.refl _ _⟩ (by simp [nums]) ?_
 rintro i w1 ⟨hi,F⟩
 refine r_if (λ h=>?_) (λ h=>?_)
 ·obtain ⟨y,hy⟩:=gt (xs:=l) (j:=i) (by omega)
  obtain ⟨ad,es,rfl,rd,e3⟩:=(hr.up F) i y hy
  obtain rfl:=e3
  have hy64:=hn y (List.mem_of_getElem? hy)
  refine r_ob ⟨by omega,by omega⟩ ?_
  refine r_ld (cell1 rd) ?_
  refine r_call (rnumber_t y hy64) ?_
  rintro _ w2 ⟨rfl,f2⟩
  have h1:=num_len y hy64
  have h2:=nums_len (l.take i) (λ n h=>hn n (List.mem_of_mem_take h))
  rw [List.length_take] at h2
  refine r_cat (by omega) ?_
  refine r_ar (by omega) ?_
  refine r_ag (i+1) ⟨by omega,F.trans f2⟩ (by omega) ?_
  rw [take_s hy,nums_app]
  simp [nums]
 ·refine r_brk (r_ret ⟨?_,F⟩)
  have:i=l.length:=by omega
  show Tx (nums (l.take i))=_
  rw [this,List.take_length]
theorem ropens_t (b:Bool):Cz Tryz.prog 129 [.bool b] w (λ r w'=>r=Tx (opB b)∧w'=w) Z:=by
 refine go mixed Tryz.func129 Tryz.call129 rfl (Tr.e129 _) ?_
 cases b<;>exact r_ret ⟨rfl,rfl⟩
def nlF (ls:List Bs):Bs:=(ls.map (λ l=>l++[10])).flatten
theorem nlF_len (ls:List Bs) (h:∀ l∈ls,l.length≤2000) (hn:ls.length≤3000):(nlF ls).length≤6003000:=by
 have h1:(nlF ls).length≤2001 * (ls.map (λ l=>l++[10])).length:=flat_len (ls.map (λ l=>l++[10])) 2001 (λ l hl=>by obtain ⟨z,hz,rfl⟩:=List.mem_map.1 hl;have:=h z hz;simp;omega)
 rw [List.length_map] at h1
 have h2:=Nat.mul_le_mul_left 2001 hn
 omega
theorem op_len (o:Bool):(opB o).length≤6:=by unfold opB;split<;>simp
theorem rmany_t {cs:List Value} {c:GConf} (hc:rConf.r w cs c):Cz Tryz.prog 105 [.agg cs.toArray] w (λ r w'=>r=.bool (manyP c)∧Fr [] w w') Z:=by
 obtain ⟨A0,c0,A1,c1,A2,c2,A3,c3,A4,c4,rfl,k0,k1,k2,k3,k4⟩:=oConf hc
 have b2:=k2.2.1
 simp only [big] at b2
 refine go mixed Tryz.func105 Tryz.call105 rfl (Tr.e105 _) ?_
 refine b_box (Bx.nil w) (λ v1 w1 H=>?_)
 refine b_ld H 0 rfl rfl ?_
 refine r_if (λ h=>b_ret H (λ F=>⟨congrArg Value.bool (by unfold manyP;simp;omega),F⟩)) (λ h0=>?_)
 refine b_ld H 0 rfl rfl ?_
 refine r_if (λ h=>b_ret H (λ F=>⟨congrArg Value.bool (by unfold manyP;simp;omega),F⟩)) (λ h1=>?_)
 refine b_ld H 0 rfl rfl ?_
 refine r_if (λ h=>b_ret H (λ F=>⟨congrArg Value.bool (by unfold manyP;simp;omega),F⟩)) (λ h2=>?_)
 refine b_ld H 0 rfl rfl ?_
 refine r_if (λ h=>b_ret H (λ F=>⟨congrArg Value.bool (by unfold manyP;simp;omega),F⟩)) (λ h3=>?_)
 refine b_ld H 0 rfl rfl ?_
 refine r_if (λ h=>b_ret H (λ F=>⟨congrArg Value.bool (by unfold manyP;simp;omega),F⟩)) (λ h4=>?_)
 have yes:∀ {i:Nat} {x:GChannel},c.channels[i]? = some x→manyCh x=true→true=manyP c:=λ hx h=>by
  have:c.channels.any manyCh=true:=List.any_eq_true.2 ⟨_,List.mem_of_getElem? hx,h⟩
  unfold manyP
  rw [this,Bool.or_true]
 refine r_loop (λ (i:Nat)=>[I (i:Int),B false]) (λ i w'=>i≤c.channels.length∧(∀ (j:Nat) x,j < i→c.channels[j]? = some x→manyCh x=false)∧Bx w w' [(v1,29,[.slice A0 c.flows.length c0,.slice A1 c.tenants.length c1,.slice A2 c.channels.length c2,.slice A3 c.gates.length c3,.slice A4 c.frame.length c4,I c.budget,I c.requests,I c.pending])]) (λ i=>c.channels.length-i) 0 ⟨Nat.zero_le _,λ _ _ h=>by omega,H⟩ rfl ?_
 rintro i w2 ⟨hi,hno,H⟩
 refine b_ld H 0 rfl rfl ?_
 refine r_if (λ h=>?_) (λ h=>?_)
 ·obtain ⟨x,hx⟩:=gt (xs:=c.channels) (j:=i) (by omega)
  obtain ⟨ad,es,rfl,rd,e5⟩:=(k2.2.2.up H.F) i x hx
  obtain ⟨L1,d1,L2,d2,rfl,q1,q2⟩:=oChannel e5
  refine b_ld H 0 rfl rfl ?_
  refine r_ob ⟨by omega,by omega⟩ ?_
  have hc1:w2.cell? (addA (addA ad (((i:Nat):Int).toNat * 3)) 1)=some (.slice L1 x.lanes.length d1):=rd.2 1 _ rfl
  have hc2:w2.cell? (addA (addA ad (((i:Nat):Int).toNat * 3)) 2)=some (.slice L2 x.receivers.length d2):=rd.2 2 _ rfl
  refine r_ld hc1 ?_
  refine r_if (λ h6=>b_ret H (λ F=>⟨congrArg Value.bool (yes hx (by unfold manyCh;simp;omega)),F⟩)) (λ h6=>?_)
  refine b_ld H 0 rfl rfl ?_
  refine r_ob ⟨by omega,by omega⟩ ?_
  refine r_ld hc2 ?_
  refine r_if (λ h7=>b_ret H (λ F=>⟨congrArg Value.bool (yes hx (by unfold manyCh;simp;omega)),F⟩)) (λ h7=>?_)
  refine r_ar (by omega) ?_
  refine r_ag (i+1) ⟨by omega,λ j y hj hy=>?_,H⟩ (by omega) rfl
  rcases Nat.lt_or_ge j i with h' | h'
  ·exact hno j y h' hy
  ·obtain rfl:j=i:=by omega
   rw [hx] at hy;cases hy
   unfold manyCh;simp;omega
 ·refine r_brk (b_ret H (λ F=>⟨congrArg Value.bool ?_,F⟩))
  have:c.channels.any manyCh=false:=by
   rw [List.any_eq_false]
   intro x hx
   obtain ⟨j,hj⟩:=List.getElem?_of_mem hx
   have:=(List.getElem?_eq_some_iff.1 hj).1
   rw [hno j x (by omega) hj];simp
  unfold manyP
  rw [this]
  simp
  omega
end
end Go.Proofs.YtppodgdhdddfkaaGreatDoor.Cg
set_option linter.unusedVariables false
set_option linter.unusedSimpArgs false
namespace Go.Proofs.YtppodgdhdddfkaaGreatDoor.Cg
open Go Go.RowKit Go.Proofs.YtppodgdhdddfkaaGreatDoor.Sx
open Go.Proofs.YtppodgdhdddfkaaGreatDoor.Bi (mixed take_s Nw rList_t)
open Go.Proofs.YtppodgdhdddfkaaGreatDoor.Cf
open Go.Proofs.YtppodgdhdddfkaaGreatDoor.Sg
section
variable {Z:ZP} {w:World}
theorem short {ls:List Bs} (h:∀ l∈ls,l.length≤2000) (hn:ls.length≤3000):(nlF ls).length≤6003000:=nlF_len ls h hn
end
end Go.Proofs.YtppodgdhdddfkaaGreatDoor.Cg
set_option linter.unusedVariables false
set_option linter.unusedSimpArgs false
namespace Go.Proofs.YtppodgdhdddfkaaGreatDoor.Cg
open Go Go.RowKit Go.Proofs Go.Proofs.YtppodgdhdddfkaaGreatDoor.Sx
open Go.Proofs.YtppodgdhdddfkaaGreatDoor.Bi (mixed take_s)
open Go.Proofs.YtppodgdhdddfkaaGreatDoor.Cf
section
variable {Z:ZP} {w:World}
end
end Go.Proofs.YtppodgdhdddfkaaGreatDoor.Cg
set_option linter.unusedVariables false
set_option linter.unusedSimpArgs false
namespace Go.Proofs.YtppodgdhdddfkaaGreatDoor.Cg
open Go Go.RowKit Go.Proofs.YtppodgdhdddfkaaGreatDoor.Sx
open Go.Proofs.YtppodgdhdddfkaaGreatDoor.Bi (mixed take_s)
open Go.Proofs.YtppodgdhdddfkaaGreatDoor.Cf
open Go.Proofs.YtppodgdhdddfkaaGreatDoor.Sg
section
variable {Z:ZP} {w:World}
end
end Go.Proofs.YtppodgdhdddfkaaGreatDoor.Cg
