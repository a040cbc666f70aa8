import Derived.Test.YtppodgdhdddfkaaGreatDoorQMw
set_option linter.unusedVariables false
set_option linter.unusedSimpArgs false
namespace Go.Proofs.YtppodgdhdddfkaaGreatDoor.Sc
set_option maxRecDepth 100000
open Go Go.RowKit Go.Proofs.YtppodgdhdddfkaaGreatDoor.Sx
open Go.Proofs.YtppodgdhdddfkaaGreatDoor.Sg
open Go.Proofs.YtppodgdhdddfkaaGreatDoor.Bi (mixed take_s Eint)
open Go.Proofs.YtppodgdhdddfkaaGreatDoor.Hd (WfB Ebyte Erow Etick le le_bound le_max le_snoc shl_or wrap_u64 u_eq r_shlu)
open Go.Proofs.YtppodgdhdddfkaaGreatDoor.Cg (r_callZ toI)
def pickOf (b:By):Int:=toI (le b).toNat
def picksR:Nat→By→Option (List Int × By)
 | 0,b=>some ([],b)
 | n+1,b=>if 8≤b.length then (picksR n (b.drop 8)).map (λ x=>(pickOf (b.take 8) :: x.1,x.2)) else none
def lenOf (b:By):Nat:=(le (b.take 2)).toNat
def rowsR:Nat→By→Option (List By × By)
 | 0,b=>some ([],b)
 | n+1,b=>if 2≤b.length∧lenOf b≤(b.drop 2).length then (rowsR n ((b.drop 2).drop (lenOf b))).map (λ x=>((b.drop 2).take (lenOf b) :: x.1,x.2)) else none
def endR (ps:List Int) (x:List By × By):Option (GTick × By):=if smallT ⟨x.1,ps⟩=true then some (⟨x.1,ps⟩,x.2) else none
def midR (x:List Int × By):Option (GTick × By):=match x.2 with
 | []=>none
 | nb :: r=>(rowsR nb.toNat r).bind (endR x.1)
def tickR (b:By):Option (GTick × By):=match b with
 | []=>none
 | np :: r=>(picksR np.toNat r).bind midR
theorem Rw.tk {α:Type} {e:Rl α} {w:World} {X:Option Addr} {xs:List α} (h:Rw e w X xs) (n:Nat):Rw e w X (xs.take n):=λ j x hj=>by
 rw [List.getElem?_take] at hj
 split at hj
 ·exact h j x hj
 ·cases hj
def RB (w0 W:World) (b:Nat) (xs:By):Prop:=∃ X c,Blk W b 104 [.slice X xs.length c]∧xs.length≤c∧Rw (rI .u8) w0 X xs∧WfB xs
theorem RB.fr {w0 W W':World} {b:Nat} {xs:By} {S:List Nat} (h:RB w0 W b xs) (f:Fr S W W') (hb:b∉S):RB w0 W' b xs:=let ⟨X,c,h1,h2⟩:=h;⟨X,c,h1.fr f hb,h2⟩
section
variable {P:Program} {Z:ZP} {R:Value→World→Prop} {w:World} {A:List Nat→List Value→World→Prop} {B:List Nat→Nat→List Value→World→Prop} {ds:List Nat} {k:Value→T}
theorem r_shlI8 {ty:Nat} {d:Int} (hd:0≤d∧d < 256) (hk:wp P Z R ds (k (I (256 * d))) w A B):wp P Z R ds (.pu (binOp .shl ty (I d) (.int .u64 8)) k) w A B:=by
 have e:Op.shift .shl .i64 d .u64 8=pure (I (256 * d)):=by
  unfold Op.shift
  rw [if_neg (by omega)]
  refine congrArg (λ z=>(pure (Value.int .i64 z):Sem Value)) ?_
  show IntKind.i64.wrap (d * 2 ^ 8)=256 * d
  rw [IntKind.wrap_i64]
  omega
 exact ⟨_,λ w'=>by rw [binOp_shl,e];rfl,hk⟩
theorem r_orI8 {ty:Nat} {a d:Int} (ha:0≤a∧a < 256) (hd:0≤d∧d < 256) (hk:wp P Z R ds (k (I (a+256 * d))) w A B):wp P Z R ds (.pu (binOp .or ty (I a) (I (256 * d))) k) w A B:=by
 obtain ⟨x,rfl⟩:∃ x:Nat,a=x:=⟨a.toNat,by omega⟩
 obtain ⟨y,rfl⟩:∃ y:Nat,d=y:=⟨d.toNat,by omega⟩
 have hor:=Nat.two_pow_add_eq_or_of_lt (i:=8) (b:=x) (by omega) y
 have e:(Op.intBits .or .i64 (x:Int) (256 * (y:Int)):Sem Value)=pure (I (x+256 * y)):=by
  unfold Op.intBits
  refine congrArg (λ z=>(pure (Value.int .i64 z):Sem Value)) ?_
  show IntKind.i64.wrap ((BitVec.ofInt 64 (x:Int) ||| BitVec.ofInt 64 (256 * (y:Int))).toNat:Nat)=(x:Int)+256 * (y:Int)
  rw [BitVec.toNat_or,BitVec.toNat_ofInt,BitVec.toNat_ofInt]
  have e1:((x:Int) % ((2 ^ 64:Nat):Int)).toNat=x:=by omega
  have e2:((256 * (y:Int)) % ((2 ^ 64:Nat):Int)).toNat=2 ^ 8 * y:=by omega
  rw [e1,e2,Nat.or_comm,← hor,IntKind.wrap_i64]
  omega
 exact ⟨_,λ w'=>by rw [binOp_or,e];rfl,hk⟩
end
section
variable {Z:ZP} {w w0:World} {R:Value→World→Prop} {A:List Nat→List Value→World→Prop} {B:List Nat→Nat→List Value→World→Prop}
theorem take_t {b n:Nat} {xs:By} (HB:RB w0 w b xs):Cz Tryz.prog 94 [Pt b 0,I n] w (λ r w'=>n≤xs.length∧∃ X,r=.slice X n n∧Rw (rI .u8) w0 X (xs.take n)∧RB w0 w' b (xs.drop n)∧Fr [b] w w') (ZS (xs.length < n) [] w):=by
 obtain ⟨X,c,hB,hc,hr,hw⟩:=HB
 refine go mixed Tryz.func94 Tryz.call94 rfl (Tr.e94 _ _) ?_
 refine r_ld (hB.cell (o:=0) rfl) ?_
 refine r_if (λ h=>?_) (λ h=>?_)
 ·exact r_pans ⟨by omega,rfl,Fr.refl _ _⟩
 refine r_ld (hB.cell (o:=0) rfl) ?_
 refine r_slh3 (h:=n) (m:=n) Tryz.underlying48 Tryz.sizeOf5 rfl rfl (Nat.le_refl _) (by omega) ?_
 refine r_ld (hB.cell (o:=0) rfl) ?_
 refine r_sll (e:=rI .u8) (l:=n) Tryz.underlying48 Tryz.sizeOf5 rfl (by omega) hc (λ X' hX'=>?_)
 refine r_st1 hB Tryz.sizeOf48 (λ w1 B1 f1=>?_)
 have e1:(xs.drop n).take (xs.length-n)=xs.drop n:=List.take_of_length_le (by rw [List.length_drop];exact Nat.le_refl _)
 have h2:=hX' _ _ hr
 rw [e1] at h2
 refine r_ret ⟨by omega,X,rfl,Rw.tk hr n,⟨X',c-n,?_,by rw [List.length_drop];omega,h2,hw.drop n⟩,f1⟩
 rw [List.length_drop]
 exact B1
end
end Go.Proofs.YtppodgdhdddfkaaGreatDoor.Sc
set_option linter.unusedVariables false
set_option linter.unusedSimpArgs false
namespace Go.Proofs.YtppodgdhdddfkaaGreatDoor.Sc
set_option maxRecDepth 100000
open Go Go.RowKit Go.Proofs.YtppodgdhdddfkaaGreatDoor.Sx
open Go.Proofs.YtppodgdhdddfkaaGreatDoor.Sg
open Go.Proofs.YtppodgdhdddfkaaGreatDoor.Bi (mixed take_s Eint)
open Go.Proofs.YtppodgdhdddfkaaGreatDoor.Hd (WfB Ebyte Erow Etick le le_bound le_max le_snoc shl_or wrap_u64 u_eq r_shlu)
open Go.Proofs.YtppodgdhdddfkaaGreatDoor.Cg (r_callZ toI)
theorem toI_wrap {x:Int} (h:0≤x∧x < 18446744073709551616):IntKind.i64.wrap x=toI x.toNat:=by
 rw [IntKind.wrap_i64]
 unfold toI
 split<;>omega
theorem picksR_end {n:Nat} {b:By} (h:b.length < 8) (hn:0 < n):picksR n b=none:=by
 cases n with
 | zero=>omega
 | succ n=>rw [picksR,if_neg (by omega)]
theorem picksR_go {n:Nat} {b:By} (h:8≤b.length) (hn:0 < n):picksR n b=(picksR (n-1) (b.drop 8)).map (λ x=>(pickOf (b.take 8) :: x.1,x.2)):=by
 cases n with
 | zero=>omega
 | succ n=>rw [picksR,if_pos h,Nat.add_sub_cancel]
theorem rowsR_end {n:Nat} {b:By} (h:¬ (2≤b.length∧lenOf b≤(b.drop 2).length)) (hn:0 < n):rowsR n b=none:=by
 cases n with
 | zero=>omega
 | succ n=>rw [rowsR,if_neg h]
theorem rowsR_go {n:Nat} {b:By} (h:2≤b.length∧lenOf b≤(b.drop 2).length) (hn:0 < n):rowsR n b=(rowsR (n-1) ((b.drop 2).drop (lenOf b))).map (λ x=>((b.drop 2).take (lenOf b) :: x.1,x.2)):=by
 cases n with
 | zero=>omega
 | succ n=>rw [rowsR,if_pos h,Nat.add_sub_cancel]
def TkR (w0 w:World) (b:Nat) (xs:By) (r:Value) (w':World):Prop:=∃ cs t rest,tickR xs=some (t,rest)∧r=.agg cs.toArray∧Nu w w' (λ W=>rTick.r W cs t)∧RB w0 w' b rest∧Fr [b] w w'
section
variable {Z:ZP} {w w0:World} {R:Value→World→Prop} {A:List Nat→List Value→World→Prop} {B:List Nat→Nat→List Value→World→Prop}
theorem stick_t {b:Nat} {xs:By} (F0:Fr [] w0 w) (hb0:w0.heap.size≤b) (HB:RB w0 w b xs):Cz Tryz.prog 57 [Pt b 0] w (TkR w0 w b xs) (ZS (tickR xs=none) [b] w):=by
 have hbl:b < w.heap.size:=by obtain ⟨X,c,h,_⟩:=HB;exact h.lt
 have hwx:WfB xs:=by obtain ⟨_,_,_,_,_,h⟩:=HB;exact h
 refine go mixed Tryz.func57 Tryz.call57 rfl (Tr.e57 _) ?_
 refine r_al (zs:=zT) Tryz.zeroValue76 (λ v2 w1 e2 B2 f1=>?_)
 refine r_al (zs:=zT) Tryz.zeroValue76 (λ v3 w2 e3 B3 f2=>?_)
 have H:Bx w0 w2 [(v3,76,zT),(v2,76,zT)]:=((Bx.of F0).add e2 B2 f1).add e3 B3 f2
 have HB:=(HB.fr f1 (by simp)).fr f2 (by simp)
 have Fb:Fr [b] w w2:=(f1.trans f2).mono (by simp)
 have l2:=(H.blk (i:=1) rfl).lt
 have l3:=(H.blk (i:=0) rfl).lt
 have n23:v3≠v2:=by have:=B2.lt;omega
 have hw2:=f1.size
 have bx_b:∀ {W1 W2:World} {c1 c2:List Value},Bx w0 W1 [(v3,76,c1),(v2,76,c2)]→Fr [b] W1 W2→Bx w0 W2 [(v3,76,c1),(v2,76,c2)]:=λ hH f =>
  hH.frS f (λ q hq=>by simp at hq;omega) (λ q hq p hp=>by
   simp at hq;subst hq
   simp only [List.mem_cons,List.not_mem_nil,or_false] at hp
   rcases hp with rfl | rfl<;>(dsimp only;omega))
 have bx_own:∀ {W1 W2:World} {c1 c2:List Value} {O:List Nat},Bx w0 W1 [(v3,76,c1),(v2,76,c2)]→Fr O W1 W2→(∀ q∈O,w2.heap.size≤q)→Bx w0 W2 [(v3,76,c1),(v2,76,c2)]:=λ hH f hO =>
  hH.frS f (λ q hq=>by have:=hO q hq;have:=H.F.size;omega) (λ q hq p hp=>by
   have:=hO q hq
   simp only [List.mem_cons,List.not_mem_nil,or_false] at hp
   rcases hp with rfl | rfl<;>(dsimp only;omega))
 refine r_callZ (take_t (n:=1) HB) ?_ (λ c w' hz=>?_)
 rotate_left
 ·obtain ⟨h1,rfl,h3⟩:=hz
  obtain rfl:xs=[]:=List.eq_nil_of_length_eq_zero (by omega)
  exact ⟨rfl,rfl,Fb.trans (h3.mono (by simp))⟩
 rintro _ w3 ⟨hx1,X,rfl,hr,HB,f3⟩
 obtain ⟨np,r,rfl⟩:∃ np r,xs=np :: r:=by
  cases xs with
  | nil=>simp at hx1
  | cons a r=>exact ⟨a,r,rfl⟩
 have hwf:=hwx
 have H:=bx_b H f3
 have Fb:=Fb.trans f3
 have hnp:=hwf np (by simp)
 obtain ⟨ad,es,rfl,rd,e4⟩:=(hr.up H.F) 0 np rfl
 obtain rfl:=e4
 refine r_ob ⟨by decide,by decide⟩ ?_
 refine r_ld (cell1 rd) ?_
 obtain ⟨N,rfl⟩:∃ N:Nat,np=N:=⟨np.toNat,by omega⟩
 have etk:tickR ((N:Int) :: r)=(picksR N r).bind midR:=rfl
 have hs2:=H.F.size
 have hb2:b < w2.heap.size:=by have:=f2.size;omega
 have hw23:=f3.size
 refine r_loop (λ (k:Nat)=>[.int .u8 (k:Int)]) (λ k W=>k≤N∧Fr [b] w W∧w3.heap.size≤W.heap.size∧∃ rest ps u,picksR N r=(picksR (N-k) rest).map (λ x=>(ps++x.1,x.2))∧ps.length=k∧RB w0 W b rest∧Bx w0 W [(v3,76,[.slice none 0 0,u]),(v2,76,zT)]∧Or (rI .i64) 3 w2.heap.size [] W u ps) (λ k=>N-k) 0 ⟨Nat.zero_le _,Fb,Nat.le_refl _,r,[],.slice none 0 0,by simp,rfl,HB,H,Or.nil⟩ rfl ?_
 clear HB H Fb rd
 rintro k W ⟨hk,Fb,hsz,rest,ps,u,hpk,hpl,HBk,Hk,HOk⟩
 have hown:∀ q∈u.ownBlock.toList,w2.heap.size≤q∧q < W.heap.size:=λ q hq=>HOk.lt q hq
 refine r_if (λ h=>?_) (λ h=>?_)
 ·refine r_callZ (take_t (n:=8) HBk) ?_ (λ c w' hz=>?_)
  rotate_left
  ·obtain ⟨h1,rfl,h3⟩:=hz
   exact ⟨by rw [etk,hpk,picksR_end h1 (by omega)];rfl,rfl,Fb.trans (h3.mono (by simp))⟩
  rintro _ W1 ⟨h8,X8,rfl,hr8,HB1,g1⟩
  have hwr:WfB rest:=by obtain ⟨_,_,_,_,_,h⟩:=HBk;exact h
  have H:=bx_b Hk g1
  have Fb:=Fb.trans g1
  have HO:=HOk.upP (S2:=[]) plainI g1 (λ q hq hm=>by simp at hq;subst hq;have:=(hown _ hm).1;omega)
  have hx8:(rest.take 8).length=8:=by rw [List.length_take];omega
  have hwx8:WfB (rest.take 8):=hwr.take 8
  generalize hx:rest.take 8=x at hx8 hwx8 hr8
  have hp64:=le_bound hwx8
  rw [hx8] at hp64
  have e64:(256:Int) ^ 8=18446744073709551616:=by decide
  rw [e64] at hp64
  refine r_loop (λ (i:Nat)=>[I (i:Int),.int .u64 (le (x.take i))]) (λ i W'=>i≤8∧W'=W1) (λ i=>8-i) 0 ⟨Nat.zero_le _,rfl⟩ rfl ?_
  rintro i _ ⟨hi,rfl⟩
  refine r_if (λ h2=>?_) (λ h2=>?_)
  ·obtain ⟨z,hz⟩:=gt (xs:=x) (j:=i) (by omega)
   have hzb:=hwx8.at hz
   obtain ⟨ad,es,rfl,rd,e3⟩:=(hr8.up H.F) i z hz
   obtain rfl:=e3
   refine r_ob ⟨by omega,by omega⟩ ?_
   refine r_ld (cell1 rd) ?_
   refine r_are (wrap_u64 (by omega)) ?_
   refine r_ar (z:=8 * (i:Int)) (by omega) ?_
   have hlen:(x.take i).length=i:=by rw [List.length_take];omega
   have h0:=le_bound (hwx8.take i)
   have hm:=le_max (hwx8.take i) (by omega)
   rw [hlen] at h0
   obtain ⟨s1,s2,s3⟩:=shl_or (i:=i) (by omega) h0 hzb
   rw [u_eq (x:=z) (by omega)]
   refine r_shlu (n:=8 * i) (by omega) (by omega) ?_
   show wp _ _ _ _ (.pu (binOp .or _ (.int .u64 (le (x.take i))) _) _) _ _ _
   rw [u_eq (x:=le (x.take i)) (by omega)]
   refine r_or ?_
   refine r_ar (by omega) ?_
   refine r_ag (i+1) ⟨by omega,rfl⟩ (by omega) ?_
   show [I _,.int .u64 (le (x.take (i+1)))]=[I _,.int .u64 _]
   rw [s1,take_s hz,le_snoc,hlen]
   have:((le (x.take i)+256 ^ i * z).toNat:Int)=le (x.take i)+256 ^ i * z:=by omega
   rw [this];rfl
  obtain rfl:i=8:=by omega
  refine r_brk ?_
  have ex:x.take 8=x:=List.take_of_length_le (by omega)
  rw [ex]
  refine b_ld H 0 (j:=1) rfl rfl ?_
  refine r_are (y:=pickOf x) (toI_wrap hp64) ?_
  have hs1:=g1.size
  refine r_appL (x:=pickOf x) (es:=[I (pickOf x)]) Eint HO (λ _ _=>rfl) (by simp only [big];omega) (by omega) (λ u' W4 O4 f4 o4=>?_)
  have H:=bx_own H f4 (λ q hq=>(hown q hq).1)
  obtain ⟨X4,c4,rfl,_⟩:=O4.row (by simp only [big,List.length_append,List.length_singleton];omega)
  refine r_st1 (o:=1) (H.blk (i:=0) rfl) Tryz.sizeOf27 (λ W5 B5 f5=>?_)
  have H:=H.set (i:=0) rfl B5 f5
  have hown4:=λ q hq=>(O4.lt q hq).1
  have f15:Fr [b] w W5:=(Fb.trans_new f4 (λ q hq=>.inr (by have:=(hown q hq).1;omega))).trans_new f5 (λ q hq=>.inr (by simp at hq;omega))
  have nb:b∉u.ownBlock.toList∧b∉[v3]:=⟨λ hq=>by have:=(hown b hq).1;omega,by simp;omega⟩
  refine r_are (y:=((k+1:Nat):Int)) (by rw [u8w];omega) ?_
  refine r_ag (k+1) ⟨by omega,f15,by have:=f4.size;have:=f5.size;omega,rest.drop 8,ps++[pickOf x],_,?_,by simp [hpl],(HB1.fr f4 nb.1).fr f5 nb.2,H,O4.upP plainI f5 (λ q hq hm=>by have:=hown4 q hm;simp at hq;omega)⟩ (by omega) rfl
  rw [hpk,picksR_go h8 (by omega),hx,show N-k-1=N-(k+1) by omega]
  cases picksR (N-(k+1)) (rest.drop 8) with
  | none=>rfl
  | some y=>simp
 ·obtain rfl:k=N:=by omega
  have hpk:picksR k r=some (ps,rest):=by rw [hpk,Nat.sub_self];simp [picksR]
  have etk:tickR ((k:Int) :: r)=midR (ps,rest):=by rw [etk,hpk];rfl
  refine r_brk ?_
  refine r_callZ (take_t (n:=1) HBk) ?_ (λ c w' hz=>?_)
  rotate_left
  ·obtain ⟨h1,rfl,h3⟩:=hz
   obtain rfl:rest=[]:=List.eq_nil_of_length_eq_zero (by omega)
   exact ⟨etk,rfl,Fb.trans (h3.mono (by simp))⟩
  rintro _ W1 ⟨hx1,X1,rfl,hr1,HB1,g1⟩
  have hwr:WfB rest:=by obtain ⟨_,_,_,_,_,h⟩:=HBk;exact h
  have H:=bx_b Hk g1
  have Fb:=Fb.trans g1
  have HO:=HOk.upP (S2:=[]) plainI g1 (λ q hq hm=>by simp at hq;subst hq;have:=(hown _ hm).1;omega)
  obtain ⟨nb,r3,rfl⟩:∃ np r,rest=np :: r:=by
   cases rest with
   | nil=>simp at hx1
   | cons a r=>exact ⟨a,r,rfl⟩
  have hnb:=hwr nb (by simp)
  obtain ⟨ad,es,rfl,rd,e4⟩:=(hr1.up H.F) 0 nb rfl
  obtain rfl:=e4
  refine r_ob ⟨by decide,by decide⟩ ?_
  refine r_ld (cell1 rd) ?_
  obtain ⟨M,rfl⟩:∃ M:Nat,nb=M:=⟨nb.toNat,by omega⟩
  have etk:tickR ((k:Int) :: r)=(rowsR M r3).bind (endR ps):=etk
  obtain ⟨Xu,cu,rfl,_⟩:=HO.row (by simp only [big];omega)
  have hu1:=λ q hq=>HO.lt q hq
  have hsW1:w2.heap.size≤W1.heap.size:=by have:=g1.size;omega
  have bR:b∈v3 :: v2 :: List.range w.heap.size:=by simp;exact .inr (.inr hbl)
  refine r_loop (λ (j:Nat)=>[.int .u8 (j:Int)]) (λ j W=>j≤M∧Fr [b] w W∧W1.heap.size≤W.heap.size∧∃ rest bs u2,rowsR M r3=(rowsR (M-j) rest).map (λ x=>(bs++x.1,x.2))∧bs.length=j∧RB w0 W b rest∧Bx w0 W [(v3,76,[u2,.slice Xu ps.length cu]),(v2,76,zT)]∧Or (rL (rI .u8)) 48 W1.heap.size (v3 :: v2 :: List.range w.heap.size) W u2 bs∧Or (rI .i64) 3 w2.heap.size [] W (.slice Xu ps.length cu) ps) (λ j=>M-j) 0 ⟨Nat.zero_le _,Fb,Nat.le_refl _,r3,[],.slice none 0 0,by simp,rfl,HB1,H,Or.nil,HO⟩ rfl ?_
  clear HB1 H HO Fb rd HBk Hk HOk hr1
  rintro j W ⟨hj,Fb,hszW,rest,bs,u2,hrw,hbl2,HBj,Hj,HRj,HOj⟩
  have hown2:∀ q∈u2.ownBlock.toList,W1.heap.size≤q∧q < W.heap.size:=λ q hq=>HRj.lt q hq
  refine r_if (λ h=>?_) (λ h=>?_)
  ·refine r_callZ (take_t (n:=2) HBj) ?_ (λ c w' hz=>?_)
   rotate_left
   ·obtain ⟨h1,rfl,h3⟩:=hz
    exact ⟨by rw [etk,hrw,rowsR_end (λ h=>by omega) (by omega)];rfl,rfl,Fb.trans (h3.mono (by simp))⟩
   rintro _ W2 ⟨h2,X2,rfl,hr2,HB2,g2⟩
   have hwr:WfB rest:=by obtain ⟨_,_,_,_,_,h⟩:=HBj;exact h
   obtain ⟨z0,z1,r',rfl⟩:∃ z0 z1 r',rest=z0 :: z1 :: r':=by
    match rest,h2 with
    | a :: c :: r,_=>exact ⟨a,c,r,rfl⟩
   have hz0:=hwr z0 (by simp)
   have hz1:=hwr z1 (by simp)
   refine r_dr (λ W3 f3=>?_)
   have g23:Fr [b] W W3:=g2.trans (f3.mono (by simp))
   have H:=bx_b Hj g23
   have Fb:=Fb.trans g23
   have HB2:=HB2.fr f3 (by simp)
   have HR:=HRj.up g23 (λ q hq hm=>by simp at hq;subst hq;have:=(hown2 _ hm).1;omega) (λ q hq=>.inl (by simp at hq;subst hq;exact bR))
   have HO:=HOj.upP (S2:=[]) plainI g23 (λ q hq hm=>by simp at hq;subst hq;have:=(HOj.lt _ hm).1;omega)
   refine b_ld H 0 (j:=0) rfl rfl ?_
   obtain ⟨ad,es,rfl,rd0,e4⟩:=(hr2.up H.F) 0 z0 rfl
   obtain rfl:=e4
   refine r_ob ⟨by decide,by decide⟩ ?_
   refine r_ld (cell1 rd0) ?_
   refine r_are (y:=z0) (by rw [IntKind.wrap_i64];omega) ?_
   obtain ⟨ad',es',e5,rd1,e6⟩:=(hr2.up H.F) 1 z1 rfl
   cases e5
   obtain rfl:=e6
   refine r_ob ⟨by decide,by decide⟩ ?_
   refine r_ld (cell1 rd1) ?_
   refine r_are (y:=z1) (by rw [IntKind.wrap_i64];omega) ?_
   refine r_shlI8 hz1 ?_
   refine r_orI8 hz0 hz1 ?_
   have eln:(lenOf (z0 :: z1 :: r'):Int)=z0+256 * z1:=by
    unfold lenOf
    show ((((0 * 256+z1) * 256+z0).toNat:Nat):Int)=_
    omega
   rw [← eln]
   generalize hn:lenOf (z0 :: z1 :: r')=n at eln
   refine r_callZ (take_t (n:=n) HB2) ?_ (λ c w' hz=>?_)
   rotate_left
   ·obtain ⟨h1,rfl,h3⟩:=hz
    exact ⟨by rw [etk,hrw,rowsR_end (λ h=>by rw [hn] at h;omega) (by omega)];rfl,rfl,Fb.trans (h3.mono (by simp))⟩
   rintro _ W4 ⟨hnl,X4,rfl,hr4,HB4,g4⟩
   have H:=bx_b H g4
   have Fb:=Fb.trans g4
   have HR:=HR.up g4 (λ q hq hm=>by simp at hq;subst hq;have:=(hown2 _ hm).1;omega) (λ q hq=>.inl (by simp at hq;subst hq;exact bR))
   have HO:=HO.upP (S2:=[]) plainI g4 (λ q hq hm=>by simp at hq;subst hq;have:=(HO.lt _ hm).1;omega)
   have hyl:(((z0 :: z1 :: r').drop 2).take n).length=n:=by rw [List.length_take];omega
   have hn16:n≤65536:=by omega
   refine b_chk H 0 (j:=0) rfl rfl ?_
   have hgo:rowsR (M-j) (z0 :: z1 :: r')=(rowsR (M-(j+1)) (((z0 :: z1 :: r').drop 2).drop n)).map (λ x=>(((z0 :: z1 :: r').drop 2).take n :: x.1,x.2)):=by
    rw [rowsR_go ⟨h2,by rw [hn];exact hnl⟩ (by omega),hn,show M-j-1=M-(j+1) by omega]
   generalize hy:((z0 :: z1 :: r').drop 2).take n=y at hyl hr4 hgo
   rw [← hyl]
   refine r_call (cloneB_t (hr4.up H.F) (by omega)) ?_
   rintro v60 W5 ⟨On,f5⟩
   have H:=H.fr f5
   have HR:=HR.fr0 f5
   have HO:=HO.fr0 f5
   have Fb:=Fb.trans (f5.mono (by simp))
   refine b_chk H 0 (j:=0) rfl rfl ?_
   obtain ⟨X6,c6,rfl,_⟩:=On.row (by simp only [big];omega)
   refine r_bs1 (cs:=[.slice X6 y.length c6]) Erow (λ b6 W6 e6 B6 f6=>?_) rfl rfl
   have H:=H.fr f6
   have HR:=HR.fr0 f6
   have HO:=HO.fr0 f6
   have On:=On.fr0 f6
   have Fb:=Fb.trans (f6.mono (by simp))
   refine b_chk H 0 (j:=0) rfl rfl ?_
   have sz56:=f5.size
   have sz66:=f6.size
   have sz4:=g4.size
   have sz3:=g23.size
   refine r_appR (x:=y) (es:=[.slice X6 y.length c6]) Erow HR (B6.rd rfl) (λ W' f'=>?_) (by simp only [big];omega) (by omega) (λ u3 W7 O7 f7 o7=>?_)
   ·refine ((On.upP (S2:=[]) plainI f' (λ q hq hm=>?_)).row (by simp only [big];omega)).r
    have h5:=(On.lt q hm).1
    rcases List.mem_append.1 hq with hq | hq
    ·have:=(hown2 q hq).2;omega
    ·simp only [List.mem_cons,List.mem_range] at hq
     have:=H.F.size
     omega
   have H:=bx_own H f7 (λ q hq=>by have:=(hown2 q hq).1;omega)
   obtain ⟨X7,c7,rfl,_⟩:=O7.row (by simp only [big,List.length_append,List.length_singleton];omega)
   refine r_st1 (o:=0) (H.blk (i:=0) rfl) Tryz.sizeOf74 (λ W8 B8 f8=>?_)
   have H:=H.set (i:=0) rfl B8 f8
   have sz7:=f7.size
   have sz8:=f8.size
   have nb:b∉u2.ownBlock.toList∧b∉[v3]:=⟨λ hq=>by have:=(hown2 b hq).1;omega,by simp;omega⟩
   have HO:=(HO.upP (S2:=[]) plainI f7 (λ q hq hm=>by have:=(hown2 q hq).1;have:=(hu1 q hm).2;omega)).upP (S2:=[]) plainI f8 (λ q hq hm=>by simp at hq;subst hq;have:=(hu1 _ hm).1;omega)
   refine r_are (y:=((j+1:Nat):Int)) (by rw [u8w];omega) ?_
   refine r_ag (j+1) ⟨by omega,(Fb.trans_new f7 (λ q hq=>.inr (by have:=(hown2 q hq).1;omega))).trans_new f8 (λ q hq=>.inr (by simp at hq;omega)),by omega,_,bs++[y],_,?_,by simp [hbl2],(((HB4.fr f5 (by simp)).fr f6 (by simp)).fr f7 nb.1).fr f8 nb.2,H,O7.up f8 (λ q hq hm=>by have:=(O7.lt q hm).1;simp at hq;omega) (λ q hq=>.inl (by simp at hq;subst hq;simp)),HO⟩ (by omega) rfl
   rw [hrw,hgo]
   cases rowsR (M-(j+1)) (((z0 :: z1 :: r').drop 2).drop n) with
   | none=>rfl
   | some q=>simp
  ·obtain rfl:j=M:=by omega
   have hrw:rowsR j r3=some (bs,rest):=by rw [hrw,Nat.sub_self];simp [rowsR]
   have etk:tickR ((k:Int) :: r)=endR ps (bs,rest):=by rw [etk,hrw];rfl
   refine r_brk ?_
   obtain ⟨X2,c2,rfl,k1,k2,k3⟩:=HRj.row (by simp only [big];omega)
   obtain ⟨Xu',cu',e0,m1,m2,m3⟩:=HOj.row (by simp only [big];omega)
   cases e0
   refine b_ldn Hj 0 rfl ?_
   refine r_call (smallTick_t (mTick (x:=⟨bs,ps⟩) ⟨k1,k2,k3⟩ ⟨m1,m2,m3⟩)) ?_
   rintro _ W2 ⟨rfl,f2'⟩
   have H:=Hj.fr f2'
   have HR:=HRj.fr0 f2'
   have HO:=HOj.fr0 f2'
   have HB:=HBj.fr f2' (by simp)
   have Fb:=Fb.trans (f2'.mono (by simp))
   refine r_ifbn (λ hs=>?_) (λ hs=>?_)
   ·refine r_pans ⟨?_,rfl,Fb⟩
    rw [etk]
    unfold endR
    rw [if_neg (by rw [hs];decide)]
   ·refine b_ldn H 0 rfl ?_
    refine r_stn (cs:=[.slice X2 bs.length c2,.slice Xu ps.length cu]) (H.blk (i:=1) rfl) Tryz.sizeOf76 (by simp [Value.oneCell']) (λ W3 B3' f3'=>?_)
    have H:=H.set (i:=1) rfl B3' f3'
    refine b_ldn H 1 rfl ?_
    have HR3:=HR.up f3' (λ q hq hm=>by have:=(HR.lt q hm).1;simp at hq;omega) (λ q hq=>.inl (by simp at hq;subst hq;simp))
    have HO3:=HO.upP (S2:=[]) plainI f3' (λ q hq hm=>by have:=(HO.lt q hm).1;simp at hq;omega)
    refine b_ret H (λ F=>⟨[.slice X2 bs.length c2,.slice Xu ps.length cu],⟨bs,ps⟩,rest,?_,rfl,?_,HB.fr f3' (by simp;omega),Fb.trans_new f3' (λ q hq=>.inr (by simp at hq;omega))⟩)
    ·rw [etk]
     unfold endR
     rw [if_pos hs]
    ·intro W4 S f4' hS
     have HR4:=HR3.up f4' (λ q hq hm=>by have:=HR3.lt q hm;rcases hS q hq with h | h<;>omega) (λ q hq=>by
      rcases hS q hq with h | h
      ·exact .inl (by simp;exact .inr (.inr h))
      ·exact .inr h)
     have HO4:=HO3.upP (S2:=[]) plainI f4' (λ q hq hm=>by have:=HO3.lt q hm;rcases hS q hq with h | h<;>omega)
     obtain ⟨_,_,e0,k1,k2,k3⟩:=HR4.row (by simp only [big];omega)
     cases e0
     obtain ⟨_,_,e0,m1,m2,m3⟩:=HO4.row (by simp only [big];omega)
     cases e0
     exact mTick (x:=⟨bs,ps⟩) ⟨k1,k2,k3⟩ ⟨m1,m2,m3⟩
end
end Go.Proofs.YtppodgdhdddfkaaGreatDoor.Sc
set_option linter.unusedVariables false
set_option linter.unusedSimpArgs false
namespace Go.Proofs.YtppodgdhdddfkaaGreatDoor.Sc
set_option maxRecDepth 100000
open Go Go.RowKit Go.Proofs.YtppodgdhdddfkaaGreatDoor.Sx
open Go.Proofs.YtppodgdhdddfkaaGreatDoor.Sg
open Go.Proofs.YtppodgdhdddfkaaGreatDoor.Bi (mixed take_s Eint)
open Go.Proofs.YtppodgdhdddfkaaGreatDoor.Hd (WfB Ebyte Erow Etick)
open Go.Proofs.YtppodgdhdddfkaaGreatDoor.Cg (r_callZ)
def readN:Nat→By→List GTick × By
 | 0,b=>([],b)
 | n+1,b=>match tickR b with
  | none=>([],b)
  | some (t,r)=>(t :: (readN n r).1,(readN n r).2)
theorem readN_no {n:Nat} {b:By} (h:tickR b=none):readN n b=([],b):=by
 cases n with
 | zero=>rfl
 | succ n=>rw [readN,h]
theorem readN_go {n:Nat} {b r:By} {t:GTick} (h:tickR b=some (t,r)) (hn:0 < n):readN n b=(t :: (readN (n-1) r).1,(readN (n-1) r).2):=by
 cases n with
 | zero=>omega
 | succ n=>rw [readN,h,Nat.add_sub_cancel]
theorem picksR_suf:∀ {n:Nat} {b r:By} {l:List Int},picksR n b=some (l,r)→∃ p,b=p++r:=by
 intro n
 induction n with
 | zero=>intro b r l h;cases h;exact ⟨[],rfl⟩
 | succ n ih =>
  intro b r l h
  rw [picksR] at h
  split at h
  ·cases hp:picksR n (b.drop 8) with
   | none=>rw [hp] at h;cases h
   | some x =>
    rw [hp] at h
    cases h
    obtain ⟨p,hp2⟩:=ih (l:=x.1) (r:=x.2) hp
    exact ⟨b.take 8++p,by rw [List.append_assoc,← hp2,List.take_append_drop]⟩
  ·cases h
theorem rowsR_suf:∀ {n:Nat} {b r:By} {l:List By},rowsR n b=some (l,r)→∃ p,b=p++r:=by
 intro n
 induction n with
 | zero=>intro b r l h;cases h;exact ⟨[],rfl⟩
 | succ n ih =>
  intro b r l h
  rw [rowsR] at h
  split at h
  ·cases hp:rowsR n ((b.drop 2).drop (lenOf b)) with
   | none=>rw [hp] at h;cases h
   | some x =>
    rw [hp] at h
    cases h
    obtain ⟨p,hp2⟩:=ih (l:=x.1) (r:=x.2) hp
    exact ⟨b.take 2++((b.drop 2).take (lenOf b)++p),by rw [List.append_assoc,List.append_assoc,← hp2,List.take_append_drop,List.take_append_drop]⟩
  ·cases h
theorem tickR_suf {b r:By} {t:GTick} (h:tickR b=some (t,r)):∃ p,b=p++r∧p≠[]:=by
 unfold tickR at h
 cases b with
 | nil=>cases h
 | cons np r1 =>
  dsimp only at h
  cases hp:picksR np.toNat r1 with
  | none=>rw [hp] at h;cases h
  | some x =>
   rw [hp] at h
   replace h:midR x=some (t,r):=h
   obtain ⟨p1,e1⟩:=picksR_suf (l:=x.1) (r:=x.2) hp
   unfold midR at h
   cases hx:x.2 with
   | nil=>rw [hx] at h;cases h
   | cons nb r2 =>
    rw [hx] at h
    dsimp only at h
    cases hr:rowsR nb.toNat r2 with
    | none=>rw [hr] at h;cases h
    | some y =>
     rw [hr] at h
     replace h:endR x.1 y=some (t,r):=h
     obtain ⟨p2,e2⟩:=rowsR_suf (l:=y.1) (r:=y.2) hr
     unfold endR at h
     split at h
     ·cases h
      exact ⟨np :: (p1++(nb :: p2)),by rw [e1,hx,e2];simp,by simp⟩
     ·cases h
section
variable {Z:ZP} {w w0:World} {R:Value→World→Prop} {A:List Nat→List Value→World→Prop} {B:List Nat→Nat→List Value→World→Prop}
theorem Read1_t {bx v6 v7 T6:Nat} {xs:By} {zs:List Value} (F0:Fr [] w0 w) (hbx:w0.heap.size≤bx) (HB:RB w0 w bx xs) (B6:Blk w v6 T6 [Pt bx 0]) (B7:Blk w v7 76 zs) (hz:zs.length=2) (n7:v7≠bx) :
  Cz Tryz.prog 56 [Pt v6 0,Pt v7 0] w (λ r w'=>r=.tuple #[]∧(∃ cs t rest,tickR xs=some (t,rest)∧Blk w' v7 76 cs∧RB w0 w' bx rest∧Nu w w' (λ W=>rTick.r W cs t))∧Fr [bx,v7] w w') (λ c w'=>c=[badS]∧tickR xs=none∧Fr [bx,v7] w w'):=by
 refine go mixed Tryz.func56 Tryz.call56 rfl (Tr.e56 _ _) ?_
 refine r_ld (B6.cell (o:=0) rfl) ?_
 refine r_callZ (stick_t F0 hbx HB) ?_ (λ c w' hz=>by obtain ⟨h1,rfl,h3⟩:=hz;exact ⟨rfl,h1,h3.mono (by simp)⟩)
 rintro _ w1 ⟨cs,t,rest,ht,rfl,hN,HB1,f1⟩
 have l7:=B7.lt
 refine r_stn (cs:=cs) (B7.fr f1 (by simpa using n7)) Tryz.sizeOf76 (rTick.one hN.now) (λ w2 B8 f2=>?_) rfl (rTick.len hN.now) hz
 exact r_ret ⟨rfl,⟨cs,t,rest,ht,B8,HB1.fr f2 (by simpa using λ e=>n7 e.symm),hN.go f2 (λ q hq=>by simp at hq;omega)⟩,(f1.mono (by simp)).trans (f2.mono (by simp))⟩
theorem sRead_t {X:Option Addr} {cp:Nat} {bs:By} (hr:Rw (rI .u8) w X bs) (hc:bs.length≤cp) (hw:WfB bs) (hb:bs.length≤1000000):Cz Tryz.prog 23 [.slice X bs.length cp] w (λ r w'=>∃ v,r=.tuple #[v,I ((bs.length-(readN 4096 bs).2.length:Nat):Int)]∧Sl rTick w' v (readN 4096 bs).1∧Fr [] w w') Z:=by
 refine go mixed Tryz.func23 Tryz.call23 rfl (Tr.e23 _) ?_
 refine r_loop (λ (s:Nat × Value × List GTick)=>[I (s.1:Int),s.2.1]) (λ s W=>s.1≤bs.length∧s.2.2.length≤4096∧Or rTick 76 w.heap.size [] W s.2.1 s.2.2∧readN 4096 bs=(s.2.2++(readN (4096-s.2.2.length) (bs.drop s.1)).1,(readN (4096-s.2.2.length) (bs.drop s.1)).2)∧Fr [] w W) (λ s=>4096-s.2.2.length) (0,.slice none 0 0,[]) ⟨Nat.zero_le _,Nat.zero_le _,Or.nil,by simp,Fr.refl _ _⟩ rfl ?_
 rintro ⟨at_,v,l⟩ W ⟨hat,hl,HO,hrd,F⟩
 dsimp only at hat hl HO hrd
 obtain ⟨Xv,cv,rfl,_⟩:=HO.row (by simp only [big];omega)
 have stop:readN (4096-l.length) (bs.drop at_)=([],bs.drop at_)→∀ {W':World} {A:List Nat→List Value→World→Prop} {B:List Nat→Nat→List Value→World→Prop},Or rTick 76 w.heap.size [] W' (.slice Xv l.length cv) l→Fr [] w W'→wp Tryz.prog Z (λ r w'=>∃ v,r=.tuple #[v,I ((bs.length-(readN 4096 bs).2.length:Nat):Int)]∧Sl rTick w' v (readN 4096 bs).1∧Fr [] w w') [] (.ret (.tuple [.slice Xv l.length cv,I (at_:Int)].toArray)) W' A B:=by
  intro h W' A B hO hF
  rw [h] at hrd
  refine r_ret ⟨.slice Xv l.length cv,?_,?_,hF⟩
  ·rw [hrd]
   dsimp only
   rw [List.length_drop,show bs.length-(bs.length-at_)=at_ by omega]
  ·rw [hrd]
   dsimp only
   rw [List.append_nil]
   exact hO.row (by simp only [big];omega)
 refine r_if (λ h=>?_) (λ h=>?_)
 rotate_left
 ·refine r_brk ?_
  exact stop (by rw [show 4096-l.length=0 by omega];rfl) HO F
 refine r_sll (e:=rI .u8) (l:=at_) Tryz.underlying48 Tryz.sizeOf5 rfl hat hc (λ X' hX'=>?_)
 have hrow:=hX' _ _ hr
 have e1:(bs.drop at_).take (bs.length-at_)=bs.drop at_:=List.take_of_length_le (by rw [List.length_drop];exact Nat.le_refl _)
 rw [e1] at hrow
 have hxl:(bs.drop at_).length=bs.length-at_:=List.length_drop
 refine r_box (cs:=[.slice X' (bs.length-at_) (cp-at_)]) (λ bx W1 e1' B1 f1=>?_)
 have H:=(Bx.of F).add e1' B1 f1
 refine r_as (cs:=[Pt bx 0]) (zs:=[.pointer none]) (n:=1) (λ v6 W2 e6 B6' f2=>?_) Tryz.zeroValue102 Tryz.sizeOf102 (by intro u hu;simp at hu;subst hu;rfl)
 have H:=H.add e6 B6' f2
 refine r_al (zs:=zT) Tryz.zeroValue76 (λ v7 W3 e7 B7' f3=>?_)
 have H:=H.add e7 B7' f3
 have s1:=f1.size
 have s2:=f2.size
 have s3:=f3.size
 have hnd:([v7,v6,bx]:List Nat).Nodup:=H.N
 simp only [List.nodup_cons,List.mem_cons,List.not_mem_nil,or_false,not_or] at hnd
 obtain ⟨⟨n76,n7b⟩,n6b,_⟩:=hnd
 have gb:=H.ge (i:=2) rfl
 have g7:=H.ge (i:=0) rfl
 have lb:=(H.blk (i:=2) rfl).lt
 have l7:=(H.blk (i:=0) rfl).lt
 have hRB:RB w W3 bx (bs.drop at_):=⟨X',cp-at_,by rw [hxl];exact H.blk (i:=2) rfl,by rw [hxl];omega,hrow,hw.drop at_⟩
 have hWb:W.heap.size≤bx:=by omega
 have hW7:W.heap.size≤v7:=by omega
 have hW6:W.heap.size≤v6:=by omega
 have fW3:Fr [] W W3:=(f1.trans f2).trans f3
 have HO3:=HO.fr0 fW3
 refine r_call (fits_t (cp:=[Pt v6 0,Pt v7 0]) [bx,v7] (λ w'=>∃ wA cs t rest,W3.heap.size < wA.heap.size∧tickR (bs.drop at_)=some (t,rest)∧Blk w' v7 76 cs∧RB w w' bx rest∧Nu wA w' (λ W=>rTick.r W cs t)) (λ _=>tickR (bs.drop at_)=none) (λ q hq=>by simp at hq;rcases hq with rfl | rfl<;>assumption) (λ wA fA hA=>?_)) ?_
 ·refine (Read1_t (w0:=w) (H.F.trans fA) gb (hRB.fr fA (by simp)) ((H.blk (i:=1) rfl).fr0 fA) ((H.blk (i:=0) rfl).fr0 fA) rfl n7b).mono (λ r w' h=>?_)
  obtain ⟨e1,⟨cs,t,rest,e2,e3,e4,e5⟩,e6⟩:=h
  exact ⟨e1,⟨wA,cs,t,rest,hA,e2,e3,e4,e5⟩,e6⟩
 rintro _ W4 ⟨f4,⟨rfl,w1,⟨wA,cs,t,rest,hA,ht,B7,RB7,hN⟩,f5,hs5⟩ | ⟨rfl,w1,hno,f5,hs5⟩⟩
 rotate_left
 ·refine r_brk ?_
  have F4:Fr [] w W4:=H.F.trans_new f4 (λ q hq=>by simp at hq;rcases hq with rfl | rfl;exact .inr gb;exact .inr g7)
  exact stop (readN_no hno) (HO.fr0 (fW3.trans_new f4 (λ q hq=>by simp at hq;rcases hq with rfl | rfl;exact .inr hWb;exact .inr hW7))) F4
 ·have F4:Fr [] w W4:=H.F.trans_new f4 (λ q hq=>by simp at hq;rcases hq with rfl | rfl;exact .inr gb;exact .inr g7)
  have fW4:Fr [] W W4:=fW3.trans_new f4 (λ q hq=>by simp at hq;rcases hq with rfl | rfl;exact .inr hWb;exact .inr hW7)
  have HO4:=HO.fr0 fW4
  have B7:=B7.fr f5 (by simp;omega)
  have RB7:=RB7.fr f5 (by simp;omega)
  have hN:=hN.go f5 (λ q hq=>.inl (by simp at hq;omega))
  have hl2:=rTick.len hN.now
  obtain ⟨p,hp,hpne⟩:=tickR_suf ht
  have hpl:=congrArg List.length hp
  rw [List.length_append,hxl] at hpl
  have hrl:rest=bs.drop (bs.length-rest.length):=by
   have h1:bs.drop at_=p++rest:=hp
   have:bs.drop (at_+p.length)=rest:=by rw [← List.drop_drop,h1,List.drop_left]
   rw [show bs.length-rest.length=at_+p.length by omega]
   exact this.symm
  refine r_ldn (B7.rd hl2) ?_
  refine r_appL (x:=t) (es:=cs) Etick HO4 (hN.off (λ q hq=>?_)) (by simp only [big];omega) F4.size (λ v' W5 O5 f6 o6=>?_) rfl hl2
  ·rw [List.append_nil] at hq
   have:=(HO.lt q hq).2
   have:=fW3.size
   exact .inl (by omega)
  have hne:∀ q∈(Value.slice Xv l.length cv).ownBlock.toList,q≠bx∧q≠v6:=λ q hq=>by
   have:=(HO.lt q hq).2
   omega
  have B6:Blk W4 v6 102 [Pt bx 0]:=(H.blk (i:=1) rfl).fr f4 (by simp;exact ⟨n6b,λ e=>n76 e.symm⟩)
  refine r_ld ((B6.fr f6 (λ hq=>(hne _ hq).2 rfl)).cell (o:=0) rfl) ?_
  obtain ⟨Xr,cr,Br,_,_,_⟩:=RB7
  refine r_ld ((Br.fr f6 (λ hq=>(hne _ hq).1 rfl)).cell (o:=0) rfl) ?_
  refine r_are (y:=((bs.length-rest.length:Nat):Int)) (by rw [IntKind.wrap_i64];omega) ?_
  refine r_ag (s:=(at_,.slice Xv l.length cv,l)) (bs.length-rest.length,v',l++[t]) ⟨by dsimp only;omega,by dsimp only;rw [List.length_append,List.length_singleton];omega,O5,?_,F4.trans_new f6 (λ q hq=>.inr (HO.lt q hq).1)⟩ (by dsimp only;rw [List.length_append,List.length_singleton];omega) rfl
  dsimp only
  rw [hrd,readN_go ht (by omega),← hrl,List.length_append,List.length_singleton,show 4096-l.length-1=4096-(l.length+1) by omega]
  simp
end
end Go.Proofs.YtppodgdhdddfkaaGreatDoor.Sc
set_option linter.unusedVariables false
set_option linter.unusedSimpArgs false
namespace Go.Proofs.YtppodgdhdddfkaaGreatDoor.Sc
set_option maxRecDepth 100000
open Go Go.RowKit Go.Proofs.YtppodgdhdddfkaaGreatDoor.Sx
open Go.Proofs.YtppodgdhdddfkaaGreatDoor.Sg
open Go.Proofs.YtppodgdhdddfkaaGreatDoor.Bi (take_s)
open Go.Proofs.YtppodgdhdddfkaaGreatDoor.Hd (WfB isReq zR at0 le reqOf)
open Go.Proofs.YtppodgdhdddfkaaGreatDoor.Cg (splitP joinW splitP_app splitP_ne split_join words_no nums_join itoa_no itoa_all no32 no10 isD suf_nl lines_flat linesOf linesP nlL strP textP parseP manyP c0 In64 no10_line kFlows kTen kCh kLane kRec kGate kFrame kBud chL flowL tenL gateL laneL recL lines1 lines2 lines3)
theorem unD_hx:∀ d:Fin 16,unD (hx (d.val:Int))=some (d.val:Int):=by decide
theorem unhex_hex {x:By} (h:WfB x):unhexP (hexT x)=some x:=by
 induction x with
 | nil=>rfl
 | cons c r ih =>
  have hc:=h c (by simp)
  have e1:=unD_hx ⟨(c / 16).toNat,by omega⟩
  have e2:=unD_hx ⟨(c % 16).toNat,by omega⟩
  rw [show (((⟨(c / 16).toNat,by omega⟩:Fin 16).val:Nat):Int)=c / 16 from (by show (((c / 16).toNat:Nat):Int)=_;omega)] at e1
  rw [show (((⟨(c % 16).toNat,by omega⟩:Fin 16).val:Nat):Int)=c % 16 from (by show (((c % 16).toNat:Nat):Int)=_;omega)] at e2
  have eh:hexT (c :: r)=hx (c / 16) :: hx (c % 16) :: hexT r:=rfl
  rw [eh,unhexP,e1,e2,ih (λ z hz=>h z (by simp [hz]))]
  show some ((16 * (c / 16)+c % 16) :: r)=_
  rw [show 16 * (c / 16)+c % 16=c by omega]
theorem low_le:∀ (b:By),WfB b→lowB b.length (Hd.le b)=b:=by
 intro b
 induction b with
 | nil=>intro _;rfl
 | cons z r ih =>
  intro h
  have hz:=h z (by simp)
  rw [List.length_cons,lowB]
  have e:Hd.le (z :: r)=Hd.le r * 256+z:=rfl
  rw [e,show (Hd.le r * 256+z) % 256=z by omega,show (Hd.le r * 256+z) / 256=Hd.le r by omega,ih (λ y hy=>h y (by simp [hy]))]
theorem bytesQ_reqOf {x:By} (hw:WfB x) (hl:x.length=16) (h3:at0 x 3=0):bytesQ (reqOf x)=x:=by
 match x,hl,h3 with
 | a :: b :: c :: d :: r,hl,h3 =>
  have h3:d=0:=h3
  subst h3
  have hrl:r.length=12:=by simp at hl;omega
  have hwr:WfB r:=λ z hz=>hw z (by simp [hz])
  have e4:=low_le (r.take 4) (hwr.take 4)
  have e8:=low_le (r.drop 4) (hwr.drop 4)
  rw [show (r.take 4).length=4 by rw [List.length_take];omega] at e4
  rw [show (r.drop 4).length=8 by rw [List.length_drop];omega] at e8
  have h:bytesQ (reqOf (a :: b :: c :: 0 :: r))=([a,b,c,0]++lowB 4 (Hd.le (r.take 4)))++lowB 8 (Hd.le (r.drop 4)):=rfl
  rw [h,e4,e8,List.append_assoc,List.take_append_drop]
  rfl
theorem parse_parts {x:By} (h:(Hd.parse x).2=0):x.length=16∧at0 x 3=0∧(Hd.parse x).1=reqOf x:=by
 unfold Hd.parse at h ⊢
 split at h
 ·rename_i hc;rw [if_pos hc];exact ⟨hc.1,hc.2.1,rfl⟩
 ·cases h
theorem pieceP_back {x:By} (hw:WfB x) (hne:x≠[]) (hl:x.length≤16):pieceP (pieceT x)=some x:=by
 by_cases h:(Hd.parse x).2=0
 ·have hq:=parse_req h
  have hqw:=parse_wf hw
  obtain ⟨h1,h2,h3⟩:=parse_parts h
  have et:pieceT x=reqT (Hd.parse x).1:=by unfold pieceT;rw [if_pos h]
  have hp:=parseRq_back hqw hq
  have hnx:¬ (reqT (Hd.parse x).1).take 4=kHex:=λ e=>kind_hex e (by rw [hp])
  rw [et]
  unfold pieceP
  rw [if_neg (λ h=>hnx h.1),hp,if_pos rfl,h3,bytesQ_reqOf hw h1 h2]
 ·have et:pieceT x=kHex++hexT x:=by unfold pieceT;rw [if_neg h]
  have hxl:=hexT_len x
  have hpos:=List.length_pos_iff.2 hne
  unfold pieceP
  have e1:(pieceT x).take 4=kHex:=by rw [et];exact List.take_left' rfl
  have e2:(pieceT x).drop 4=hexT x:=by rw [et];exact List.drop_left' rfl
  rw [if_pos ⟨e1,by rw [et,List.length_append,hxl];simp [kHex];omega⟩,e2,unhex_hex hw]
  show (if x.length≤16∧pieceT x=pieceT x then some x else none)=_
  rw [if_pos ⟨hl,rfl⟩]
theorem grow_get (bs:List By) (n j:Nat):((grow bs n)[j]?).getD []=(bs[j]?).getD []:=by
 unfold grow
 rcases Nat.lt_or_ge j bs.length with h | h
 ·rw [List.getElem?_append_left h]
 ·rw [List.getElem?_append_right h,List.getElem?_eq_none h,List.getElem?_replicate]
  split<;>rfl
theorem small_of {t:GTick} (h1:t.picks.length≤64) (h2:t.bytes.length≤16) (h3:∀ b∈t.bytes,b.length≤1024):smallT t=true:=by
 unfold smallT
 simp only [Bool.and_eq_true,decide_eq_true_eq,List.all_eq_true]
 exact ⟨h1,h2,h3⟩
theorem small0 {p:List Int} (h:p.length≤64):smallT ⟨[],p⟩=true:=small_of h (Nat.zero_le _) (λ b hb=>by cases hb)
theorem more_step {x:GTick} {i:Nat} {p:By} (hi:i < 16) (hl:x.bytes.length≤i+1) (hs:smallT x=true) (hm:(ofT x i).length % 16=0) (h4:(ofT x i).length+p.length≤1024) :
  ∃ y,moreT x i p=some y∧y.picks=x.picks∧y.bytes.length=i+1∧(∀ j,j≠i→ofT y j=ofT x j)∧ofT y i=ofT x i++p∧smallT y=true:=by
 obtain ⟨q1,q2,q3⟩:=small_parts hs
 have hgl:(grow x.bytes i).length=i+1:=by unfold grow;rw [List.length_append,List.length_replicate];omega
 have he:=grow_get x.bytes i i
 have hsm:smallT ⟨(grow x.bytes i).set i (ofT x i++p),x.picks⟩=true:=by
  refine small_of q1 (by dsimp only;rw [List.length_set];omega) (λ b hb=>?_)
  rcases List.mem_or_eq_of_mem_set hb with hb | rfl
  ·unfold grow at hb
   rcases List.mem_append.1 hb with hb | hb
   ·exact q3 b hb
   ·rw [(List.mem_replicate.1 hb).2];simp
  ·rw [List.length_append];exact h4
 refine ⟨⟨(grow x.bytes i).set i (ofT x i++p),x.picks⟩,?_,rfl,by dsimp only;rw [List.length_set];exact hgl,λ j hj=>?_,?_,hsm⟩
 ·unfold moreT
  rw [he]
  show (if (ofT x i).length % 16≠0 then none else if smallT ⟨(grow x.bytes i).set i (ofT x i++p),x.picks⟩=true then some (⟨(grow x.bytes i).set i (ofT x i++p),x.picks⟩:GTick) else none)=_
  rw [if_neg (by omega),if_pos hsm]
 ·show (((grow x.bytes i).set i (ofT x i++p))[j]?).getD []=_
  rw [List.getElem?_set_ne (by omega),grow_get]
  rfl
 ·show (((grow x.bytes i).set i (ofT x i++p))[i]?).getD []=_
  rw [List.getElem?_set_self (by omega)]
  rfl
theorem tick_no (i:Int):Lib.itoa i≠kTick:=λ h=>itoa_no (n:=i) (c:=116) (by unfold isD;decide) (by rw [h];simp [kTick])
theorem addP_line {l:List GTick} {x:GTick} {i:Nat} {p:By} (hi:i < 16) (hl:x.bytes.length≤i+1) (hw:WfB p) (hne:p≠[]) (hp:p.length≤16):addP (l++[x]) (lineB i p)=(moreT x i p).map λ y=>l++[y]:=by
 obtain ⟨s1,s2⟩:=suf_nl ((Lib.itoa i++[32])++pieceT p)
 have es:splitP 32 ((Lib.itoa i++[32])++pieceT p)=Lib.itoa i :: splitP 32 (pieceT p):=by
  rw [List.append_assoc]
  exact splitP_app (itoa_no no32)
 have e1:moreP x ((Lib.itoa i++[32])++pieceT p)=moreT x i p:=by
  unfold moreP
  have hpos:=List.length_pos_iff.2 (splitP_ne 32 (pieceT p))
  rw [es,if_neg (by rw [List.length_cons];omega)]
  show (canI (Lib.itoa (i:Int))).bind _=_
  rw [canI_itoa (by unfold in64;omega)]
  show (if 0≤(i:Int)∧(i:Int) < 16∧(x.bytes.length:Int)-1≤(i:Int) then (pieceP (((Lib.itoa i++[32])++pieceT p).drop ((Lib.itoa i).length+1))).bind (moreT x (i:Int).toNat) else none)=_
  rw [if_pos (by omega),List.drop_left' (by simp),pieceP_back hw hne hp]
  rfl
 unfold addP
 show (if Lib.hasSuffix (((Lib.itoa i++[32])++pieceT p)++[10]) [10]=true then _ else _)=_
 rw [if_pos s1]
 show (if (splitP 32 (Lib.trimSuffix (((Lib.itoa i++[32])++pieceT p)++[10]) [10])).headD []=kTick then _ else _)=_
 rw [s2,es]
 rw [if_neg (show ¬ (Lib.itoa (i:Int) :: splitP 32 (pieceT p)).headD []=kTick from tick_no i)]
 rw [List.getLast?_append,List.getLast?_singleton]
 show (moreP x (Lib.trimSuffix (((Lib.itoa i++[32])++pieceT p)++[10]) [10])).map (λ y=>(l++[x]).dropLast++[y])=_
 rw [s2,e1,List.dropLast_concat]
theorem fold_split {i:Nat} (hi:i < 16):∀ (m:Nat) (b:By) (l:List GTick) (x:GTick),WfB b→b.length≤m→x.bytes.length≤i+1→(b≠[]→(ofT x i).length % 16=0)→(ofT x i).length+b.length≤1024→smallT x=true →
  ∃ y,foldA (l++[x]) ((Hd.split m b).map (lineB i))=some (l++[y])∧y.picks=x.picks∧y.bytes.length≤i+1∧(∀ j,j≠i→ofT y j=ofT x j)∧ofT y i=ofT x i++b∧smallT y=true:=by
 intro m
 induction m with
 | zero =>
  intro b l x hw hb hl _ _ hs
  obtain rfl:b=[]:=List.eq_nil_of_length_eq_zero (by omega)
  exact ⟨x,rfl,rfl,hl,λ _ _=>rfl,by simp,hs⟩
 | succ m ih =>
  intro b l x hw hb hl hm h4 hs
  rw [Hd.split]
  by_cases h0:b.length=0
  ·obtain rfl:b=[]:=List.eq_nil_of_length_eq_zero h0
   exact ⟨x,rfl,rfl,hl,λ _ _=>rfl,by simp,hs⟩
  ·rw [if_neg h0]
   have hbne:b≠[]:=by rintro rfl;exact h0 rfl
   have htl:(b.take 16).length=min 16 b.length:=List.length_take
   have hdl:(b.drop 16).length=b.length-16:=List.length_drop
   obtain ⟨y,e1,e2,e3,e4,e5,e6⟩:=more_step (p:=b.take 16) hi hl hs (hm hbne) (by omega)
   obtain ⟨z,g1,g2,g3,g4,g5,g6⟩:=ih (b.drop 16) l y (hw.drop 16) (by omega) (by omega) (λ hne=>by
    rw [e5,List.length_append]
    have:=hm hbne
    have:=List.length_pos_iff.2 hne
    omega) (by rw [e5,List.length_append];omega) e6
   refine ⟨z,?_,g2.trans e2,g3,λ j hj=>(g4 j hj).trans (e4 j hj),by rw [g5,e5,List.append_assoc,List.take_append_drop],g6⟩
   rw [List.map_cons,foldA,addP_line hi hl (hw.take 16) (by intro e;have:=congrArg List.length e;rw [htl] at this;simp only [List.length_nil] at this;omega) (by omega),e1]
   exact g1
theorem ofT_none {x:GTick} {j:Nat} (h:x.bytes.length≤j):ofT x j=[]:=by unfold ofT;rw [List.getElem?_eq_none h];rfl
theorem fold_rows:∀ (bs:List By) (k:Nat) (l:List GTick) (x:GTick),k+bs.length≤16→(∀ b∈bs,WfB b∧b.length≤1024)→x.bytes.length≤k→smallT x=true →
  ∃ y,foldA (l++[x]) (rowsL k bs)=some (l++[y])∧y.picks=x.picks∧y.bytes.length≤k+bs.length∧smallT y=true∧(∀ j,j < k→ofT y j=ofT x j)∧∀ j,j < bs.length→ofT y (k+j)=(bs[j]?).getD []:=by
 intro bs
 induction bs with
 | nil=>intro k l x _ _ hl hs;exact ⟨x,rfl,rfl,by simpa using hl,hs,λ _ _=>rfl,λ j hj=>by simp at hj⟩
 | cons b r ih =>
  intro k l x hk hw hl hs
  rw [List.length_cons] at hk
  obtain ⟨hb,hb2⟩:=hw b (by simp)
  have h0:=ofT_none hl
  obtain ⟨y,e1,e2,e3,e4,e5,e6⟩:=fold_split (i:=k) (by omega) b.length b l x hb (Nat.le_refl _) (by omega) (λ _=>by rw [h0];rfl) (by rw [h0];simpa using hb2) hs
  obtain ⟨z,g1,g2,g3,g4,g5,g6⟩:=ih (k+1) l y (by omega) (λ c hc=>hw c (by simp [hc])) e3 e6
  refine ⟨z,?_,g2.trans e2,by rw [List.length_cons];omega,g4,λ j hj=>(g5 j (by omega)).trans (e4 j (by omega)),λ j hj=>?_⟩
  ·have happ:∀ (a c:List Bs) (l0:List GTick),foldA l0 (a++c)=(foldA l0 a).bind λ l'=>foldA l' c:=by
    intro a c
    induction a with
    | nil=>intro l0;rfl
    | cons u a ih2 =>
     intro l0
     show (addP l0 u).bind _=((addP l0 u).bind _).bind _
     cases addP l0 u with
     | none=>rfl
     | some l1=>exact ih2 l1
   rw [rowsL,happ]
   show (foldA (l++[x]) ((Hd.split b.length b).map (lineB k))).bind _=_
   rw [e1]
   exact g1
  ·cases j with
   | zero =>
    rw [Nat.add_zero,g5 k (by omega),e5,h0]
    rfl
   | succ j =>
    rw [List.length_cons] at hj
    rw [show k+(j+1)=k+1+j by omega,g6 j (by omega)]
    rfl
theorem foldA_app (a c:List Bs):∀ (l0:List GTick),foldA l0 (a++c)=(foldA l0 a).bind λ l'=>foldA l' c:=by
 induction a with
 | nil=>intro l0;rfl
 | cons u a ih2 =>
  intro l0
  show (addP l0 u).bind _=((addP l0 u).bind _).bind _
  cases addP l0 u with
  | none=>rfl
  | some l1=>exact ih2 l1
theorem addP_tick {l:List GTick} {t:GTick} (hl:l.length < 4096) (hw:WfG t) (hs:smallT t=true):addP l (tickB t)=some (l++[⟨[],t.picks⟩]):=by
 obtain ⟨q1,q2,q3⟩:=small_parts hs
 obtain ⟨s1,s2⟩:=suf_nl (kTick++nums t.picks)
 have es:splitP 32 (kTick++nums t.picks)=kTick :: t.picks.map Lib.itoa:=by rw [nums_join,split_join (by decide) words_no]
 have ep:picksP (kTick++nums t.picks)=some ⟨[],t.picks⟩:=by
  unfold picksP
  rw [es]
  show (if kTick=kTick then (cans (t.picks.map Lib.itoa)).bind _ else none)=_
  rw [if_pos rfl,cans_itoa _ hw.p]
  show (if smallT ⟨[],t.picks⟩=true then some (⟨[],t.picks⟩:GTick) else none)=_
  rw [if_pos (small0 q1)]
 unfold addP tickB
 rw [if_pos s1,s2,es,if_pos (show (kTick :: t.picks.map Lib.itoa).headD []=kTick from rfl),if_pos hl,ep]
 rfl
theorem sameT_of {a b:GTick} (hp:a.picks=b.picks) (h:∀ j,ofT a j=ofT b j):sameT a b=true:=by
 unfold sameT
 simp only [Bool.and_eq_true,decide_eq_true_eq,List.all_eq_true]
 exact ⟨hp,λ j _=>h j⟩
theorem fold_tick {l:List GTick} {t:GTick} (hl:l.length < 4096) (hw:WfG t) (hs:smallT t=true):∃ y,foldA l (tickL t)=some (l++[y])∧sameT y t=true∧y.picks=t.picks:=by
 obtain ⟨q1,q2,q3⟩:=small_parts hs
 obtain ⟨y,e1,e2,e3,e4,e5,e6⟩:=fold_rows t.bytes 0 l ⟨[],t.picks⟩ (by omega) (λ b hb=>⟨hw.b b hb,q3 b hb⟩) (by simp) (small0 q1)
 refine ⟨y,?_,sameT_of e2 (λ j=>?_),e2⟩
 ·unfold tickL
  rw [foldA,addP_tick hl hw hs]
  exact e1
 ·rcases Nat.lt_or_ge j t.bytes.length with h | h
  ·have:=e6 j h
   rw [Nat.zero_add] at this
   exact this
  ·rw [ofT_none h,ofT_none (by omega)]
theorem fold_script:∀ (l l0:List GTick),l0.length+l.length≤4096→(∀ t∈l,WfG t∧smallT t=true)→∃ m,foldA l0 (scrL l)=some (l0++m)∧sameS m l=true:=by
 intro l
 induction l with
 | nil=>intro l0 _ _;exact ⟨[],by simp [scrL,foldA],rfl⟩
 | cons t r ih =>
  intro l0 hl hw
  rw [List.length_cons] at hl
  obtain ⟨h1,h2⟩:=hw t (by simp)
  obtain ⟨y,e1,e2,_⟩:=fold_tick (l:=l0) (by omega) h1 h2
  obtain ⟨m,g1,g2⟩:=ih (l0++[y]) (by simp;omega) (λ x hx=>hw x (by simp [hx]))
  refine ⟨y :: m,?_,by show (sameT y t && sameS m r)=true;rw [e2,g2];rfl⟩
  unfold scrL at g1 ⊢
  rw [List.flatMap_cons,foldA_app,e1]
  show foldA (l0++[y]) _=_
  rw [g1,List.append_assoc]
  rfl
end Go.Proofs.YtppodgdhdddfkaaGreatDoor.Sc
set_option linter.unusedVariables false
set_option linter.unusedSimpArgs false
namespace Go.Proofs.YtppodgdhdddfkaaGreatDoor.Sc
set_option maxRecDepth 100000
open Go Go.RowKit Go.Proofs.YtppodgdhdddfkaaGreatDoor.Sx
open Go.Proofs.YtppodgdhdddfkaaGreatDoor.Sg
open Go.Proofs.YtppodgdhdddfkaaGreatDoor.Bi (take_s)
open Go.Proofs.YtppodgdhdddfkaaGreatDoor.Hd (WfB isReq zR at0 le reqOf)
open Go.Proofs.YtppodgdhdddfkaaGreatDoor.Cg (splitP joinW splitP_app splitP_ne split_join words_no nums_join itoa_no itoa_all no32 no10 isD suf_nl lines_app linesOf linesP nlL strP textP parseP manyP c0 In64 no10_line kFlows kTen kCh kLane kRec kGate kFrame kBud chL flowL tenL gateL laneL recL lines1 lines2 lines3)
def NlL (z:Bs):Prop:=∃ y,z=y++[10]∧(10:UInt8)∉y
theorem lines_nl:∀ (ls:List Bs),(∀ z∈ls,NlL z)→linesOf ls.flatten=ls:=by
 intro ls
 induction ls with
 | nil=>intro _;rw [List.flatten_nil,linesOf]
 | cons z r ih =>
  intro h
  obtain ⟨y,rfl,hy⟩:=h z (by simp)
  rw [List.flatten_cons,lines_app hy,ih (λ x hx=>h x (by simp [hx]))]
theorem num_no10 (ns:List Int):(10:UInt8)∉nums ns:=by
 intro h
 unfold nums at h
 obtain ⟨n,_,hn⟩:=List.mem_flatMap.1 h
 unfold num at hn
 rcases List.mem_cons.1 hn with h | h
 ·exact absurd h (by decide)
 ·exact itoa_no no10 h
theorem hx_no10:∀ d:Fin 16,hx (d.val:Int)≠10:=by decide
theorem hexT_no10 {x:By} (h:WfB x):(10:UInt8)∉hexT x:=by
 intro hm
 unfold hexT at hm
 obtain ⟨c,hc,hm⟩:=List.mem_flatMap.1 hm
 have hc8:=h c hc
 have e1:=hx_no10 ⟨(c / 16).toNat,by omega⟩
 have e2:=hx_no10 ⟨(c % 16).toNat,by omega⟩
 rw [show (((⟨(c / 16).toNat,by omega⟩:Fin 16).val:Nat):Int)=c / 16 from (by show (((c / 16).toNat:Nat):Int)=_;omega)] at e1
 rw [show (((⟨(c % 16).toNat,by omega⟩:Fin 16).val:Nat):Int)=c % 16 from (by show (((c % 16).toNat:Nat):Int)=_;omega)] at e2
 simp only [List.mem_cons,List.not_mem_nil,or_false] at hm
 rcases hm with hm | hm
 ·exact e1 hm.symm
 ·exact e2 hm.symm
theorem reqT_no10 (q:GRequest):(10:UInt8)∉reqT q:=by
 intro h
 unfold reqT at h
 rcases List.mem_append.1 h with h | h
 ·unfold wordQ at h
  repeat' split at h
  all_goals revert h;decide
 ·obtain ⟨n,_,hn⟩:=List.mem_flatMap.1 h
  unfold numU at hn
  rcases List.mem_cons.1 hn with h | h
  ·exact absurd h (by decide)
  ·exact natB_no (by unfold isD;decide) h
theorem pieceT_no10 {x:By} (h:WfB x):(10:UInt8)∉pieceT x:=by
 unfold pieceT
 split
 ·exact reqT_no10 _
 ·intro hm
  rcases List.mem_append.1 hm with hm | hm
  ·revert hm;decide
  ·exact hexT_no10 h hm
theorem tickB_nl (t:GTick):NlL (tickB t):=⟨_,rfl,λ h=>by
 rcases List.mem_append.1 h with h | h
 ·revert h;decide
 ·exact num_no10 _ h⟩
theorem lineB_nl {i:Nat} {x:By} (h:WfB x):NlL (lineB i x):=⟨_,rfl,λ hm=>by
 rcases List.mem_append.1 hm with hm | hm
 ·rcases List.mem_append.1 hm with hm | hm
  ·exact itoa_no no10 hm
  ·revert hm;decide
 ·exact pieceT_no10 h hm⟩
theorem rowsL_nl:∀ (bs:List By) (k:Nat),(∀ b∈bs,WfB b)→∀ z∈rowsL k bs,NlL z:=by
 intro bs
 induction bs with
 | nil=>intro k _ z hz;cases hz
 | cons b r ih =>
  intro k h z hz
  rw [rowsL] at hz
  rcases List.mem_append.1 hz with hz | hz
  ·unfold rowL at hz
   obtain ⟨x,hx,rfl⟩:=List.mem_map.1 hz
   exact lineB_nl (Hd.split_wf (h b (by simp)) x hx).1
  ·exact ih (k+1) (λ c hc=>h c (by simp [hc])) z hz
theorem scrL_nl {l:List GTick} (h:∀ t∈l,WfG t):∀ z∈scrL l,NlL z:=by
 intro z hz
 unfold scrL at hz
 obtain ⟨t,ht,hz⟩:=List.mem_flatMap.1 hz
 unfold tickL at hz
 rcases List.mem_cons.1 hz with rfl | hz
 ·exact tickB_nl t
 ·exact rowsL_nl t.bytes 0 (h t ht).b z hz
theorem nlL_nl (c:GConf):∀ z∈nlL c,NlL z:=λ z hz=>by
 unfold nlL at hz
 obtain ⟨y,hy,rfl⟩:=List.mem_map.1 hz
 exact ⟨y,rfl,no10_line y hy⟩
theorem headN_at:∀ {pre:List Bs} {z:Bs} {r:List Bs},(∀ y∈pre,¬ y.take 6=kBudget)→z.take 6=kBudget→headN (pre++z :: r)=pre.length+1:=by
 intro pre
 induction pre with
 | nil=>intro z r _ h;show headN (z :: r)=1;rw [headN,if_pos h]
 | cons y p ih =>
  intro z r h hz
  rw [List.cons_append,headN,if_neg (h y (by simp)),ih (λ x hx=>h x (by simp [hx])) hz]
  rfl
theorem nlL_split (c:GConf):∃ pre z,nlL c=pre++[z]∧(∀ y∈pre,¬ y.take 6=kBudget)∧z.take 6=kBudget:=by
 refine ⟨(lines3 c++[kFrame++nums c.frame]).map (λ l=>l++[10]),(kBud++nums [c.budget,c.requests,c.pending])++[10],?_,λ y hy=>?_,rfl⟩
 ·unfold nlL linesP
  rw [show lines3 c++[kFrame++nums c.frame,kBud++nums [c.budget,c.requests,c.pending]]=(lines3 c++[kFrame++nums c.frame])++[kBud++nums [c.budget,c.requests,c.pending]] by simp,List.map_append]
  rfl
 ·obtain ⟨l,hl,rfl⟩:=List.mem_map.1 hy
  have go:∀ (a:UInt8) (k r:Bs),a≠98 → ¬ ((a :: k)++r).take 6=kBudget:=λ a k r ha e=>by
   have e:=congrArg (λ l=>l[0]?) e
   simp [kBudget] at e
   exact ha e
  simp only [lines3,lines2,lines1,List.mem_append,List.mem_map,List.mem_flatMap,List.mem_cons,List.not_mem_nil,or_false] at hl
  rcases hl with (((⟨z,hz,rfl⟩ | ⟨z,hz,rfl⟩) | ⟨x,hx,hl⟩) | ⟨z,hz,rfl⟩) | rfl
  ·unfold flowL;rw [List.append_assoc];exact go 102 _ _ (by decide)
  ·unfold tenL;rw [List.append_assoc];exact go 116 _ _ (by decide)
  ·simp only [chL,List.mem_append,List.mem_cons,List.mem_map] at hl
   rcases hl with (rfl | ⟨z,hz,rfl⟩) | ⟨z,hz,rfl⟩
   ·rw [List.append_assoc];exact go 99 _ _ (by decide)
   ·unfold laneL;rw [List.append_assoc,List.append_assoc];exact go 108 _ _ (by decide)
   ·unfold recL;rw [List.append_assoc,List.append_assoc];exact go 114 _ _ (by decide)
  ·unfold gateL;rw [List.append_assoc];exact go 103 _ _ (by decide)
  ·rw [List.append_assoc];exact go 102 _ _ (by decide)
theorem head_nlL (c:GConf) (r:List Bs):headN (nlL c++r)=(nlL c).length:=by
 obtain ⟨pre,z,e,h1,h2⟩:=nlL_split c
 rw [e,List.append_assoc]
 show headN (pre++z :: r)=_
 rw [headN_at h1 h2,List.length_append]
 rfl
theorem parse_lines {c:GConf} {ls:List Bs} (hi:In64 c) (hm:manyP c=false) (hl:(strP c).length≤65536) (hn:∀ z∈ls,NlL z) (ht:(strP c++ls.flatten).length≤4194304) :
  parseS (strP c++ls.flatten)=match foldA [] ls with
   | some l=>(c,l,0,0)
   | none=>(c0,[],(((nlL c).length+failA [] ls:Nat):Int),260):=by
 have e:linesOf (strP c++ls.flatten)=nlL c++ls:=by
  unfold strP
  rw [← List.flatten_append]
  exact lines_nl _ (λ z hz=>by
   rcases List.mem_append.1 hz with hz | hz
   ·exact nlL_nl c z hz
   ·exact hn z hz)
 have hb:=Cg.back hi hm hl
 unfold parseS
 rw [if_neg (by omega),e,head_nlL,List.take_left,List.drop_left]
 rw [show (nlL c).flatten=strP c from rfl,hb]
 rfl
theorem parse_text {c:GConf} {l:List GTick} (hi:In64 c) (hw:∀ t∈l,WfG t) (h:(textS c l).2=0):∃ m,parseS (textS c l).1=(c,m,0,0)∧sameS m l=true∧foldA [] (scrL l)=some m:=by
 unfold textS at h ⊢
 by_cases hs:smallS l=false
 ·rw [if_pos hs] at h;cases h
 rw [if_neg hs] at h ⊢
 by_cases h2:(textP c).2≠0
 ·rw [if_pos h2] at h;exact absurd h h2
 rw [if_neg h2] at h ⊢
 have hs:smallS l=true:=by cases hh:smallS l with | true=>rfl | false=>exact absurd hh hs
 obtain ⟨q1,q2⟩:=smallS_parts hs
 by_cases h3:4194304 < ((textP c).1++scrB l).length
 ·rw [if_pos h3] at h;cases h
 rw [if_neg h3]
 have h2:=Classical.not_not.1 h2
 have hmny:manyP c=false:=by
  cases hh:manyP c with
  | false=>rfl
  | true=>unfold textP at h2;rw [if_pos hh] at h2;cases h2
 have hst:¬ 65536 < (strP c).length:=λ hh=>by unfold textP at h2;rw [if_neg (by rw [hmny];decide),if_pos hh] at h2;cases h2
 have et:(textP c).1=strP c:=by unfold textP;rw [if_neg (by rw [hmny];decide),if_neg hst]
 rw [et] at h3 ⊢
 obtain ⟨m,e1,e2⟩:=fold_script l [] (by simpa using q1) (λ t ht=>⟨hw t ht,q2 t ht⟩)
 rw [List.nil_append] at e1
 refine ⟨m,?_,e2,e1⟩
 show parseS (strP c++(scrL l).flatten)=_
 rw [parse_lines hi hmny (by omega) (scrL_nl hw) (by show (strP c++scrB l).length≤_;omega),e1]
def exO:GConf:=⟨[1],[⟨0,0⟩],[],[],[0],1,1,1⟩
def bA:By:=bytesQ ⟨1,0,3,0,0⟩++[5,255]
def tA:GTick:=⟨[bA],[0,-2]⟩
def txC:Bs:=[102,108,111,119,115,32,48,10,116,101,110,97,110,116,32,48,32,48,10,102,114,97,109,101,32,48,10,98,117,100,103,101,116,32,49,32,49,32,49,10]
def txA:Bs:=txC++[116,105,99,107,32,48,32,45,50,10,48,32,111,112,101,110,32,48,32,51,10,48,32,104,101,120,32,48,53,102,102,10]
def tock:Bs:=[116,111,99,107,10]
theorem exO_in:In64 exO:=by
 refine ⟨?_,?_,?_,?_,?_,?_⟩<;>simp [exO,Cf.Wf,in64]
theorem tA_wf:WfG tA:=by
 refine ⟨λ b hb=>?_,λ n hn=>?_⟩
 ·simp only [tA,List.mem_cons,List.not_mem_nil,or_false] at hb
  subst hb
  show ∀ z∈bA,0≤z∧z < 256
  decide
 ·simp only [tA,List.mem_cons,List.not_mem_nil,or_false] at hn
  rcases hn with rfl | rfl<;>exact ⟨by decide,by decide⟩
theorem dgN (n:Nat) (h:n < 10):Lib.decDigits n=[UInt8.ofNat (48+n)]:=Cg.dg n h
theorem exO_str:strP exO=txC:=by
 have i0:Lib.itoa 0=[48]:=Cg.it 0 (by decide)
 have i1:Lib.itoa 1=[49]:=Cg.it 1 (by decide)
 have m1:Bt.memI 1#64=[0]:=by decide
 simp [strP,nlL,linesP,lines3,lines2,lines1,exO,flowL,tenL,nums,num,i0,i1,m1,txC,kFlows,kTen,kFrame,kBud]
theorem exO_text:textP exO=(txC,0):=by
 have hm:manyP exO=false:=by decide
 unfold textP
 rw [hm,if_neg (by simp),exO_str,if_neg (by decide)]
theorem bA_row:rowL 0 bA=[lineB 0 (bytesQ ⟨1,0,3,0,0⟩),lineB 0 [5,255]]:=by
 have hsp:Hd.split bA.length bA=[bytesQ ⟨1,0,3,0,0⟩,[5,255]]:=by decide
 unfold rowL
 rw [hsp]
 rfl
theorem tA_text:scrB [tA]=[116,105,99,107,32,48,32,45,50,10,48,32,111,112,101,110,32,48,32,51,10,48,32,104,101,120,32,48,53,102,102,10]:=by
 have i0:Lib.itoa 0=[48]:=Cg.it 0 (by decide)
 have i2:Lib.itoa (-2)=[45,50]:=by
  unfold Lib.itoa
  rw [if_pos (by decide),show (-2:Int).natAbs=2 from rfl,dgN 2 (by decide)];rfl
 have d0:natB 0=[48]:=dgN 0 (by decide)
 have d3:natB 3=[51]:=dgN 3 (by decide)
 have p1:pieceT (bytesQ ⟨1,0,3,0,0⟩)=[111,112,101,110,32,48,32,51]:=by
  rw [pieceT_bytesQ (by constructor<;>decide) (by decide)]
  simp [reqT,wordQ,argsQ,numU,d0,d3,kOpen]
 have p2:pieceT [5,255]=[104,101,120,32,48,53,102,102]:=by decide
 have e0:Lib.itoa ((0:Nat):Int)=[48]:=i0
 simp [scrB,scrL,tickL,tickB,rowsL,bA_row,tA,lineB,p1,p2,nums,num,i0,i2,e0,kTick]
theorem tA_small:smallS [tA]=true:=by decide
theorem ex_text:textS exO [tA]=(txA,0):=by
 unfold textS
 rw [tA_small,if_neg (by decide),exO_text,if_neg (by decide),tA_text,if_neg (by decide)]
 rfl
theorem ex_parse:∃ m,parseS txA=(exO,m,0,0)∧sameS m [tA]=true∧foldA [] (scrL [tA])=some m:=by
 have h:=parse_text (c:=exO) (l:=[tA]) exO_in (λ t ht=>by simp at ht;subst ht;exact tA_wf) (by rw [ex_text])
 rw [ex_text] at h
 exact h
theorem tock_none (l:List GTick):addP l tock=none:=by
 have h1:Lib.hasSuffix tock [10]=true:=by decide
 have h2:Lib.trimSuffix tock [10]=[116,111,99,107]:=by decide
 have h3:splitP 32 [116,111,99,107]=[[116,111,99,107]]:=by decide
 unfold addP
 rw [if_pos h1,h2,h3,if_neg (by decide)]
 cases l.getLast? with
 | none=>rfl
 | some t =>
  show (moreP t [116,111,99,107]).map _=_
  unfold moreP
  rw [h3,if_pos (by decide)]
  rfl
theorem ex_tock:parseS (txA++tock)=(c0,[],7,260):=by
 obtain ⟨m,_,_,hm⟩:=ex_parse
 have e:txA++tock=strP exO++(scrL [tA]++[tock]).flatten:=by
  rw [List.flatten_append,exO_str]
  show txA++tock=txC++(scrB [tA]++[tock].flatten)
  rw [tA_text]
  rfl
 have hl:(scrL [tA]).length=3:=by
  simp [scrL,tickL,rowsL,bA_row,tA]
 have hat:(scrL [tA]++[tock])[3]? = some tock:=by rw [List.getElem?_append_right (by omega),hl];rfl
 have hf:foldA [] ((scrL [tA]++[tock]).take 3)=some m:=by rw [List.take_left' hl];exact hm
 obtain ⟨k1,k2⟩:=failA_at hf hat (tock_none m)
 rw [e,parse_lines exO_in (by decide) (by rw [exO_str];decide) (λ z hz=>?_) (by rw [← e];decide),k1,k2]
 ·rfl
 ·rcases List.mem_append.1 hz with hz | hz
  ·exact scrL_nl (λ t ht=>by simp at ht;subst ht;exact tA_wf) z hz
  ·simp at hz;subst hz
   exact ⟨[116,111,99,107],rfl,by decide⟩
theorem ex_read:readN 4096 [0,0,9]=([⟨[],[]⟩],[9]):=by
 have h1:tickR [0,0,9]=some (⟨[],[]⟩,[9]):=by decide
 have h2:tickR [9]=none:=by decide
 rw [readN_go h1 (by decide),readN_no h2]
end Go.Proofs.YtppodgdhdddfkaaGreatDoor.Sc
