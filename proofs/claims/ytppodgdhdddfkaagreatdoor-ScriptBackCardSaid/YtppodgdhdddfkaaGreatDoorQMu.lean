import Derived.Test.YtppodgdhdddfkaaGreatDoorQMt
import Derived.Lib.SlBytesConst
import Derived.ArgAppend
set_option linter.unusedVariables false
set_option linter.unusedSimpArgs false
namespace Go.Proofs.YtppodgdhdddfkaaGreatDoor.Sc
set_option maxRecDepth 100000
open Go Go.RowKit Go.Proofs.YtppodgdhdddfkaaGreatDoor.Sx
open Go.Proofs.YtppodgdhdddfkaaGreatDoor.Sg
open Go.Proofs.YtppodgdhdddfkaaGreatDoor.Bi (mixed take_s)
open Go.Proofs.YtppodgdhdddfkaaGreatDoor.Hd (WfB isReq rtB zR at0 le reqOf zReq oReq Ebyte Gl)
open Go.Proofs.YtppodgdhdddfkaaGreatDoor.Cg (rw_blk)
theorem pow_pos' (i:Nat):(0:Int) < 256 ^ i:=Int.pow_pos (by decide)
theorem div_bd {x:Int} (hx:0≤x∧x < 18446744073709551616) (i:Nat):0≤x / 256 ^ i∧x / 256 ^ i < 18446744073709551616:=by
 have hp:=pow_pos' i
 refine ⟨Int.ediv_nonneg hx.1 (by omega),?_⟩
 have:=Int.ediv_le_self (256 ^ i) hx.1
 omega
theorem pow_div (x:Int) (i:Nat):x / 256 ^ (i+1)=x / 256 ^ i / 256:=by
 rw [Int.pow_succ,Int.ediv_ediv_of_nonneg (Int.le_of_lt (pow_pos' i))]
theorem lowB_eq:∀ (n:Nat) (x:Int),lowB n x=(List.range n).map (λ k=>x / 256 ^ k % 256):=by
 intro n
 induction n with
 | zero=>intro x;rfl
 | succ n ih =>
  intro x
  rw [lowB,ih,List.range_succ_eq_map,List.map_cons,List.map_map]
  simp only [Int.pow_zero,Int.ediv_one]
  congr 1
  apply List.map_congr_left
  intro k _
  show x / 256 / 256 ^ k % 256=x / 256 ^ (k+1) % 256
  rw [Int.ediv_ediv_of_nonneg (by decide),Int.pow_succ,Int.mul_comm]
theorem lowB_snoc (i:Nat) (x:Int):lowB (i+1) x=lowB i x++[x / 256 ^ i % 256]:=by
 rw [lowB_eq,lowB_eq,List.range_succ,List.map_append]
 rfl
theorem lowB_len (n:Nat) (x:Int):(lowB n x).length=n:=by rw [lowB_eq];simp
theorem lowB_wf (n:Nat) (x:Int):WfB (lowB n x):=by
 intro z hz
 rw [lowB_eq] at hz
 obtain ⟨k,_,rfl⟩:=List.mem_map.1 hz
 omega
def by8 (b:By):Bs:=b.map (λ z=>UInt8.ofNat z.toNat)
theorem strOf (b:By):Value.string (strOfNums b)=Tx (by8 b):=by
 unfold strOfNums by8
 rfl
section
variable {P:Program} {Z:ZP} {R:Value→World→Prop} {w:World} {A:List Nat→List Value→World→Prop} {B:List Nat→Nat→List Value→World→Prop} {ds:List Nat} {k:Value→T} {t:T}
theorem r_str0 {s d e:TypeId} {X:Option Addr} {cp n:Nat} {b:By} (hs:P.underlying s=some (.slice e)) (he:P.underlying e=some (.int .u8)) (hd:P.underlying d=some .string) (hr:Rw (rI .u8) w X b) (hn:n=b.length) (hk:wp P Z R ds (k (.string (strOfNums b))) w A B):wp P Z R ds (.hv (convert s d (.slice X n cp)) k) w A B:=by
 subst hn
 refine ⟨_,w,?_,hk⟩
 cases X with
 | none =>
  have hb:b=[]:=by
   cases b with
   | nil=>rfl
   | cons z r=>obtain ⟨a,_,h,_⟩:=hr 0 z rfl;cases h
  subst hb
  exact run_convert_bytes_nil w s e hs he _ _ d hd
 | some a =>
  have hl:(loadCells a b.length).run P w=.ok (b.map (Value.int .u8)).toArray w:=by
   have:=run_loadCells_list (P:=P) w a (b.map (Value.int .u8)) (λ j v hj=>by
    rw [List.getElem?_map] at hj
    cases hz:b[j]? with
    | none=>rw [hz] at hj;cases hj
    | some z =>
     rw [hz] at hj
     cases hj
     obtain ⟨a',es,h1,h2,h3⟩:=hr j z hz
     cases h1
     obtain rfl:=h3
     have:=cell1 h2
     rwa [show j * (rI .u8).n=j from Nat.mul_one j,addA_eq] at this)
   simpa using this
  rw [run_convert_bytes_string w s d e _ _ cp hs he hd,run_bytesToString w _ _ cp b hl,foldl_push_bytes]
  simp [strOfNums,ByteArray.empty,ByteArray.emptyWithCapacity]
  rfl
theorem r_bstr {X:Option Addr} {cp:Nat} {b:By} (hr:Rw (rI .u8) w X b) (hk:wp Tryz.prog Z R ds (k (Tx (by8 b))) w A B):wp Tryz.prog Z R ds (.hv (convert 48 9 (.slice X b.length cp)) k) w A B:=by
 refine r_str0 (e:=5) (by kernel_rfl) (by kernel_rfl) (by kernel_rfl) hr rfl ?_
 rw [strOf]
 exact hk
theorem r_quoN {ty:Nat} {x d:Nat} (hd:0 < d) (hx:x < 18446744073709551616) (hk:wp P Z R ds (k (.int .u64 ((x:Int) / (d:Int)))) w A B):wp P Z R ds (.pu (binOp .quo ty (.int .u64 (x:Int)) (.int .u64 (d:Int))) k) w A B:=by
 have hdd:(x:Int) / (d:Int)≤x:=Int.ediv_le_self _ (by omega)
 have hnn:0≤(x:Int) / (d:Int):=Int.ediv_nonneg (by omega) (by omega)
 have h1:IntKind.u64.wrap (((x:Nat):Int).tdiv d)=(x:Int) / (d:Int):=by
  rw [Bt.wrap_u,Int.tdiv_eq_ediv_of_nonneg (by omega)];omega
 have e:(Op.intDiv .quo .u64 ((x:Nat):Int) d:Sem Value)=pure (.int .u64 ((x:Int) / (d:Int))):=by
  unfold Op.intDiv
  rw [if_neg (by omega)]
  show (pure (.int .u64 (IntKind.u64.wrap (((x:Nat):Int).tdiv d))):Sem Value)=_
  rw [h1]
 exact ⟨_,λ w'=>by rw [binOp_quo,e];rfl,hk⟩
theorem r_shrU {ty:Nat} {x:Int} {kd:IntKind} {n:Nat} (hx:0≤x∧x < 18446744073709551616) (hn:n < 64) (hk:wp P Z R ds (k (.int .u64 (x / 2 ^ n))) w A B):wp P Z R ds (.pu (binOp .shr ty (.int .u64 x) (.int kd n)) k) w A B:=by
 obtain ⟨u,rfl⟩:∃ u:Nat,x=u:=⟨x.toNat,by omega⟩
 have e:(Value.int .u64 (u:Int))=U (BitVec.ofNat 64 u):=by
  unfold U
  rw [BitVec.toNat_ofNat,Nat.mod_eq_of_lt (by omega)]
 rw [e]
 refine r_shr hn ?_
 have e2:U ((BitVec.ofNat 64 u) >>> n)=.int .u64 ((u:Int) / 2 ^ n):=by
  unfold U
  rw [BitVec.toNat_ushiftRight,BitVec.toNat_ofNat,Nat.mod_eq_of_lt (by omega),Nat.shiftRight_eq_div_pow]
  simp
 rw [e2]
 exact hk
end
section
variable {Z:ZP} {w w0:World} {R:Value→World→Prop} {A:List Nat→List Value→World→Prop} {B:List Nat→Nat→List Value→World→Prop}
theorem low3_t {x:Int} (hx:0≤x∧x < 18446744073709551616) {n:Nat} (hn:n≤8):Cz Tryz.prog 131 [.int .u64 x,I n] w (λ r w'=>Or (rI .u8) 5 w.heap.size [] w' r (lowB n x)∧Fr [] w w') Z:=by
 refine go mixed Tryz.func131 Tryz.call131 rfl (Tr.e131 _ _) ?_
 refine r_loop (λ (s:Nat × Value)=>[I (s.1:Int),s.2,.int .u64 (x / 256 ^ s.1)]) (λ s w'=>s.1≤n∧Or (rI .u8) 5 w.heap.size [] w' s.2 (lowB s.1 x)∧Fr [] w w') (λ s=>n-s.1) (0,.slice none 0 0) ⟨Nat.zero_le _,Or.nil,Fr.refl _ _⟩ (by simp) ?_
 rintro ⟨i,v⟩ w1 ⟨hi,HO,F⟩
 dsimp only at hi HO
 refine r_if (λ h=>?_) (λ h=>?_)
 ·dsimp only at h
  have hp:=pow_pos' i
  have hd:=div_bd hx i
  obtain ⟨u,hu⟩:∃ u:Nat,x / 256 ^ i=u:=⟨(x / 256 ^ i).toNat,by omega⟩
  dsimp only
  rw [hu] at hd ⊢
  refine r_rem (by decide) ?_
  refine r_are (y:=(u:Int) % 256) (by rw [u8w,Int.tmod_eq_emod_of_nonneg (by omega)];omega) ?_
  refine r_appL (x:=(u:Int) % 256) (es:=[.int .u8 ((u:Int) % 256)]) Ebyte HO (λ _ _=>rfl) (by have:=lowB_len i x;simp only [big];omega) F.size (λ v' w2 g1 g2 g3=>?_)
  refine r_quoN (d:=256) (by decide) (by omega) ?_
  refine r_ar (by omega) ?_
  refine r_ag (s:=(i,v)) (i+1,v') ⟨by dsimp only;omega,?_,F.trans_new g2 (λ q hq=>.inr (HO.lt q hq).1)⟩ (by dsimp only;omega) ?_
  ·dsimp only
   rw [lowB_snoc,hu]
   exact g1
  ·dsimp only
   rw [pow_div x i,hu]
   congr 3
 ·dsimp only at h
  obtain rfl:i=n:=by omega
  exact r_brk (r_ret ⟨HO,F⟩)
theorem bytesQ_len (q:GRequest):(bytesQ q).length=16:=by unfold bytesQ;simp [lowB_len]
theorem bytesQ_wf {q:GRequest} (h:WfQ q):WfB (bytesQ q):=by
 obtain ⟨h1,h2,h3,h4,h5⟩:=h
 intro z hz
 unfold bytesQ at hz
 rcases List.mem_append.1 hz with hz | hz
 ·rcases List.mem_append.1 hz with hz | hz
  ·simp only [List.mem_cons,List.not_mem_nil,or_false] at hz
   rcases hz with rfl | rfl | rfl | rfl<;>omega
  ·exact lowB_wf _ _ z hz
 ·exact lowB_wf _ _ z hz
theorem plainI {kd:IntKind}:Plain (rI kd):=λ _ _ _ _ h=>h
theorem or_blk {b base ty:Nat} {xs:List Int} {kd:IntKind} {S:List Nat} (hB:Blk w b ty (xs.map (Value.int kd))) (hb:base≤b) (hl:xs.length≤1000000):Or (rI kd) ty base S w (.slice (some ⟨b,0,none⟩) xs.length xs.length) xs:=by
 refine ⟨xs.map (Value.int kd),⟨by rw [List.length_map];exact (Nat.mul_one _).symm,.inr ⟨b,xs.length,(xs.map (Value.int kd)).toArray,rfl,hb,hB,Nat.le_refl _,by simp only [Go.maxLen];omega,by simp [rI,rE],by show ((xs.map (Value.int kd)).toArray.toList).take (xs.length * 1)=_;rw [Nat.mul_one,List.take_of_length_le (by simp)]⟩⟩,λ j x hj w' f=>?_⟩
 show ((xs.map (Value.int kd)).drop (j * 1)).take 1=[Value.int kd x]
 have hl:=List.getElem?_eq_some_iff.1 hj
 rw [Nat.mul_one,List.drop_eq_getElem_cons (by rw [List.length_map];exact hl.1),List.getElem_map,hl.2]
 rfl
def BytR (q:GRequest) (w0:World) (r:Value) (w':World):Prop:=∃ v,r=.tuple #[v,I (if isReq q=true then 0 else 30)]∧Or (rI .u8) 5 w0.heap.size [] w' v (if isReq q=true then bytesQ q else [])∧Fr [] w0 w'
theorem rBytes_t (q:GRequest) (hw:WfQ q):Cz Tryz.prog 44 [.agg (eRequest q).toArray] w (BytR q w) Z:=by
 obtain ⟨wk,wa,wr,wh,wp'⟩:=hw
 refine go mixed Tryz.func44 Tryz.call44 rfl (Tr.e44 _) ?_
 refine r_box (cs:=eRequest q) (λ v1 w1 e1 B1 f1=>?_)
 refine r_ldn (B1.rd rfl) ?_
 refine r_call (Hd.Is_t q) ?_
 rintro _ w2 ⟨rfl,f2⟩
 have B2:=B1.fr0 f2
 refine r_ifbn (λ hq=>?_) (λ hq=>?_)
 ·exact r_ret ⟨_,by rw [if_neg (by rw [hq];decide)],by rw [if_neg (by rw [hq];decide)];exact Or.nil,f1.trans f2⟩
 refine r_ld (B2.cell (o:=0) rfl) ?_
 refine r_ld (B2.cell (o:=1) rfl) ?_
 refine r_ld (B2.cell (o:=2) rfl) ?_
 refine r_ld (B2.cell (o:=3) rfl) ?_
 refine r_ld (B2.cell (o:=4) rfl) ?_
 have shape:Cz Tryz.prog 85 [.int .u8 q.kind,.int .u8 q.a,.int .u8 q.rights,.int .u32 q.handle,.int .u64 q.payload] w2 (λ r w'=>Or (rI .u8) 5 w2.heap.size [] w' r (bytesQ q)∧Fr [] w2 w') Z:=by
  refine go mixed Tryz.func85 Tryz.call85 rfl (Tr.e85 _ _ _ _ _) ?_
  refine r_new (v:=.slice (some ⟨w2.heap.size,0,none⟩) 4 4) (T:=5) (cs:=[.int .u8 q.kind,.int .u8 q.a,.int .u8 q.rights,.int .u8 0]) (by kernel_rfl) (λ b3 w3 e3 B3 f3=>?_)
  rw [← e3]
  have O3:Or (rI .u8) 5 w2.heap.size [] w3 (.slice (some ⟨b3,0,none⟩) 4 4) [q.kind,q.a,q.rights,0]:=or_blk (xs:=[q.kind,q.a,q.rights,0]) B3 (by omega) (by simp)
  refine r_are (y:=q.handle) (Hd.wrap_u64 (by omega)) ?_
  refine r_call (low3_t (x:=q.handle) (n:=4) (by omega) (by decide)) ?_
  rintro v4 w4 ⟨O4,f4⟩
  obtain ⟨X4,c4,rfl,_,_,r4⟩:=O4.row (by rw [lowB_len];simp [big])
  refine r_apps (xs:=lowB 4 q.handle) Ebyte (O3.fr0 f4) rfl (Cg.RwO.plain plainI r4) (by rw [lowB_len];simp [big]) (f3.trans f4).size (λ v5 w5 O5 f5 g5=>?_)
  have F5:=(f3.trans f4).trans_new f5 (λ q' hq=>.inr (O3.lt q' hq).1)
  refine r_call (low3_t (x:=q.payload) (n:=8) wp' (by decide)) ?_
  rintro v6 w6 ⟨O6,f6⟩
  obtain ⟨X6,c6,rfl,_,_,r6⟩:=O6.row (by rw [lowB_len];simp [big])
  refine r_apps (xs:=lowB 8 q.payload) Ebyte (O5.fr0 f6) rfl (Cg.RwO.plain plainI r6) (by simp [lowB_len,big]) (F5.trans f6).size (λ v7 w7 O7 f7 g7=>?_)
  exact r_ret ⟨by rw [e3];exact O7,(F5.trans f6).trans_new f7 (λ q' hq=>.inr (O5.lt q' hq).1)⟩
 refine r_call shape ?_
 rintro _ w3 ⟨HO,f3⟩
 exact r_ret ⟨_,by rw [if_pos hq],by rw [if_pos hq];exact Cg.or_mono HO (f1.trans f2).size,(f1.trans f2).trans f3⟩
def putC (at_ n:Nat) (x:Int) (cs:List Value):List Value:=(List.range n).foldl (λ c k=>c.set (at_+k) (.int .u8 (x / 256 ^ k % 256))) cs
theorem putC_snoc (at_ i:Nat) (x:Int) (cs:List Value):putC at_ (i+1) x cs=(putC at_ i x cs).set (at_+i) (.int .u8 (x / 256 ^ i % 256)):=by
 unfold putC
 rw [List.range_succ,List.foldl_append]
 rfl
theorem putC_len (at_ n:Nat) (x:Int) (cs:List Value):(putC at_ n x cs).length=cs.length:=by
 induction n with
 | zero=>rfl
 | succ n ih=>rw [putC_snoc,List.length_set,ih]
theorem pow2_256 (i:Nat):(2:Int) ^ (8 * i)=256 ^ i:=by rw [Int.pow_mul];rfl
theorem put_t {at_ n b cp L:Nat} {a m:Int} {cs:List Value} {x:Int} (ha:a=at_) (hm:m=n) (hL:L=cs.length) (hB:Blk w b 5 cs) (hl:at_+n≤cs.length) (hc:cs.length≤1000) (hn:n≤8) (hx:0≤x∧x < 18446744073709551616):Cz Tryz.prog 192 [.agg [I a,I m].toArray,.slice (some ⟨b,0,none⟩) L cp,.int .u64 x] w (λ r w'=>r=.tuple #[]∧Blk w' b 5 (putC at_ n x cs)∧Fr [b] w w') Z:=by
 refine go mixed Tryz.func192 Tryz.call192 rfl (Tr.e192 _ _ _) ?_
 subst ha hm hL
 refine r_box (cs:=[I at_,I n]) (λ p w1 e1 B1 f1=>?_)
 have hbl:=hB.lt
 refine r_ld (B1.cell (o:=1) rfl) ?_
 refine r_loop (λ (i:Nat)=>[I (i:Int)]) (λ i w'=>i≤n∧Blk w' b 5 (putC at_ i x cs)∧Blk w' p 220 [I at_,I n]∧Fr [b] w w') (λ i=>n-i) 0 ⟨Nat.zero_le _,hB.fr0 f1,B1,f1.mono (by simp)⟩ rfl ?_
 rintro i w2 ⟨hi,C2,B2,F⟩
 refine r_if (λ h=>?_) (λ h=>?_)
 ·refine r_ld (B2.cell (o:=0) rfl) ?_
  refine r_ar (by omega) ?_
  refine r_are (y:=(i:Int)) (by rw [Bt.wrap_u];omega) ?_
  refine r_are (y:=((8 * i:Nat):Int)) (by rw [Bt.wrap_u];omega) ?_
  refine r_shrU hx (by omega) ?_
  rw [pow2_256]
  have hd:=div_bd hx i
  refine r_are (y:=x / 256 ^ i % 256) (u8w _) ?_
  refine r_ob ⟨by omega,by omega⟩ ?_
  refine r_st1 (o:=0+(at_+i) * 1) C2 Tryz.sizeOf5 (λ w3 C3 f3=>?_) (ho:=by rw [Nat.zero_add,Nat.mul_one];exact Nat.ble_eq_true_of_le (by rw [putC_len];omega))
  rw [Nat.zero_add,Nat.mul_one,← putC_snoc] at C3
  refine r_ar (by omega) ?_
  exact r_ag (i+1) ⟨by omega,C3,B2.fr f3 (λ hq=>by simp at hq;omega),F.trans f3⟩ (by omega) rfl
 ·obtain rfl:i=n:=by omega
  exact r_brk (r_ret ⟨rfl,C2,F⟩)
theorem z16:List.replicate 16 (Value.int .u8 0)=[.int .u8 0,.int .u8 0,.int .u8 0,.int .u8 0,.int .u8 0,.int .u8 0,.int .u8 0,.int .u8 0,.int .u8 0,.int .u8 0,.int .u8 0,.int .u8 0,.int .u8 0,.int .u8 0,.int .u8 0,.int .u8 0]:=rfl
theorem laid_cells (q:GRequest):putC 8 8 q.payload (putC 4 4 q.handle [.int .u8 q.kind,.int .u8 q.a,.int .u8 q.rights,.int .u8 0,.int .u8 0,.int .u8 0,.int .u8 0,.int .u8 0,.int .u8 0,.int .u8 0,.int .u8 0,.int .u8 0,.int .u8 0,.int .u8 0,.int .u8 0,.int .u8 0])=(bytesQ q).map (Value.int .u8):=by
 unfold bytesQ
 rw [lowB_eq,lowB_eq]
 rfl
theorem Bytes_t (q:GRequest) (hw:WfQ q) (G:Gl w):Cz Tryz.prog 124 [.agg (eRequest q).toArray] w (BytR q w) Z:=by
 obtain ⟨wk,wa,wr,wh,wp'⟩:=hw
 refine go mixed Tryz.func124 Tryz.call124 rfl (Tr.e124 _) ?_
 refine r_box (cs:=eRequest q) (λ v1 w1 e1 B1 f1=>?_)
 refine r_ldn (B1.rd rfl) ?_
 refine r_call (Hd.Check_t q) ?_
 rintro _ w2 ⟨rfl,f2⟩
 have B2:=B1.fr0 f2
 by_cases hq:isReq q=true
 ·rw [if_pos hq]
  refine r_ld (B2.cell (o:=0) rfl) ?_
  refine r_ld (B2.cell (o:=1) rfl) ?_
  refine r_ld (B2.cell (o:=2) rfl) ?_
  refine r_ld (B2.cell (o:=3) rfl) ?_
  refine r_ld (B2.cell (o:=4) rfl) ?_
  have G2:=(G.up f1).up f2
  have laid:Cz Tryz.prog 164 [.int .u8 q.kind,.int .u8 q.a,.int .u8 q.rights,.int .u32 q.handle,.int .u64 q.payload] w2 (λ r w'=>Or (rI .u8) 5 w2.heap.size [] w' r (bytesQ q)∧Fr [] w2 w') Z:=by
   refine go mixed Tryz.func164 Tryz.call164 rfl (Tr.e164 _ _ _ _ _) ?_
   refine r_new (v:=.slice (some ⟨w2.heap.size,0,none⟩) 16 16) (T:=5) (cs:=List.replicate 16 (.int .u8 0)) (by kernel_rfl) (λ b w3 e3 B3 f3=>?_)
   have e3':=e3
   rw [← e3]
   rw [z16] at B3
   refine r_ob ⟨by decide,by decide⟩ ?_
   refine r_st1 (o:=0) B3 Tryz.sizeOf5 (λ w4 B4 f4=>?_)
   refine r_ob ⟨by decide,by decide⟩ ?_
   refine r_st1 (o:=1) B4 Tryz.sizeOf5 (λ w5 B5 f5=>?_)
   refine r_ob ⟨by decide,by decide⟩ ?_
   refine r_st1 (o:=2) B5 Tryz.sizeOf5 (λ w6 B6 f6=>?_)
   have F6:Fr [] w2 w6:=((f3.st f4 (by omega)).st f5 (by omega)).st f6 (by omega)
   refine r_ldn (G2.up F6).h ?_
   refine r_are (y:=q.handle) (Hd.wrap_u64 (by omega)) ?_
   refine r_call (put_t (at_:=4) (n:=4) (cp:=16) (L:=16) (a:=4) (m:=4) rfl rfl rfl B6 (by simp) (by simp) (by decide) (by omega)) ?_
   rintro _ w7 ⟨rfl,B7,f7⟩
   have F7:=F6.st f7 (by omega)
   refine r_ldn (G2.up F7).p ?_
   refine r_call (put_t (at_:=8) (n:=8) (cp:=16) (L:=16) (a:=8) (m:=8) rfl rfl (by rw [putC_len];rfl) B7 (by rw [putC_len];simp) (by rw [putC_len];simp) (by decide) wp') ?_
   rintro _ w8 ⟨rfl,B8,f8⟩
   refine r_ret ⟨?_,F7.st f8 (by omega)⟩
   have e:=laid_cells q
   have B8':Blk w8 b 5 ((bytesQ q).map (Value.int .u8)):=by rw [← e];exact B8
   have:=or_blk (base:=b) (S:=[]) B8' (by omega) (by rw [bytesQ_len];decide)
   rw [bytesQ_len] at this
   exact this
  refine r_call laid ?_
  rintro _ w3 ⟨HO,f3⟩
  exact r_ret ⟨_,by rw [if_pos hq],by rw [if_pos hq];exact Cg.or_mono HO (f1.trans f2).size,(f1.trans f2).trans f3⟩
 ·rw [if_neg hq]
  exact r_ret ⟨_,by rw [if_neg hq],by rw [if_neg hq];exact Or.nil,f1.trans f2⟩
end
end Go.Proofs.YtppodgdhdddfkaaGreatDoor.Sc
set_option linter.unusedVariables false
set_option linter.unusedSimpArgs false
namespace Go.Proofs.YtppodgdhdddfkaaGreatDoor.Sc
set_option maxRecDepth 100000
open Go Go.RowKit Go.Proofs.YtppodgdhdddfkaaGreatDoor.Sx
open Go.Proofs.YtppodgdhdddfkaaGreatDoor.Sg
open Go.Proofs.YtppodgdhdddfkaaGreatDoor.Bi (mixed take_s)
open Go.Proofs.YtppodgdhdddfkaaGreatDoor.Hd (WfB isReq rtB zR at0 le reqOf zReq oReq Ebyte Gl)
open Go.Proofs.YtppodgdhdddfkaaGreatDoor.Cg (rw_blk)
def hxI (d:Int):Int:=if d < 10 then 48+d else 87+d
def hexI (b:By):By:=b.flatMap λ c=>[hxI (c / 16),hxI (c % 16)]
theorem hx_i {d:Int} (h:0≤d):UInt8.ofNat (hxI d).toNat=hx d:=by
 unfold hxI hx
 split
 ·congr 1;omega
 ·congr 1;omega
theorem by8_app (a b:By):by8 (a++b)=by8 a++by8 b:=by unfold by8;rw [List.map_append]
theorem by8_hex {b:By} (h:WfB b):by8 (hexI b)=hexT b:=by
 induction b with
 | nil=>rfl
 | cons c r ih =>
  have hc:=h c (by simp)
  unfold hexI hexT at *
  rw [List.flatMap_cons,List.flatMap_cons,by8_app,ih (λ z hz=>h z (by simp [hz]))]
  congr 1
  unfold by8
  rw [List.map_cons,List.map_cons,List.map_nil,hx_i (by omega),hx_i (by omega)]
theorem hexI_len (b:By):(hexI b).length=2 * b.length:=by
 induction b with
 | nil=>rfl
 | cons c r ih=>unfold hexI at *;rw [List.flatMap_cons,List.length_append,ih];simp;omega
theorem hexI_snoc {b:By} {k:Nat} {c:Int} (h:b[k]? = some c):hexI (b.take (k+1))=(hexI (b.take k)++[hxI (c / 16)])++[hxI (c % 16)]:=by
 rw [take_s h]
 unfold hexI
 rw [List.flatMap_append]
 simp
def DgW (w:World):Prop:=∀ k,k < 16→w.cell? ⟨0,0+k * 1,none⟩=some (.int .u8 (hxI k))
theorem DgW.up {w w':World} (h:DgW w) (f:Fr [] w w'):DgW w':=λ k hk=>f.c (h k hk)
section
variable {P:Program} {Z:ZP} {R:Value→World→Prop} {w:World} {A:List Nat→List Value→World→Prop} {B:List Nat→Nat→List Value→World→Prop} {ds:List Nat} {k:Value→T} {t:T}
theorem r_shr8 {ty:Nat} {x:Int} (hx:0≤x∧x < 256) (hk:wp P Z R ds (k (.int .u8 (x / 16))) w A B):wp P Z R ds (.pu (binOp .shr ty (.int .u8 x) (.int .u64 4)) k) w A B:=by
 have e:Op.shift .shr .u8 x .u64 4=pure (.int .u8 (x / 16)):=by
  unfold Op.shift
  rw [if_neg (by omega)]
  show (pure (.int .u8 (x.fdiv (2 ^ 4))):Sem Value)=_
  rw [Int.fdiv_eq_ediv_of_nonneg _ (by decide)]
  rfl
 exact ⟨_,λ w'=>by rw [binOp_shr,e];rfl,hk⟩
theorem and15:∀ x:Fin 256,bits .and .u8 (x.val:Int) 15=(x.val:Int) % 16:=by decide
theorem r_and15 {ty:Nat} {x:Int} (hx:0≤x∧x < 256) (hk:wp P Z R ds (k (.int .u8 (x % 16))) w A B):wp P Z R ds (.pu (binOp .and ty (.int .u8 x) (.int .u8 15)) k) w A B:=by
 have e:=and15 ⟨x.toNat,by omega⟩
 have e2:((x.toNat:Nat):Int)=x:=by omega
 rw [e2] at e
 exact ⟨_,λ w'=>by rw [binOp_and];rw [← e];rfl,hk⟩
theorem r_app2 {base:Nat} {v:Value} {xs:By} {a b:Int} (HO:Or (rI .u8) 5 base [] w v xs) (hb:xs.length+2≤1000000000000) (hbase:base≤w.heap.size) (hk:∀ v' w',Or (rI .u8) 5 base [] w' v' ((xs++[a])++[b])→Fr v.ownBlock.toList w w'→wp Tryz.prog Z R ds (k v') w' A B):wp Tryz.prog Z R ds (.hv (Instr.buildSlice 48 2 [(0,.int .u8 a),(1,.int .u8 b)].toArray) λ s=>.hv (Builtin.append_ #[48,48] 48 [v,s].toArray) k) w A B:=by
 refine r_new (v:=.slice (some ⟨w.heap.size,0,none⟩) 2 2) (T:=5) (cs:=[.int .u8 a,.int .u8 b]) (by kernel_rfl) (λ b3 w3 e3 B3 f3=>?_)
 rw [← e3]
 have hr:Rw (rI .u8) w3 (some ⟨b3,0,none⟩) [a,b]:=rw_blk (enc:=λ z=>[.int .u8 z]) (l:=[a,b]) B3
 refine r_apps (xs:=[a,b]) Ebyte (HO.fr0 f3) rfl (Cg.RwO.plain plainI hr) (by simp only [big,List.length_cons,List.length_nil];omega) (Nat.le_trans hbase f3.size) (λ v' w' O' f' g'=>?_)
 refine hk v' w' ?_ ((f3.mono (by simp)).trans f')
 rw [List.append_assoc]
 exact O'
theorem rw_cells {X:Addr} {xs:By} (h:∀ (j:Nat) z,xs[j]? = some z→w.cell? (X.add j)=some (.int .u8 z)):Rw (rI .u8) w (some X) xs:=λ j z hj=>⟨X,[.int .u8 z],rfl,⟨rfl,λ i v hv=>by
 match i,hv with
 | 0,hv =>
  simp only [List.getElem?_cons_zero,Option.some.injEq] at hv
  subst hv
  rw [addA_addA,addA_eq,show j * (rI .u8).n+0=j from Nat.mul_one j]
  exact h j z hj
 | i+1,hv=>simp at hv⟩,rfl⟩
theorem cells_rw {X:Addr} {xs:By} (h:Rw (rI .u8) w (some X) xs):∀ (j:Nat) u,(xs.map (Value.int .u8))[j]? = some u→w.cell? (X.add j)=some u:=by
 intro j u hu
 rw [List.getElem?_map] at hu
 obtain ⟨z,hz,rfl⟩:=Option.map_eq_some_iff.1 hu
 obtain ⟨a,es,h1,h2,h3⟩:=h j z hz
 cases h1
 obtain rfl:=h3
 have:=cell1 h2
 rwa [show j * (rI .u8).n=j from Nat.mul_one j,addA_eq] at this
theorem r_hexk (hk:∀ b w',b=w.heap.size→Fr [] w w'→Rw (rI .u8) w' (some ⟨b,0,none⟩) [104,101,120,32]→wp Tryz.prog Z R ds (k (.slice (some ⟨b,0,none⟩) 4 4)) w' A B):wp Tryz.prog Z R ds (.hv (Instr.buildSlice 48 4 [(0,(.int .u8 104)),(1,(.int .u8 101)),(2,(.int .u8 120)),(3,(.int .u8 32))].toArray) λ v23=>.hv (convert 48 48 v23) k) w A B:=by
 refine ⟨.slice (some ⟨w.heap.size,0,none⟩) 4 4,w.alloc (.cells #[.int .u8 104,.int .u8 101,.int .u8 120,.int .u8 32] 5),by kernel_rfl,?_⟩
 refine ⟨_,_,Lib.run_convert_bytes_const w 48 5 #[.int .u8 104,.int .u8 101,.int .u8 120,.int .u8 32] 4 4 (by kernel_rfl) (by kernel_rfl),?_⟩
 refine hk _ _ rfl (Fr.alloc w _) (rw_cells λ j z hj=>?_)
 have hh:∀ o:Obj,(w.alloc o).heap[w.heap.size]? = some o:=λ o=>by show (w.heap.push o)[w.heap.size]? = _;simp
 rw [addr_add,Nat.zero_add]
 unfold World.cell?
 dsimp only
 rw [hh]
 match j,hj with
 | 0,hj=>cases hj;rfl
 | 1,hj=>cases hj;rfl
 | 2,hj=>cases hj;rfl
 | 3,hj=>cases hj;rfl
 | j+4,hj=>simp at hj
theorem r_app2g {X:Addr} {xs:By} {a b:Int} (hr:Rw (rI .u8) w (some X) xs) (hb:xs.length+2≤1000000) (hk:∀ v' w',Or (rI .u8) 5 w.heap.size [] w' v' ((xs++[a])++[b])→Fr [] w w'→wp Tryz.prog Z R ds (k v') w' A B):wp Tryz.prog Z R ds (.hv (Instr.buildSlice 48 2 [(0,.int .u8 a),(1,.int .u8 b)].toArray) λ s=>.hv (Builtin.append_ #[48,48] 48 [.slice (some X) xs.length xs.length,s].toArray) k) w A B:=by
 refine r_new (v:=.slice (some ⟨w.heap.size,0,none⟩) 2 2) (T:=5) (cs:=[.int .u8 a,.int .u8 b]) (by kernel_rfl) (λ b3 w3 e3 B3 f3=>?_)
 rw [← e3]
 have hr2:Rw (rI .u8) w3 (some ⟨b3,0,none⟩) [a,b]:=rw_blk (enc:=λ z=>[.int .u8 z]) (l:=[a,b]) B3
 obtain ⟨i,hi,hi2⟩:=Option.map_eq_some_iff.1 Ebyte.i
 simp only [Prod.mk.injEq] at hi2
 obtain ⟨i1,i2,i3⟩:=hi2
 obtain ⟨v',w',h1,h2,h3⟩:=run_append_arg_grows (P:=Tryz.prog) w3 48 48 5 i (.int .u8 0) 1 1 Tryz.underlying48 hi i1 i2 i3 rfl (by decide) X xs.length xs.length (xs.map (Value.int .u8)) (by simp) (cells_rw (hr.up f3)) ⟨b3,0,none⟩ 2 2 ([a,b].map (Value.int .u8)) (by simp) (cells_rw hr2) (by omega) (by simp only [Go.maxLen];omega) (by omega)
 refine ⟨v',w',h1,hk v' w' ⟨_,own_mono (by rw [show ((xs++[a])++[b]).length=xs.length+2 by simp];exact h2) f3.size,λ j z hj W f=>?_⟩ (f3.trans (Fr.of_grown h3))⟩
 have e:xs.map (Value.int .u8)++[a,b].map (Value.int .u8)=((xs++[a])++[b]).map (Value.int .u8):=by simp
 show ((xs.map (Value.int .u8)++[a,b].map (Value.int .u8)).drop (j * 1)).take 1=[Value.int .u8 z]
 rw [e]
 have hl:=List.getElem?_eq_some_iff.1 hj
 rw [Nat.mul_one,List.drop_eq_getElem_cons (by rw [List.length_map];exact hl.1),List.getElem_map,hl.2]
 rfl
end
section
variable {Z:ZP} {w w0:World} {R:Value→World→Prop} {A:List Nat→List Value→World→Prop} {B:List Nat→Nat→List Value→World→Prop}
theorem parse_wf {b:By} (h:WfB b):WfQ (Hd.parse b).1:=by
 unfold Hd.parse
 split
 ·rename_i hc
  obtain ⟨hl,h3,hi⟩:=hc
  have hat:∀ i,0≤at0 b i∧at0 b i < 256:=by
   intro i
   unfold at0
   cases hb:b[i]? with
   | none=>simp
   | some z=>exact h z (List.mem_of_getElem? hb)
  have h4:=Hd.le4 h
  have h8:=Hd.le_max (h.drop 8) (by rw [List.length_drop];omega)
  have h8':=(Hd.le_bound (h.drop 8)).1
  exact ⟨hat 0,hat 1,hat 2,h4,⟨h8',h8⟩⟩
 ·exact ⟨by decide,by decide,by decide,by decide,by decide⟩
theorem parse_req {b:By} (h:(Hd.parse b).2=0):isReq (Hd.parse b).1=true:=by
 unfold Hd.parse at h ⊢
 split at h
 ·rename_i hc;rw [if_pos hc];exact hc.2.2
 ·cases h
structure SW (w:World):Prop where
 g:GW w
 l:Gl w
 d:DgW w
theorem SW.up {w w':World} (h:SW w) (f:Fr [] w w'):SW w':=⟨h.g.up f,h.l.up f,h.d.up f⟩
theorem piece_t {X:Option Addr} {cp:Nat} {b:By} (hr:Rw (rI .u8) w X b) (hw:WfB b) (hl:b.length≤100000) (G:SW w):Cz Tryz.prog 103 [.slice X b.length cp] w (λ r w'=>r=Tx (pieceT b)∧Fr [] w w') Z:=by
 refine go mixed Tryz.func103 Tryz.call103 rfl (Tr.e103 _) ?_
 refine r_call (Hd.Parse_t G.l hr hw) ?_
 rintro _ w1 ⟨rfl,f1⟩
 have hwq:=parse_wf hw
 refine b_as (cs:=eRequest (Hd.parse b).1) (zs:=zReq) (n:=5) (Bx.nil w1) Tryz.zeroValue42 Tryz.sizeOf42 (oReq _) (λ v3 w2 H=>?_)
 have F2:=f1.trans H.F
 unfold pieceT
 refine r_if (λ h=>?_) (λ h=>?_)
 ·rw [if_pos h]
  refine b_ldn H 0 rfl ?_
  refine r_call (Request_t _ hwq (G.up F2).g) ?_
  rintro _ w3 ⟨rfl,f3⟩
  exact r_ret ⟨by unfold reqP;rw [if_pos (parse_req h)];rfl,F2.trans f3⟩
 ·rw [if_neg h]
  refine r_hexk (λ b3 w3 e3 f3 O3=>?_)
  have F3:=F2.trans f3
  refine r_loop (λ (s:Nat × Value)=>[I (s.1:Int),s.2]) (λ s w'=>s.1≤b.length∧((s.1=0∧s.2=.slice (some ⟨b3,0,none⟩) 4 4)∨Or (rI .u8) 5 w3.heap.size [] w' s.2 ([104,101,120,32]++hexI (b.take s.1)))∧Fr [] w3 w') (λ s=>b.length-s.1) (0,.slice (some ⟨b3,0,none⟩) 4 4) ⟨Nat.zero_le _,.inl ⟨rfl,rfl⟩,Fr.refl _ _⟩ rfl ?_
  rintro ⟨i,v⟩ w4 ⟨hi,HO,F⟩
  dsimp only at hi HO
  refine r_if (λ h=>?_) (λ h=>?_)
  ·dsimp only at h
   obtain ⟨c,hc⟩:=gt (xs:=b) (j:=i) (by omega)
   have hc8:=hw.at hc
   obtain ⟨ad,es,rfl,rd,e3⟩:=(hr.up (F3.trans F)) i c hc
   obtain rfl:=e3
   refine r_ob ⟨by dsimp only;omega,by dsimp only;omega⟩ ?_
   refine r_ld (cell1 rd) ?_
   refine r_dr (λ w5 f5=>?_)
   have D:=((G.up F3).up (F.trans f5)).d
   refine r_shr8 hc8 ?_
   obtain ⟨n1,hn1⟩:∃ n:Nat,c / 16=n:=⟨(c / 16).toNat,by omega⟩
   obtain ⟨n2,hn2⟩:∃ n:Nat,c % 16=n:=⟨(c % 16).toNat,by omega⟩
   rw [hn1]
   refine r_ob ⟨by omega,by omega⟩ ?_
   refine r_ld (D n1 (by omega)) ?_
   refine r_and15 hc8 ?_
   rw [hn2]
   refine r_ob ⟨by omega,by omega⟩ ?_
   refine r_ld (D n2 (by omega)) ?_
   rcases HO with ⟨rfl,rfl⟩ | HO
   ·refine r_app2g (xs:=[104,101,120,32]) (O3.up (F.trans f5)) (by decide) (λ v' w6 O6 f6=>?_)
    refine r_ar (by omega) ?_
    refine r_ag (s:=(0,.slice (some ⟨b3,0,none⟩) 4 4)) (1,v') ⟨by dsimp only;omega,.inr ?_,(F.trans f5).trans f6⟩ (by dsimp only;omega) rfl
    dsimp only
    have e:=hexI_snoc hc
    rw [e,hn1,hn2]
    exact Cg.or_mono O6 (F.trans f5).size
   ·refine r_app2 (HO.fr0 f5) (by rw [List.length_append,hexI_len,List.length_take];simp;omega) (F.trans f5).size (λ v' w6 O6 f6=>?_)
    refine r_ar (by omega) ?_
    refine r_ag (s:=(i,v)) (i+1,v') ⟨by dsimp only;omega,.inr ?_,(F.trans f5).trans_new f6 (λ q hq=>.inr (HO.lt q hq).1)⟩ (by dsimp only;omega) rfl
    dsimp only
    rw [hexI_snoc hc,hn1,hn2,← List.append_assoc,← List.append_assoc]
    exact O6
  ·dsimp only at h
   obtain rfl:i=b.length:=by omega
   have hf:Tx (by8 ([104,101,120,32]++hexI b))=Tx (kHex++hexT b):=by
    rw [by8_app,by8_hex hw]
    rfl
   refine r_brk ?_
   rcases HO with ⟨h0,rfl⟩ | HO
   ·have hb0:b=[]:=List.eq_nil_of_length_eq_zero h0
    refine r_bstr (b:=[104,101,120,32]) (O3.up F) ?_
    refine r_ret ⟨?_,F3.trans F⟩
    rw [hb0]
    rfl
   ·rw [List.take_length] at HO
    obtain ⟨X1,c1,rfl,_,_,r1⟩:=HO.row (by rw [List.length_append,hexI_len];simp only [big,List.length_cons,List.length_nil];omega)
    refine r_bstr r1 ?_
    exact r_ret ⟨hf,F3.trans F⟩
end
end Go.Proofs.YtppodgdhdddfkaaGreatDoor.Sc
set_option linter.unusedVariables false
set_option linter.unusedSimpArgs false
namespace Go.Proofs.YtppodgdhdddfkaaGreatDoor.Sc
set_option maxRecDepth 100000
open Go Go.RowKit Go.Proofs.YtppodgdhdddfkaaGreatDoor.Sx
open Go.Proofs.YtppodgdhdddfkaaGreatDoor.Sg
open Go.Proofs.YtppodgdhdddfkaaGreatDoor.Bi (mixed take_s)
open Go.Proofs.YtppodgdhdddfkaaGreatDoor.Cg (idxP idx_wp idx_ge)
section
variable {Z:ZP} {w w0:World} {R:Value→World→Prop} {A:List Nat→List Value→World→Prop} {B:List Nat→Nat→List Value→World→Prop}
def longB (b:By):Bool:=decide (1024 < b.length)
theorem smallT_eq (t:GTick):smallT t=(decide (t.picks.length≤64) && (decide (t.bytes.length≤16) && !(t.bytes.any longB))):=by
 unfold smallT
 congr 2
 rw [List.any_eq_not_all_not,Bool.not_not]
 congr 1
 funext b
 unfold longB
 by_cases h:b.length≤1024
 ·rw [decide_eq_true h,decide_eq_false (by omega)];rfl
 ·rw [decide_eq_false h,decide_eq_true (by omega)];rfl
theorem long_t {X:Option Addr} {c:Nat} {b:By}:Cz Tryz.prog 138 [.slice X b.length c] w (λ r w'=>r=.bool (longB b)∧w'=w) Z:=by
 refine go mixed Tryz.func138 Tryz.call138 rfl (Tr.e138 _) ?_
 refine r_ret ⟨?_,rfl⟩
 show Value.bool (decide ((b.length:Int) > 1024))=_
 unfold longB
 congr 1
 by_cases h:1024 < b.length
 ·rw [decide_eq_true h,decide_eq_true (by omega)]
 ·rw [decide_eq_false h,decide_eq_false (by omega)]
theorem idxB_t {X:Option Addr} {cp:Nat} {xs:List By} (hr:Rw (rL (rI .u8)) w X xs) (hb:xs.length≤big):Cz Tryz.prog 176 [.slice X xs.length cp,.func (.func 138) #[] #[]] w (λ r w'=>r=I (idxP longB xs)∧w'=w) Z:=by
 refine go mixed Tryz.func176 Tryz.call176 rfl (Tr.e176 _ _) ?_
 simp only [big] at hb
 refine r_loop (λ (i:Nat)=>[I (i:Int),I 0]) (λ i w'=>i≤xs.length∧(∀ (j:Nat) y,j < i→xs[j]? = some y→longB y=false)∧w'=w) (λ i=>xs.length-i) 0 ⟨Nat.zero_le _,λ _ _ h=>by omega,rfl⟩ rfl ?_
 rintro i w1 ⟨hi,hno,rfl⟩
 refine r_if (λ h=>?_) (λ h=>?_)
 ·obtain ⟨y,hy⟩:=gt (xs:=xs) (j:=i) (by omega)
  obtain ⟨ad,es,rfl,rd,Xy,cy,rfl,_⟩:=hr i y hy
  refine r_ob ⟨by omega,by omega⟩ ?_
  refine r_ld (cell1 rd) ?_
  refine r_call long_t ?_
  rintro _ w2 ⟨rfl,rfl⟩
  refine r_ifb (λ e=>?_) (λ e=>?_)
  ·have hlt:i < xs.length:=(List.getElem?_eq_some_iff.1 hy).1
   have:idxP longB xs=i:=by
    unfold idxP
    rw [(List.findIdx?_eq_some_iff_getElem).2 ⟨hlt,by rw [← (List.getElem?_eq_some_iff.1 hy).2] at e;exact e,λ j hj=>by rw [Bool.not_eq_true];exact hno j _ hj (List.getElem?_eq_getElem (by omega))⟩]
   rw [this]
   exact r_ret ⟨rfl,rfl⟩
  ·refine r_ar (by omega) ?_
   refine r_ag (i+1) ⟨by omega,λ j y' hj hy'=>?_,rfl⟩ (by omega) rfl
   rcases Nat.lt_or_ge j i with h' | h'
   ·exact hno j y' h' hy'
   ·obtain rfl:j=i:=by omega
    rw [hy] at hy';cases hy';exact e
 ·refine r_brk ?_
  have:idxP longB xs = -1:=by
   unfold idxP
   rw [List.findIdx?_eq_none_iff.2 (λ x hx=>by
    obtain ⟨j,hj⟩:=List.getElem?_of_mem hx
    have:=(List.getElem?_eq_some_iff.1 hj).1
    exact hno j x (by omega) hj)]
  rw [this]
  exact r_ret ⟨rfl,rfl⟩
theorem smallTick_t {cs:List Value} {t:GTick} (ht:rTick.r w cs t):Cz Tryz.prog 92 [.agg cs.toArray] w (λ r w'=>r=.bool (smallT t)∧Fr [] w w') Z:=by
 obtain ⟨A0,c0,A1,c1,rfl,k0,k1⟩:=oTick ht
 rw [smallT_eq]
 refine go mixed Tryz.func92 Tryz.call92 rfl (Tr.e92 _) ?_
 refine r_box (cs:=[.slice A0 t.bytes.length c0,.slice A1 t.picks.length c1]) (λ v1 w1 e1 B1 f1=>?_)
 refine r_ld (B1.cell (o:=1) rfl) ?_
 refine r_if (λ h=>?_) (λ h=>?_)
 ·rw [decide_eq_true (show t.picks.length≤64 by omega),Bool.true_and]
  refine r_ld (B1.cell (o:=0) rfl) ?_
  refine r_if (λ h2=>?_) (λ h2=>?_)
  ·rw [decide_eq_true (show t.bytes.length≤16 by omega),Bool.true_and]
   refine r_ld (B1.cell (o:=0) rfl) ?_
   have cont:Cz Tryz.prog 139 [.slice A0 t.bytes.length c0,.func (.func 138) #[] #[]] w1 (λ r w'=>r=.bool (t.bytes.any longB)∧w'=w1) Z:=by
    refine go mixed Tryz.func139 Tryz.call139 rfl (Tr.e139 _ _) ?_
    refine r_call (idxB_t (k0.2.2.up f1) k0.2.1) ?_
    rintro _ w2 ⟨rfl,rfl⟩
    exact r_ret ⟨by rw [← idx_ge],rfl⟩
   refine r_call cont ?_
   rintro _ w2 ⟨rfl,rfl⟩
   exact r_ret ⟨rfl,f1⟩
  ·rw [decide_eq_false (show ¬ t.bytes.length≤16 by omega)]
   exact r_ret ⟨rfl,f1⟩
 ·rw [decide_eq_false (show ¬ t.picks.length≤64 by omega)]
  exact r_ret ⟨rfl,f1⟩
theorem big_t {cs:List Value} {t:GTick} (ht:rTick.r w cs t):Cz Tryz.prog 91 [.agg cs.toArray] w (λ r w'=>r=.bool (!smallT t)∧Fr [] w w') Z:=by
 have hl:=rTick.len ht
 refine go mixed Tryz.func91 Tryz.call91 rfl (Tr.e91 _) ?_
 refine r_box (cs:=cs) (λ v1 w1 e1 B1 f1=>?_)
 refine r_ldn (B1.rd hl) ?_
 refine r_call (smallTick_t (rTick.up f1 ht)) ?_
 rintro _ w2 ⟨rfl,f2⟩
 exact r_ret ⟨rfl,f1.trans f2⟩
theorem smallS_eq (l:List GTick):smallS l=(decide (l.length≤4096) && !(l.any λ t=>!smallT t)):=by
 unfold smallS
 rw [List.any_eq_not_all_not,Bool.not_not]
 simp
theorem small_t {X:Option Addr} {cp:Nat} {l:List GTick} (hr:Rw rTick w X l) (hb:l.length≤big):Cz Tryz.prog 53 [.slice X l.length cp] w (λ r w'=>r=.bool (smallS l)∧Fr [] w w') Z:=by
 rw [smallS_eq]
 refine go mixed Tryz.func53 Tryz.call53 rfl (Tr.e53 _) ?_
 refine r_if (λ h=>?_) (λ h=>?_)
 ·rw [decide_eq_true (show l.length≤4096 by omega),Bool.true_and]
  have cont:Cz Tryz.prog 93 [.slice X l.length cp,.func (.func 91) #[] #[]] w (λ r w'=>r=.bool (l.any λ t=>!smallT t)∧Fr [] w w') Z:=by
   refine go mixed Tryz.func93 Tryz.call93 rfl (Tr.e93 _ _) ?_
   have ix:Cz Tryz.prog 140 [.slice X l.length cp,.func (.func 91) #[] #[]] w (λ r w'=>r=I (idxP (λ t=>!smallT t) l)∧Fr [] w w') Z:=by
    refine go mixed Tryz.func140 Tryz.call140 rfl (Tr.e140 _ _) ?_
    exact idx_wp (λ t=>!smallT t) hr hb rfl (λ w1 es x _ hx=>big_t hx) (λ w' F=>⟨rfl,F⟩)
   refine r_call ix ?_
   rintro _ w2 ⟨rfl,f2⟩
   exact r_ret ⟨by rw [← idx_ge],f2⟩
  refine r_call cont ?_
  rintro _ w2 ⟨rfl,f2⟩
  exact r_ret ⟨rfl,f2⟩
 ·rw [decide_eq_false (show ¬ l.length≤4096 by omega)]
  exact r_ret ⟨rfl,Fr.refl _ _⟩
end
end Go.Proofs.YtppodgdhdddfkaaGreatDoor.Sc
set_option linter.unusedVariables false
set_option linter.unusedSimpArgs false
namespace Go.Proofs.YtppodgdhdddfkaaGreatDoor.Sc
set_option maxRecDepth 100000
open Go Go.RowKit Go.Proofs.YtppodgdhdddfkaaGreatDoor.Sx
open Go.Proofs.YtppodgdhdddfkaaGreatDoor.Sg
open Go.Proofs.YtppodgdhdddfkaaGreatDoor.Bi (mixed take_s)
open Go.Proofs.YtppodgdhdddfkaaGreatDoor.Hd (WfB isReq rtB zR at0 le reqOf Gl)
open Go.Proofs.YtppodgdhdddfkaaGreatDoor.Cg (StL)
theorem rowsL_app (k:Nat) (l r:List By):rowsL k (l++r)=rowsL k l++rowsL (k+l.length) r:=by
 induction l generalizing k with
 | nil=>rfl
 | cons b l ih=>rw [List.cons_append,rowsL,rowsL,ih,List.append_assoc,List.length_cons,show k+1+l.length=k+(l.length+1) by omega]
theorem rowsL_take {bs:List By} {i:Nat} {b:By} (h:bs[i]? = some b):rowsL 0 (bs.take (i+1))=rowsL 0 (bs.take i)++rowL i b:=by
 have hi:=(List.getElem?_eq_some_iff.1 h).1
 rw [take_s h,rowsL_app,List.length_take,show 0+min i bs.length=i by omega]
 show _++(rowL i b++[])=_
 rw [List.append_nil]
theorem tickL_get {t:GTick} {i k:Nat} {b:By} {z:Bs} (h:t.bytes[i]? = some b) (hz:(rowL i b)[k]? = some z):(tickL t)[1+(rowsL 0 (t.bytes.take i)).length+k]? = some z:=by
 have e:rowsL 0 t.bytes=rowsL 0 (t.bytes.take i)++(rowL i b++rowsL (0+(t.bytes.take (i+1)).length) (t.bytes.drop (i+1))):=by
  conv=>lhs;rw [← List.take_append_drop (i+1) t.bytes]
  rw [rowsL_app,rowsL_take h,List.append_assoc]
 unfold tickL
 rw [show 1+(rowsL 0 (t.bytes.take i)).length+k=((rowsL 0 (t.bytes.take i)).length+k)+1 by omega,List.getElem?_cons_succ,e,List.getElem?_append_right (by omega),Nat.add_sub_cancel_left,List.getElem?_append_left (List.getElem?_eq_some_iff.1 hz).1]
 exact hz
theorem tickL_len (t:GTick):(tickL t).length=1+(rowsL 0 (t.bytes.take t.bytes.length)).length:=by
 rw [List.take_length];unfold tickL;rw [List.length_cons];omega
structure WfG (t:GTick):Prop where
 b:∀ b∈t.bytes,WfB b
 p:∀ n∈t.picks,in64 n
theorem small_parts {t:GTick} (h:smallT t=true):t.picks.length≤64∧t.bytes.length≤16∧∀ b∈t.bytes,b.length≤1024:=by
 unfold smallT at h
 simp only [Bool.and_eq_true,decide_eq_true_eq,List.all_eq_true] at h
 exact ⟨h.1,h.2.1,h.2.2⟩
theorem hexT_len (b:By):(hexT b).length=2 * b.length:=by
 induction b with
 | nil=>rfl
 | cons c r ih=>unfold hexT at *;rw [List.flatMap_cons,List.length_append,ih];simp;omega
theorem reqT_len {q:GRequest} (hw:WfQ q):(reqT q).length≤70:=by
 unfold reqT
 obtain ⟨h0,h1,h2,h3,h4⟩:=hw
 have hu:u64s (argsQ q):=by
  unfold argsQ u64s
  repeat' split
  all_goals intro n hn;simp at hn
  all_goals omega
 have h1:=flat_len hu
 have h2:=word_len q.kind
 have h3:(argsQ q).length≤3:=by unfold argsQ;repeat' split
                                all_goals simp
 rw [List.length_append]
 omega
theorem pieceT_len {x:By} (hw:WfB x) (hl:x.length≤16):(pieceT x).length≤70:=by
 unfold pieceT
 split
 ·exact reqT_len (parse_wf hw)
 ·rw [List.length_append,hexT_len];simp [kHex];omega
theorem lineB_len {i:Nat} {x:By} (hi:i < 1000) (hw:WfB x) (hl:x.length≤16):(lineB i x).length≤100:=by
 have h1:=pieceT_len hw hl
 have h2:=itoa_len (i:Int) (by unfold in64;omega)
 unfold lineB
 simp only [List.length_append,List.length_cons,List.length_nil]
 omega
theorem rowL_len {i:Nat} {b:By} (hi:i < 1000) (hw:WfB b):(∀ l∈rowL i b,l.length≤100)∧(rowL i b).length≤b.length:=by
 refine ⟨λ l hl=>?_,by unfold rowL;rw [List.length_map];exact Hd.split_len _ _⟩
 obtain ⟨x,hx,rfl⟩:=List.mem_map.1 hl
 obtain ⟨h1,h2⟩:=Hd.split_wf hw x hx
 exact lineB_len hi h1 h2
theorem rowsL_len:∀ (bs:List By) (k:Nat),k+bs.length≤1000→(∀ b∈bs,WfB b∧b.length≤1024)→(∀ l∈rowsL k bs,l.length≤100)∧(rowsL k bs).length≤1024 * bs.length:=by
 intro bs
 induction bs with
 | nil=>intro k _ _;exact ⟨λ l h=>(nomatch h),by simp [rowsL]⟩
 | cons b r ih =>
  intro k hk h
  rw [List.length_cons] at hk
  obtain ⟨h1,h2⟩:=ih (k+1) (by omega) (λ x hx=>h x (by simp [hx]))
  obtain ⟨hb,hb2⟩:=h b (by simp)
  obtain ⟨h3,h4⟩:=rowL_len (i:=k) (b:=b) (by omega) hb
  rw [rowsL]
  refine ⟨λ l hl=>?_,by rw [List.length_append,List.length_cons];omega⟩
  rcases List.mem_append.1 hl with hl | hl
  ·exact h3 l hl
  ·exact h1 l hl
theorem tickB_len {t:GTick} (hw:WfG t) (hs:smallT t=true):(tickB t).length≤1500:=by
 obtain ⟨h1,h2,h3⟩:=small_parts hs
 have:=nums_len t.picks hw.p
 unfold tickB
 simp only [List.length_append,List.length_cons,List.length_nil,kTick]
 omega
theorem tickL_lens {t:GTick} (hw:WfG t) (hs:smallT t=true):(∀ l∈tickL t,l.length≤1500)∧(tickL t).length≤16385∧(tickL t).flatten.length≤30000000:=by
 obtain ⟨h1,h2,h3⟩:=small_parts hs
 obtain ⟨h4,h5⟩:=rowsL_len t.bytes 0 (by omega) (λ b hb=>⟨hw.b b hb,h3 b hb⟩)
 have h6:∀ l∈tickL t,l.length≤1500:=λ l hl=>by
  unfold tickL at hl
  rcases List.mem_cons.1 hl with rfl | hl
  ·exact tickB_len hw hs
  ·exact Nat.le_trans (h4 l hl) (by omega)
 have h7:(tickL t).length≤16385:=by unfold tickL;rw [List.length_cons];omega
 refine ⟨h6,h7,?_⟩
 have:=Cg.flat_len (tickL t) 1500 h6
 omega
theorem _root_.Go.Proofs.YtppodgdhdddfkaaGreatDoor.Sx.Rg.rowV {α:Type} {P:Program} {w w':World} {e:Rl α} {L:Nat} {σ:Type} {st:σ→List Value→σ→Prop} {J:List Nat→σ→World→Prop} {K:List Nat→World→Prop} (RG:Rg P L st J K) {V:List Nat} {s:σ} {v:Value} {base ty:Nat} {S:List Nat} {xs:List α} (h0:J V s w) (HO:Or e ty base S w' v xs) (hb:w.heap.size≤base) (f:Fr [] w w'):J (v.ownBlock.toList++V) s w':=by
 obtain ⟨cells,HO,_⟩:=HO
 cases hv:v.ownBlock with
 | none=>exact (RG.js s).1 _ _ _ h0 (f.mono (by simp))
 | some g=>exact (RG.js s).1 _ _ _ ((RG.js s).2 _ _ g h0 (Nat.le_trans hb (HO.lt g hv).1)) (f.mono (by simp))
section
variable {Z:ZP} {w w0:World}
theorem slines_t {cs:List Value}:Cz Tryz.prog 61 [.agg cs.toArray] w (λ r w'=>∃ b,r=.func (.func 100) [].toArray [Pt b 0].toArray∧Blk w' b 76 cs∧w.heap.size≤b∧Fr [] w w') Z:=by
 refine go mixed Tryz.func61 Tryz.call61 rfl (Tr.e61 _) ?_
 exact r_box (λ b w' hb B f=>r_ret ⟨b,rfl,B,by omega,f⟩)
theorem slines1_it {cs:List Value} {t:GTick} {b0:Nat} (ht:rTick.r w0 cs t) (hw:WfG t) (hs:smallT t=true) (G:SW w0) {L:Nat} {J:List Nat→Nat→World→Prop} {K:List Nat→World→Prop} (RG:Rg Tryz.prog L (StL (tickL t)) J K)
  (hb:∀ V m w,J V m w→Fr [] w0 w∧Blk w b0 76 cs) (h0:J [] 0 w) :
  Cz Tryz.prog 100 [.func (.yield L) #[] #[],Pt b0 0] w (λ _ w'=>∃ V,J V (tickL t).length w'∨K V w') Z:=by
 obtain ⟨A0,c0,A1,c1,rfl,k0,k1⟩:=oTick ht
 obtain ⟨q1,q2,q3⟩:=small_parts hs
 refine go mixed Tryz.func100 Tryz.call100 rfl (Tr.e100 _ _) ?_
 obtain ⟨F,B0⟩:=hb _ _ _ h0
 refine r_ld (B0.cell (o:=1) rfl) ?_
 refine r_loop (λ (i:Nat)=>[I (i:Int),Tx (kTick++nums (t.picks.take i))]) (λ i w'=>i≤t.picks.length∧Fr [] w w') (λ i=>t.picks.length-i) 0 ⟨Nat.zero_le _,Fr.refl _ _⟩ (by simp [nums,kTick]) ?_
 rintro i w2 ⟨hi,F2⟩
 refine r_if (λ h=>?_) (λ h=>?_)
 ·obtain ⟨y,hy⟩:=gt (xs:=t.picks) (j:=i) (by omega)
  have hy64:=hw.p y (List.mem_of_getElem? hy)
  have h1:=itoa_len y hy64
  have h2:=nums_len (t.picks.take i) (λ n h=>hw.p n (List.mem_of_mem_take h))
  rw [List.length_take] at h2
  obtain ⟨ad,es,rfl,rd,e3⟩:=(k1.2.2.up (F.trans F2)) i y hy
  obtain rfl:=e3
  refine r_ob ⟨by omega,by omega⟩ ?_
  refine r_ld (Cf.cell_int rd) ?_
  refine r_call (Itoa_t y hy64 (G.up (F.trans F2)).g.t) ?_
  rintro _ w3 ⟨rfl,f3⟩
  refine r_cat (a:=[32]) (by simp only [List.length_cons,List.length_nil];omega) ?_
  refine r_cat (by simp [kTick];omega) ?_
  refine r_ar (by omega) ?_
  refine r_ag (i+1) ⟨by omega,F2.trans f3⟩ (by omega) ?_
  rw [take_s hy,nums_app]
  simp [nums,num]
 obtain rfl:i=t.picks.length:=by omega
 have hb1:=tickB_len hw hs
 have hb2:(kTick++nums t.picks).length≤1500:=by unfold tickB at hb1;rw [List.length_append] at hb1;omega
 refine r_brk ?_
 rw [List.take_length]
 refine r_cat (b:=[10]) (by simp only [List.length_cons,List.length_nil];omega) ?_
 have hJ2:=(RG.js _).1 _ _ _ h0 F2
 refine r_yld (RG.yd [] 0 1 _ _ hJ2 (λ q hq=>(nomatch hq)) ⟨tickB t,rfl,rfl,rfl⟩) ?_
 rintro v w3 ⟨⟨rfl,hJ3⟩ | ⟨rfl,hK⟩,_,_⟩
 rotate_left
 ·exact r_ret ⟨[],.inr hK⟩
 obtain ⟨F3,B3⟩:=hb _ _ _ hJ3
 refine r_ld (B3.cell (o:=0) rfl) ?_
 refine r_loop (λ (i:Nat)=>[I (i:Int)]) (λ i W=>i≤t.bytes.length∧∃ V,J V (1+(rowsL 0 (t.bytes.take i)).length) W∧∀ q∈V,q < W.heap.size) (λ i=>t.bytes.length-i) 0 ⟨Nat.zero_le _,[],hJ3,λ q hq=>(nomatch hq)⟩ rfl ?_
 rintro i W ⟨hi,V,hJ,hV⟩
 obtain ⟨FW,BW⟩:=hb _ _ _ hJ
 refine r_if (λ h=>?_) (λ h=>?_)
 ·obtain ⟨b,hbi⟩:=gt (xs:=t.bytes) (j:=i) (by omega)
  have hwb:=hw.b b (List.mem_of_getElem? hbi)
  have hbl:=q3 b (List.mem_of_getElem? hbi)
  obtain ⟨ad,es,rfl,rd,Y,cy,rfl,y1,y2,y3⟩:=k0.2.2 i b hbi
  refine r_ob ⟨by omega,by omega⟩ ?_
  refine r_ld (cell1 (rd.fr FW)) ?_
  refine r_call (Hd.Split_t (cp:=cy) (m:=b.length) y3 y2 y1 (by omega)) ?_
  rintro r W4 ⟨HO,f4⟩
  have hsl:=Hd.split_len b.length b
  have hJ4:=RG.rowV hJ HO (Nat.le_refl _) f4
  obtain ⟨S,sc,rfl,s1,s2,s3⟩:=HO.row (by simp only [big];omega)
  obtain ⟨V2,hV2⟩:∃ V2,V2=(Value.slice S (Hd.split b.length b).length sc).ownBlock.toList++V:=⟨_,rfl⟩
  rw [← hV2] at hJ4
  have hlt4:∀ q∈V2,q < W4.heap.size:=λ q hq=>by
   rw [hV2] at hq
   rcases List.mem_append.1 hq with hq | hq
   ·exact (HO.lt q hq).2
   ·exact Nat.lt_of_lt_of_le (hV q hq) f4.size
  refine r_loop (λ (k:Nat)=>[I (k:Int)]) (λ k W5=>k≤(Hd.split b.length b).length∧J V2 (1+(rowsL 0 (t.bytes.take i)).length+k) W5∧(∀ q∈V2,q < W5.heap.size)∧Or ((rL (rI .u8)).at w0) 48 W.heap.size [] W5 (.slice S (Hd.split b.length b).length sc) (Hd.split b.length b)) (λ k=>(Hd.split b.length b).length-k) 0 ⟨Nat.zero_le _,hJ4,hlt4,HO⟩ rfl ?_
  rintro k W5 ⟨hk,hJ5,hlt5,HO5⟩
  refine r_if (λ h5=>?_) (λ h5=>?_)
  ·obtain ⟨x,hx⟩:=gt (xs:=Hd.split b.length b) (j:=k) (by omega)
   obtain ⟨x1,x2⟩:=Hd.split_wf hwb x (List.mem_of_getElem? hx)
   have hz:(rowL i b)[k]? = some (lineB i x):=by unfold rowL;rw [List.getElem?_map,hx];rfl
   obtain ⟨_,_,e0,_,_,s5⟩:=HO5.row (by simp only [big];omega)
   cases e0
   obtain ⟨ad2,es2,rfl,rd2,Y2,cy2,rfl,u1,u2,u3⟩:=s5 k x hx
   obtain ⟨F5,_⟩:=hb _ _ _ hJ5
   have hi64:in64 (i:Int):=by unfold in64;omega
   have l1:=itoa_len (i:Int) hi64
   have l2:=pieceT_len x1 x2
   refine r_ob ⟨by omega,by omega⟩ ?_
   refine r_ld (cell1 rd2) ?_
   refine r_call (Itoa_t (i:Int) hi64 (G.up F5).g.t) ?_
   rintro _ W6 ⟨rfl,f6⟩
   refine r_cat (b:=[32]) (by simp only [List.length_cons,List.length_nil];omega) ?_
   refine r_call (piece_t (u3.up (F5.trans f6)) x1 (by omega) (G.up (F5.trans f6))) ?_
   rintro _ W7 ⟨rfl,f7⟩
   refine r_cat (by simp only [List.length_append,List.length_cons,List.length_nil];omega) ?_
   refine r_cat (b:=[10]) (by simp only [List.length_append,List.length_cons,List.length_nil];omega) ?_
   have f67:=f6.trans f7
   have hJ7:=(RG.js _).1 _ _ _ hJ5 (f67.mono (by simp))
   have HO7:=HO5.fr0 f67
   refine r_yld (RG.yd V2 _ (1+(rowsL 0 (t.bytes.take i)).length+(k+1)) _ _ hJ7 (λ q hq=>Nat.lt_of_lt_of_le (hlt5 q hq) f67.size) ⟨lineB i x,tickL_get hbi hz,rfl,rfl⟩) ?_
   rintro v W8 ⟨⟨rfl,hJ8⟩ | ⟨rfl,hK⟩,hsz,hkeep⟩
   ·refine r_ar (z:=(k:Int)+1) (by omega) ?_
    exact r_ag (k+1) ⟨by omega,hJ8,λ q hq=>Nat.lt_of_lt_of_le (hlt5 q hq) (Nat.le_trans f67.size hsz),HO7.keepP (plainAt _ _) (λ q hq=>hkeep q (by rw [hV2];exact List.mem_append.2 (.inl hq)))⟩ (by omega) rfl
   ·exact r_ret ⟨V2,.inr hK⟩
  ·obtain rfl:k=(Hd.split b.length b).length:=by omega
   refine r_brk ?_
   refine r_ar (by omega) ?_
   refine r_ag (i+1) ⟨by omega,V2,?_,hlt5⟩ (by omega) rfl
   rw [rowsL_take hbi,List.length_append,show (rowL i b).length=(Hd.split b.length b).length by unfold rowL;rw [List.length_map],← Nat.add_assoc]
   exact hJ5
 ·obtain rfl:i=t.bytes.length:=by omega
  refine r_brk (r_ret ⟨V,.inl ?_⟩)
  rw [tickL_len]
  exact hJ
end
end Go.Proofs.YtppodgdhdddfkaaGreatDoor.Sc
set_option linter.unusedVariables false
set_option linter.unusedSimpArgs false
namespace Go.Proofs.YtppodgdhdddfkaaGreatDoor.Sx
open Go Go.RowKit
section
variable {P:Program} {Z:ZP} {R:Value→World→Prop} {w:World} {A:List Nat→List Value→World→Prop} {B:List Nat→Nat→List Value→World→Prop} {ds:List Nat}
theorem r_loopD {vs:List Value} {body:List Value→T} {after:Nat→List Value→T} {σ:Type} (st:σ→List Value) (J:List Nat→σ→World→Prop) (μ:σ→Nat) (s0:σ) (h0:J ds s0 w) (hs:st s0=vs)
  (h:∀ ds s w,J ds s w→wp P Z R ds (body (st s)) w (λ ds' vs' w'=>∃ s',st s'=vs'∧μ s' < μ s∧J ds' s' w') (λ ds' i vs' w'=>wp P Z R ds' (after i vs') w' A B)):wp P Z R ds (.loop vs body after) w A B:=
 ⟨σ,st,J,μ,s0,hs,h0,h⟩
theorem r_agD {σ:Type} {st:σ→List Value} {J:List Nat→σ→World→Prop} {μ:σ→Nat} {s:σ} {vs:List Value} (s':σ) (hJ:J ds s' w) (hlt:μ s' < μ s) (hs:st s'=vs):wp P Z R ds (.again vs) w (λ ds' vs' w'=>∃ s',st s'=vs'∧μ s' < μ s∧J ds' s' w') B:=⟨s',hs,hlt,hJ⟩
theorem r_retD {v:Value} (hn:ds.Nodup) (hd:∀ q∈ds,w.heap[q]? = some (.deferred (some []))) (h:∀ w',Fr ds w w'→R v w'):wp P Z R ds (.ret v) w A B:=by
 cases ds with
 | nil=>exact h w (Fr.refl [] w)
 | cons D ds=>exact ⟨hn,hd,h⟩
end
end Go.Proofs.YtppodgdhdddfkaaGreatDoor.Sx
namespace Go.Proofs.YtppodgdhdddfkaaGreatDoor.Sc
set_option maxRecDepth 100000
open Go Go.RowKit Go.Proofs.YtppodgdhdddfkaaGreatDoor.Sx
open Go.Proofs.YtppodgdhdddfkaaGreatDoor.Sg
open Go.Proofs.YtppodgdhdddfkaaGreatDoor.Bi (mixed take_s)
open Go.Proofs.YtppodgdhdddfkaaGreatDoor.Cg (StL textP strP)
theorem scrL_take {l:List GTick} {i:Nat} {t:GTick} (h:l[i]? = some t):scrL (l.take (i+1))=scrL (l.take i)++tickL t:=by
 unfold scrL
 rw [take_s h,List.flatMap_append]
 simp
theorem scrB_len {l:List GTick} (hw:∀ t∈l,WfG t∧smallT t=true):(scrL l).flatten.length≤30000000 * l.length:=by
 induction l with
 | nil=>simp [scrL]
 | cons t r ih =>
  have h1:=ih (λ x hx=>hw x (by simp [hx]))
  obtain ⟨h2,h3⟩:=hw t (by simp)
  have h4:=(tickL_lens h2 h3).2.2
  unfold scrL at *
  rw [List.flatMap_cons,List.flatten_append,List.length_append,List.length_cons]
  omega
theorem smallS_parts {l:List GTick} (h:smallS l=true):l.length≤4096∧∀ t∈l,smallT t=true:=by
 unfold smallS at h
 simp only [Bool.and_eq_true,decide_eq_true_eq,List.all_eq_true] at h
 exact h
theorem textP_len {c:GConf}:(textP c).1.length≤65536:=by
 unfold Cg.textP
 split
 ·simp
 ·split
  ·simp
  ·dsimp only;omega
section
variable {Z:ZP} {w:World}
theorem sText_t {cs:List Value} {c:GConf} {X:Option Addr} {cp:Nat} {l:List GTick} (hc:rConf.r w cs c) (hi:Cg.In64 c) (hr:Rw rTick w X l) (hb:l.length≤big) (hw:∀ t∈l,WfG t) (G:SW w):Cz Tryz.prog 25 [.agg cs.toArray,.slice X l.length cp] w (λ r w'=>r=.tuple #[Tx (textS c l).1,I (textS c l).2]∧Fr [] w w') Z:=by
 have hlc:=rConf.len hc
 refine go mixed Tryz.func25 Tryz.call25 rfl (Tr.e25 _ _) ?_
 refine b_box (Bx.nil w) (λ v2 w1 H=>?_)
 refine b_call (v:=.bool (smallS l)) H (small_t (hr.up H.F) hb) (λ w2 H=>?_)
 refine r_ifbn (λ hs=>b_ret H (λ F=>⟨by unfold textS;rw [if_pos hs],F⟩)) (λ hs=>?_)
 have hsf:smallS l≠false:=by rw [hs];decide
 obtain ⟨q1,q2⟩:=smallS_parts hs
 refine b_ldn H 0 rfl ?_ hlc
 refine b_call (v:=.tuple #[Tx (textP c).1,I (textP c).2]) H (Cg.Text_t (rConf.up H.F hc) hi (G.up H.F).g) (λ w3 H=>?_)
 refine r_if (λ h=>b_ret H (λ F=>⟨by unfold textS;rw [if_neg hsf,if_pos h];rfl,F⟩)) (λ h0=>?_)
 refine b_al (zs:=[.pointer none,.slice none 0 0]) H Tryz.zeroValue111 (λ v8 w4 H=>?_)
 have hv8:=H.ge (i:=0) rfl
 have hpl:=textP_len (c:=c)
 refine r_call (WriteString_t (Bd.new (H.blk (i:=0) rfl) hv8) (textP c).1 (by simp only [big,List.length_nil];omega) H.F.size) ?_
 rintro _ w5 ⟨rfl,u0,hB0,f5,hu0⟩
 have F5:Fr [] w w5:=H.F.trans_new f5 (λ q hq=>by
  rcases List.mem_cons.1 hq with rfl | hq
  ·exact .inr hv8
  ·simp [Value.ownBlock] at hq)
 refine r_loopD (λ (i:Nat)=>[I (i:Int)]) (λ ds i W=>i≤l.length∧Fr [] w W∧ds.Nodup∧∃ v,Bd w.heap.size W v8 v ((textP c).1++(scrL (l.take i)).flatten)∧∀ q∈ds,W.heap[q]? = some (.deferred (some []))∧w.heap.size≤q∧q∉v8 :: v.ownBlock.toList) (λ i=>l.length-i) 0 ⟨Nat.zero_le _,F5,List.nodup_nil,u0,by simpa [scrL] using hB0,λ q hq=>(nomatch hq)⟩ rfl ?_
 rintro ds i W ⟨hil,F,hnd,v,hB,hds⟩
 have hpre:=scrB_len (l:=l.take i) (λ t ht=>⟨hw t (List.mem_of_mem_take ht),q2 t (List.mem_of_mem_take ht)⟩)
 rw [List.length_take] at hpre
 refine r_if (λ h=>?_) (λ h=>?_)
 ·obtain ⟨t,ht⟩:=gt (xs:=l) (j:=i) (by omega)
  have htw:=hw t (List.mem_of_getElem? ht)
  have hts:=q2 t (List.mem_of_getElem? ht)
  obtain ⟨ad,es,rfl,rd,e3⟩:=hr i t ht
  refine r_ob ⟨by omega,by omega⟩ ?_
  refine r_ldn (rd.fr F) ?_
  refine r_as (cs:=es) (zs:=[.slice none 0 0,.slice none 0 0]) (n:=2) (λ x w6 hx Xb f6=>?_) Tryz.zeroValue76 Tryz.sizeOf76 (rTick.one e3) rfl rfl rfl rd.1
  refine r_ldn (Xb.rd rd.1) ?_
  refine r_call slines_t ?_
  rintro _ w7 ⟨b,rfl,Bb,hbl,f7⟩
  have f67:=f6.trans f7
  have F7:=F.trans f67
  have hB7:Bd w.heap.size w7 v8 v ((textP c).1++(scrL (l.take i)).flatten):=hB.st f67 (by simp) (by simp)
  obtain ⟨l1,l2,l3⟩:=tickL_lens htw hts
  have hv8l:v8 < W.heap.size:=let ⟨_,_,hb⟩:=hB.bl;hb.lt
  have hvl:=λ q hq=>own_lt hB.ow q hq
  have hb7:b < w7.heap.size:=Bb.lt
  refine r_rf (StL (tickL t)) (λ n bs W'=>∃ u,Bd w.heap.size W' v8 u (((textP c).1++(scrL (l.take i)).flatten)++((tickL t).take n).flatten)∧bs=v8 :: u.ownBlock.toList∧Fr (v8 :: v.ownBlock.toList) w7 W'∧∀ q∈u.ownBlock.toList,q∈v.ownBlock.toList∨w7.heap.size≤q) (λ _ _ _=>False) 0 (tickL t).length (v8 :: v.ownBlock.toList) Tryz.call100 ?_ ?_ ?_ ?_ ?_ ?_ ?_ ?_ ?_
  ·exact ⟨v,by simpa using hB7,rfl,(Fr.refl [] w7).of0,λ q hq=>.inl hq⟩
  ·rintro n bs W1 W2 S ⟨u,h1,rfl,h3,h4⟩ f hS
   exact ⟨u,h1.st f (λ hq=>(hS v8 hq).1 (by simp)) (λ q hq hv=>(hS q hq).1 (List.mem_cons_of_mem _ hv)),rfl,h3.trans_new f (λ q hq=>.inr (hS q hq).2),h4⟩
  ·intro j bs W W' S h;exact h.elim
  ·rintro n bs W1 ⟨u,h1,rfl,h3,h4⟩
   refine ⟨λ q hq=>?_,h3.size⟩
   rcases List.mem_cons.1 hq with rfl | hq
   ·obtain ⟨_,_,hb⟩:=h1.bl;exact hb.lt
   ·exact (own_lt h1.ow q hq).2
  ·intro j bs W h;exact h.elim
  ·rintro L a0 b0 n n' xs bs W1 hLb hwL hLW ⟨u,h1,rfl,h3,h4⟩ hLa ⟨z,hz,rfl,rfl⟩
   refine ⟨rfl,?_⟩
   refine r_rb hLa (λ w8 f8 hL8=>?_)
   have h18:=h1.st f8 (λ hq=>hLb (by simp at hq;simp [hq])) (λ q hq hv=>hLb (by simp at hq;subst hq;simp [hv]))
   have hn:n < (tickL t).length:=(List.getElem?_eq_some_iff.1 hz).1
   have hz2:=l1 z (List.mem_of_getElem? hz)
   have hfl:((tickL t).take n).flatten.length≤30000000:=by
    have:=Cg.flat_len ((tickL t).take n) 1500 (λ l h=>l1 l (List.mem_of_mem_take h))
    rw [List.length_take] at this
    omega
   have hbase:w.heap.size≤w8.heap.size:=by have:=F7.size;have:=h3.size;have:=f8.size;omega
   refine r_call (WriteString_t h18 z (by simp only [big,List.length_append];omega) hbase) ?_
   rintro _ w9 ⟨rfl,u',h19,f9,hq9⟩
   have hL9:w9.heap[L]? = some b0:=(f9.keep L (Array.getElem?_eq_some_iff.1 hL8).1 (λ hq=>hLb hq)).trans hL8
   refine ⟨⟨v8 :: u'.ownBlock.toList,⟨u',?_,rfl,?_,λ q hq=>?_⟩,λ q hq=>?_⟩,?_,hL9⟩
   ·rw [take_s hz,List.flatten_append,← List.append_assoc];simpa using h19
   ·refine (h3.trans_new f8 (λ q hq=>.inr (by simp at hq;omega))).trans_new f9 (λ q hq=>?_)
    rcases List.mem_cons.1 hq with rfl | hq
    ·exact .inl (by simp)
    ·rcases h4 q hq with h | h
     ·exact .inl (List.mem_cons_of_mem _ h)
     ·exact .inr h
   ·rcases hq9 q hq with h | h
    ·exact h4 q h
    ·have:=h3.size;have:=f8.size;exact .inr (by omega)
   ·rcases List.mem_cons.1 hq with rfl | hq
    ·exact .inl (by simp)
    ·rcases hq9 q hq with h | h
     ·exact .inl (List.mem_cons_of_mem _ h)
     ·exact .inr (Nat.le_trans f8.size h)
   ·exact (f8.mono (by simp)).trans (f9.mono (λ q hq=>List.mem_cons_of_mem _ hq))
  ·intro L D J K w1' RG hJ h0
   refine slines1_it (w0:=w) e3 htw hts G RG (λ V m W1 hJW=>?_) h0
   obtain ⟨bs,u,h1,_,h3,_⟩:=hJ V m W1 hJW
   exact ⟨F7.trans_new h3 (λ q hq=>by
    rcases List.mem_cons.1 hq with rfl | hq
    ·exact .inr hv8
    ·exact .inr (hvl q hq).1),Bb.fr h3 (λ hm=>by
    rcases List.mem_cons.1 hm with rfl | hm
    ·have:=f6.size;omega
    ·have:=(hvl b hm).2;have:=f6.size;omega)⟩
  ·rintro D bs W1 ⟨u,h1,rfl,h3,h4⟩ hDb hwD hD
   have F1:Fr [] w W1:=F7.trans_new h3 (λ q hq=>by
    rcases List.mem_cons.1 hq with rfl | hq
    ·exact .inr hv8
    ·exact .inr (hvl q hq).1)
   refine r_ar (by omega) ?_
   refine r_agD (i+1) ⟨by omega,F1,?_,u,?_,?_⟩ (by omega) rfl
   ·rw [List.nodup_cons]
    exact ⟨λ hm=>by have:=dlt (hds D hm).1;have:=f67.size;omega,hnd⟩
   ·rw [List.take_length] at h1
    rw [scrL_take ht,List.flatten_append,← List.append_assoc]
    exact h1
   ·intro q hq
    rcases List.mem_cons.1 hq with rfl | hq
    ·exact ⟨hD,Nat.le_trans F7.size hwD,hDb⟩
    ·obtain ⟨g1,g2,g3⟩:=hds q hq
     have hq7:=dlt g1
     refine ⟨dkeep (dkeep g1 f67 (by simp)) h3 g3,g2,λ hm=>?_⟩
     rcases List.mem_cons.1 hm with rfl | hm
     ·exact g3 (by simp)
     ·rcases h4 q hm with h | h
      ·exact g3 (List.mem_cons_of_mem _ h)
      ·have:=f67.size;omega
  ·intro D bs W j h;exact h.elim
 ·obtain rfl:i=l.length:=by omega
  refine r_brk ?_
  rw [List.take_length] at hB
  refine r_call (Len_t hB) ?_
  rintro _ w6 ⟨rfl,rfl⟩
  have e:((textP c).1++scrB l).length=((textP c).1++(scrL l).flatten).length:=rfl
  refine r_if (λ h=>?_) (λ h=>?_)
  ·refine r_retD hnd (λ q hq=>(hds q hq).1) (λ w' f=>⟨?_,F.trans_new f (λ q hq=>.inr (hds q hq).2.1)⟩)
   unfold textS
   rw [if_neg hsf,if_neg h0,if_pos (by omega)]
  ·refine r_call (String_t hB) ?_
   rintro _ w7 ⟨rfl,f7⟩
   have hvl:=λ q hq=>own_lt hB.ow q hq
   refine r_retD hnd (λ q hq=>dkeep (hds q hq).1 f7 (λ hm=>(hds q hq).2.2 (List.mem_cons_of_mem _ hm))) (λ w' f=>⟨?_,(F.trans_new f7 (λ q hq=>.inr (hvl q hq).1)).trans_new f (λ q hq=>.inr (hds q hq).2.1)⟩)
   unfold textS
   rw [if_neg hsf,if_neg h0,if_neg (by omega)]
   rfl
end
end Go.Proofs.YtppodgdhdddfkaaGreatDoor.Sc
