import Derived.Test.YtppodgdhdddfkaaGreatDoorQMd
import Derived.Test.YtppodgdhdddfkaaGreatDoorQMg
import Derived.Tactics
set_option linter.unusedVariables false
set_option linter.unusedSimpArgs false
namespace Go.Proofs.YtppodgdhdddfkaaGreatDoor.Hd
open Go Go.RowKit Go.Proofs.YtppodgdhdddfkaaGreatDoor.Sx
open Go.Proofs.YtppodgdhdddfkaaGreatDoor.Bi (mixed)
def chSmall (x:GChannel):Bool:=!(decide (17 < x.lanes.length)) && !(decide (17 < x.receivers.length))
def small (c:GConf):Bool:=!(decide (17 < c.flows.length)) && (!(decide (8 < c.tenants.length)) && (!(decide (10 < c.channels.length)) && (!(decide (17 < c.gates.length)) && (!(decide (65 < c.frame.length)) && c.channels.all chSmall))))
section
variable {Z:ZP} {w:World}
theorem Erow:El Tryz.prog 74 48 1 24 (.slice none 0 0):=⟨by kernel_rfl,by kernel_rfl,Tryz.sizeOf48,Tryz.zeroValue48,rfl⟩
theorem Etick:El Tryz.prog 30 76 2 48 (.agg #[.slice none 0 0,.slice none 0 0]):=⟨by kernel_rfl,by kernel_rfl,Tryz.sizeOf76,Tryz.zeroValue76,rfl⟩
end
end Go.Proofs.YtppodgdhdddfkaaGreatDoor.Hd
set_option linter.unusedVariables false
set_option linter.unusedSimpArgs false
namespace Go.Proofs.YtppodgdhdddfkaaGreatDoor.Hd
open Go Go.RowKit Go.Proofs.YtppodgdhdddfkaaGreatDoor.Sx
open Go.Proofs.YtppodgdhdddfkaaGreatDoor.Bi (mixed take_s)
abbrev Bs:=List Int
def WfB (b:Bs):Prop:=∀ z∈b,0≤z∧z < 256
theorem WfB.at {b:Bs} (h:WfB b) {j:Nat} {z:Int} (hz:b[j]? = some z):0≤z∧z < 256:=h z (List.mem_of_getElem? hz)
theorem WfB.take {b:Bs} (h:WfB b) (n:Nat):WfB (b.take n):=λ z hz=>h z (List.mem_of_mem_take hz)
theorem WfB.drop {b:Bs} (h:WfB b) (n:Nat):WfB (b.drop n):=λ z hz=>h z (List.mem_of_mem_drop hz)
def le:Bs→Int
 | []=>0
 | z :: r=>le r * 256+z
theorem le_bound:∀ {b:Bs},WfB b→0≤le b∧le b < 256 ^ b.length:=by
 intro b
 induction b with
 | nil=>intro _;exact ⟨by decide,by decide⟩
 | cons z r ih =>
  intro h
  have hz:=h z (by simp)
  have hr:=ih (λ y hy=>h y (by simp [hy]))
  unfold le
  rw [List.length_cons,Int.pow_succ]
  omega
theorem le_max {b:Bs} (h:WfB b) (hl:b.length≤8):le b < 18446744073709551616:=by
 have h1:=(le_bound h).2
 have h2:(256:Int) ^ b.length≤256 ^ 8:=by
  have h:=Int.ofNat_le.2 (Nat.pow_le_pow_right (by decide:0 < 256) hl)
  rwa [Int.natCast_pow,Int.natCast_pow] at h
 have h3:(256:Int) ^ 8=18446744073709551616:=by decide
 omega
theorem le_drop {b:Bs} {i:Nat} {z:Int} (h:b[i]? = some z):le (b.drop i)=le (b.drop (i+1)) * 256+z:=by
 have hi:=(List.getElem?_eq_some_iff.1 h)
 rw [List.drop_eq_getElem_cons hi.1,hi.2]
 rfl
theorem le_snoc:∀ (b:Bs) (z:Int),le (b++[z])=le b+256 ^ b.length * z:=by
 intro b
 induction b with
 | nil=>intro z;simp [le]
 | cons y r ih =>
  intro z
  rw [List.cons_append,le,ih,le,List.length_cons,Int.pow_succ]
  rw [Int.add_mul]
  have:(256:Int) ^ r.length * z * 256=256 ^ r.length * 256 * z:=by rw [Int.mul_assoc,Int.mul_comm z,← Int.mul_assoc]
  omega
theorem shl_or {x z:Int} {i:Nat} (hi:i < 8) (hx:0≤x∧x < 256 ^ i) (hz:0≤z∧z < 256) :
  ((BitVec.ofInt 64 x) ||| ((BitVec.ofInt 64 z) <<< (8 * i))).toNat=(x+256 ^ i * z).toNat∧0≤x+256 ^ i * z∧x+256 ^ i * z < 256 ^ (i+1):=by
 obtain ⟨a,rfl⟩:=Int.eq_ofNat_of_zero_le hx.1
 obtain ⟨b,rfl⟩:=Int.eq_ofNat_of_zero_le hz.1
 have e:((256:Int) ^ i)=((2 ^ (8 * i):Nat):Int):=by rw [Nat.pow_mul];simp
 have hp:(2 ^ (8 * i):Nat) * 256≤18446744073709551616:=by
  have:(2 ^ (8 * i):Nat) * 256=2 ^ (8 * i+8):=by rw [Nat.pow_add]
  rw [this]
  exact Nat.le_trans (Nat.pow_le_pow_right (by decide) (by omega:8 * i+8≤64)) (by decide)
 have ha:a < 2 ^ (8 * i):=by have:=hx.2;rw [e] at this;exact Int.ofNat_lt.1 this
 have hb:b < 256:=by omega
 have hor:=Nat.two_pow_add_eq_or_of_lt ha b
 have hsh:b <<< (8 * i)=2 ^ (8 * i) * b:=by rw [Nat.shiftLeft_eq,Nat.mul_comm]
 rw [Int.pow_succ]
 rw [e] at hx ⊢
 rw [BitVec.toNat_or,BitVec.toNat_shiftLeft,BitVec.toNat_ofInt,BitVec.toNat_ofInt]
 have e1:((a:Int) % ((2 ^ 64:Nat):Int)).toNat=a:=by omega
 have e2:((b:Int) % ((2 ^ 64:Nat):Int)).toNat=b:=by omega
 rw [e1,e2,hsh]
 generalize 2 ^ (8 * i)=M at hp ha hor ⊢
 have h1:M * b+M≤M * 256:=by
  rw [← Nat.mul_succ]
  exact Nat.mul_le_mul_left _ hb
 have h2:(M:Int) * b=((M * b:Nat):Int):=by simp
 have h3:(M:Int) * 256=((M * 256:Nat):Int):=by simp
 rw [h2,h3]
 have h4:M * b % 2 ^ 64=M * b:=Nat.mod_eq_of_lt (by omega)
 rw [h4,Nat.or_comm,← hor]
 omega
section
variable {Z:ZP} {w:World}
theorem u8cell {w:World} {a:Addr} {m:Nat} {z:Int} (h:Rd w 1 (addA a m) [.int .u8 z]):w.cell? (addA a m)=some (.int .u8 z):=cell1 h
theorem wrap_u64 {z:Int} (h:0≤z∧z < 18446744073709551616):IntKind.u64.wrap z=z:=by rw [Bt.wrap_u];omega
theorem u_eq {x:Int} (h:0≤x∧x < 18446744073709551616):(Value.int .u64 x)=U (BitVec.ofInt 64 x):=by
 have:((BitVec.ofInt 64 x).toNat:Int)=x:=by rw [BitVec.toNat_ofInt];omega
 unfold U
 rw [this]
theorem r_shlu {P:Program} {Z:ZP} {R:Value→World→Prop} {w:World} {A:List Nat→List Value→World→Prop} {B:List Nat→Nat→List Value→World→Prop} {ds:List Nat} {k:Value→T} {t:TypeId} {kd:IntKind} {a:BitVec 64} {i:Int} {n:Nat} (hi:i=n) (h64:n < 64) (h:wp P Z R ds (k (U (a <<< n))) w A B):wp P Z R ds (.pu (binOp .shl t (U a) (.int kd i)) k) w A B:=by
 subst hi
 have e:Op.shift .shl .u64 ((a.toNat:Nat):Int) kd n=pure (U (a <<< n)):=by
  unfold Op.shift
  rw [if_neg (by omega)]
  have hm:min ((n:Int).toNat) (IntKind.bits .u64)=n:=by simp [IntKind.bits];omega
  simp only [hm]
  refine congrArg (λ z=>pure (Value.int .u64 z)) ?_
  rw [Bt.wrap_u,BitVec.toNat_shiftLeft,Nat.shiftLeft_eq]
  simp
 exact ⟨_,λ w'=>by rw [binOp_shl,e];rfl,h⟩
theorem get_t {X:Option Addr} {cp at_ n:Nat} {b:Bs} (hr:Rw (rI .u8) w X b) (hb:WfB b) (hn:n≤8) (hl:at_+n≤b.length) (hbl:b.length≤1000):Cz Tryz.prog 180 [.agg [I at_,I n].toArray,.slice X b.length cp] w (λ r w'=>r=.int .u64 (le ((b.drop at_).take n))∧Fr [] w w') Z:=by
 refine go mixed Tryz.func180 Tryz.call180 rfl (Tr.e180 _ _) ?_
 refine r_box (λ p w1 hp Pb f1=>?_)
 refine r_ld (Pb.cell (o:=1) rfl) ?_
 refine r_loop (λ (i:Nat)=>[I (i:Int),.int .u64 (le ((b.drop at_).take i))]) (λ i w'=>i≤n∧w'=w1) (λ i=>n-i) 0 ⟨Nat.zero_le _,rfl⟩ rfl ?_
 rintro i _ ⟨hi,rfl⟩
 refine r_if (λ h=>?_) (λ h=>?_)
 ·obtain ⟨z,hz⟩:=gt (xs:=b) (j:=at_+i) (by omega)
  have hzb:=hb.at hz
  refine r_ld (Pb.cell (o:=0) rfl) ?_
  refine r_ar (by omega) ?_
  obtain ⟨ad,es,rfl,rd,e3⟩:=hr _ z hz
  obtain rfl:=e3
  refine r_ob ⟨by omega,by omega⟩ ?_
  refine r_ld (by
   show _=some _
   rw [show ((((at_:Nat):Int)+(i:Nat)).toNat * 1)=(at_+i) * 1 by omega]
   exact u8cell (rd.fr f1)) ?_
  refine r_are (wrap_u64 (by omega)) ?_
  refine r_are (wrap_u64 (by omega)) ?_
  refine r_are (wrap_u64 (by omega)) ?_
  have hz2:((b.drop at_)[i]? = some z):=by rw [List.getElem?_drop];exact hz
  have hlen:((b.drop at_).take i).length=i:=by rw [List.length_take,List.length_drop];omega
  have h0:=le_bound ((hb.drop at_).take i)
  have hm:=le_max ((hb.drop at_).take i) (by omega)
  rw [hlen] at h0
  obtain ⟨s1,s2,s3⟩:=shl_or (i:=i) (by omega) h0 hzb
  rw [u_eq (x:=z) (by omega)]
  refine r_shlu (n:=8 * i) (by omega) (by omega) ?_
  show wp _ _ _ _ (.pu (binOp .or _ (.int .u64 (le ((b.drop at_).take i))) _) _) _ _ _
  rw [u_eq (x:=le ((b.drop at_).take i)) (by omega)]
  refine r_or ?_
  refine r_ar (by omega) ?_
  refine r_ag (i+1) ⟨by omega,rfl⟩ (by omega) ?_
  show [I _,.int .u64 (le ((b.drop at_).take (i+1)))]=[I _,.int .u64 _]
  rw [s1,take_s hz2,le_snoc,hlen]
  have:((le ((b.drop at_).take i)+256 ^ i * z).toNat:Int)=le ((b.drop at_).take i)+256 ^ i * z:=by omega
  rw [this];rfl
 ·obtain rfl:i=n:=by omega
  exact r_brk (r_ret ⟨rfl,f1⟩)
end
end Go.Proofs.YtppodgdhdddfkaaGreatDoor.Hd
set_option linter.unusedVariables false
set_option linter.unusedSimpArgs false
namespace Go.Proofs.YtppodgdhdddfkaaGreatDoor.Hd
open Go Go.RowKit Go.Proofs.YtppodgdhdddfkaaGreatDoor.Sx
open Go.Proofs.YtppodgdhdddfkaaGreatDoor.Bi (mixed take_s)
def rtB (q:GRequest):Bool:=decide (1≤q.rights) && decide (q.rights≤7)
def isReq (q:GRequest):Bool:=
 if q.kind=1 then rtB q && (decide (q.handle=0) && decide (q.payload=0))
 else if q.kind=2∨q.kind=4∨q.kind=6∨q.kind=7 then decide (q.a=0) && (decide (q.rights=0) && decide (q.payload=0))
 else if q.kind=3 then decide (q.a=0) && decide (q.rights=0)
 else if q.kind=5 then rtB q && decide (q.payload=0)
 else if q.kind=8 then decide (q.rights=0) && decide (q.handle=0)
 else if q.kind=9 then decide (q.a=0) && (decide (q.rights=0) && (decide (q.handle=0) && decide (q.payload=0)))
 else false
section
variable {Z:ZP} {w:World}
theorem Is_t (q:GRequest):Cz Tryz.prog 48 [.agg (eRequest q).toArray] w (λ r w'=>r=B (isReq q)∧Fr [] w w') Z:=by
 obtain ⟨kd,a,rt,ha,pa⟩:=q
 refine go mixed Tryz.func48 Tryz.call48 rfl (Tr.e48 _) ?_
 refine r_box (λ b w1 hb Bb f1=>?_)
 have e0:∀ {x:Bool},isReq ⟨kd,a,rt,ha,pa⟩=x→(B x=B (isReq ⟨kd,a,rt,ha,pa⟩)∧Fr [] w w1):=λ h=>⟨by rw [h],f1⟩
 refine r_ld (Bb.cell (o:=2) rfl) ?_
 refine r_if (λ hr=>?_) (λ hr=>?_)
 ·refine r_ld (Bb.cell (o:=2) rfl) ?_
  refine r_ld (Bb.cell (o:=0) rfl) ?_
  repeat' (first
   | (refine r_if (λ _=>?_) (λ _=>?_))
   | (refine r_ld (Bb.cell (o:=1) rfl) ?_)
   | (refine r_ld (Bb.cell (o:=2) rfl) ?_)
   | (refine r_ld (Bb.cell (o:=3) rfl) ?_)
   | (refine r_ld (Bb.cell (o:=4) rfl) ?_)
   | (exfalso;omega)
   | (exact r_ret (e0 (by simp_all [isReq,rtB]<;>(intros;omega)))))
 ·refine r_ld (Bb.cell (o:=0) rfl) ?_
  repeat' (first
   | (refine r_if (λ _=>?_) (λ _=>?_))
   | (refine r_ld (Bb.cell (o:=1) rfl) ?_)
   | (refine r_ld (Bb.cell (o:=2) rfl) ?_)
   | (refine r_ld (Bb.cell (o:=3) rfl) ?_)
   | (refine r_ld (Bb.cell (o:=4) rfl) ?_)
   | (exfalso;omega)
   | (exact r_ret (e0 (by simp_all [isReq,rtB]<;>(intros;omega)))))
end
def nmR (q:GRequest):GRequest:=
 if q.kind=5 then ⟨q.kind,q.a,q.rights,q.handle,0⟩
 else if q.kind=1 then ⟨q.kind,q.a,q.rights,0,0⟩
 else if q.kind=3 then ⟨q.kind,0,0,q.handle,q.payload⟩
 else if q.kind=2∨q.kind=4∨q.kind=6∨q.kind=7 then ⟨q.kind,0,0,q.handle,0⟩
 else if q.kind=8 then ⟨q.kind,q.a,0,0,q.payload⟩
 else ⟨q.kind,0,0,0,0⟩
def nmB (q:GRequest):Bool:=
 if q.kind=5∨q.kind=1 then rtB q
 else decide (q.kind=2∨q.kind=3∨q.kind=4∨q.kind=6∨q.kind=7∨q.kind=8∨q.kind=9)
theorem isReq_eq (q:GRequest):isReq q=(nmB q && decide (nmR q=q)):=by
 obtain ⟨kd,a,rt,ha,pa⟩:=q
 unfold isReq nmB nmR rtB
 dsimp only
 by_cases h5:kd=5
 ·subst h5;simp<;>grind
 by_cases h1:kd=1
 ·subst h1;simp<;>grind
 by_cases h3:kd=3
 ·subst h3;simp<;>grind
 by_cases h2:kd=2∨kd=4∨kd=6∨kd=7
 ·simp [h1,h3,h5,h2]<;>grind
 by_cases h8:kd=8
 ·subst h8;simp<;>grind
 by_cases h9:kd=9
 ·subst h9;simp<;>grind
 simp [h1,h2,h3,h5,h8,h9]<;>grind
def zReq:List Value:=[.int .u8 0,.int .u8 0,.int .u8 0,.int .u32 0,.int .u64 0]
structure N3 (w0 w:World) (b x o:Nat) (q xs:List Value):Prop where
 bB:Blk w b 42 q
 xB:Blk w x 42 xs
 oB:Blk w o 42 zReq
 nb:b≠x
 no:o≠x
 F:Fr [] w0 w
 hx:w0.heap.size≤x
 ho:w0.heap.size≤o
section
variable {Z:ZP} {w0 w:World} {R:Value→World→Prop} {A:List Nat→List Value→World→Prop} {B':List Nat→Nat→List Value→World→Prop} {k:Value→T} {t:T} {b x o:Nat} {q xs:List Value}
theorem N3.ld {j:Nat} {v:Value} (h:N3 w0 w b x o q xs) (hv:q[j]? = some v) (hk:wp Tryz.prog Z R [] (k v) w A B'):wp Tryz.prog Z R [] (.ld (Pt b j) k) w A B':=r_ld (h.bB.cell hv) hk
theorem N3.chk {j:Nat} {v:Value} (h:N3 w0 w b x o q xs) (hv:q[j]? = some v) (hk:wp Tryz.prog Z R [] t w A B'):wp Tryz.prog Z R [] (.chk none (Pt b j) v t) w A B':=r_chk (h.bB.cell hv) hk
theorem N3.fr0 {w':World} (h:N3 w0 w b x o q xs) (f:Fr [] w w'):N3 w0 w' b x o q xs:=⟨h.bB.fr0 f,h.xB.fr0 f,h.oB.fr0 f,h.nb,h.no,h.F.trans f,h.hx,h.ho⟩
theorem N3.dr (h:N3 w0 w b x o q xs) (hk:∀ w',N3 w0 w' b x o q xs→wp Tryz.prog Z R [] t w' A B'):wp Tryz.prog Z R [] (.dr t) w A B':=r_dr (λ w' f=>hk w' (h.fr0 f))
theorem N3.st {j ty:Nat} {v:Value} (h:N3 w0 w b x o q xs) (hs:∀ w,(sizeOf ty).run Tryz.prog w=.ok 1 w) (h1:v.cells=#[v]) (h2:v.oneCell'=true) (hj:Nat.blt j xs.length=true) (hk:∀ w',N3 w0 w' b x o q (xs.set j v)→wp Tryz.prog Z R [] t w' A B'):wp Tryz.prog Z R [] (.ef (Instr.storeAt ty (Pt x j) v) t) w A B':=
 r_st1 h.xB hs (λ w' B f=>hk w' ⟨h.bB.fr f (by simpa using h.nb),B,h.oB.fr f (by simpa using h.no),h.nb,h.no,h.F.trans_new f (λ q hq=>.inr (by simp at hq;subst hq;exact h.hx)),h.hx,h.ho⟩) h1 h2 hj
theorem N3.fin {ok:Bool} (h:N3 w0 w b x o q xs) (hl:xs.length=5) (h1:∀ v∈xs,v.oneCell'=true) (hR:∀ w',Fr [] w0 w'→R (.tuple #[.agg xs.toArray,B ok]) w'):wp Tryz.prog Z R [] (.ldn 5 (Pt x 0) λ v55=>.ef (Instr.storeAt 42 (Pt o 0) v55) (.ldn 5 (Pt o 0) λ r0=>.ret (.tuple [r0,B ok].toArray))) w A B':=by
 refine r_ldn (h.xB.rd hl) ?_
 refine r_stn (n:=5) (cs:=xs) h.oB Tryz.sizeOf42 h1 (λ w4 B4 f4=>?_) rfl hl rfl
 refine r_ldn (B4.rd hl) ?_
 exact r_ret (hR w4 (h.F.trans_new f4 (λ q hq=>.inr (by simp at hq;subst hq;exact h.ho))))
theorem szs {ty:Nat} (h:ty=5∨ty=39∨ty=40) (w:World):(sizeOf ty).run Tryz.prog w=.ok 1 w:=by
 rcases h with rfl | rfl | rfl
 ·exact Tryz.sizeOf5 w
 ·exact Tryz.sizeOf39 w
 ·exact Tryz.sizeOf40 w
theorem named_t {w:World} (q:GRequest):Cz Tryz.prog 86 [.agg (eRequest q).toArray] w (λ r w'=>r=.tuple #[.agg (eRequest (nmR q)).toArray,B (nmB q)]∧Fr [] w w') Z:=by
 obtain ⟨kd,a,rt,ha,pa⟩:=q
 refine go mixed Tryz.func86 Tryz.call86 rfl (Tr.e86 _) ?_
 refine r_box (λ b w1 hb Bb f1=>?_)
 refine r_al (zs:=zReq) Tryz.zeroValue42 (λ o w2 ho Oo f2=>?_)
 have hbl:=Bb.lt
 have Bb2:=Bb.fr0 f2
 refine r_ld (Bb2.cell (o:=0) rfl) ?_
 refine r_as (cs:=[.int .u8 kd,.int .u8 0,.int .u8 0,.int .u32 0,.int .u64 0]) (zs:=zReq) (n:=5) (λ x w3 hx Xb f3=>?_) Tryz.zeroValue42 Tryz.sizeOf42 (by intro v hv;simp at hv;rcases hv with rfl | rfl | rfl | rfl | rfl<;>rfl)
 have hol:=Oo.lt
 have s1:=f1.size
 have s2:=f2.size
 have N:N3 w w3 b x o (eRequest ⟨kd,a,rt,ha,pa⟩) [.int .u8 kd,.int .u8 0,.int .u8 0,.int .u32 0,.int .u64 0]:=⟨Bb2.fr0 f3,Xb,Oo.fr0 f3,by have:=Bb2.lt;omega,by omega,(f1.trans f2).trans f3,by omega,by omega⟩
 clear Bb Bb2 Oo Xb f1 f2 f3 hb ho hx hbl hol s1 s2
 have e0:∀ {xs:List Value} {ok:Bool} {w':World},xs=eRequest (nmR ⟨kd,a,rt,ha,pa⟩)→ok=nmB ⟨kd,a,rt,ha,pa⟩→Fr [] w w'→(Value.tuple #[.agg xs.toArray,B ok]=.tuple #[.agg (eRequest (nmR ⟨kd,a,rt,ha,pa⟩)).toArray,B (nmB ⟨kd,a,rt,ha,pa⟩)]∧Fr [] w w'):=λ h1 h2 f=>⟨by rw [h1,h2],f⟩
 refine N3.ld N rfl ?_
 repeat' (first
  | (refine r_if (λ _=>?_) (λ _=>?_))
  | (refine N3.ld (by assumption) rfl ?_)
  | (refine N3.dr (by assumption) (λ _ _=>?_))
  | (refine N3.chk (by assumption) rfl ?_)
  | (refine N3.st (by assumption) (szs (by decide)) rfl rfl rfl (λ _ _=>?_))
  | (exfalso;omega)
  | (refine N3.fin (by assumption) rfl (by intro v hv;simp at hv;rcases hv with rfl | rfl | rfl | rfl | rfl<;>rfl) (λ _ f=>e0 ?_ ?_ f)))
 all_goals (first | (simp_all [nmR,nmB,eRequest,rtB];done) | (simp_all [nmR,nmB,eRequest,rtB]<;>omega))
end
end Go.Proofs.YtppodgdhdddfkaaGreatDoor.Hd
set_option linter.unusedVariables false
set_option linter.unusedSimpArgs false
namespace Go.Proofs.YtppodgdhdddfkaaGreatDoor.Hd
open Go Go.RowKit Go.Proofs.YtppodgdhdddfkaaGreatDoor.Sx
open Go.Proofs.YtppodgdhdddfkaaGreatDoor.Bi (mixed take_s)
theorem neReq (u v:GRequest) (w:World):(binOp .neq 42 (.agg (eRequest u).toArray) (.agg (eRequest v).toArray)).run Tryz.prog w=.ok (.bool (decide (¬ u=v))) w:=by
 obtain ⟨a,b,c,d,e⟩:=u
 obtain ⟨a',b',c',d',e'⟩:=v
 unfold eRequest
 go_simp
 (repeat' split)<;>simp_all
theorem egReq (op:BinOp) (x y:Operand) (u v:GRequest) (w:World):(eqGuard op 42 x y (.agg (eRequest u).toArray) (.agg (eRequest v).toArray)).run Tryz.prog w=.ok () w:=by
 unfold eRequest
 cases op<;>go_simp
def at0 (b:Bs) (i:Nat):Int:=(b[i]?).getD 0
theorem at0_some {b:Bs} {i:Nat} (h:i < b.length):b[i]? = some (at0 b i):=by unfold at0;rw [List.getElem?_eq_getElem h];rfl
def reqOf (b:Bs):GRequest:=⟨at0 b 0,at0 b 1,at0 b 2,le ((b.drop 4).take 4),le (b.drop 8)⟩
def zR:GRequest:=⟨0,0,0,0,0⟩
def parse (b:Bs):GRequest × Int:=if b.length=16∧at0 b 3=0∧isReq (reqOf b)=true then (reqOf b,0) else (zR,30)
structure Gl (w:World):Prop where
 h:Rd w 2 ⟨2,0,none⟩ [I 4,I 4]
 p:Rd w 2 ⟨3,0,none⟩ [I 8,I 8]
theorem Gl.up {w w':World} (h:Gl w) (f:Fr [] w w'):Gl w':=⟨h.h.fr f,h.p.fr f⟩
theorem oReq (q:GRequest):∀ v∈eRequest q,v.oneCell'=true:=iRequest q
section
variable {Z:ZP} {w:World}
theorem Check_t (q:GRequest):Cz Tryz.prog 45 [.agg (eRequest q).toArray] w (λ r w'=>r=I (if isReq q=true then 0 else 30)∧Fr [] w w') Z:=by
 refine go mixed Tryz.func45 Tryz.call45 rfl (Tr.e45 _) ?_
 refine b_box (Bx.nil w) (λ b w1 H=>?_)
 refine b_ldn H 0 rfl ?_
 refine r_call (named_t q) ?_
 rintro _ w2 ⟨rfl,f2⟩
 replace H:=H.fr f2
 refine b_as (cs:=eRequest (nmR q)) (zs:=zReq) (n:=5) H Tryz.zeroValue42 Tryz.sizeOf42 (oReq _) (λ x w3 H=>?_)
 have e:=isReq_eq q
 refine r_ifbn (λ h=>?_) (λ h=>?_)
 ·exact b_ret H (λ F=>⟨by rw [e,h];rfl,F⟩)
 refine b_ldn H 0 rfl ?_
 refine b_ldn H 1 rfl ?_
 refine ⟨_,λ w'=>by
  rw [Sem.run_bind,egReq,Result.andThen_ok,neReq],?_⟩
 rw [h,Bool.true_and] at e
 refine r_if (λ h2=>?_) (λ h2=>?_)
 ·exact b_ret H (λ F=>⟨by rw [e,decide_eq_false h2];rfl,F⟩)
 ·exact b_ret H (λ F=>⟨by rw [e,decide_eq_true (Classical.not_not.1 h2)];rfl,F⟩)
def RP (w0:World) (b:Bs):Value→World→Prop:=λ r w'=>r=.tuple #[.agg (eRequest (parse b).1).toArray,I (parse b).2]∧Fr [] w0 w'
theorem wrap_u32 {z:Int} (h:0≤z∧z < 4294967296):IntKind.u32.wrap z=z:=by simp [IntKind.wrap,IntKind.bits,IntKind.signed];omega
theorem le4 {b:Bs} (h:WfB b):0≤le ((b.drop 4).take 4)∧le ((b.drop 4).take 4) < 4294967296:=by
 have h0:=le_bound ((h.drop 4).take 4)
 refine ⟨h0.1,Int.lt_of_lt_of_le h0.2 ?_⟩
 have h1:=Int.ofNat_le.2 (Nat.pow_le_pow_right (by decide:0 < 256) (List.length_take_le 4 (b.drop 4)))
 rwa [Int.natCast_pow,Int.natCast_pow] at h1
def tlW (v2 v4:Value) (cs:List Value):T:=.ef (Instr.storeAt 42 v4 (.agg cs.toArray)) (.ldn 5 v4 λ v33=>.call 45 [v33] λ v34=>biT true .neq v34 (I 0) λ v36=>gi v36 (bdT [] [(.int .u8 0),(.int .u8 0),(.int .u8 0),(.int .u32 0),(.int .u64 0)] λ v37=>.ef (Instr.storeAt 42 v2 (.agg v37.toArray)) (.ldn 5 v2 λ r0=>.ret (.tuple [r0,v34].toArray))) (.ldn 5 v4 λ v39=>.ef (Instr.storeAt 42 v2 v39) (.ldn 5 v2 λ r0=>.ret (.tuple [r0,(I 0)].toArray))))
theorem tlW_ok {w0 w:World} {v2 v4:Nat} {b:Bs} (H:Bx w0 w [(v4,42,zReq),(v2,42,zReq)]) (hl:b.length=16) (h3:at0 b 3=0):wp Tryz.prog Z (RP w0 b) [] (tlW (Pt v2 0) (Pt v4 0) (eRequest (reqOf b))) w nA nB:=by
 unfold tlW
 refine b_stn (cs:=eRequest (reqOf b)) (n:=5) H 0 rfl Tryz.sizeOf42 (oReq _) (λ w1 H=>?_)
 refine b_ldn H 0 rfl ?_
 refine b_call H (Check_t (reqOf b)) (λ w2 H=>?_)
 by_cases hq:isReq (reqOf b)=true
 ·have e:parse b=(reqOf b,0):=by unfold parse;rw [if_pos ⟨hl,h3,hq⟩]
  rw [if_pos hq]
  refine b_ldn H 0 rfl ?_
  refine b_stn (cs:=eRequest (reqOf b)) (n:=5) H 1 rfl Tryz.sizeOf42 (oReq _) (λ w1 H=>?_)
  refine b_ldn H 1 rfl ?_
  exact b_ret H (λ F=>⟨by rw [e],F⟩)
 ·have e:parse b=(zR,30):=by unfold parse;rw [if_neg (λ h=>hq h.2.2)]
  rw [if_neg hq]
  refine b_stn (cs:=eRequest zR) (n:=5) H 1 rfl Tryz.sizeOf42 (oReq _) (λ w1 H=>?_)
  refine b_ldn H 1 rfl ?_
  exact b_ret H (λ F=>⟨by rw [e],F⟩)
theorem Parse_t {X:Option Addr} {cp:Nat} {b:Bs} (G:Gl w) (hr:Rw (rI .u8) w X b) (hb:WfB b):Cz Tryz.prog 149 [.slice X b.length cp] w (RP w b) Z:=by
 refine go mixed Tryz.func149 Tryz.call149 rfl (Tr.e149 _) ?_
 refine b_al (zs:=zReq) (Bx.nil w) Tryz.zeroValue42 (λ v2 w1 H=>?_)
 have bad:¬ (b.length=16∧at0 b 3=0∧isReq (reqOf b)=true)→parse b=(zR,30):=λ h=>by unfold parse;rw [if_neg h]
 refine r_if (λ h=>?_) (λ h=>?_)
 ·refine b_stn (cs:=eRequest zR) (n:=5) H 0 rfl Tryz.sizeOf42 (oReq _) (λ w1 H=>?_)
  refine b_ldn H 0 rfl ?_
  exact b_ret H (λ F=>⟨by rw [bad (λ h2=>h (by omega))],F⟩)
 have hl:b.length=16:=by omega
 have hX:∃ ad,X=some ad:=by obtain ⟨a,_,h,_⟩:=hr 0 _ (at0_some (by omega));exact ⟨a,h⟩
 obtain ⟨ad,rfl⟩:=hX
 have hcell:∀ {w':World} (i:Nat),i < 16→Fr [] w w'→w'.cell? (addA ad (i * 1))=some (.int .u8 (at0 b i)):=by
  intro w' i hi F
  obtain ⟨a,es,e0,rd,e3⟩:=hr i _ (at0_some (b:=b) (i:=i) (by omega))
  cases e0
  obtain rfl:=e3
  exact u8cell (rd.fr F)
 have h4:=le4 hb
 rw [hl]
 refine r_ob ⟨by decide,by decide⟩ ?_
 refine r_ld (hcell 3 (by omega) H.F) ?_
 refine r_if (λ h3=>?_) (λ h3=>?_)
 ·refine b_stn (cs:=eRequest zR) (n:=5) H 0 rfl Tryz.sizeOf42 (oReq _) (λ w1 H=>?_)
  refine b_ldn H 0 rfl ?_
  exact b_ret H (λ F=>⟨by rw [bad (λ h2=>h3 h2.2.1)],F⟩)
 replace h3:=Classical.not_not.1 h3
 refine b_dr H (λ w2 H=>?_)
 refine r_ob ⟨by decide,by decide⟩ ?_
 refine r_ld (hcell 0 (by omega) H.F) ?_
 refine r_ob ⟨by decide,by decide⟩ ?_
 refine r_ld (hcell 1 (by omega) H.F) ?_
 refine r_ob ⟨by decide,by decide⟩ ?_
 refine r_ld (hcell 2 (by omega) H.F) ?_
 refine r_ldn (G.up H.F).h ?_
 refine r_ldn (G.up H.F).p ?_
 have e2:(b.drop 8).take 8=b.drop 8:=List.take_of_length_le (by simp [hl])
 have n1:∀ {w':World} {Z:ZP},Fr [] w w'→Cz Tryz.prog 180 [.agg [I 4,I 4].toArray,.slice (some ad) 16 cp] w' (λ r w2=>r=.int .u64 (le ((b.drop 4).take 4))∧Fr [] w' w2) Z:=by
  intro w' Z F
  have:=get_t (Z:=Z) (cp:=cp) (at_:=4) (n:=4) (hr.up F) hb (by omega) (by omega) (by omega)
  rwa [hl] at this
 have n2:∀ {w':World} {Z:ZP},Fr [] w w'→Cz Tryz.prog 180 [.agg [I 8,I 8].toArray,.slice (some ad) 16 cp] w' (λ r w2=>r=.int .u64 (le (b.drop 8))∧Fr [] w' w2) Z:=by
  intro w' Z F
  have:=get_t (Z:=Z) (cp:=cp) (at_:=8) (n:=8) (hr.up F) hb (by omega) (by omega) (by omega)
  rwa [hl,e2] at this
 have c3:∀ {w':World} {t:T},Fr [] w w'→wp Tryz.prog Z (RP w b) [] t w' nA nB→wp Tryz.prog Z (RP w b) [] (.chk none (.pointer (some (addA ad (0 * 1)))) (.int .u8 (at0 b 0)) (.chk none (.pointer (some (addA ad (1 * 1)))) (.int .u8 (at0 b 1)) (.chk none (.pointer (some (addA ad (2 * 1)))) (.int .u8 (at0 b 2)) t))) w' nA nB:=λ F h=>r_chk (hcell 0 (by omega) F) (r_chk (hcell 1 (by omega) F) (r_chk (hcell 2 (by omega) F) h))
 have g0:∀ {w':World} {t:T},Fr [] w w'→wp Tryz.prog Z (RP w b) [] t w' nA nB→wp Tryz.prog Z (RP w b) [] (.chk (some 2) (Pt 2 0) (.agg [I 4,I 4].toArray) t) w' nA nB:=λ F h=>r_chkn (G.up F).h h
 have g1:∀ {w':World} {t:T},Fr [] w w'→wp Tryz.prog Z (RP w b) [] t w' nA nB→wp Tryz.prog Z (RP w b) [] (.chk (some 2) (Pt 3 0) (.agg [I 8,I 8].toArray) t) w' nA nB:=λ F h=>r_chkn (G.up F).p h
 refine ⟨?_,?_⟩
 ·refine b_call H (n1 H.F) (λ w3 H=>?_)
  refine c3 H.F (g1 H.F ?_)
  refine r_are (wrap_u32 h4) ?_
  refine ⟨?_,?_⟩
  ·refine b_call H (n2 H.F) (λ w4 H=>?_)
   refine c3 H.F ?_
   refine b_al (zs:=zReq) H Tryz.zeroValue42 (λ v4 w3 H=>?_)
   refine c3 H.F (g0 H.F (g1 H.F ?_))
   exact tlW_ok H hl h3
  ·refine b_al (zs:=zReq) H Tryz.zeroValue42 (λ v4 w3 H=>?_)
   refine c3 H.F (g0 H.F (g1 H.F ?_))
   refine b_call H (n2 H.F) (λ w4 H=>?_)
   refine c3 H.F ?_
   exact tlW_ok H hl h3
 ·refine b_al (zs:=zReq) H Tryz.zeroValue42 (λ v4 w3 H=>?_)
  refine c3 H.F (g0 H.F (g1 H.F ?_))
  refine b_call H (n1 H.F) (λ w3 H=>?_)
  refine c3 H.F (g1 H.F ?_)
  refine r_are (wrap_u32 h4) ?_
  refine b_call H (n2 H.F) (λ w4 H=>?_)
  refine c3 H.F ?_
  exact tlW_ok H hl h3
end
end Go.Proofs.YtppodgdhdddfkaaGreatDoor.Hd
set_option linter.unusedVariables false
set_option linter.unusedSimpArgs false
namespace Go.Proofs.YtppodgdhdddfkaaGreatDoor.Hd
open Go Go.RowKit Go.Proofs.YtppodgdhdddfkaaGreatDoor.Sx
open Go.Proofs.YtppodgdhdddfkaaGreatDoor.Bi (mixed take_s)
def split:Nat→Bs→List Bs
 | 0,_=>[]
 | m+1,b=>if b.length=0 then [] else b.take 16 :: split m (b.drop 16)
theorem split_len (m:Nat):∀ b,(split m b).length≤m:=by
 induction m with
 | zero=>intro b;exact Nat.le_refl _
 | succ m ih=>intro b;unfold split;split
              ·simp
              ·simp;exact ih _
theorem split_wf {m:Nat}:∀ {b:Bs},WfB b→∀ p∈split m b,WfB p∧p.length≤16:=by
 induction m with
 | zero=>intro b _ p hp;simp [split] at hp
 | succ m ih =>
  intro b hb p hp
  unfold split at hp
  split at hp
  ·simp at hp
  ·rcases List.mem_cons.1 hp with rfl | hp
   ·exact ⟨hb.take 16,List.length_take_le _ _⟩
   ·exact ih (hb.drop 16) p hp
theorem split_nil (m:Nat) {b:Bs} (h:b.length=0):split m b=[]:=by
 cases m with
 | zero=>rfl
 | succ m=>unfold split;rw [if_pos h]
theorem split_step {m:Nat} {b:Bs} (hm:0 < m) (h:¬ b.length=0):split m b=b.take 16 :: split (m-1) (b.drop 16):=by
 obtain ⟨k,rfl⟩:∃ k,m=k+1:=⟨m-1,by omega⟩
 show split (k+1) b=_
 rw [split,if_neg h];rfl
section
variable {Z:ZP} {w:World}
theorem Ebyte:El Tryz.prog 48 5 1 1 (.int .u8 0):=⟨by kernel_rfl,by kernel_rfl,Tryz.sizeOf5,Tryz.zeroValue5,rfl⟩
theorem Split_t {w0:World} {X:Option Addr} {cp m:Nat} {b:Bs} (hr:Rw (rI .u8) w0 X b) (hb:b.length≤big) (hc:b.length≤cp) (hm:m≤100000):Cz Tryz.prog 102 [.slice X b.length cp,I m] w (λ r w'=>Or ((rL (rI .u8)).at w0) 48 w.heap.size [] w' r (split m b)∧Fr [] w w') Z:=by
 refine go mixed Tryz.func102 Tryz.call102 rfl (Tr.e102 _ _) ?_
 have hb1:=hb
 simp only [big] at hb
 refine r_loop (λ (s:Value × List Bs)=>[I (16 * (s.2.length:Int)),s.1]) (λ s w'=>Or ((rL (rI .u8)).at w0) 48 w.heap.size [] w' s.1 s.2∧s.2.length≤m∧16 * s.2.length≤b.length+16∧s.2++split (m-s.2.length) (b.drop (16 * s.2.length))=split m b∧Fr [] w w') (λ s=>m-s.2.length) (.slice none 0 0,[]) ⟨Or.nil,Nat.zero_le _,Nat.zero_le _,by simp,Fr.refl _ _⟩ rfl ?_
 rintro ⟨u,ps⟩ w1 ⟨HU,hpm,hpb,hsp,F⟩
 dsimp only at HU hpm hpb hsp
 have hpl:ps.length≤big:=by simp only [big];omega
 obtain ⟨U1,c1,rfl,uc,_,_⟩:=HU.row hpl
 have out:b.length≤16 * ps.length∨m≤ps.length→wp Tryz.prog Z (λ r w'=>Or ((rL (rI .u8)).at w0) 48 w.heap.size [] w' r (split m b)∧Fr [] w w') [] (.ret (.slice U1 ps.length c1)) w1 nA nB:=by
  intro h
  have e:ps=split m b:=by
   rcases h with h | h
   ·rw [split_nil _ (by simp;omega),List.append_nil] at hsp;exact hsp
   ·rw [show m-ps.length=0 by omega] at hsp;simpa [split] using hsp
  refine r_ret ⟨?_,F⟩
  rw [← e]
  exact HU
 refine r_if (λ h=>?_) (λ h=>r_brk (out (.inl (by first | omega | (dsimp only at h;omega)))))
 refine r_if (λ h2=>?_) (λ h2=>r_brk (out (.inr (by first | omega | (dsimp only at h2;omega)))))
 try dsimp only at h h2
 have hge:∀ q∈(Value.slice U1 ps.length c1).ownBlock.toList++[],w.heap.size≤q:=λ q hq=>by rw [List.append_nil] at hq;exact (HU.lt q hq).1
 refine r_ar (by first | omega | (dsimp only;omega)) ?_
 refine r_min ?_
 obtain ⟨n,hn,hn16⟩:∃ n:Nat,(if (16:Int) < ((b.length:Int)-16 * (ps.length:Int)) then (16:Int) else ((b.length:Int)-16 * (ps.length:Int)))=n∧n=min 16 (b.length-16 * ps.length):=by
  by_cases h3:(16:Int) < ((b.length:Int)-16 * (ps.length:Int))
  ·exact ⟨16,by rw [if_pos h3];rfl,by omega⟩
  ·exact ⟨b.length-16 * ps.length,by rw [if_neg h3];omega,by omega⟩
 rw [hn]
 refine r_ar (by first | omega | (dsimp only;omega)) ?_
 refine r_sl3 (e:=rI .u8) (l:=16 * ps.length) (h:=n+16 * ps.length) (m:=n+16 * ps.length) (ety:=5) (by kernel_rfl) Tryz.sizeOf5 (by first | omega | (dsimp only;omega)) (by first | omega | (dsimp only;omega)) (by first | omega | (dsimp only;omega)) (by first | omega | (dsimp only;omega)) (by first | omega | (dsimp only;omega)) (by first | omega | (dsimp only;omega)) (λ X1 hX1=>?_)
 have hx:=hX1 w0 b hr
 rw [show n+16 * ps.length-16 * ps.length=n by omega] at hx ⊢
 have e16:(b.drop (16 * ps.length)).take n=(b.drop (16 * ps.length)).take 16:=by
  rw [hn16,show b.length-16 * ps.length=(b.drop (16 * ps.length)).length by simp,← List.take_eq_take_min]
 rw [e16] at hx
 have hnl:n=((b.drop (16 * ps.length)).take 16).length:=by simp;omega
 refine r_appL (x:=(b.drop (16 * ps.length)).take 16) (es:=[.slice X1 n n]) Erow HU (λ _ _=>⟨X1,n,by rw [← hnl],by omega,by simp only [big];omega,hx⟩) (by simp [big];omega) F.size (λ v26 w4 H4 f4 o4=>?_)
 refine r_ar (by first | omega | (dsimp only;omega)) ?_
 refine r_ag (v26,ps++[(b.drop (16 * ps.length)).take 16]) ⟨H4,by dsimp only;simp;omega,by dsimp only;simp;omega,?_,F.trans_new f4 (λ q hq=>.inr (HU.lt q hq).1)⟩ (by dsimp only;simp;omega) ?_
 ·dsimp only
  rw [split_step (by first | omega | (dsimp only;omega)) (by simp;omega)] at hsp
  rw [← hsp,List.append_assoc,List.length_append]
  simp [Nat.sub_sub,Nat.mul_add]
 ·dsimp only
  rw [List.length_append]
  show [I _,_]=[I _,_]
  congr 2
end
end Go.Proofs.YtppodgdhdddfkaaGreatDoor.Hd
set_option linter.unusedVariables false
set_option linter.unusedSimpArgs false
namespace Go.Proofs.YtppodgdhdddfkaaGreatDoor.Hd
open Go Go.RowKit Go.Proofs.YtppodgdhdddfkaaGreatDoor.Sx
open Go.Proofs.YtppodgdhdddfkaaGreatDoor.Bi (mixed take_s)
def ask1 (p:Bs):GAsked:=⟨(parse p).1,decide ((parse p).2=0)⟩
def asked (c:GConf) (t:GTick) (o:Int):List GAsked:=if 0≤o∧o < t.bytes.length then (split c.requests.toNat ((t.bytes[o.toNat]?).getD [])).map ask1 else []
section
variable {Z:ZP} {w:World}
end
end Go.Proofs.YtppodgdhdddfkaaGreatDoor.Hd
set_option linter.unusedVariables false
set_option linter.unusedSimpArgs false
namespace Go.Proofs.YtppodgdhdddfkaaGreatDoor.Hd
open Go Go.RowKit Go.Proofs.YtppodgdhdddfkaaGreatDoor.Sx
open Go.Proofs.YtppodgdhdddfkaaGreatDoor.Bi (mixed take_s Has_t rHas_t)
open Go.Proofs.YtppodgdhdddfkaaGreatDoor.Cf
structure Cok (c:GConf):Prop where
 req:1≤c.requests∧c.requests≤4
 bud:1≤c.budget∧c.budget≤16
 fr:1≤c.frame.length∧c.frame.length≤64
 own:∀ (i:Nat) t,c.frame[i]? = some t→0≤t∧t < c.tenants.length
 ten:c.tenants.length≤16
section
variable {Z:ZP} {w:World}
end
end Go.Proofs.YtppodgdhdddfkaaGreatDoor.Hd
