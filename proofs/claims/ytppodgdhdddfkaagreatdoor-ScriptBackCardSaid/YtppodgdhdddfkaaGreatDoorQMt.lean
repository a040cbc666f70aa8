import Derived.Test.YtppodgdhdddfkaaGreatDoorQMo
import Derived.Lib.AppendIntMem
import Derived.Lib.ParseIntBCases
import Derived.Test.YtppodgdhdddfkaaGreatDoorQMh
import Derived.Test.YtppodgdhdddfkaaGreatDoorQMr
import Derived.Test.YtppodgdhdddfkaaGreatDoorQMs
import Derived.Tactics
import Derived.Tactics2
import Derived.Defers
import Derived.Recover
import Derived.Laws.Pointers
import Derived.WideLaws
set_option linter.unusedVariables false
set_option linter.unusedSimpArgs false
namespace Go.Proofs.YtppodgdhdddfkaaGreatDoor.Sg
open Go Go.RowKit Go.Proofs.YtppodgdhdddfkaaGreatDoor.Sx
open Go.Proofs.YtppodgdhdddfkaaGreatDoor.Bi (mixed)
open Go.Sort Go.Proofs Go.Shelf
section
variable {Z:ZP} {w:World}
theorem Cut_t (a p:Bs) (hl:a.length≤9000000) (hw:MaxW w):Cz Tryz.prog 75 [Tx a,Tx p] w (λ r w'=>r=.tuple #[Tx (Lib.cut a p).1,Tx (Lib.cut a p).2.1,.bool (Lib.cut a p).2.2]∧Fr [] w w') Z:=by
 obtain ⟨m,hm⟩:=hw
 exact cz_of Tryz.call75 (Sh.strings_Cut ⟨a.toArray⟩ ⟨p.toArray⟩ m w (by rw [tx_size];omega) hm) (by rintro e w' ⟨rfl,n,rfl⟩;exact ⟨_,rfl,by simp,⟨rfl,rfl,rfl,Nat.le_refl _,λ _ _ _=>rfl⟩⟩)
theorem CutPrefix_t (a p:Bs):Cz Tryz.prog 122 [Tx a,Tx p] w (λ r w'=>r=.tuple #[Tx (Lib.trimPrefix a p),.bool (Lib.hasPrefix a p)]∧w'=w) Z:=
 cz_of Tryz.call122 (Sh.strings_CutPrefix ⟨a.toArray⟩ ⟨p.toArray⟩ w) (by rintro e w' ⟨rfl,rfl⟩;exact ⟨_,rfl,by simp,rfl⟩)
theorem HasPrefix_t (a p:Bs):Cz Tryz.prog 69 [Tx a,Tx p] w (λ r w'=>r=.bool (Lib.hasPrefix a p)∧w'=w) Z:=
 cz_of Tryz.call69 (Sh.strings_HasPrefix ⟨a.toArray⟩ ⟨p.toArray⟩ w) (by rintro e w' ⟨rfl,rfl⟩;exact ⟨_,rfl,by simp,rfl⟩)
theorem small_t (i:Nat) (h:i < 100):Cz Tryz.prog 132 [I i] w (λ r w'=>r=Tx (Lib.decDigits i)∧w'=w) Z:=
 cz_of Tryz.call132 (Sh.internal_strconv_small i h w) (by rintro e w' ⟨rfl,rfl⟩;exact ⟨_,rfl,rfl,rfl⟩)
theorem numDigits_t (u:Nat) (h1:1≤u) (h2:u < 18446744073709551616) (h:TabW w):Cz Tryz.prog 133 [.int .u64 u] w (λ r w'=>r=I (Lib.nDigits u)∧w'=w) Z:=
 cz_of Tryz.call133 (Sh.internal_strconv_numDigits u h1 h2 w (tabIs h)) (by rintro e w' ⟨rfl,rfl⟩;exact ⟨_,rfl,rfl,rfl⟩)
theorem TabW.up {w':World} (h:TabW w) (f:Fr [] w w'):TabW w':=by
 obtain ⟨T,g,ht⟩:=h
 exact ⟨T,g,(f.keep _ (Array.getElem?_eq_some_iff.1 ht).1 (by simp)).trans ht⟩
theorem iFormatUint_t (u:Nat) (hu:u < 18446744073709551616) (h:TabW w):Cz Tryz.prog 87 [.int .u64 u,I 10] w (λ r w'=>r=Tx (Lib.decDigits u)∧Fr [] w w') Z:=by
 refine go mixed Tryz.func87 Tryz.call87 rfl (Tr.e87 _ _) ?_
 refine r_if (λ h100=>?_) (λ h100=>?_)
 ·refine r_are (y:=(u:Int)) (by rw [IntKind.wrap_i64];omega) ?_
  refine r_call (small_t u (by omega)) ?_
  rintro _ w1 ⟨rfl,rfl⟩
  exact r_ret ⟨rfl,Fr.refl _ _⟩
 have hu1:1≤u:=by omega
 have hnd:Lib.nDigits u≤20:=by have:=Lib.numDigits_eq u hu1 hu;split at this<;>omega
 refine ⟨.pointer (some ⟨w.heap.size,0,none⟩),w.alloc (.cells Lib.zeros24 178),by kernel_rfl,?_⟩
 have f1:Fr [] w (w.alloc (.cells Lib.zeros24 178)):=Fr.alloc w _
 refine r_call (numDigits_t u hu1 hu (h.up f1)) ?_
 rintro _ w1 ⟨rfl,rfl⟩
 have hal:(Tryz.prog).arrayLen 178=24:=by kernel_rfl
 have hsl:∀ W,(Instr.sliceAt 178 (.pointer (some ⟨w.heap.size,0,none⟩)) none (some (.int .i64 (Lib.nDigits u:Int))) none).run Tryz.prog W=.ok (.slice (some ⟨w.heap.size,0,none⟩) (Lib.nDigits u) 24) W:=λ W=>by
  have hel:(Tryz.prog).elem 178=5:=by kernel_rfl
  rw [run_sliceAt_array_h W 178 ⟨w.heap.size,0,none⟩ (by kernel_rfl) .i64 (Lib.nDigits u:Int) (by omega) (by rw [hal];omega),hel,Tryz.sizeOf5,hal]
  simp [slicedAt,Result.andThen,Addr.add]
 refine r_pus hsl ?_
 have hfmt:=Sh.internal_strconv_formatBase10 w.heap.size 0 24 u (Array.replicate (Lib.nDigits u) 0) (w.alloc (.cells Lib.zeros24 178)) (Lib.holds_zero0 w 178 (Lib.nDigits u) (by omega)) (by rw [Array.size_replicate];exact Lib.lt_pow_nDigits u) hu (by rw [Array.size_replicate];omega)
 rw [Array.size_replicate] at hfmt
 have HH0:=Lib.hid (Lib.holds_zero0 w 178 (Lib.nDigits u) (by omega))
 refine r_call (cz_of (Q:=λ r w'=>r=.tuple #[]∧∃ (n v':Nat) (dk:Array UInt8),w'=(putRow (λ (b:UInt8)=>Value.int .u8 (b.toNat:Int)) (w.alloc (.cells Lib.zeros24 178)) w.heap.size 0 dk).drewN n∧Lib.FmtInv (Lib.nDigits u) u 0 v' dk) Tryz.call134 hfmt (by rintro e w' ⟨rfl,n,v',dk,rfl,hF⟩;exact ⟨_,rfl,rfl,n,v',dk,rfl,hF⟩)) ?_
 rintro _ _ ⟨rfl,k,v',dk,rfl,hF⟩
 refine r_pus hsl ?_
 have hcv:(convert 48 9 (.slice (some ⟨w.heap.size,0,none⟩) (Lib.nDigits u) 24)).run Tryz.prog ((putRow (λ (b:UInt8)=>Value.int .u8 (b.toNat:Int)) (w.alloc (.cells Lib.zeros24 178)) w.heap.size 0 dk).drewN k)=.ok (.string ⟨(Lib.decDigits u).toArray⟩) ((putRow (λ (b:UInt8)=>Value.int .u8 (b.toNat:Int)) (w.alloc (.cells Lib.zeros24 178)) w.heap.size 0 dk).drewN k):=by
  have h:=run_convert_bytes_back (P:=Tryz.prog) ((putRow (λ (b:UInt8)=>Value.int .u8 (b.toNat:Int)) (w.alloc (.cells Lib.zeros24 178)) w.heap.size 0 dk).drewN k) 48 9 5 ⟨w.heap.size,0,none⟩ 24 (Lib.decDigits u) (by kernel_rfl) (by kernel_rfl) (by kernel_rfl) (λ j hj=>by
   rw [Lib.row_is_numeral hF j hj,Lib.add_plain,World.cell?_drewN]
   exact cell?_putRow (λ (b:UInt8)=>Value.int .u8 (b.toNat:Int)) _ w.heap.size 0 _ dk HH0.out (by rw [hF.size,Array.size_replicate]) j (by rw [hF.size];rw [Lib.decDigits_length] at hj;exact hj))
  rw [Lib.decDigits_length] at h
  exact h
 refine ⟨_,_,hcv,?_⟩
 obtain ⟨os,eo⟩:=Lib.fin_at w (.cells Lib.zeros24 178) dk k 0
 refine r_ret ⟨rfl,?_⟩
 rw [eo]
 exact Fr.of_below (Lib.below_grow w.heap.size w (Nat.le_refl _) k os)
theorem FormatUint_t (u:Nat) (hu:u < 18446744073709551616) (h:TabW w):Cz Tryz.prog 47 [.int .u64 u,I 10] w (λ r w'=>r=Tx (Lib.decDigits u)∧Fr [] w w') Z:=by
 refine go mixed Tryz.func47 Tryz.call47 rfl (Tr.e47 _ _) ?_
 refine r_call (iFormatUint_t u hu h) ?_
 rintro _ w1 ⟨rfl,f⟩
 exact r_ret ⟨rfl,f⟩
theorem iParseUint_t (a:Bs) (hl:a.length≤9000000):Cz Tryz.prog 175 [Tx a,I 10,I 64] w (λ r w'=>r=Lib.uintTupleM 222 18446744073709551615 (Lib.parseMag a)∧Fr [] w w') Z:=
 cz_of Tryz.call175 (Sh.internal_strconv_ParseUint_10_at64 ⟨a.toArray⟩ (by rw [tx_size];omega) w) (by
  rintro e w' ⟨rfl,hw⟩
  refine ⟨_,rfl,by rw [← Lib.parseUintB_64],?_⟩
  rcases hw with rfl | rfl
  ·exact Fr.refl _ _
  ·exact Fr.of_below (Lib.bytesWorld_below _ _ _))
theorem ParseUint_t (a:Bs) (hl:a.length≤9000000) (hE:ErrW w):Cz Tryz.prog 137 [Tx a,I 10,I 64] w (λ r w'=>Fr [] w w'∧((∃ v:Nat,Lib.parseMag a=.ok v∧r=.tuple #[.int .u64 v,.nilIface])∨((∀ v,Lib.parseMag a≠.ok v)∧∃ z t p,r=.tuple #[.int .u64 z,.iface t p]))) Z:=by
 refine go mixed Tryz.func137 Tryz.call137 rfl (Tr.e137 _ _ _) ?_
 refine r_call (iParseUint_t a hl) ?_
 rintro _ w1 ⟨rfl,f1⟩
 obtain ⟨⟨v1,h1,i1⟩,v2,h2,i2⟩:=hE
 have h1:=f1.c h1
 have h2:=f1.c h2
 obtain ⟨x,hx⟩:∃ x,Lib.parseMag a=x:=⟨_,rfl⟩
 rw [hx]
 rcases x with v | _ | _
 ·refine Cg.r_nnil _ (by kernel_rfl) ?_
  exact r_ret ⟨f1,.inl ⟨v,rfl,rfl⟩⟩
 ·refine Cg.r_nheld (by kernel_rfl) ?_
  refine r_call (cz_of (Q:=λ r w'=>(∃ t p,r=.iface t p)∧Fr [] w1 w') Tryz.call161 (Sh.strconv_toError_syntax ⟨#[80,97,114,115,101,85,105,110,116]⟩ ⟨a.toArray⟩ 10 64 v1 w1 (by rw [tx_size];omega) h1 i1) (by rintro e w' ⟨N,rfl,_,_,hb⟩;exact ⟨_,rfl,⟨_,_,rfl⟩,Fr.of_below hb⟩)) ?_
  rintro _ w2 ⟨⟨t,p,rfl⟩,f2⟩
  exact r_ret ⟨f1.trans f2,.inr ⟨λ v hv=>(nomatch hv),_,_,_,rfl⟩⟩
 ·refine Cg.r_nheld (by kernel_rfl) ?_
  refine r_call (cz_of (Q:=λ r w'=>(∃ t p,r=.iface t p)∧Fr [] w1 w') Tryz.call161 (Sh.strconv_toError_range ⟨#[80,97,114,115,101,85,105,110,116]⟩ ⟨a.toArray⟩ 10 64 v2 w1 (by rw [tx_size];omega) h2 i2) (by rintro e w' ⟨N,rfl,_,_,hb⟩;exact ⟨_,rfl,⟨_,_,rfl⟩,Fr.of_below hb⟩)) ?_
  rintro _ w2 ⟨⟨t,p,rfl⟩,f2⟩
  exact r_ret ⟨f1.trans f2,.inr ⟨λ v hv=>(nomatch hv),_,_,_,rfl⟩⟩
end
end Go.Proofs.YtppodgdhdddfkaaGreatDoor.Sg
set_option linter.unusedVariables false
set_option linter.unusedSimpArgs false
namespace Go.Proofs.YtppodgdhdddfkaaGreatDoor.Sc
set_option maxRecDepth 100000
open Go Go.RowKit Go.Proofs.YtppodgdhdddfkaaGreatDoor.Sx
open Go.Proofs.YtppodgdhdddfkaaGreatDoor.Sg
open Go.Proofs.YtppodgdhdddfkaaGreatDoor.Hd (WfB isReq rtB zR at0 le reqOf)
open Go.Proofs.YtppodgdhdddfkaaGreatDoor.Cg (splitP joinW stepU toI isD dec_unf dec_all fold_dec toI_64 foldU_lt stepU_lt split_join join_split splitP_no splitP_app splitP_len split_no head_no no32)
abbrev By:=List Int
def kOpen:Bs:=[111,112,101,110]
def kClose:Bs:=[99,108,111,115,101]
def kSend:Bs:=[115,101,110,100]
def kRecv:Bs:=[114,101,99,118]
def kGrant:Bs:=[103,114,97,110,116]
def kRevoke:Bs:=[114,101,118,111,107,101]
def kReset:Bs:=[114,101,115,101,116]
def kRelease:Bs:=[114,101,108,101,97,115,101]
def kPoll:Bs:=[112,111,108,108]
def kTick:Bs:=[116,105,99,107]
def kHex:Bs:=[104,101,120,32]
def wordQ (k:Int):Bs:=if k=1 then kOpen else if k=2 then kClose else if k=3 then kSend else if k=4 then kRecv else if k=5 then kGrant else if k=6 then kRevoke else if k=7 then kReset else if k=8 then kRelease else if k=9 then kPoll else []
def argsQ (q:GRequest):List Int:=if q.kind=1 then [q.a,q.rights] else if q.kind=5 then [q.handle,q.a,q.rights] else if q.kind=8 then [q.a,q.payload] else if q.kind=3 then [q.handle,q.payload] else if q.kind=9 then [] else [q.handle]
def natB (n:Int):Bs:=Lib.decDigits n.toNat
def numU (n:Int):Bs:=32 :: natB n
def reqT (q:GRequest):Bs:=wordQ q.kind++(argsQ q).flatMap numU
def reqP (q:GRequest):Bs × Int:=if isReq q=true then (reqT q,0) else ([],30)
def numR (s:Bs):Nat:=(s.take 21).foldl stepU 0
def numAt (w:List Bs) (i:Nat):Int:=match w[i]? with | some s=>(numR s:Int) | none=>0
def rdK (h:Bs) (x y z:Int):GRequest:=
 if h=kOpen then ⟨1,x % 256,y % 256,0,0⟩
 else if h=kClose then ⟨2,0,0,x % 4294967296,0⟩
 else if h=kSend then ⟨3,0,0,x % 4294967296,y⟩
 else if h=kRecv then ⟨4,0,0,x % 4294967296,0⟩
 else if h=kGrant then ⟨5,y % 256,z % 256,x % 4294967296,0⟩
 else if h=kRevoke then ⟨6,0,0,x % 4294967296,0⟩
 else if h=kReset then ⟨7,0,0,x % 4294967296,0⟩
 else if h=kRelease then ⟨8,x % 256,0,0,y⟩
 else ⟨9,0,0,0,0⟩
def rdR (s:Bs):GRequest:=rdK ((splitP 32 s).headD []) (numAt (splitP 32 s) 1) (numAt (splitP 32 s) 2) (numAt (splitP 32 s) 3)
def parseRq (s:Bs):GRequest × Int:=if isReq (rdR s)=true∧reqT (rdR s)=s then (rdR s,0) else (zR,260)
structure WfQ (q:GRequest):Prop where
 k:0≤q.kind∧q.kind < 256
 a:0≤q.a∧q.a < 256
 r:0≤q.rights∧q.rights < 256
 h:0≤q.handle∧q.handle < 4294967296
 p:0≤q.payload∧q.payload < 18446744073709551616
theorem numR_lt (s:Bs):numR s < 18446744073709551616:=foldU_lt _ 0 (by decide)
theorem dec_short:∀ (u:Nat),u < 18446744073709551616→(Lib.decDigits u).length≤20:=by
 have:∀ (k u:Nat),u < 10 ^ (k+1)→(Lib.decDigits u).length≤k+1:=by
  intro k
  induction k with
  | zero=>intro u h;rw [dec_unf,if_pos (by simpa using h)];simp
  | succ k ih =>
   intro u h
   rw [dec_unf]
   split
   ·simp
   ·rw [List.length_append]
    have:=ih (u / 10) (by rw [Nat.pow_succ] at h;omega)
    simp;omega
 intro u h
 exact this 19 u (by omega)
theorem numR_nat {n:Int} (h:0≤n∧n < 18446744073709551616):(numR (natB n):Int)=n:=by
 unfold numR natB
 rw [List.take_of_length_le (by have:=dec_short n.toNat (by omega);omega),fold_dec _ _ (Nat.le_refl _) (by omega)]
 omega
theorem natB_no {n:Int} {c:UInt8} (h:¬ isD c):c∉natB n:=λ hc=>h ((dec_all n.toNat n.toNat (Nat.le_refl _)).1 c hc)
theorem natB_32 {n:Int}:(32:UInt8)∉natB n:=natB_no (by unfold isD;decide)
theorem reqT_join (q:GRequest):reqT q=joinW (wordQ q.kind) ((argsQ q).map natB):=by
 unfold reqT joinW
 rw [List.flatMap_map]
 rfl
theorem word_no (k:Int):(32:UInt8)∉wordQ k:=by
 unfold wordQ
 repeat' split
 all_goals decide
theorem words_req (q:GRequest):splitP 32 (reqT q)=wordQ q.kind :: (argsQ q).map natB:=by
 rw [reqT_join,split_join (word_no _)]
 intro x hx
 obtain ⟨n,_,rfl⟩:=List.mem_map.1 hx
 exact natB_32
theorem kinds9 {q:GRequest} (h:isReq q=true):q.kind=1∨q.kind=2∨q.kind=3∨q.kind=4∨q.kind=5∨q.kind=6∨q.kind=7∨q.kind=8∨q.kind=9:=by
 unfold isReq at h
 repeat' split at h
 all_goals first | omega | cases h
theorem rdR_back {q:GRequest} (hw:WfQ q) (h:isReq q=true):rdR (reqT q)=q:=by
 have h9:=kinds9 h
 obtain ⟨kd,a,rt,ha,pa⟩:=q
 obtain ⟨_,wa,wr,wh,wp⟩:=hw
 dsimp only at h9 wa wr wh wp
 unfold rdR
 rw [words_req]
 have na:=numR_nat (n:=a) (by omega)
 have nr:=numR_nat (n:=rt) (by omega)
 have nh:=numR_nat (n:=ha) (by omega)
 have np:=numR_nat (n:=pa) (by omega)
 unfold isReq at h
 have m1:a % 256=a:=by omega
 have m2:rt % 256=rt:=by omega
 have m3:ha % 4294967296=ha:=by omega
 rcases h9 with e | e | e | e | e | e | e | e | e<;>subst e<;>simp [rtB] at h<;>simp [wordQ,argsQ,rdK,numAt,kOpen,kClose,kSend,kRecv,kGrant,kRevoke,kReset,kRelease,kPoll,na,nr,nh,np,m1,m2,m3,h]
theorem parseRq_back {q:GRequest} (hw:WfQ q) (h:isReq q=true):parseRq (reqT q)=(q,0):=by
 unfold parseRq
 rw [rdR_back hw h,if_pos ⟨h,rfl⟩]
theorem rdR_wf (s:Bs):WfQ (rdR s):=by
 have b:∀ i,0≤numAt (splitP 32 s) i∧numAt (splitP 32 s) i < 18446744073709551616:=by
  intro i
  unfold numAt
  split
  ·rename_i x _;have:=numR_lt x;omega
  ·omega
 have b1:=b 1
 have b2:=b 2
 have b3:=b 3
 unfold rdR rdK
 repeat' split
 all_goals constructor<;>dsimp only<;>omega
theorem parseRq_ok {s:Bs} (h:(parseRq s).2=0):isReq (parseRq s).1=true∧reqT (parseRq s).1=s∧WfQ (parseRq s).1∧parseRq s=(rdR s,0):=by
 unfold parseRq at h ⊢
 by_cases hc:isReq (rdR s)=true∧reqT (rdR s)=s
 ·rw [if_pos hc];exact ⟨hc.1,hc.2,rdR_wf s,rfl⟩
 ·rw [if_neg hc] at h;cases h
theorem parseRq_iff {s:Bs} {q:GRequest} (hw:WfQ q) (h:isReq q=true) (ht:reqT q=s):parseRq s=(q,0):=by
 rw [← ht];exact parseRq_back hw h
end Go.Proofs.YtppodgdhdddfkaaGreatDoor.Sc
set_option linter.unusedVariables false
set_option linter.unusedSimpArgs false
namespace Go.Proofs.YtppodgdhdddfkaaGreatDoor.Sc
set_option maxRecDepth 100000
open Go Go.RowKit Go.Proofs.YtppodgdhdddfkaaGreatDoor.Sx
open Go.Proofs.YtppodgdhdddfkaaGreatDoor.Sg
open Go.Proofs.YtppodgdhdddfkaaGreatDoor.Hd (WfB isReq rtB zR at0 le reqOf)
open Go.Proofs.YtppodgdhdddfkaaGreatDoor.Cg (splitP joinW stepU toI isD dec_unf dec_all fold_dec toI_64 foldU_lt stepU_lt split_join join_split splitP_no splitP_app splitP_len split_no head_no no32 linesOf textP parseP c0)
def hx (d:Int):UInt8:=if d < 10 then UInt8.ofNat (48+d.toNat) else UInt8.ofNat (87+d.toNat)
def hexT (b:By):Bs:=b.flatMap λ c=>[hx (c / 16),hx (c % 16)]
def pieceT (b:By):Bs:=if (Hd.parse b).2=0 then reqT (Hd.parse b).1 else kHex++hexT b
def tickB (t:GTick):Bs:=(kTick++nums t.picks)++[10]
def lineB (i:Nat) (x:By):Bs:=((Lib.itoa i++[32])++pieceT x)++[10]
def rowL (i:Nat) (b:By):List Bs:=(Hd.split b.length b).map (lineB i)
def rowsL:Nat→List By→List Bs
 | _,[]=>[]
 | i,b :: r=>rowL i b++rowsL (i+1) r
def tickL (t:GTick):List Bs:=tickB t :: rowsL 0 t.bytes
def smallT (t:GTick):Bool:=decide (t.picks.length≤64) && (decide (t.bytes.length≤16) && t.bytes.all (λ b=>decide (b.length≤1024)))
def smallS (l:List GTick):Bool:=decide (l.length≤4096) && l.all smallT
def scrL (l:List GTick):List Bs:=l.flatMap tickL
def scrB (l:List GTick):Bs:=(scrL l).flatten
def textS (c:GConf) (l:List GTick):Bs × Int:=if smallS l=false then ([],3) else if (textP c).2≠0 then ([],(textP c).2) else if 4194304 < ((textP c).1++scrB l).length then ([],2) else ((textP c).1++scrB l,0)
def intR (s:Bs):Int:=if s.head? = some 45 then toI ((18446744073709551616-numR (s.drop 1)) % 18446744073709551616) else toI (numR s)
def canI (s:Bs):Option Int:=if Lib.itoa (intR s)=s then some (intR s) else none
def cans:List Bs→Option (List Int)
 | []=>some []
 | a :: r=>match canI a,cans r with | some v,some l=>some (v :: l) | _,_=>none
def picksP (s:Bs):Option GTick:=if (splitP 32 s).headD []=kTick then (cans (splitP 32 s).tail).bind λ v=>if smallT ⟨[],v⟩=true then some ⟨[],v⟩ else none else none
def unD (c:UInt8):Option Int:=if 48≤c.toNat∧c.toNat≤57 then some ((c.toNat:Int)-48) else if 97≤c.toNat∧c.toNat≤102 then some ((c.toNat:Int)-87) else none
def unhexP:Bs→Option By
 | []=>some []
 | [_]=>none
 | a :: b :: r=>match unD a,unD b,unhexP r with | some x,some y,some l=>some ((16 * x+y) :: l) | _,_,_=>none
def lowB:Nat→Int→By
 | 0,_=>[]
 | n+1,x=>x % 256 :: lowB n (x / 256)
def bytesQ (q:GRequest):By:=([q.kind,q.a,q.rights,0]++lowB 4 q.handle)++lowB 8 q.payload
def pieceP (s:Bs):Option By:=if s.take 4=kHex∧4 < s.length then (unhexP (s.drop 4)).bind λ b=>if b.length≤16∧pieceT b=s then some b else none
 else if (parseRq s).2=0 then some (bytesQ (parseRq s).1) else none
def grow (bs:List By) (n:Nat):List By:=bs++List.replicate (n+1-bs.length) []
def moreT (t:GTick) (n:Nat) (b:By):Option GTick:=
 if (((grow t.bytes n)[n]?).getD []).length % 16≠0 then none
 else if smallT ⟨(grow t.bytes n).set n (((grow t.bytes n)[n]?).getD []++b),t.picks⟩=true then some ⟨(grow t.bytes n).set n (((grow t.bytes n)[n]?).getD []++b),t.picks⟩ else none
def moreP (t:GTick) (s:Bs):Option GTick:=
 if (splitP 32 s).length < 2 then none
 else (canI ((splitP 32 s).headD [])).bind λ n=>if 0≤n∧n < 16∧(t.bytes.length:Int)-1≤n then (pieceP (s.drop (((splitP 32 s).headD []).length+1))).bind (moreT t n.toNat) else none
def addP (l:List GTick) (z:Bs):Option (List GTick):=
 if Lib.hasSuffix z [10]=true then
  if (splitP 32 (Lib.trimSuffix z [10])).headD []=kTick then (if l.length < 4096 then (picksP (Lib.trimSuffix z [10])).map (λ t=>l++[t]) else none)
  else match l.getLast? with
   | none=>none
   | some t=>(moreP t (Lib.trimSuffix z [10])).map (λ x=>l.dropLast++[x])
 else none
def foldA:List GTick→List Bs→Option (List GTick)
 | l,[]=>some l
 | l,z :: r=>(addP l z).bind λ l'=>foldA l' r
def failA:List GTick→List Bs→Nat
 | _,[]=>0
 | l,z :: r=>match addP l z with | none=>0 | some l'=>failA l' r+1
def kBudget:Bs:=[98,117,100,103,101,116]
def headN:List Bs→Nat
 | []=>0
 | z :: r=>if z.take 6=kBudget then 1 else headN r+1
def parseS (a:Bs):GConf × List GTick × Int × Int:=
 if 4194304 < a.length then (c0,[],0,2)
 else if (parseP ((linesOf a).take (headN (linesOf a))).flatten).2.2≠0 then (c0,[],(parseP ((linesOf a).take (headN (linesOf a))).flatten).2.1,(parseP ((linesOf a).take (headN (linesOf a))).flatten).2.2)
 else match foldA [] ((linesOf a).drop (headN (linesOf a))) with
  | some l=>((parseP ((linesOf a).take (headN (linesOf a))).flatten).1,l,0,0)
  | none=>(c0,[],((headN (linesOf a)+failA [] ((linesOf a).drop (headN (linesOf a))):Nat):Int),260)
def bytesT (t:GTick):By:=((((t.picks.length:Int) % 256) :: t.picks.flatMap (λ p=>lowB 8 (p % 18446744073709551616)))++[(t.bytes.length:Int) % 256])++t.bytes.flatMap (λ b=>lowB 2 (b.length:Int)++b)
def bytesS (l:List GTick):By × Int:=if smallS l=true then (l.flatMap bytesT,0) else ([],3)
def ofT (t:GTick) (i:Nat):By:=(t.bytes[i]?).getD []
def sameT (a b:GTick):Bool:=decide (a.picks=b.picks) && (List.range (max a.bytes.length b.bytes.length)).all (λ i=>decide (ofT a i=ofT b i))
def sameS:List GTick→List GTick→Bool
 | [],[]=>true
 | a :: r,b :: s=>sameT a b && sameS r s
 | _,_=>false
theorem intR_64 (s:Bs):Sg.in64 (intR s):=by
 unfold intR
 have h1:=numR_lt s
 have h2:=numR_lt (s.drop 1)
 split<;>exact toI_64 (by omega)
theorem intR_itoa {n:Int} (h:Sg.in64 n):intR (Lib.itoa n)=n:=by
 obtain ⟨h1,h2⟩:=h
 unfold intR numR Lib.itoa
 by_cases hn:n < 0
 ·have hl:=dec_short n.natAbs (by omega)
  rw [if_pos hn,if_pos (by simp)]
  show toI ((18446744073709551616-((Lib.decDigits n.natAbs).take 21).foldl stepU 0) % 18446744073709551616)=n
  rw [List.take_of_length_le (by omega),fold_dec _ _ (Nat.le_refl _) (by omega)]
  unfold toI
  split<;>omega
 ·have hl:=dec_short n.toNat (by omega)
  rw [if_neg hn]
  have hd:=dec_all n.toNat n.toNat (Nat.le_refl _)
  rw [if_neg (λ hh=>by
   have:=hd.1 45 (List.mem_of_head? hh)
   revert this
   unfold isD
   decide)]
  rw [List.take_of_length_le (by omega),fold_dec _ _ (Nat.le_refl _) (by omega)]
  unfold toI
  split<;>omega
theorem canI_itoa {n:Int} (h:Sg.in64 n):canI (Lib.itoa n)=some n:=by
 unfold canI
 rw [intR_itoa h,if_pos rfl]
theorem canI_ok {s:Bs} {n:Int} (h:canI s=some n):Lib.itoa n=s∧Sg.in64 n:=by
 unfold canI at h
 split at h
 ·rename_i e
  cases h
  exact ⟨e,intR_64 s⟩
 ·cases h
theorem canI_atoi (s:Bs):canI s=(match Cg.atoiP s with | some v=>if Lib.itoa v=s then some v else none | none=>none):=by
 cases h:canI s with
 | some n =>
  obtain ⟨e,h64⟩:=canI_ok h
  rw [← e,Cg.atoi_itoa n h64]
  show _=if Lib.itoa n=Lib.itoa n then some n else none
  rw [if_pos rfl]
 | none =>
  cases ha:Cg.atoiP s with
  | none=>rfl
  | some v =>
   show none=if Lib.itoa v=s then some v else none
   by_cases e:Lib.itoa v=s
   ·exfalso
    have:=canI_itoa (Cg.atoiP_in64 ha)
    rw [e,h] at this;cases this
   ·rw [if_neg e]
theorem cans_itoa:∀ (ns:List Int),(∀ n∈ns,Sg.in64 n)→cans (ns.map Lib.itoa)=some ns:=by
 intro ns
 induction ns with
 | nil=>intro _;rfl
 | cons n r ih =>
  intro h
  rw [List.map_cons,cans,canI_itoa (h n (by simp)),ih (λ m hm=>h m (by simp [hm]))]
end Go.Proofs.YtppodgdhdddfkaaGreatDoor.Sc
set_option linter.unusedVariables false
set_option linter.unusedSimpArgs false
namespace Go.Proofs.YtppodgdhdddfkaaGreatDoor.Sc
set_option maxRecDepth 100000
open Go Go.RowKit Go.Proofs.YtppodgdhdddfkaaGreatDoor.Sx
open Go.Proofs.YtppodgdhdddfkaaGreatDoor.Sg
open Go.Proofs.YtppodgdhdddfkaaGreatDoor.Bi (mixed)
open Go.Proofs.YtppodgdhdddfkaaGreatDoor.Hd (WfB isReq rtB zR at0 le reqOf zReq oReq)
open Go.Proofs.YtppodgdhdddfkaaGreatDoor.Cg (splitP joinW splitP_len split_no head_no splitL_eq rw_blk r_callZ r_nnil r_nheld r_tne take_map_s split_cons2)
section
variable {Z:ZP} {w w0:World} {R:Value→World→Prop} {A:List Nat→List Value→World→Prop} {B:List Nat→Nat→List Value→World→Prop}
def badS:PanicEntry:={ v:=.iface 130 (.agg #[]),recovered:=false }
def ZS (p:Prop) (S:List Nat) (w:World):ZP:=λ cs w'=>p∧cs=[badS]∧Fr S w w'
theorem r_pans {P:Program} {ds:List Nat} (h:ZD ds Z [badS] w):wp P Z R ds (.pan (Instr.panic (.iface 130 (.agg #[])))) w A B:=⟨_,rfl,h⟩
theorem word_t (k:Int):Cz Tryz.prog 46 [.int .u8 k] w (λ r w'=>r=Tx (wordQ k)∧w'=w) Z:=by
 refine go mixed Tryz.func46 Tryz.call46 rfl (Tr.e46 _) ?_
 unfold wordQ
 refine r_if (λ h=>r_ret ⟨by rw [if_pos h];rfl,rfl⟩) (λ h1=>?_)
 rw [if_neg h1]
 refine r_if (λ h=>r_ret ⟨by rw [if_pos h];rfl,rfl⟩) (λ h2=>?_)
 rw [if_neg h2]
 refine r_if (λ h=>r_ret ⟨by rw [if_pos h];rfl,rfl⟩) (λ h3=>?_)
 rw [if_neg h3]
 refine r_if (λ h=>r_ret ⟨by rw [if_pos h];rfl,rfl⟩) (λ h4=>?_)
 rw [if_neg h4]
 refine r_if (λ h=>r_ret ⟨by rw [if_pos h];rfl,rfl⟩) (λ h5=>?_)
 rw [if_neg h5]
 refine r_if (λ h=>r_ret ⟨by rw [if_pos h];rfl,rfl⟩) (λ h6=>?_)
 rw [if_neg h6]
 refine r_if (λ h=>r_ret ⟨by rw [if_pos h];rfl,rfl⟩) (λ h7=>?_)
 rw [if_neg h7]
 refine r_if (λ h=>r_ret ⟨by rw [if_pos h];rfl,rfl⟩) (λ h8=>?_)
 rw [if_neg h8]
 refine r_if (λ h=>r_ret ⟨by rw [if_pos h];rfl,rfl⟩) (λ h9=>?_)
 rw [if_neg h9]
 exact r_ret ⟨rfl,rfl⟩
def reqLT (v1 v38:Value):T:=faT 0 v1 λ v65=>.ld v65 λ v66=>.call 46 [v66] λ v67=>lnT v38 λ v69=>.loop [(I 0),v67] (λ z1=>biT true .lss (nv z1 0) v69 λ v71=>gi v71 (ixT 1 v38 (nv z1 0) λ v72=>.ld v72 λ v73=>.call 47 [v73,(I 10)] λ v76=>.pu (binOp .add 9 (.string {data:=#[32]}) v76) λ v77=>.pu (binOp .add 9 (nv z1 1) v77) λ v78=>biT false .add (nv z1 0) (I 1) λ v79=>.again [v79,v78]) (.brk 9 [(nv z1 0),(nv z1 1)])) (λ i1 z1=>bq i1 9 (.ret (.tuple [(nv z1 1),(I 0)].toArray)) (.bad))
def u64s (l:List Int):Prop:=∀ n∈l,0≤n∧n < 18446744073709551616
theorem numU_len {n:Int} (h:0≤n∧n < 18446744073709551616):(numU n).length≤21:=by
 have:=dec_short n.toNat (by omega)
 unfold numU natB
 simp;omega
theorem flat_len {l:List Int} (h:u64s l):(l.flatMap numU).length≤21 * l.length:=by
 induction l with
 | nil=>simp
 | cons n r ih =>
  have h1:=numU_len (h n (by simp))
  have h2:=ih (λ m hm=>h m (by simp [hm]))
  simp only [List.flatMap_cons,List.length_append,List.length_cons]
  omega
theorem word_len (k:Int):(wordQ k).length≤7:=by
 unfold wordQ
 repeat' split
 all_goals decide
theorem reqL_wp {v1 c:Nat} {q:GRequest} {X:Option Addr} (B1:Blk w v1 42 (eRequest q)) (hr:Rw (rI .u64) w X (argsQ q)) (h64:u64s (argsQ q)) (hl:(argsQ q).length≤3) (G:GW w) (k:∀ w',Fr [] w w'→R (.tuple #[Tx (reqT q),I 0]) w'):wp Tryz.prog Z R [] (reqLT (Pt v1 0) (.slice X (argsQ q).length c)) w A B:=by
 refine r_ld (B1.cell (o:=0) rfl) ?_
 refine r_call (word_t q.kind) ?_
 rintro _ w1 ⟨rfl,rfl⟩
 refine r_loop (λ (i:Nat)=>[I (i:Int),Tx (wordQ q.kind++((argsQ q).take i).flatMap numU)]) (λ i w'=>i≤(argsQ q).length∧Fr [] w1 w') (λ i=>(argsQ q).length-i) 0 ⟨Nat.zero_le _,Fr.refl _ _⟩ (by simp) ?_
 rintro i w2 ⟨hi,F⟩
 refine r_if (λ h=>?_) (λ h=>?_)
 ·obtain ⟨n,hn⟩:=gt (xs:=argsQ q) (j:=i) (by omega)
  have hn64:=h64 n (List.mem_of_getElem? hn)
  obtain ⟨ad,es,rfl,rd,e3⟩:=(hr.up F) i n hn
  obtain rfl:=e3
  refine r_ob ⟨by omega,by omega⟩ ?_
  refine r_ld (cell1 rd) ?_
  obtain ⟨u,rfl⟩:∃ u:Nat,n=u:=⟨n.toNat,by omega⟩
  refine r_call (FormatUint_t u (by omega) (G.up F).t) ?_
  rintro _ w3 ⟨rfl,f3⟩
  have hd:=dec_short u (by omega)
  have hw:=word_len q.kind
  have hf:=flat_len (l:=(argsQ q).take i) (λ m hm=>h64 m (List.mem_of_mem_take hm))
  rw [List.length_take] at hf
  refine r_cat (a:=[32]) (by simp;omega) ?_
  refine r_cat (by simp only [List.length_append,List.length_cons,List.length_nil];omega) ?_
  refine r_ar (by omega) ?_
  refine r_ag (i+1) ⟨by omega,F.trans f3⟩ (by omega) ?_
  rw [List.take_add_one,hn,Option.toList_some,List.flatMap_append,List.append_assoc]
  simp [numU,natB]
 ·obtain rfl:i=(argsQ q).length:=by omega
  refine r_brk (r_ret ?_)
  rw [List.take_length]
  exact k w2 F
theorem args_64 {q:GRequest} (h:WfQ q):u64s (argsQ q)∧(argsQ q).length≤3:=by
 obtain ⟨_,h1,h2,h3,h4⟩:=h
 unfold argsQ u64s
 repeat' split
 all_goals refine ⟨λ n hn=>?_,by simp⟩
 all_goals (simp only [List.mem_cons,List.not_mem_nil,or_false] at hn)
 all_goals (first | (rcases hn with rfl | rfl | rfl<;>omega) | (rcases hn with rfl | rfl<;>omega) | (subst hn;omega) | exact hn.elim)
theorem Request_t (q:GRequest) (hw:WfQ q) (G:GW w):Cz Tryz.prog 16 [.agg (eRequest q).toArray] w (λ r w'=>r=.tuple #[Tx (reqP q).1,I (reqP q).2]∧Fr [] w w') Z:=by
 refine go mixed Tryz.func16 Tryz.call16 rfl (Tr.e16 _) ?_
 refine r_box (cs:=eRequest q) (λ v1 w1 e1 B1 f1=>?_)
 refine r_ldn (B1.rd rfl) ?_
 refine r_call (Hd.Check_t q) ?_
 rintro _ w2 ⟨rfl,f2⟩
 have F2:=f1.trans f2
 unfold reqP
 by_cases hq:isReq q=true
 ·rw [if_pos hq,if_pos hq]
  have B2:=B1.fr0 f2
  have h9:=kinds9 hq
  obtain ⟨h64,h3⟩:=args_64 hw
  obtain ⟨_,wa,wr,wh,wp⟩:=hw
  have hsort:q.kind=1∨q.kind=5∨q.kind=8∨q.kind=3∨q.kind=2∨q.kind=4∨q.kind=6∨q.kind=7∨q.kind=9:=by omega
  refine r_ld (B2.cell (o:=0) rfl) ?_
  rcases hsort with hk | hk | hk | hk | hk | hk | hk | hk | hk
  ·refine r_if (λ _=>?_) (λ h=>absurd hk h)
   have hargs:argsQ q=[q.a,q.rights]:=by unfold argsQ;rw [hk];rfl
   refine r_ld (B2.cell (o:=1) rfl) ?_
   refine r_are (y:=q.a) (Hd.wrap_u64 (by omega)) ?_
   refine r_ld (B2.cell (o:=2) rfl) ?_
   refine r_are (y:=q.rights) (Hd.wrap_u64 (by omega)) ?_
   refine r_new (v:=.slice (some ⟨w2.heap.size,0,none⟩) 2 2) (T:=40) (cs:=[.int .u64 q.a,.int .u64 q.rights]) (by kernel_rfl) (λ b3 w3 e3 B3 f3=>?_)
   rw [← e3]
   have hrow:Rw (rI .u64) w3 (some ⟨b3,0,none⟩) (argsQ q):=by rw [hargs];exact rw_blk (enc:=λ z=>[.int .u64 z]) (l:=[q.a,q.rights]) B3
   have hlen:(argsQ q).length=2:=by rw [hargs];rfl
   have:=reqL_wp (Z:=Z) (A:=λ _ _ _=>False) (B:=λ _ _ _ _=>False) (R:=λ r w'=>r=.tuple #[Tx (reqT q),I 0]∧Fr [] w w') (c:=2) (B2.fr0 f3) hrow h64 h3 (G.up (F2.trans f3)) (λ w' f=>⟨rfl,(F2.trans f3).trans f⟩)
   rw [hlen] at this
   exact this
  ·refine r_if (λ h=>absurd h (by rw [hk];decide)) (λ _=>?_)
   refine r_if (λ _=>?_) (λ h=>absurd hk h)
   have hargs:argsQ q=[q.handle,q.a,q.rights]:=by unfold argsQ;rw [hk];rfl
   refine r_ld (B2.cell (o:=3) rfl) ?_
   refine r_are (y:=q.handle) (Hd.wrap_u64 (by omega)) ?_
   refine r_ld (B2.cell (o:=1) rfl) ?_
   refine r_are (y:=q.a) (Hd.wrap_u64 (by omega)) ?_
   refine r_ld (B2.cell (o:=2) rfl) ?_
   refine r_are (y:=q.rights) (Hd.wrap_u64 (by omega)) ?_
   refine r_new (v:=.slice (some ⟨w2.heap.size,0,none⟩) 3 3) (T:=40) (cs:=[.int .u64 q.handle,.int .u64 q.a,.int .u64 q.rights]) (by kernel_rfl) (λ b3 w3 e3 B3 f3=>?_)
   rw [← e3]
   have hrow:Rw (rI .u64) w3 (some ⟨b3,0,none⟩) (argsQ q):=by rw [hargs];exact rw_blk (enc:=λ z=>[.int .u64 z]) (l:=[q.handle,q.a,q.rights]) B3
   have hlen:(argsQ q).length=3:=by rw [hargs];rfl
   have:=reqL_wp (Z:=Z) (A:=λ _ _ _=>False) (B:=λ _ _ _ _=>False) (R:=λ r w'=>r=.tuple #[Tx (reqT q),I 0]∧Fr [] w w') (c:=3) (B2.fr0 f3) hrow h64 h3 (G.up (F2.trans f3)) (λ w' f=>⟨rfl,(F2.trans f3).trans f⟩)
   rw [hlen] at this
   exact this
  ·refine r_if (λ h=>absurd h (by rw [hk];decide)) (λ _=>?_)
   refine r_if (λ h=>absurd h (by rw [hk];decide)) (λ _=>?_)
   refine r_if (λ _=>?_) (λ h=>absurd hk h)
   have hargs:argsQ q=[q.a,q.payload]:=by unfold argsQ;rw [hk];rfl
   refine r_ld (B2.cell (o:=1) rfl) ?_
   refine r_are (y:=q.a) (Hd.wrap_u64 (by omega)) ?_
   refine r_ld (B2.cell (o:=4) rfl) ?_
   refine r_new (v:=.slice (some ⟨w2.heap.size,0,none⟩) 2 2) (T:=40) (cs:=[.int .u64 q.a,.int .u64 q.payload]) (by kernel_rfl) (λ b3 w3 e3 B3 f3=>?_)
   rw [← e3]
   have hrow:Rw (rI .u64) w3 (some ⟨b3,0,none⟩) (argsQ q):=by rw [hargs];exact rw_blk (enc:=λ z=>[.int .u64 z]) (l:=[q.a,q.payload]) B3
   have hlen:(argsQ q).length=2:=by rw [hargs];rfl
   have:=reqL_wp (Z:=Z) (A:=λ _ _ _=>False) (B:=λ _ _ _ _=>False) (R:=λ r w'=>r=.tuple #[Tx (reqT q),I 0]∧Fr [] w w') (c:=2) (B2.fr0 f3) hrow h64 h3 (G.up (F2.trans f3)) (λ w' f=>⟨rfl,(F2.trans f3).trans f⟩)
   rw [hlen] at this
   exact this
  ·refine r_if (λ h=>absurd h (by rw [hk];decide)) (λ _=>?_)
   refine r_if (λ h=>absurd h (by rw [hk];decide)) (λ _=>?_)
   refine r_if (λ h=>absurd h (by rw [hk];decide)) (λ _=>?_)
   refine r_if (λ _=>?_) (λ h=>absurd hk h)
   have hargs:argsQ q=[q.handle,q.payload]:=by unfold argsQ;rw [hk];rfl
   refine r_ld (B2.cell (o:=3) rfl) ?_
   refine r_are (y:=q.handle) (Hd.wrap_u64 (by omega)) ?_
   refine r_ld (B2.cell (o:=4) rfl) ?_
   refine r_new (v:=.slice (some ⟨w2.heap.size,0,none⟩) 2 2) (T:=40) (cs:=[.int .u64 q.handle,.int .u64 q.payload]) (by kernel_rfl) (λ b3 w3 e3 B3 f3=>?_)
   rw [← e3]
   have hrow:Rw (rI .u64) w3 (some ⟨b3,0,none⟩) (argsQ q):=by rw [hargs];exact rw_blk (enc:=λ z=>[.int .u64 z]) (l:=[q.handle,q.payload]) B3
   have hlen:(argsQ q).length=2:=by rw [hargs];rfl
   have:=reqL_wp (Z:=Z) (A:=λ _ _ _=>False) (B:=λ _ _ _ _=>False) (R:=λ r w'=>r=.tuple #[Tx (reqT q),I 0]∧Fr [] w w') (c:=2) (B2.fr0 f3) hrow h64 h3 (G.up (F2.trans f3)) (λ w' f=>⟨rfl,(F2.trans f3).trans f⟩)
   rw [hlen] at this
   exact this
  ·refine r_if (λ h=>absurd h (by rw [hk];decide)) (λ _=>?_)
   refine r_if (λ h=>absurd h (by rw [hk];decide)) (λ _=>?_)
   refine r_if (λ h=>absurd h (by rw [hk];decide)) (λ _=>?_)
   refine r_if (λ h=>absurd h (by rw [hk];decide)) (λ _=>?_)
   refine r_if (λ _=>?_) (λ h=>absurd hk h)
   have hargs:argsQ q=[q.handle]:=by unfold argsQ;rw [hk];rfl
   refine r_ld (B2.cell (o:=3) rfl) ?_
   refine r_are (y:=q.handle) (Hd.wrap_u64 (by omega)) ?_
   refine r_new (v:=.slice (some ⟨w2.heap.size,0,none⟩) 1 1) (T:=40) (cs:=[.int .u64 q.handle]) (by kernel_rfl) (λ b3 w3 e3 B3 f3=>?_)
   rw [← e3]
   have hrow:Rw (rI .u64) w3 (some ⟨b3,0,none⟩) (argsQ q):=by rw [hargs];exact rw_blk (enc:=λ z=>[.int .u64 z]) (l:=[q.handle]) B3
   have hlen:(argsQ q).length=1:=by rw [hargs];rfl
   have:=reqL_wp (Z:=Z) (A:=λ _ _ _=>False) (B:=λ _ _ _ _=>False) (R:=λ r w'=>r=.tuple #[Tx (reqT q),I 0]∧Fr [] w w') (c:=1) (B2.fr0 f3) hrow h64 h3 (G.up (F2.trans f3)) (λ w' f=>⟨rfl,(F2.trans f3).trans f⟩)
   rw [hlen] at this
   exact this
  ·refine r_if (λ h=>absurd h (by rw [hk];decide)) (λ _=>?_)
   refine r_if (λ h=>absurd h (by rw [hk];decide)) (λ _=>?_)
   refine r_if (λ h=>absurd h (by rw [hk];decide)) (λ _=>?_)
   refine r_if (λ h=>absurd h (by rw [hk];decide)) (λ _=>?_)
   refine r_if (λ h=>absurd h (by rw [hk];decide)) (λ _=>?_)
   refine r_if (λ _=>?_) (λ h=>absurd hk h)
   have hargs:argsQ q=[q.handle]:=by unfold argsQ;rw [hk];rfl
   refine r_ld (B2.cell (o:=3) rfl) ?_
   refine r_are (y:=q.handle) (Hd.wrap_u64 (by omega)) ?_
   refine r_new (v:=.slice (some ⟨w2.heap.size,0,none⟩) 1 1) (T:=40) (cs:=[.int .u64 q.handle]) (by kernel_rfl) (λ b3 w3 e3 B3 f3=>?_)
   rw [← e3]
   have hrow:Rw (rI .u64) w3 (some ⟨b3,0,none⟩) (argsQ q):=by rw [hargs];exact rw_blk (enc:=λ z=>[.int .u64 z]) (l:=[q.handle]) B3
   have hlen:(argsQ q).length=1:=by rw [hargs];rfl
   have:=reqL_wp (Z:=Z) (A:=λ _ _ _=>False) (B:=λ _ _ _ _=>False) (R:=λ r w'=>r=.tuple #[Tx (reqT q),I 0]∧Fr [] w w') (c:=1) (B2.fr0 f3) hrow h64 h3 (G.up (F2.trans f3)) (λ w' f=>⟨rfl,(F2.trans f3).trans f⟩)
   rw [hlen] at this
   exact this
  ·refine r_if (λ h=>absurd h (by rw [hk];decide)) (λ _=>?_)
   refine r_if (λ h=>absurd h (by rw [hk];decide)) (λ _=>?_)
   refine r_if (λ h=>absurd h (by rw [hk];decide)) (λ _=>?_)
   refine r_if (λ h=>absurd h (by rw [hk];decide)) (λ _=>?_)
   refine r_if (λ h=>absurd h (by rw [hk];decide)) (λ _=>?_)
   refine r_if (λ h=>absurd h (by rw [hk];decide)) (λ _=>?_)
   refine r_if (λ _=>?_) (λ h=>absurd hk h)
   have hargs:argsQ q=[q.handle]:=by unfold argsQ;rw [hk];rfl
   refine r_ld (B2.cell (o:=3) rfl) ?_
   refine r_are (y:=q.handle) (Hd.wrap_u64 (by omega)) ?_
   refine r_new (v:=.slice (some ⟨w2.heap.size,0,none⟩) 1 1) (T:=40) (cs:=[.int .u64 q.handle]) (by kernel_rfl) (λ b3 w3 e3 B3 f3=>?_)
   rw [← e3]
   have hrow:Rw (rI .u64) w3 (some ⟨b3,0,none⟩) (argsQ q):=by rw [hargs];exact rw_blk (enc:=λ z=>[.int .u64 z]) (l:=[q.handle]) B3
   have hlen:(argsQ q).length=1:=by rw [hargs];rfl
   have:=reqL_wp (Z:=Z) (A:=λ _ _ _=>False) (B:=λ _ _ _ _=>False) (R:=λ r w'=>r=.tuple #[Tx (reqT q),I 0]∧Fr [] w w') (c:=1) (B2.fr0 f3) hrow h64 h3 (G.up (F2.trans f3)) (λ w' f=>⟨rfl,(F2.trans f3).trans f⟩)
   rw [hlen] at this
   exact this
  ·refine r_if (λ h=>absurd h (by rw [hk];decide)) (λ _=>?_)
   refine r_if (λ h=>absurd h (by rw [hk];decide)) (λ _=>?_)
   refine r_if (λ h=>absurd h (by rw [hk];decide)) (λ _=>?_)
   refine r_if (λ h=>absurd h (by rw [hk];decide)) (λ _=>?_)
   refine r_if (λ h=>absurd h (by rw [hk];decide)) (λ _=>?_)
   refine r_if (λ h=>absurd h (by rw [hk];decide)) (λ _=>?_)
   refine r_if (λ h=>absurd h (by rw [hk];decide)) (λ _=>?_)
   refine r_if (λ _=>?_) (λ h=>absurd hk h)
   have hargs:argsQ q=[q.handle]:=by unfold argsQ;rw [hk];rfl
   refine r_ld (B2.cell (o:=3) rfl) ?_
   refine r_are (y:=q.handle) (Hd.wrap_u64 (by omega)) ?_
   refine r_new (v:=.slice (some ⟨w2.heap.size,0,none⟩) 1 1) (T:=40) (cs:=[.int .u64 q.handle]) (by kernel_rfl) (λ b3 w3 e3 B3 f3=>?_)
   rw [← e3]
   have hrow:Rw (rI .u64) w3 (some ⟨b3,0,none⟩) (argsQ q):=by rw [hargs];exact rw_blk (enc:=λ z=>[.int .u64 z]) (l:=[q.handle]) B3
   have hlen:(argsQ q).length=1:=by rw [hargs];rfl
   have:=reqL_wp (Z:=Z) (A:=λ _ _ _=>False) (B:=λ _ _ _ _=>False) (R:=λ r w'=>r=.tuple #[Tx (reqT q),I 0]∧Fr [] w w') (c:=1) (B2.fr0 f3) hrow h64 h3 (G.up (F2.trans f3)) (λ w' f=>⟨rfl,(F2.trans f3).trans f⟩)
   rw [hlen] at this
   exact this
  ·refine r_if (λ h=>absurd h (by rw [hk];decide)) (λ _=>?_)
   refine r_if (λ h=>absurd h (by rw [hk];decide)) (λ _=>?_)
   refine r_if (λ h=>absurd h (by rw [hk];decide)) (λ _=>?_)
   refine r_if (λ h=>absurd h (by rw [hk];decide)) (λ _=>?_)
   refine r_if (λ h=>absurd h (by rw [hk];decide)) (λ _=>?_)
   refine r_if (λ h=>absurd h (by rw [hk];decide)) (λ _=>?_)
   refine r_if (λ h=>absurd h (by rw [hk];decide)) (λ _=>?_)
   refine r_if (λ h=>absurd h (by rw [hk];decide)) (λ _=>?_)
   have hargs:argsQ q=[]:=by unfold argsQ;rw [hk];rfl
   have hlen:(argsQ q).length=0:=by rw [hargs];rfl
   have:=reqL_wp (Z:=Z) (A:=λ _ _ _=>False) (B:=λ _ _ _ _=>False) (R:=λ r w'=>r=.tuple #[Tx (reqT q),I 0]∧Fr [] w w') (c:=0) (X:=none) B2 (by rw [hargs];exact Rw.nil) h64 h3 (G.up F2) (λ w' f=>⟨rfl,F2.trans f⟩)
   rw [hlen] at this
   exact this
 ·rw [if_neg hq,if_neg hq]
  exact r_ret ⟨rfl,F2⟩
end
end Go.Proofs.YtppodgdhdddfkaaGreatDoor.Sc
set_option linter.unusedVariables false
set_option linter.unusedSimpArgs false
namespace Go.Proofs.YtppodgdhdddfkaaGreatDoor.Sc
set_option maxRecDepth 100000
open Go Go.RowKit Go.Proofs.YtppodgdhdddfkaaGreatDoor.Sx
open Go.Proofs.YtppodgdhdddfkaaGreatDoor.Sg
open Go.Proofs.YtppodgdhdddfkaaGreatDoor.Bi (mixed)
open Go.Proofs.YtppodgdhdddfkaaGreatDoor.Hd (WfB isReq rtB zR at0 le reqOf zReq oReq)
open Go.Proofs.YtppodgdhdddfkaaGreatDoor.Cg (splitP joinW splitP_len split_no head_no splitL_eq rw_blk r_callZ r_nnil r_nheld r_tne take_map_s split_cons2 mag_dec)
def kindOf (h:Bs):Int:=if h=kOpen then 1 else if h=kClose then 2 else if h=kSend then 3 else if h=kRecv then 4 else if h=kGrant then 5 else if h=kRevoke then 6 else if h=kReset then 7 else if h=kRelease then 8 else if h=kPoll then 9 else 0
theorem kind_word {k:Int} (h1:1≤k) (h9:k≤9) (h:Bs):wordQ k=h↔kindOf h=k:=by
 have h0:k=1∨k=2∨k=3∨k=4∨k=5∨k=6∨k=7∨k=8∨k=9:=by omega
 constructor
 ·rintro rfl
  rcases h0 with rfl | rfl | rfl | rfl | rfl | rfl | rfl | rfl | rfl<;>decide
 ·intro e
  unfold kindOf at e
  repeat' split at e
  all_goals (first | (subst e;rename_i hh;rw [hh];rfl) | omega)
theorem kindOf_le (h:Bs):0≤kindOf h∧kindOf h≤9:=by
 unfold kindOf
 repeat' split
 all_goals decide
theorem acc_words {s h:Bs} {ws:List Bs} (hsp:splitP 32 s=h :: ws) (h0:(parseRq s).2=0):kindOf h=(parseRq s).1.kind∧1≤kindOf h∧ws=(argsQ (parseRq s).1).map natB:=by
 obtain ⟨h1,h2,h3,h4⟩:=parseRq_ok h0
 have h9:=kinds9 h1
 have e:=words_req (parseRq s).1
 rw [h2,hsp] at e
 injection e with e1 e2
 have hk:1≤(parseRq s).1.kind∧(parseRq s).1.kind≤9:=by omega
 have:=(kind_word hk.1 hk.2 h).1 e1.symm
 exact ⟨this,by omega,e2⟩
theorem acc_arg {s h:Bs} {ws:List Bs} {i:Nat} {n:Int} (hsp:splitP 32 s=h :: ws) (h0:(parseRq s).2=0) (ha:(argsQ (parseRq s).1)[i]? = some n):∃ t,(h :: ws)[i+1]? = some t∧Lib.parseMag t=.ok n.toNat∧0≤n:=by
 obtain ⟨_,_,e⟩:=acc_words hsp h0
 obtain ⟨_,_,hw,_⟩:=parseRq_ok h0
 have h64:=(args_64 hw).1 n (List.mem_of_getElem? ha)
 refine ⟨natB n,by rw [e,List.getElem?_cons_succ,List.getElem?_map,ha];rfl,mag_dec _ (by omega),h64.1⟩
theorem u8w (z:Int):IntKind.u8.wrap z=z % 256:=by simp [IntKind.wrap,IntKind.bits,IntKind.signed]
theorem u32w (z:Int):IntKind.u32.wrap z=z % 4294967296:=by simp [IntKind.wrap,IntKind.bits,IntKind.signed]
section
variable {Z:ZP} {w w0:World} {R:Value→World→Prop} {A:List Nat→List Value→World→Prop} {B:List Nat→Nat→List Value→World→Prop}
theorem unsigned_t {X:Option Addr} {c:Nat} {ws:List Bs} (hr:Rw rT w X ws) (i:Nat) (hb:i≤100) (hl:∀ a∈ws,a.length≤9000000) (G:GW w):Cz Tryz.prog 90 [.slice X ws.length c,I i] w (λ r w'=>∃ (t:Bs) (u:Nat),ws[i]? = some t∧Lib.parseMag t=.ok u∧u < 18446744073709551616∧r=.int .u64 u∧Fr [] w w') (ZS (¬ ∃ (t:Bs) (u:Nat),ws[i]? = some t∧Lib.parseMag t=.ok u) [] w):=by
 refine go mixed Tryz.func90 Tryz.call90 rfl (Tr.e90 _ _) ?_
 refine r_if (λ h=>?_) (λ h=>?_)
 ·refine r_pans ⟨?_,rfl,Fr.refl _ _⟩
  rintro ⟨t,u,ht,_⟩
  have:=(List.getElem?_eq_some_iff.1 ht).1
  omega
 obtain ⟨t,ht⟩:=gt (xs:=ws) (j:=i) (by omega)
 obtain ⟨ad,es,rfl,rd,e3⟩:=hr i t ht
 obtain rfl:=e3
 refine r_ob ⟨by omega,by omega⟩ ?_
 refine r_ld (cell1 rd) ?_
 refine r_call (ParseUint_t t (hl t (List.mem_of_getElem? ht)) G.e) ?_
 rintro _ w1 ⟨F,⟨v,hv,rfl⟩ | ⟨hv,z,tt,p,rfl⟩⟩
 ·refine r_nnil _ (by kernel_rfl) ?_
  exact r_ret ⟨t,v,ht,hv,Lib.parseMag_lt hv,rfl,F⟩
 ·refine r_nheld (by kernel_rfl) ?_
  refine r_pans ⟨?_,rfl,F⟩
  rintro ⟨t',u,ht',hu⟩
  rw [ht] at ht';cases ht'
  exact hv u hu
def finT (v2 v4 x0:Value):T:=.ldn 5 v4 λ v74=>.call 16 [v74] λ v75=>Sx.exT 0 v75 λ v76=>Sx.exT 1 v75 λ v77=>biT true .neq v77 (I 0) λ v79=>gi v79 (bdT [] [] λ v85=>.pan (Instr.panic (.iface 130 (.agg v85.toArray)))) (.pu (do eqGuard .neq 9 (.tmp 81) (.tmp 82) v76 x0;binOp .neq 9 v76 x0) λ v83=>gi v83 (bdT [] [] λ v85=>.pan (Instr.panic (.iface 130 (.agg v85.toArray)))) (.ldn 5 v4 λ v87=>.ef (Instr.storeAt 42 v2 v87) (.ldn 5 v2 λ r0=>.ret r0)))
theorem bjoin {w0 w1 w2:World} {L1 L2:LV} (H1:Bx w0 w1 L1) (H2:Bx w1 w2 L2):Bx w0 w2 (L2++L1):=by
 refine ⟨H1.F.trans H2.F,λ p hp=>?_,?_⟩
 ·rcases List.mem_append.1 hp with hp | hp
  ·exact ⟨(H2.B p hp).1,Nat.le_trans H1.F.size (H2.B p hp).2⟩
  ·exact ⟨(H1.B p hp).1.fr0 H2.F,(H1.B p hp).2⟩
 ·rw [List.map_append]
  refine List.nodup_append.2 ⟨H2.N,H1.N,λ a ha b hb e=>?_⟩
  obtain ⟨p,hp,rfl⟩:=List.mem_map.1 ha
  obtain ⟨r,hr,rfl⟩:=List.mem_map.1 hb
  have:=(H2.B p hp).2
  have:=(H1.B r hr).1.lt
  omega
def RqR (w0:World) (s:Bs) (r:Value) (w':World):Prop:=(parseRq s).2=0∧r=.agg (eRequest (parseRq s).1).toArray∧Fr [] w0 w'
theorem fin_wp {s:Bs} {v2 v4:Nat} {q:GRequest} (H:Bx w0 w [(v4,42,eRequest q),(v2,42,zReq)]) (hw:WfQ q) (G:GW w) (hun:(parseRq s).2=0→(parseRq s).1=q):wp Tryz.prog (ZS ((parseRq s).2≠0) [] w0) (RqR w0 s) [] (finT (Pt v2 0) (Pt v4 0) (Tx s)) w A B:=by
 refine b_ldn H 0 rfl ?_
 refine r_call (Request_t q hw G) ?_
 rintro _ w1 ⟨rfl,f1⟩
 have H:=H.fr f1
 unfold reqP
 by_cases hq:isReq q=true
 ·rw [if_pos hq]
  refine r_tne ?_
  refine r_if (λ h=>?_) (λ h=>?_)
  ·refine r_pans ⟨λ h0=>?_,rfl,H.F⟩
   obtain ⟨_,h2,_,_⟩:=parseRq_ok h0
   rw [hun h0] at h2
   exact h h2
  ·have ht:reqT q=s:=Classical.not_not.1 h
   have e:=parseRq_iff hw hq ht
   refine b_ldn H 0 rfl ?_
   refine b_stn (cs:=eRequest q) H 1 rfl Tryz.sizeOf42 (iRequest q) (λ w2 H=>?_)
   refine b_ldn H 1 rfl ?_
   exact b_ret H (λ F=>⟨by rw [e],by rw [e],F⟩)
 ·rw [if_neg hq]
  refine r_pans ⟨λ h0=>?_,rfl,H.F⟩
  obtain ⟨h1,_,_,_⟩:=parseRq_ok h0
  rw [hun h0] at h1
  exact hq h1
theorem request_t (s:Bs) (hl:s.length≤9000000) (G:GW w):Cz Tryz.prog 51 [Tx s] w (RqR w s) (ZS ((parseRq s).2≠0) [] w):=by
 have hsp:=split_cons2 s
 have hln:=splitP_len 32 s
 refine go mixed Tryz.func51 Tryz.call51 rfl (Tr.e51 _) ?_
 refine b_al (zs:=zReq) (Bx.nil w) Tryz.zeroValue42 (λ v2 w1 H=>?_)
 refine r_call (Split_t s 32 hl (G.up H.F).m) ?_
 rintro vw w2 ⟨HW,f2⟩
 have H:=H.fr f2
 rw [splitL_eq] at HW
 generalize (splitP 32 s).headD []=h at hsp
 generalize (splitP 32 s).tail=ws at hsp
 rw [hsp] at HW hln
 obtain ⟨X,c,rfl,_,_,hr⟩:=HW
 have hwl:∀ a∈h :: ws,a.length≤9000000:=λ a ha=>Nat.le_trans (hln.2 a ha) hl
 have hK:=kindOf_le h
 refine b_as (cs:=zReq) (zs:=zReq) (n:=5) (Bx.nil w2) Tryz.zeroValue42 Tryz.sizeOf42 (oReq zR) (λ v4 w3 H4=>?_)
 refine r_loop (λ (k:Nat)=>[.int .u8 (k:Int)]) (λ k w'=>1≤k∧k≤10∧Bx w2 w' [(v4,42,[.int .u8 (if kindOf h < k then kindOf h else 0),.int .u8 0,.int .u8 0,.int .u32 0,.int .u64 0])]) (λ k=>10-k) 1 ⟨Nat.le_refl _,by decide,?_⟩ rfl ?_
 ·have e:(if kindOf h < ((1:Nat):Int) then kindOf h else 0)=0:=by split<;>omega
  rw [e]
  exact H4
 clear H4
 rintro k w4 ⟨hk1,hk2,H4⟩
 refine r_if (λ hk=>?_) (λ hk=>?_)
 ·refine b_dr H4 (λ w5 H4=>?_)
  obtain ⟨ad,es,rfl,rd,e3⟩:=(hr.up H4.F) 0 h rfl
  obtain rfl:=e3
  refine r_ob ⟨by decide,by simp⟩ ?_
  refine r_ld (cell1 rd) ?_
  refine r_call (word_t (k:Int)) ?_
  rintro _ w6 ⟨rfl,rfl⟩
  refine r_chk (cell1 rd) ?_
  refine r_teq (a:=wordQ k) (b:=h) ?_
  have hkw:=kind_word (k:=(k:Int)) (by omega) (by omega) h
  have e8:IntKind.u8.wrap ((k:Int)+1)=((k+1:Nat):Int):=by rw [u8w];omega
  refine r_if (λ e=>?_) (λ e=>?_)
  ·have ek:=hkw.1 e
   refine b_st H4 0 rfl Tryz.sizeOf38 (λ w7 H4=>?_)
   refine r_are e8 ?_
   refine r_ag (k+1) ⟨by omega,by omega,?_⟩ (by omega) rfl
   rw [if_pos (by omega),ek]
   exact H4
  ·have ek:kindOf h≠k:=λ e'=>e (hkw.2 e')
   refine r_are e8 ?_
   refine r_ag (k+1) ⟨by omega,by omega,?_⟩ (by omega) rfl
   have ee:(if kindOf h < ((k+1:Nat):Int) then kindOf h else 0)=(if kindOf h < (k:Int) then kindOf h else 0):=by
    by_cases h2:kindOf h < (k:Int)
    ·rw [if_pos h2,if_pos (by omega)]
    ·rw [if_neg h2,if_neg (by omega)]
   rw [ee]
   exact H4
 obtain rfl:k=10:=by omega
 rw [if_pos (by omega)] at H4
 have H:=bjoin H H4
 have hr:=hr.up H4.F
 clear H4
 refine r_brk ?_
 refine b_ld H 0 rfl rfl ?_
 have noarg:∀ (i:Nat),((parseRq s).2=0→∃ n,(argsQ (parseRq s).1)[i]? = some n)→(¬ ∃ (t:Bs) (u:Nat),(h :: ws)[i+1]? = some t∧Lib.parseMag t=.ok u)→(parseRq s).2≠0:=λ i hh hno h0=>by
  obtain ⟨n,hn⟩:=hh h0
  obtain ⟨t,h1,h2,_⟩:=acc_arg hsp h0 hn
  exact hno ⟨t,_,h1,h2⟩
 have isarg:∀ {i:Nat} {n:Int} {t:Bs} {u:Nat},(parseRq s).2=0→(argsQ (parseRq s).1)[i]? = some n→(h :: ws)[i+1]? = some t→Lib.parseMag t=.ok u→(u:Int)=n:=λ h0 hn ht hu=>by
  obtain ⟨t',h1,h2,h3⟩:=acc_arg hsp h0 hn
  rw [ht] at h1
  cases h1
  rw [hu] at h2
  injection h2 with h2
  omega
 have hsort:kindOf h=1∨kindOf h=5∨kindOf h=8∨kindOf h=3∨kindOf h=9∨(kindOf h=2∨kindOf h=4∨kindOf h=6∨kindOf h=7∨kindOf h=0):=by omega
 have kin:(parseRq s).2=0→kindOf h=(parseRq s).1.kind:=λ h0=>(acc_words hsp h0).1
 have kin0:(parseRq s).2=0→1≤kindOf h:=λ h0=>(acc_words hsp h0).2.1
 rcases hsort with hk | hk | hk | hk | hk | hk
 ·refine r_if (λ _=>?_) (λ e=>absurd hk e)
  have hargs:(parseRq s).2=0→argsQ (parseRq s).1=[(parseRq s).1.a,(parseRq s).1.rights]:=λ h0=>by have:=kin h0;unfold argsQ;rw [← this,hk];rfl
  refine r_callZ (unsigned_t hr 1 (by decide) hwl (G.up H.F)) ?_ (λ c w' hz=>by obtain ⟨h1,rfl,h3⟩:=hz;exact ⟨noarg 0 (λ h0=>⟨_,by rw [hargs h0];rfl⟩) h1,rfl,H.F.trans h3⟩)
  rintro _ w10 ⟨t0,u0,ht0,hu0,hb0,rfl,g0⟩
  have H:=H.fr g0
  have hr:=hr.up g0
  refine r_are (y:=(u0:Int) % 256) (u8w _) ?_
  refine r_callZ (unsigned_t hr 2 (by decide) hwl (G.up H.F)) ?_ (λ c w' hz=>by obtain ⟨h1,rfl,h3⟩:=hz;exact ⟨noarg 1 (λ h0=>⟨_,by rw [hargs h0];rfl⟩) h1,rfl,H.F.trans h3⟩)
  rintro _ w11 ⟨t1,u1,ht1,hu1,hb1,rfl,g1⟩
  have H:=H.fr g1
  have hr:=hr.up g1
  refine r_are (y:=(u1:Int) % 256) (u8w _) ?_
  refine b_st H 0 rfl Tryz.sizeOf5 (λ w20 H=>?_)
  refine b_st H 0 rfl Tryz.sizeOf5 (λ w21 H=>?_)
  refine fin_wp (q:=⟨kindOf h,(u0:Int) % 256,(u1:Int) % 256,0,0⟩) H ⟨⟨by dsimp only;omega,by dsimp only;omega⟩,⟨by dsimp only;omega,by dsimp only;omega⟩,⟨by dsimp only;omega,by dsimp only;omega⟩,⟨by dsimp only;omega,by dsimp only;omega⟩,⟨by dsimp only;omega,by dsimp only;omega⟩⟩ (G.up H.F) (λ h0=>?_)
  have ka:=hargs h0
  obtain ⟨hq,_,hwq,_⟩:=parseRq_ok h0
  have kk:=kin h0
  have kk0:=kin0 h0
  have a0:=isarg (i:=0) (n:=(parseRq s).1.a) h0 (by rw [ka];rfl) ht0 hu0
  have a1:=isarg (i:=1) (n:=(parseRq s).1.rights) h0 (by rw [ka];rfl) ht1 hu1
  obtain ⟨k_,a_,r_,h_,p_⟩:=hwq
  generalize (parseRq s).1=q at *
  obtain ⟨qk,qa,qr,qh,qp⟩:=q
  dsimp only at *
  unfold isReq rtB at hq
  dsimp only at hq
  rw [← kk,hk] at hq
  simp at hq
  rw [GRequest.mk.injEq]
  refine ⟨by omega,by omega,by omega,by omega,by omega⟩
 ·refine r_if (λ e=>absurd e (by omega)) (λ _=>?_)
  refine r_if (λ _=>?_) (λ e=>absurd hk e)
  have hargs:(parseRq s).2=0→argsQ (parseRq s).1=[(parseRq s).1.handle,(parseRq s).1.a,(parseRq s).1.rights]:=λ h0=>by have:=kin h0;unfold argsQ;rw [← this,hk];rfl
  refine r_callZ (unsigned_t hr 1 (by decide) hwl (G.up H.F)) ?_ (λ c w' hz=>by obtain ⟨h1,rfl,h3⟩:=hz;exact ⟨noarg 0 (λ h0=>⟨_,by rw [hargs h0];rfl⟩) h1,rfl,H.F.trans h3⟩)
  rintro _ w10 ⟨t0,u0,ht0,hu0,hb0,rfl,g0⟩
  have H:=H.fr g0
  have hr:=hr.up g0
  refine r_are (y:=(u0:Int) % 4294967296) (u32w _) ?_
  refine r_callZ (unsigned_t hr 2 (by decide) hwl (G.up H.F)) ?_ (λ c w' hz=>by obtain ⟨h1,rfl,h3⟩:=hz;exact ⟨noarg 1 (λ h0=>⟨_,by rw [hargs h0];rfl⟩) h1,rfl,H.F.trans h3⟩)
  rintro _ w11 ⟨t1,u1,ht1,hu1,hb1,rfl,g1⟩
  have H:=H.fr g1
  have hr:=hr.up g1
  refine r_are (y:=(u1:Int) % 256) (u8w _) ?_
  refine r_callZ (unsigned_t hr 3 (by decide) hwl (G.up H.F)) ?_ (λ c w' hz=>by obtain ⟨h1,rfl,h3⟩:=hz;exact ⟨noarg 2 (λ h0=>⟨_,by rw [hargs h0];rfl⟩) h1,rfl,H.F.trans h3⟩)
  rintro _ w12 ⟨t2,u2,ht2,hu2,hb2,rfl,g2⟩
  have H:=H.fr g2
  have hr:=hr.up g2
  refine r_are (y:=(u2:Int) % 256) (u8w _) ?_
  refine b_st H 0 rfl Tryz.sizeOf39 (λ w20 H=>?_)
  refine b_st H 0 rfl Tryz.sizeOf5 (λ w21 H=>?_)
  refine b_st H 0 rfl Tryz.sizeOf5 (λ w22 H=>?_)
  refine fin_wp (q:=⟨kindOf h,(u1:Int) % 256,(u2:Int) % 256,(u0:Int) % 4294967296,0⟩) H ⟨⟨by dsimp only;omega,by dsimp only;omega⟩,⟨by dsimp only;omega,by dsimp only;omega⟩,⟨by dsimp only;omega,by dsimp only;omega⟩,⟨by dsimp only;omega,by dsimp only;omega⟩,⟨by dsimp only;omega,by dsimp only;omega⟩⟩ (G.up H.F) (λ h0=>?_)
  have ka:=hargs h0
  obtain ⟨hq,_,hwq,_⟩:=parseRq_ok h0
  have kk:=kin h0
  have kk0:=kin0 h0
  have a0:=isarg (i:=0) (n:=(parseRq s).1.handle) h0 (by rw [ka];rfl) ht0 hu0
  have a1:=isarg (i:=1) (n:=(parseRq s).1.a) h0 (by rw [ka];rfl) ht1 hu1
  have a2:=isarg (i:=2) (n:=(parseRq s).1.rights) h0 (by rw [ka];rfl) ht2 hu2
  obtain ⟨k_,a_,r_,h_,p_⟩:=hwq
  generalize (parseRq s).1=q at *
  obtain ⟨qk,qa,qr,qh,qp⟩:=q
  dsimp only at *
  unfold isReq rtB at hq
  dsimp only at hq
  rw [← kk,hk] at hq
  simp at hq
  rw [GRequest.mk.injEq]
  refine ⟨by omega,by omega,by omega,by omega,by omega⟩
 ·refine r_if (λ e=>absurd e (by omega)) (λ _=>?_)
  refine r_if (λ e=>absurd e (by omega)) (λ _=>?_)
  refine r_if (λ _=>?_) (λ e=>absurd hk e)
  have hargs:(parseRq s).2=0→argsQ (parseRq s).1=[(parseRq s).1.a,(parseRq s).1.payload]:=λ h0=>by have:=kin h0;unfold argsQ;rw [← this,hk];rfl
  refine r_callZ (unsigned_t hr 1 (by decide) hwl (G.up H.F)) ?_ (λ c w' hz=>by obtain ⟨h1,rfl,h3⟩:=hz;exact ⟨noarg 0 (λ h0=>⟨_,by rw [hargs h0];rfl⟩) h1,rfl,H.F.trans h3⟩)
  rintro _ w10 ⟨t0,u0,ht0,hu0,hb0,rfl,g0⟩
  have H:=H.fr g0
  have hr:=hr.up g0
  refine r_are (y:=(u0:Int) % 256) (u8w _) ?_
  refine r_callZ (unsigned_t hr 2 (by decide) hwl (G.up H.F)) ?_ (λ c w' hz=>by obtain ⟨h1,rfl,h3⟩:=hz;exact ⟨noarg 1 (λ h0=>⟨_,by rw [hargs h0];rfl⟩) h1,rfl,H.F.trans h3⟩)
  rintro _ w11 ⟨t1,u1,ht1,hu1,hb1,rfl,g1⟩
  have H:=H.fr g1
  have hr:=hr.up g1
  refine b_st H 0 rfl Tryz.sizeOf5 (λ w20 H=>?_)
  refine b_st H 0 rfl Tryz.sizeOf40 (λ w21 H=>?_)
  refine fin_wp (q:=⟨kindOf h,(u0:Int) % 256,0,0,(u1:Int)⟩) H ⟨⟨by dsimp only;omega,by dsimp only;omega⟩,⟨by dsimp only;omega,by dsimp only;omega⟩,⟨by dsimp only;omega,by dsimp only;omega⟩,⟨by dsimp only;omega,by dsimp only;omega⟩,⟨by dsimp only;omega,by dsimp only;omega⟩⟩ (G.up H.F) (λ h0=>?_)
  have ka:=hargs h0
  obtain ⟨hq,_,hwq,_⟩:=parseRq_ok h0
  have kk:=kin h0
  have kk0:=kin0 h0
  have a0:=isarg (i:=0) (n:=(parseRq s).1.a) h0 (by rw [ka];rfl) ht0 hu0
  have a1:=isarg (i:=1) (n:=(parseRq s).1.payload) h0 (by rw [ka];rfl) ht1 hu1
  obtain ⟨k_,a_,r_,h_,p_⟩:=hwq
  generalize (parseRq s).1=q at *
  obtain ⟨qk,qa,qr,qh,qp⟩:=q
  dsimp only at *
  unfold isReq rtB at hq
  dsimp only at hq
  rw [← kk,hk] at hq
  simp at hq
  rw [GRequest.mk.injEq]
  refine ⟨by omega,by omega,by omega,by omega,by omega⟩
 ·refine r_if (λ e=>absurd e (by omega)) (λ _=>?_)
  refine r_if (λ e=>absurd e (by omega)) (λ _=>?_)
  refine r_if (λ e=>absurd e (by omega)) (λ _=>?_)
  refine r_if (λ _=>?_) (λ e=>absurd hk e)
  have hargs:(parseRq s).2=0→argsQ (parseRq s).1=[(parseRq s).1.handle,(parseRq s).1.payload]:=λ h0=>by have:=kin h0;unfold argsQ;rw [← this,hk];rfl
  refine r_callZ (unsigned_t hr 1 (by decide) hwl (G.up H.F)) ?_ (λ c w' hz=>by obtain ⟨h1,rfl,h3⟩:=hz;exact ⟨noarg 0 (λ h0=>⟨_,by rw [hargs h0];rfl⟩) h1,rfl,H.F.trans h3⟩)
  rintro _ w10 ⟨t0,u0,ht0,hu0,hb0,rfl,g0⟩
  have H:=H.fr g0
  have hr:=hr.up g0
  refine r_are (y:=(u0:Int) % 4294967296) (u32w _) ?_
  refine r_callZ (unsigned_t hr 2 (by decide) hwl (G.up H.F)) ?_ (λ c w' hz=>by obtain ⟨h1,rfl,h3⟩:=hz;exact ⟨noarg 1 (λ h0=>⟨_,by rw [hargs h0];rfl⟩) h1,rfl,H.F.trans h3⟩)
  rintro _ w11 ⟨t1,u1,ht1,hu1,hb1,rfl,g1⟩
  have H:=H.fr g1
  have hr:=hr.up g1
  refine b_st H 0 rfl Tryz.sizeOf39 (λ w20 H=>?_)
  refine b_st H 0 rfl Tryz.sizeOf40 (λ w21 H=>?_)
  refine fin_wp (q:=⟨kindOf h,0,0,(u0:Int) % 4294967296,(u1:Int)⟩) H ⟨⟨by dsimp only;omega,by dsimp only;omega⟩,⟨by dsimp only;omega,by dsimp only;omega⟩,⟨by dsimp only;omega,by dsimp only;omega⟩,⟨by dsimp only;omega,by dsimp only;omega⟩,⟨by dsimp only;omega,by dsimp only;omega⟩⟩ (G.up H.F) (λ h0=>?_)
  have ka:=hargs h0
  obtain ⟨hq,_,hwq,_⟩:=parseRq_ok h0
  have kk:=kin h0
  have kk0:=kin0 h0
  have a0:=isarg (i:=0) (n:=(parseRq s).1.handle) h0 (by rw [ka];rfl) ht0 hu0
  have a1:=isarg (i:=1) (n:=(parseRq s).1.payload) h0 (by rw [ka];rfl) ht1 hu1
  obtain ⟨k_,a_,r_,h_,p_⟩:=hwq
  generalize (parseRq s).1=q at *
  obtain ⟨qk,qa,qr,qh,qp⟩:=q
  dsimp only at *
  unfold isReq rtB at hq
  dsimp only at hq
  rw [← kk,hk] at hq
  simp at hq
  rw [GRequest.mk.injEq]
  refine ⟨by omega,by omega,by omega,by omega,by omega⟩
 ·refine r_if (λ e=>absurd e (by omega)) (λ _=>?_)
  refine r_if (λ e=>absurd e (by omega)) (λ _=>?_)
  refine r_if (λ e=>absurd e (by omega)) (λ _=>?_)
  refine r_if (λ e=>absurd e (by omega)) (λ _=>?_)
  refine r_if (λ _=>?_) (λ e=>absurd hk e)
  have hargs:(parseRq s).2=0→argsQ (parseRq s).1=[]:=λ h0=>by have:=kin h0;unfold argsQ;rw [← this,hk];rfl
  refine fin_wp (q:=⟨kindOf h,0,0,0,0⟩) H ⟨⟨by dsimp only;omega,by dsimp only;omega⟩,⟨by dsimp only;omega,by dsimp only;omega⟩,⟨by dsimp only;omega,by dsimp only;omega⟩,⟨by dsimp only;omega,by dsimp only;omega⟩,⟨by dsimp only;omega,by dsimp only;omega⟩⟩ (G.up H.F) (λ h0=>?_)
  have ka:=hargs h0
  obtain ⟨hq,_,hwq,_⟩:=parseRq_ok h0
  have kk:=kin h0
  have kk0:=kin0 h0
  obtain ⟨k_,a_,r_,h_,p_⟩:=hwq
  generalize (parseRq s).1=q at *
  obtain ⟨qk,qa,qr,qh,qp⟩:=q
  dsimp only at *
  unfold isReq rtB at hq
  dsimp only at hq
  rw [← kk,hk] at hq
  simp at hq
  rw [GRequest.mk.injEq]
  refine ⟨by omega,by omega,by omega,by omega,by omega⟩
 ·refine r_if (λ e=>absurd e (by omega)) (λ _=>?_)
  refine r_if (λ e=>absurd e (by omega)) (λ _=>?_)
  refine r_if (λ e=>absurd e (by omega)) (λ _=>?_)
  refine r_if (λ e=>absurd e (by omega)) (λ _=>?_)
  refine r_if (λ e=>absurd e (by omega)) (λ _=>?_)
  have hargs:(parseRq s).2=0→argsQ (parseRq s).1=[(parseRq s).1.handle]:=λ h0=>by have h1:=kin h0;have h2:=kin0 h0;unfold argsQ;rw [if_neg (by omega),if_neg (by omega),if_neg (by omega),if_neg (by omega),if_neg (by omega)]
  refine r_callZ (unsigned_t hr 1 (by decide) hwl (G.up H.F)) ?_ (λ c w' hz=>by obtain ⟨h1,rfl,h3⟩:=hz;exact ⟨noarg 0 (λ h0=>⟨_,by rw [hargs h0];rfl⟩) h1,rfl,H.F.trans h3⟩)
  rintro _ w10 ⟨t0,u0,ht0,hu0,hb0,rfl,g0⟩
  have H:=H.fr g0
  have hr:=hr.up g0
  refine r_are (y:=(u0:Int) % 4294967296) (u32w _) ?_
  refine b_st H 0 rfl Tryz.sizeOf39 (λ w20 H=>?_)
  refine fin_wp (q:=⟨kindOf h,0,0,(u0:Int) % 4294967296,0⟩) H ⟨⟨by dsimp only;omega,by dsimp only;omega⟩,⟨by dsimp only;omega,by dsimp only;omega⟩,⟨by dsimp only;omega,by dsimp only;omega⟩,⟨by dsimp only;omega,by dsimp only;omega⟩,⟨by dsimp only;omega,by dsimp only;omega⟩⟩ (G.up H.F) (λ h0=>?_)
  have ka:=hargs h0
  obtain ⟨hq,_,hwq,_⟩:=parseRq_ok h0
  have kk:=kin h0
  have kk0:=kin0 h0
  have a0:=isarg (i:=0) (n:=(parseRq s).1.handle) h0 (by rw [ka];rfl) ht0 hu0
  obtain ⟨k_,a_,r_,h_,p_⟩:=hwq
  generalize (parseRq s).1=q at *
  obtain ⟨qk,qa,qr,qh,qp⟩:=q
  dsimp only at *
  unfold isReq rtB at hq
  dsimp only at hq
  rw [GRequest.mk.injEq]
  rcases hk with hk | hk | hk | hk | hk<;>first | (rw [← kk,hk] at hq;simp at hq;exact ⟨by omega,by omega,by omega,by omega,by omega⟩) | omega
end
end Go.Proofs.YtppodgdhdddfkaaGreatDoor.Sc
set_option linter.unusedVariables false
set_option linter.unusedSimpArgs false
namespace Go.Proofs.YtppodgdhdddfkaaGreatDoor.Sc
open Go Go.RowKit Go.Proofs Go.Proofs.YtppodgdhdddfkaaGreatDoor.Sx
set_option maxRecDepth 100000
theorem catch_idle (p:Addr) (w:World) :
  CallsD Tryz.prog 74 #[.pointer (some p)] .returning w λ e u' w'=>e=.returned (.tuple #[])∧u'=.returning∧w'=w:=by
 refine callsD_of_wpS Tryz.func74 rfl λ c₀ cs hu=>?_
 apply wpS_seq
 apply wpS_region
 simp [wpOpsS,go_sem,recoverD,hu,Tryz.ntmps74,Exit.thenS]
 apply wpS_seq
 apply wpS_region
 simp [wpOpsS,go_sem,recoverD,hu,Exit.thenS]
 refine wpS_cond (t:=false) (by simp [Act.eval,Array.replicate]) ?_
 simp only [Bool.false_eq_true,if_false]
 refine wpS_of_wp (wp_skip ?_)
 cases c₀
 simp_all [bodyPostS,results,Tryz.results74]
theorem hal (w:World):(Instr.alloc 130 true (.tuple #[])).run Tryz.prog w=.ok (.pointer (some ⟨w.heap.size,0,none⟩)) (w.alloc (.cells #[] 130)):=by kernel_rfl
theorem hst (w:World) (q:Nat):(Instr.storeAt 130 (.pointer (some ⟨q,0,none⟩)) (.agg #[])).run Tryz.prog w=.ok () w:=by kernel_rfl
theorem hta (w:World):(Instr.typeAssert (.iface 130 (.agg #[])) 20 130 true).run Tryz.prog w=.ok (.tuple #[.agg #[],.bool true]) w:=by kernel_rfl
theorem catch_bad (p:Addr) (x:Bool) (older:List PanicEntry) (w:World) (hc:w.cell? p=some (.bool x)) (hz:w.frozen? p=false) (hl:p.block < w.heap.size) :
  CallsD Tryz.prog 74 #[.pointer (some p)] (.panicking ({ v:=.iface 130 (.agg #[]),recovered:=false } :: older)) w λ e u' w' =>
   e=.returned (.tuple #[])∧u'=.panicking ({ v:=.iface 130 (.agg #[]),recovered:=true } :: older)∧w'=(w.alloc (.cells #[] 130)).setCell p (.bool false):=by
 have t20:Tryz.prog.underlying 20=some (.interface (Tryz.prog.methodsAt 20)):=by kernel_rfl
 have hn:=λ w=>run_neq_held_nil (P:=Tryz.prog) w 20 130 (.agg #[]) t20
 refine callsD_of_wpS Tryz.func74 rfl λ c₀ cs hu=>?_
 apply wpS_seq
 apply wpS_region
 simp [wpOpsS,go_sem,recoverD,hu,Tryz.ntmps74,Exit.thenS]
 apply wpS_seq
 apply wpS_region
 simp [wpOpsS,go_sem,recoverD,Exit.thenS,hn]
 refine wpS_cond (t:=true) (by simp [Act.eval,Array.replicate]) ?_
 simp only [if_true]
 apply wpS_seq
 apply wpS_seq
 apply wpS_region
 simp [wpOpsS,go_sem,recoverD,Exit.thenS,hal,hst,hta]
 apply wpS_seq
 apply wpS_region
 simp [wpOpsS,go_sem,recoverD,Exit.thenS]
 refine wpS_cond (t:=false) (by simp [Act.eval,Array.replicate]) ?_
 simp only [Bool.false_eq_true,if_false]
 refine wpS_of_wp (wp_skip ?_)
 have hc':(w.alloc (.cells #[] 130)).cell? p=some (.bool x):=by
  unfold World.cell? at hc ⊢
  rw [show (w.alloc (.cells #[] 130)).heap[p.block]? = w.heap[p.block]? from Go.RowKit.Below.heap_alloc _ _ _ hl]
  exact hc
 have hz':(w.alloc (.cells #[] 130)).frozen? p=false:=by
  unfold World.frozen? at hz ⊢
  rw [show (w.alloc (.cells #[] 130)).heap[p.block]? = w.heap[p.block]? from Go.RowKit.Below.heap_alloc _ _ _ hl]
  exact hz
 simp only [Exit.thenS]
 apply wpS_region
 simp [wpOpsS,go_sem,hc',hz',bodyPostS,results,Tryz.results74]
theorem fits_calls (K:Nat) (cp:Array Value) (w:World) (Q Y:World→Prop) (hcf:∀ args w,(callFunc K args).run Tryz.prog w=.ok (.enter K args) w)
  (h:Calls Tryz.prog K cp (w.alloc (.cells #[.bool false] 4)) λ e w'=>w.heap.size < w'.heap.size∧w'.heap[w.heap.size]? = some (.cells #[.bool false] 4 (0,0))∧((e=.returned (.tuple #[])∧Q w')∨(e=.panicked [badS]∧Y w'))) :
  Calls Tryz.prog 34 #[.func (.func K) #[] cp] w λ e w2=>(e=.returned (.bool true)∧∃ w1,Q w1∧w2=w1.setCell ⟨w.heap.size,0,none⟩ (.bool true))∨(e=.returned (.bool false)∧∃ w1,Y w1∧w2=(w1.alloc (.cells #[] 130)).setCell ⟨w.heap.size,0,none⟩ (.bool false)):=by
 have hmf:∀ (fn:Fn) (first cap:Array Value) (w:World),(Instr.makeFunc fn first cap).run Tryz.prog w=.ok (.func fn first cap) w:=λ _ _ _ _=>rfl
 have h':Calls Tryz.prog K cp (w.alloc (.cells #[.bool false] 4)) λ e w'=>w.heap.size < w'.heap.size∧w'.cell? ⟨w.heap.size,0,none⟩=some (.bool false)∧w'.frozen? ⟨w.heap.size,0,none⟩=false∧((e=.returned (.tuple #[])∧Q w')∨(e=.panicked [badS]∧Y w')):=
  h.mono λ e w' ⟨h1,h2,h3⟩=>⟨h1,by simp [World.cell?,h2],by simp [World.frozen?,h2],h3⟩
 clear h
 go_enter_defers Tryz.func34,Tryz.ntmps34
 go_wp2_with (refine h'.mono ?_;rintro e w' ⟨hlt,hc,hz,⟨rfl,hq⟩ | ⟨rfl,hy⟩⟩)
 ·refine leaves_cons (f:=74) (args:=#[.pointer (some ⟨w.heap.size,0,none⟩)]) (by simp) (by simp [go_sem]) ?_
  refine (catch_idle ⟨w.heap.size,0,none⟩ _).mono ?_
  rintro e u' w'' ⟨rfl,rfl,rfl⟩
  have hc2:(w'.setCell ⟨w.heap.size,0,none⟩ (.bool true)).cell? ⟨w.heap.size,0,none⟩=some (.bool true):=World.cell?_setCell_same _ _ _ hc
  simp [Leaves,settle,results,Tryz.results34,go_sem,hc2]
  exact ⟨w',hq,rfl⟩
 ·refine leaves_cons (f:=74) (args:=#[.pointer (some ⟨w.heap.size,0,none⟩)]) (by simp) (by simp [go_sem]) ?_
  refine (catch_bad ⟨w.heap.size,0,none⟩ false [] _ hc hz hlt).mono ?_
  rintro e u' w'' ⟨rfl,rfl,rfl⟩
  have hc1:(w'.alloc (.cells #[] 130)).cell? ⟨w.heap.size,0,none⟩=some (.bool false):=by
   unfold World.cell? at hc ⊢
   rw [show (w'.alloc (.cells #[] 130)).heap[w.heap.size]? = w'.heap[w.heap.size]? from Go.RowKit.Below.heap_alloc _ _ _ hlt]
   exact hc
  have hc2:((w'.alloc (.cells #[] 130)).setCell ⟨w.heap.size,0,none⟩ (.bool false)).cell? ⟨w.heap.size,0,none⟩=some (.bool false):=World.cell?_setCell_same _ _ _ hc1
  simp [Leaves,settle,results,Tryz.results34,go_sem,hc2]
  exact ⟨w',hy,rfl⟩
end Go.Proofs.YtppodgdhdddfkaaGreatDoor.Sc
set_option linter.unusedVariables false
set_option linter.unusedSimpArgs false
namespace Go.Proofs.YtppodgdhdddfkaaGreatDoor.Sc
set_option maxRecDepth 100000
open Go Go.RowKit Go.Proofs.YtppodgdhdddfkaaGreatDoor.Sx
open Go.Proofs.YtppodgdhdddfkaaGreatDoor.Sg
open Go.Proofs.YtppodgdhdddfkaaGreatDoor.Bi (mixed)
open Go.Proofs.YtppodgdhdddfkaaGreatDoor.Hd (WfB isReq rtB zR at0 le reqOf zReq oReq)
open Go.Proofs.YtppodgdhdddfkaaGreatDoor.Cg (splitP joinW splitP_len split_no head_no splitL_eq rw_blk r_callZ r_nnil r_nheld r_tne take_map_s split_cons2 mag_dec)
section
variable {Z:ZP} {w w0:World} {R:Value→World→Prop} {A:List Nat→List Value→World→Prop} {B:List Nat→Nat→List Value→World→Prop}
def FitR (S:List Nat) (w:World) (Q Y:World→Prop) (r:Value) (w':World):Prop:=Fr S w w'∧((r=.bool true∧∃ w1,Q w1∧Fr [w.heap.size] w1 w'∧w.heap.size < w1.heap.size)∨(r=.bool false∧∃ w1,Y w1∧Fr [w.heap.size] w1 w'∧w.heap.size < w1.heap.size))
theorem fits_t {K:Nat} {cp:List Value} (S:List Nat) (Q Y:World→Prop) (hS:∀ q∈S,q < w.heap.size) (h:∀ wA,Fr [] w wA→w.heap.size < wA.heap.size→Cz Tryz.prog K cp wA (λ r w'=>r=.tuple #[]∧Q w'∧Fr S wA w') (λ c w'=>c=[badS]∧Y w'∧Fr S wA w')):Cz Tryz.prog 34 [.func (.func K) #[] cp.toArray] w (FitR S w Q Y) Z:=by
 have fA:=Fr.alloc w (.cells #[.bool false] 4)
 have hsz:(w.alloc (.cells #[.bool false] 4)).heap.size=w.heap.size+1:=by simp
 have hA:=h _ fA (by omega)
 have hB:Blk (w.alloc (.cells #[.bool false] 4)) w.heap.size 4 [.bool false]:=Blk.alloc w _ _
 have hcell:∀ w',Fr S (w.alloc (.cells #[.bool false] 4)) w'→w.heap.size < w'.heap.size∧w'.heap[w.heap.size]? = some (.cells #[.bool false] 4 (0,0)):=λ w' f =>
  ⟨by have:=f.size;omega,hB.fr f (λ hq=>by have:=hS _ hq;omega)⟩
 refine ⟨Tryz.call34,Calls.mono (fits_calls K cp.toArray w (λ w'=>Q w'∧Fr S (w.alloc (.cells #[.bool false] 4)) w') (λ w'=>Y w'∧Fr S (w.alloc (.cells #[.bool false] 4)) w') hA.1 (Calls.mono hA.2 ?_)) ?_⟩
 ·intro e w' he
  cases e with
  | returned r =>
   obtain ⟨rfl,h1,h2⟩:=he
   exact ⟨(hcell w' h2).1,(hcell w' h2).2,.inl ⟨rfl,h1,h2⟩⟩
  | panicked c =>
   obtain ⟨rfl,h1,h2⟩:=he
   exact ⟨(hcell w' h2).1,(hcell w' h2).2,.inr ⟨rfl,h1,h2⟩⟩
  | outgrown=>exact he.elim
 ·rintro e w2 (⟨rfl,w1,⟨h1,h2⟩,rfl⟩ | ⟨rfl,w1,⟨h1,h2⟩,rfl⟩)
  ·have f5:=Fr.setCell w1 w.heap.size 0 (.bool true)
   exact ⟨((fA.mono (by simp)).trans h2).trans_new f5 (λ q hq=>.inr (by simp at hq;omega)),.inl ⟨rfl,w1,h1,f5,(hcell w1 h2).1⟩⟩
  ·have f4:=Fr.alloc w1 (.cells #[] 130)
   have f5:=Fr.setCell (w1.alloc (.cells #[] 130)) w.heap.size 0 (.bool false)
   exact ⟨(((fA.mono (by simp)).trans h2).trans (f4.mono (by simp))).trans_new f5 (λ q hq=>.inr (by simp at hq;omega)),.inr ⟨rfl,w1,h1,(f4.mono (by simp)).trans f5,(hcell w1 h2).1⟩⟩
end
end Go.Proofs.YtppodgdhdddfkaaGreatDoor.Sc
set_option linter.unusedVariables false
set_option linter.unusedSimpArgs false
namespace Go.Proofs.YtppodgdhdddfkaaGreatDoor.Sc
set_option maxRecDepth 100000
open Go Go.RowKit Go.Proofs.YtppodgdhdddfkaaGreatDoor.Sx
open Go.Proofs.YtppodgdhdddfkaaGreatDoor.Sg
open Go.Proofs.YtppodgdhdddfkaaGreatDoor.Bi (mixed take_s)
open Go.Proofs.YtppodgdhdddfkaaGreatDoor.Cf
open Go.Proofs.YtppodgdhdddfkaaGreatDoor.Hd (WfB isReq rtB zR at0 le reqOf zReq oReq)
open Go.Proofs.YtppodgdhdddfkaaGreatDoor.Cg (splitP joinW splitP_len split_no head_no splitL_eq rw_blk r_callZ r_nnil r_nheld r_tne take_map_s split_cons2 mag_dec r_dig r_remU r_quoU dec_len dec_unf Estr splitP_app splitP_no stepU)
section
variable {Z:ZP} {w w0:World} {R:Value→World→Prop} {A:List Nat→List Value→World→Prop} {B:List Nat→Nat→List Value→World→Prop}
end
end Go.Proofs.YtppodgdhdddfkaaGreatDoor.Sc
