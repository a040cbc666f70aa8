import Derived.Test.YtppodgdhdddfkaaGreatDoorQMx
import Derived.Test.YtppodgdhdddfkaaGreatDoorQMo
import Derived.Test.YtppodgdhdddfkaaGreatDoorQMq
import Derived.Lib.ConvBytes
import Derived.Lib.FrozenHead
set_option linter.unusedVariables false
set_option linter.unusedSimpArgs false
namespace Go.Proofs.YtppodgdhdddfkaaGreatDoor.Sc
set_option maxRecDepth 100000
open Go Go.RowKit Go.Proofs.YtppodgdhdddfkaaGreatDoor.Sx
open Go.Proofs.YtppodgdhdddfkaaGreatDoor.Sg
open Go.Proofs.YtppodgdhdddfkaaGreatDoor.Bi (mixed take_s Eint)
open Go.Proofs.YtppodgdhdddfkaaGreatDoor.Hd (WfB Ebyte Erow Etick)
open Go.Proofs.YtppodgdhdddfkaaGreatDoor.Cg (r_callZ r_tne rw_blk)
theorem by8_inj {x y:By} (hx:WfB x) (hy:WfB y) (h:by8 x=by8 y):x=y:=by
 induction x generalizing y with
 | nil =>
  cases y with
  | nil=>rfl
  | cons b r=>cases h
 | cons a r ih =>
  cases y with
  | nil=>cases h
  | cons b s =>
   unfold by8 at h
   rw [List.map_cons,List.map_cons] at h
   injection h with h1 h2
   have ha:=hx a (by simp)
   have hb:=hy b (by simp)
   have e:=congrArg UInt8.toNat h1
   simp at e
   rw [ih (λ z hz=>hx z (by simp [hz])) (λ z hz=>hy z (by simp [hz])) h2]
   congr 1
   omega
theorem ofT_wf {t:GTick} (h:∀ b∈t.bytes,WfB b) (i:Nat):WfB (ofT t i):=by
 unfold ofT
 cases hi:t.bytes[i]? with
 | none=>exact λ z hz=>(nomatch hz)
 | some b=>exact h b (List.mem_of_getElem? hi)
theorem sameT_no {a b:GTick} {i:Nat} (hi:i < max a.bytes.length b.bytes.length) (h:ofT a i≠ofT b i):sameT a b=false:=by
 unfold sameT
 rw [Bool.and_eq_false_iff]
 right
 rw [List.all_eq_false]
 exact ⟨i,List.mem_range.2 hi,by simpa using h⟩
theorem sameT_yes {a b:GTick} (hp:a.picks=b.picks) (h:∀ i,i < max a.bytes.length b.bytes.length→ofT a i=ofT b i):sameT a b=true:=by
 unfold sameT
 simp only [Bool.and_eq_true,decide_eq_true_eq,List.all_eq_true,List.mem_range]
 exact ⟨hp,h⟩
theorem sameS_iff:∀ (a b:List GTick),sameS a b=(decide (a.length=b.length) && (List.range a.length).all (λ i=>sameT ((a[i]?).getD ⟨[],[]⟩) ((b[i]?).getD ⟨[],[]⟩))):=by
 intro a
 induction a with
 | nil=>intro b;cases b<;>rfl
 | cons x r ih =>
  intro b
  cases b with
  | nil=>rfl
  | cons y s =>
   show (sameT x y && sameS r s)=_
   rw [ih s,List.length_cons,List.length_cons,List.range_succ_eq_map,List.all_cons,List.all_map]
   have e:decide (r.length+1=s.length+1)=decide (r.length=s.length):=by simp
   rw [e]
   show _=(decide (r.length=s.length) && (sameT x y && (List.range r.length).all (λ i=>sameT ((r[i]?).getD ⟨[],[]⟩) ((s[i]?).getD ⟨[],[]⟩))))
   cases sameT x y<;>cases decide (r.length=s.length)<;>rfl
section
variable {Z:ZP} {w w0:World} {R:Value→World→Prop} {A:List Nat→List Value→World→Prop} {B:List Nat→Nat→List Value→World→Prop}
theorem of_t {cs:List Value} {t:GTick} (ht:rTick.r w cs t) (i:Nat):Cz Tryz.prog 104 [.agg cs.toArray,I i] w (λ r w'=>r=Tx (by8 (ofT t i))∧Fr [] w w') Z:=by
 obtain ⟨A0,c0,A1,c1,rfl,k0,k1⟩:=oTick ht
 refine go mixed Tryz.func104 Tryz.call104 rfl (Tr.e104 _ _) ?_
 refine b_box (cs:=[.slice A0 t.bytes.length c0,.slice A1 t.picks.length c1]) (Bx.nil w) (λ v w1 H=>?_)
 refine b_ld H 0 (j:=0) rfl rfl ?_
 refine r_if (λ h=>?_) (λ h=>?_)
 ·refine b_ld H 0 (j:=0) rfl rfl ?_
  obtain ⟨b,hb⟩:=gt (xs:=t.bytes) (j:=i) (by omega)
  obtain ⟨ad,es,rfl,rd,Y,cy,rfl,y1,y2,y3⟩:=k0.2.2 i b hb
  refine r_ob ⟨by omega,by omega⟩ ?_
  refine r_ld (cell1 (rd.fr H.F)) ?_
  refine r_bstr (y3.up H.F) ?_
  exact b_ret H (λ F=>⟨by unfold ofT;rw [hb];rfl,F⟩)
 ·exact b_ret H (λ F=>⟨by rw [ofT_none (by omega)];rfl,F⟩)
theorem sameTick_t {cs ds:List Value} {a b:GTick} (ha:rTick.r w cs a) (hb:rTick.r w ds b) (wa:∀ x∈a.bytes,WfB x) (wb:∀ x∈b.bytes,WfB x):Cz Tryz.prog 64 [.agg cs.toArray,.agg ds.toArray] w (λ r w'=>r=.bool (sameT a b)∧Fr [] w w') Z:=by
 have hca:=rTick.len ha
 have hcb:=rTick.len hb
 have hca2:=ha
 have hcb2:=hb
 obtain ⟨A0,c0,A1,c1,rfl,k0,k1⟩:=oTick ha
 obtain ⟨D0,d0,D1,d1,rfl,m0,m1⟩:=oTick hb
 refine go mixed Tryz.func64 Tryz.call64 rfl (Tr.e64 _ _) ?_
 refine b_box (cs:=[.slice A0 a.bytes.length c0,.slice A1 a.picks.length c1]) (Bx.nil w) (λ v2 w1 H=>?_)
 refine b_box (cs:=[.slice D0 b.bytes.length d0,.slice D1 b.picks.length d1]) H (λ v3 w2 H=>?_)
 refine b_ld H 1 (j:=1) rfl rfl ?_
 refine b_ld H 0 (j:=1) rfl rfl ?_
 have no:a.picks≠b.picks→sameT a b=false:=λ h=>by unfold sameT;rw [decide_eq_false h];rfl
 refine r_if (λ h=>?_) (λ hl=>?_)
 ·exact b_ret H (λ F=>⟨by rw [no (λ e=>h (by rw [e]))],F⟩)
 have hl:a.picks.length=b.picks.length:=by omega
 refine r_loop (λ (i:Nat)=>[I (i:Int),B false]) (λ i W=>i≤a.picks.length∧(∀ j,j < i→a.picks[j]? = b.picks[j]?)∧Bx w W [(v3,76,[.slice D0 b.bytes.length d0,.slice D1 b.picks.length d1]),(v2,76,[.slice A0 a.bytes.length c0,.slice A1 a.picks.length c1])]) (λ i=>a.picks.length-i) 0 ⟨Nat.zero_le _,λ j hj=>by omega,H⟩ rfl ?_
 rintro i W ⟨hi,hall,HW⟩
 have hbp:=k1.2.1
 simp only [big] at hbp
 refine b_ld HW 1 (j:=1) rfl rfl ?_
 refine r_if (λ h=>?_) (λ h=>?_)
 ·refine b_dr HW (λ W1 HW=>?_)
  obtain ⟨x,hx⟩:=gt (xs:=a.picks) (j:=i) (by omega)
  obtain ⟨y,hy⟩:=gt (xs:=b.picks) (j:=i) (by omega)
  obtain ⟨ad,es,rfl,rd,e3⟩:=(k1.2.2.up HW.F) i x hx
  obtain rfl:=e3
  obtain ⟨ad2,es2,rfl,rd2,e4⟩:=(m1.2.2.up HW.F) i y hy
  obtain rfl:=e4
  refine b_ld HW 1 (j:=1) rfl rfl ?_
  refine r_ob ⟨by omega,by omega⟩ ?_
  refine r_ld (Cf.cell_int rd) ?_
  refine b_ld HW 0 (j:=1) rfl rfl ?_
  refine r_ob ⟨by omega,by omega⟩ ?_
  refine r_ld (Cf.cell_int rd2) ?_
  refine r_if (λ hne=>?_) (λ heq=>?_)
  ·exact b_ret HW (λ F=>⟨by rw [no (λ e=>by rw [e,hy] at hx;cases hx;exact hne rfl)],F⟩)
  ·have heq:=Classical.not_not.1 heq
   refine r_ar (by omega) ?_
   refine r_ag (i+1) ⟨by omega,λ j hj=>?_,?_⟩ (by omega) rfl
   ·rcases Nat.lt_or_ge j i with h' | h'
    ·exact hall j h'
    ·obtain rfl:j=i:=by omega
     rw [hx,hy,heq]
   ·exact HW
 ·obtain rfl:i=a.picks.length:=by omega
  have hpe:a.picks=b.picks:=by
   apply List.ext_getElem?
   intro j
   rcases Nat.lt_or_ge j a.picks.length with h' | h'
   ·exact hall j h'
   ·rw [List.getElem?_eq_none h',List.getElem?_eq_none (by omega)]
  refine r_brk ?_
  refine r_loop (λ (i:Nat)=>[I (i:Int),B false]) (λ i W=>i≤max a.bytes.length b.bytes.length∧(∀ j,j < i→ofT a j=ofT b j)∧Bx w W [(v3,76,[.slice D0 b.bytes.length d0,.slice D1 b.picks.length d1]),(v2,76,[.slice A0 a.bytes.length c0,.slice A1 a.picks.length c1])]) (λ i=>max a.bytes.length b.bytes.length-i) 0 ⟨Nat.zero_le _,λ j hj=>by omega,HW⟩ rfl ?_
  rintro i W3 ⟨hi,hall2,H3⟩
  have hab:a.bytes.length≤big∧b.bytes.length≤big:=⟨k0.2.1,m0.2.1⟩
  simp only [big] at hab
  refine b_ld H3 1 (j:=0) rfl rfl ?_
  refine r_if (λ h1=>?_) (λ h1=>?_)
  rotate_left
  ·refine b_ld H3 0 (j:=0) rfl rfl ?_
   refine r_if (λ h2=>?_) (λ h2=>?_)
   rotate_left
   ·refine r_brk ?_
    exact b_ret H3 (λ F=>⟨by rw [sameT_yes hpe (λ j hj=>hall2 j (by omega))],F⟩)
   refine b_dr H3 (λ W4 H4=>?_)
   refine b_ldn H4 1 rfl ?_
   refine b_ldn H4 0 rfl ?_
   refine b_call (v:=Tx (by8 (ofT a i))) H4 (of_t (rTick.up H4.F hca2) i) (λ W5 H5=>?_)
   refine r_chkn (n:=2) ((H5.blk (i:=0) rfl).rd rfl) ?_
   refine b_call (v:=Tx (by8 (ofT b i))) H5 (of_t (rTick.up H5.F hcb2) i) (λ W6 H6=>?_)
   refine r_tne ?_
   refine r_if (λ hne=>?_) (λ heq=>?_)
   ·exact b_ret H6 (λ F=>⟨by rw [sameT_no (i:=i) (by omega) (λ e=>hne (by rw [e]))],F⟩)
   ·have heq:=by8_inj (ofT_wf wa i) (ofT_wf wb i) (Classical.not_not.1 heq)
    refine r_ar (by omega) ?_
    refine r_ag (i+1) ⟨by omega,λ j hj=>?_,H6⟩ (by omega) rfl
    rcases Nat.lt_or_ge j i with h' | h'
    ·exact hall2 j h'
    ·obtain rfl:j=i:=by omega
     exact heq
  ·refine b_dr H3 (λ W4 H4=>?_)
   refine b_ldn H4 1 rfl ?_
   refine b_ldn H4 0 rfl ?_
   refine b_call (v:=Tx (by8 (ofT a i))) H4 (of_t (rTick.up H4.F hca2) i) (λ W5 H5=>?_)
   refine r_chkn (n:=2) ((H5.blk (i:=0) rfl).rd rfl) ?_
   refine b_call (v:=Tx (by8 (ofT b i))) H5 (of_t (rTick.up H5.F hcb2) i) (λ W6 H6=>?_)
   refine r_tne ?_
   refine r_if (λ hne=>?_) (λ heq=>?_)
   ·exact b_ret H6 (λ F=>⟨by rw [sameT_no (i:=i) (by omega) (λ e=>hne (by rw [e]))],F⟩)
   ·have heq:=by8_inj (ofT_wf wa i) (ofT_wf wb i) (Classical.not_not.1 heq)
    refine r_ar (by omega) ?_
    refine r_ag (i+1) ⟨by omega,λ j hj=>?_,H6⟩ (by omega) rfl
    rcases Nat.lt_or_ge j i with h' | h'
    ·exact hall2 j h'
    ·obtain rfl:j=i:=by omega
     exact heq
theorem rSame_t {X Y:Option Addr} {c d:Nat} {a b:List GTick} (ha:Rw rTick w X a) (hb:Rw rTick w Y b) (la:a.length≤big) (wa:∀ t∈a,∀ x∈t.bytes,WfB x) (wb:∀ t∈b,∀ x∈t.bytes,WfB x):Cz Tryz.prog 28 [.slice X a.length c,.slice Y b.length d] w (λ r w'=>r=.bool (sameS a b)∧Fr [] w w') Z:=by
 have hb2:=la
 simp only [big] at la
 refine go mixed Tryz.func28 Tryz.call28 rfl (Tr.e28 _ _) ?_
 refine r_if (λ h=>?_) (λ hl=>?_)
 ·exact r_ret ⟨by rw [sameS_iff,decide_eq_false (by omega)];rfl,Fr.refl _ _⟩
 have hl:a.length=b.length:=by omega
 have hiff:=sameS_iff a b
 rw [decide_eq_true hl,Bool.true_and] at hiff
 refine r_loop (λ (i:Nat)=>[I (i:Int),B false]) (λ i W=>i≤a.length∧(∀ j,j < i→sameT ((a[j]?).getD ⟨[],[]⟩) ((b[j]?).getD ⟨[],[]⟩)=true)∧Fr [] w W) (λ i=>a.length-i) 0 ⟨Nat.zero_le _,λ j hj=>by omega,Fr.refl _ _⟩ rfl ?_
 rintro i W ⟨hi,hall,F⟩
 refine r_if (λ h=>?_) (λ h=>?_)
 ·refine r_dr (λ W1 f1=>?_)
  obtain ⟨x,hx⟩:=gt (xs:=a) (j:=i) (by omega)
  obtain ⟨y,hy⟩:=gt (xs:=b) (j:=i) (by omega)
  obtain ⟨ad,es,rfl,rd,e3⟩:=(ha.up (F.trans f1)) i x hx
  obtain ⟨ad2,es2,rfl,rd2,e4⟩:=(hb.up (F.trans f1)) i y hy
  refine r_ob ⟨by omega,by omega⟩ ?_
  refine r_ldn rd ?_
  refine r_ob ⟨by omega,by omega⟩ ?_
  refine r_ldn rd2 ?_
  refine r_call (sameTick_t e3 e4 (wa x (List.mem_of_getElem? hx)) (wb y (List.mem_of_getElem? hy))) ?_
  rintro _ W2 ⟨rfl,f2⟩
  refine r_ifbn (λ hs=>?_) (λ hs=>?_)
  ·refine r_ret ⟨?_,(F.trans f1).trans f2⟩
   rw [hiff]
   congr 1
   symm
   rw [List.all_eq_false]
   exact ⟨i,List.mem_range.2 (by omega),by rw [hx,hy];simpa using hs⟩
  ·refine r_ar (by omega) ?_
   refine r_ag (i+1) ⟨by omega,λ j hj=>?_,(F.trans f1).trans f2⟩ (by omega) rfl
   rcases Nat.lt_or_ge j i with h' | h'
   ·exact hall j h'
   ·obtain rfl:j=i:=by omega
    rw [hx,hy];exact hs
 ·obtain rfl:i=a.length:=by omega
  refine r_brk (r_ret ⟨?_,F⟩)
  rw [hiff]
  congr 1
  symm
  rw [List.all_eq_true]
  exact λ j hj=>hall j (List.mem_range.1 hj)
theorem one_t:Cz Tryz.prog 26 [] w (λ r w'=>∃ us,r=.agg us.toArray∧rConf.r w' us exO∧Fr [] w w') Z:=by
 refine go mixed Tryz.func26 Tryz.call26 rfl Tr.e26 ?_
 refine b_al (zs:=Cg.zC) (Bx.nil w) Tryz.zeroValue29 (λ v0 w1 H=>?_)
 have v0lt:=(H.blk (i:=0) rfl).lt
 refine r_new (v:=.slice (some ⟨w1.heap.size,0,none⟩) 1 1) (T:=40) (cs:=[.int .u64 1]) (by kernel_rfl) (λ b2 w2 e2 B2 f2=>?_)
 rw [← e2]
 have H:=H.fr f2
 refine r_new (v:=.slice (some ⟨w2.heap.size,0,none⟩) 1 1) (T:=82) (cs:=[I 0,I 0]) (by kernel_rfl) (λ b3 w3 e3 B3 f3=>?_)
 rw [← e3]
 have H:=H.fr f3
 refine r_new (v:=.slice (some ⟨w3.heap.size,0,none⟩) 1 1) (T:=3) (cs:=[I 0]) (by kernel_rfl) (λ b4 w4 e4 B4 f4=>?_)
 rw [← e4]
 have H:=H.fr f4
 have lv0:=H.ge (i:=0) rfl
 refine r_stn (cs:=[.slice (some ⟨b2,0,none⟩) 1 1,.slice (some ⟨b3,0,none⟩) 1 1,.slice none 0 0,.slice none 0 0,.slice (some ⟨b4,0,none⟩) 1 1,I 1,I 1,I 1]) (H.blk (i:=0) rfl) Tryz.sizeOf29 (by intro v hv;simp only [List.mem_cons,List.not_mem_nil,or_false] at hv;rcases hv with rfl | rfl | rfl | rfl | rfl | rfl | rfl | rfl<;>rfl) (λ w8 B8 f8=>?_)
 refine r_ldn (B8.rd rfl) ?_
 have F8:=H.F.trans_new f8 (λ q hq=>.inr (by simp at hq;omega))
 have s2:=f2.size
 have s3:=f3.size
 have s4:=f4.size
 have ne:∀ b,w1.heap.size≤b→b∉[v0]:=λ b hb hq=>by simp at hq;omega
 have C2:=((B2.fr0 f3).fr0 f4).fr f8 (ne _ (by omega))
 have C3:=(B3.fr0 f4).fr f8 (ne _ (by omega))
 have C4:=B4.fr f8 (ne _ (by omega))
 exact r_ret ⟨_,rfl,mConf (x:=exO) (c0:=1) (c1:=1) (c2:=0) (c3:=0) (c4:=1) ⟨by decide,by decide,rw_blk (l:=[1]) C2⟩ ⟨by decide,by decide,(show Rw rTenant w8 _ [⟨0,0⟩] from rw_blk (enc:=eTenant) (l:=[⟨0,0⟩]) C3)⟩ ⟨by decide,by decide,Rw.nil⟩ ⟨by decide,by decide,Rw.nil⟩ ⟨by decide,by decide,rw_blk (l:=[0]) C4⟩,F8⟩
end
end Go.Proofs.YtppodgdhdddfkaaGreatDoor.Sc
set_option linter.unusedVariables false
set_option linter.unusedSimpArgs false
namespace Go.Proofs.YtppodgdhdddfkaaGreatDoor.Sc
set_option maxRecDepth 100000
open Go Go.RowKit Go.Proofs.YtppodgdhdddfkaaGreatDoor.Sx
open Go.Proofs.YtppodgdhdddfkaaGreatDoor.Sg
open Go.Proofs.YtppodgdhdddfkaaGreatDoor.Bi (mixed take_s Eint)
open Go.Proofs.YtppodgdhdddfkaaGreatDoor.Hd (WfB Ebyte Erow Etick isReq)
open Go.Proofs.YtppodgdhdddfkaaGreatDoor.Cg (r_callZ r_tne rw_blk zC rSame_t)
theorem pieceP_wf {s:Bs} {b:By} (h:pieceP s=some b):WfB b∧b≠[]∧b.length≤16∧pieceT b=s:=by
 unfold pieceP at h
 split at h
 ·rename_i hc
  cases hu:unhexP (s.drop 4) with
  | none=>rw [hu] at h;cases h
  | some x =>
   rw [hu] at h
   replace h:(if x.length≤16∧pieceT x=s then some x else none)=some b:=h
   split at h
   ·rename_i h2
    cases h
    obtain ⟨e1,e2⟩:=unhexP_len _ _ (Nat.le_refl _) hu
    refine ⟨e2,λ e=>?_,h2.1,h2.2⟩
    subst e
    rw [List.length_drop,List.length_nil] at e1
    omega
   ·cases h
 ·split at h
  ·rename_i h0
   cases h
   obtain ⟨h1,h2,h3,_⟩:=parseRq_ok h0
   refine ⟨bytesQ_wf h3,λ e=>?_,by rw [bytesQ_len];decide,(pieceT_bytesQ h3 h1).trans h2⟩
   have:=congrArg List.length e
   rw [bytesQ_len] at this;cases this
  ·cases h
theorem moreT_wf {t x:GTick} {n:Nat} {b:By} (hm:moreT t n b=some x) (ht:WfG t) (hb:WfB b):WfG x:=by
 unfold moreT at hm
 split at hm
 ·cases hm
 ·split at hm
  ·cases hm
   have hg:∀ y∈grow t.bytes n,WfB y:=λ y hy=>by
    unfold grow at hy
    rcases List.mem_append.1 hy with hy | hy
    ·exact ht.b y hy
    ·rw [(List.mem_replicate.1 hy).2];exact λ z hz=>(nomatch hz)
   refine ⟨λ y hy=>?_,ht.p⟩
   rcases List.mem_or_eq_of_mem_set hy with hy | rfl
   ·exact hg y hy
   ·intro z hz
    rcases List.mem_append.1 hz with hz | hz
    ·cases hq:(grow t.bytes n)[n]? with
     | none=>rw [hq] at hz;cases hz
     | some y=>rw [hq] at hz;exact hg y (List.mem_of_getElem? hq) z hz
    ·exact hb z hz
  ·cases hm
theorem addP_wf {l l':List GTick} {z:Bs} (h:addP l z=some l') (hw:∀ t∈l,WfG t):∀ t∈l',WfG t:=by
 unfold addP at h
 split at h
 ·split at h
  ·split at h
   ·cases hp:picksP (Lib.trimSuffix z [10]) with
    | none=>rw [hp] at h;cases h
    | some t =>
     rw [hp] at h
     cases h
     obtain ⟨h1,h2,h3⟩:=picksP_small hp
     intro x hx
     rcases List.mem_append.1 hx with hx | hx
     ·exact hw x hx
     ·simp at hx;subst hx
      exact ⟨λ b hb=>(by rw [h2] at hb;cases hb),h3⟩
   ·cases h
  ·cases hg:l.getLast? with
   | none=>rw [hg] at h;cases h
   | some t =>
    rw [hg] at h
    dsimp only at h
    cases hp:moreP t (Lib.trimSuffix z [10]) with
    | none=>rw [hp] at h;cases h
    | some x =>
     rw [hp] at h
     cases h
     obtain ⟨n,b,_,_,_,_,hpc,hm⟩:=moreP_parts hp
     intro y hy
     rcases List.mem_append.1 hy with hy | hy
     ·exact hw y (List.dropLast_subset _ hy)
     ·simp at hy;subst hy
      exact moreT_wf hm (hw t (List.mem_of_getLast? hg)) (pieceP_wf hpc).1
 ·cases h
theorem foldA_wf {ls:List Bs}:∀ {l l':List GTick},foldA l ls=some l'→(∀ t∈l,WfG t)→∀ t∈l',WfG t:=by
 induction ls with
 | nil=>intro l l' h hs;cases h;exact hs
 | cons z r ih =>
  intro l l' h hs
  unfold foldA at h
  cases hz:addP l z with
  | none=>rw [hz] at h;cases h
  | some l1=>rw [hz] at h;exact ih h (addP_wf hz hs)
def txB:Bs:=List.append [102,108,111,119,115,32,48,10,116,101,110,97,110,116,32,48,32,48,10,102,114,97,109,101,32,48,10,98,117,100,103,101,116,32,49,32] [49,32,49,10,116,105,99,107,32,48,32,45,50,10,48,32,111,112,101,110,32,48,32,51,10,48,32,104,101,120,32,48,53,102,102,10]
def txK:Bs:=List.append [102,108,111,119,115,32,48,10,116,101,110,97,110,116,32,48,32,48,10,102,114,97,109,101,32,48,10,98,117,100,103,101,116,32,49,32,49,32] [49,10,116,105,99,107,32,48,32,45,50,10,48,32,111,112,101,110,32,48,32,51,10,48,32,104,101,120,32,48,53,102,102,10,116,111,99,107,10]
def awT (v3 v28 v30:Value):T:=.call 25 [v28,v30] λ v31=>exT 0 v31 λ v32=>exT 1 v31 λ v33=>.call 11 [(.string {data:=List.toArray txB})] λ v35=>exT 0 v35 λ v36=>exT 1 v35 λ v37=>exT 2 v35 λ v38=>exT 3 v35 λ v39=>.hv (Instr.alloc 29 true (.tuple #[])) λ v6=>.ef (Instr.storeAt 29 v6 v36) (.hv (Instr.buildSlice 48 3 [(0,(.int .u8 0)),(1,(.int .u8 0)),(2,(.int .u8 9))].toArray) λ v41=>.call 23 [v41] λ v42=>exT 0 v42 λ v43=>exT 1 v42 λ v44=>.call 11 [(.string {data:=List.toArray txK})] λ v46=>exT 0 v46 λ v47=>exT 1 v46 λ v48=>exT 2 v46 λ v49=>exT 3 v46 λ v50=>.hv (Instr.alloc 29 true (.tuple #[])) λ v12=>.ef (Instr.storeAt 29 v12 v47) (.dr (biT true .eql v33 (I 0) λ v52=>gi v52 (.pu (do eqGuard .eql 9 (.tmp 54) (.const (.string {data:=List.toArray txB})) v32 (.string {data:=List.toArray txB});binOp .eql 9 v32 (.string {data:=List.toArray txB})) λ v55=>gi v55 (biT true .eql v39 (I 0) λ v59=>gi v59 (.ldn 8 v6 λ v62=>.call 26 [] λ v63=>.chk (some 8) v6 v62 (.call 13 [v62,v63] λ v64=>gi v64 (.ldn 2 v3 λ v68=>.hv (Instr.buildSlice 30 1 [(0,v68)].toArray) λ v69=>.call 28 [v37,v69] λ v70=>gi v70 (lnT v43 λ v74=>biT true .eql v74 (I 1) λ v75=>gi v75 (biT true .eql v44 (I 2) λ v79=>gi v79 (biT true .eql v50 (I 260) λ v83=>gi v83 (biT true .eql v49 (I 7) λ v87=>.ret v87) (.ret (B false))) (.ret (B false))) (.ret (B false))) (.ret (B false))) (.ret (B false)))) (.ret (B false))) (.ret (B false))) (.ret (B false)))))
theorem txB_eq:txB=txA:=by decide
theorem txK_eq:txK=txA++tock:=by decide
theorem rw_tick1 {w:World} {T b:Nat} {cs:List Value} {t:GTick} (hB:Blk w b T cs) (h:rTick.r w cs t):Rw rTick w (some ⟨b,0,none⟩) [t]:=by
 intro j x hj
 match j,hj with
 | 0,hj=>cases hj;exact ⟨_,cs,rfl,hB.rd (rTick.len h),h⟩
section
variable {Z:ZP} {w w0:World} {R:Value→World→Prop} {A:List Nat→List Value→World→Prop} {B:List Nat→Nat→List Value→World→Prop}
theorem awT_wp {v3 b3:Nat} {us cs:List Value} {L:LV} {i:Nat} (H:Bx w0 w L) (hi:L[i]? = some (v3,76,cs)) (hc:rConf.r w us exO) (ht:rTick.r w cs tA) (hr:Rw rTick w (some ⟨b3,0,none⟩) [tA]) (G:SW w0):wp Tryz.prog Z (λ r w'=>r=.bool true∧Fr [] w0 w') [] (awT (Pt v3 0) (.agg us.toArray) (.slice (some ⟨b3,0,none⟩) 1 1)) w A B:=by
 have hcl:=rTick.len ht
 obtain ⟨m,pm,sm,fm⟩:=ex_parse
 have wm:∀ t∈m,WfG t:=foldA_wf fm (λ t ht=>(nomatch ht))
 have ml:m.length≤4096:=(foldA_small fm ⟨λ t ht=>(nomatch ht),Nat.zero_le _⟩).2
 refine r_call (sText_t (l:=[tA]) (cp:=1) hc exO_in hr (by decide) (λ t ht=>by simp at ht;subst ht;exact tA_wf) (G.up H.F)) ?_
 rintro _ w1 ⟨rfl,f1⟩
 rw [ex_text]
 have H:=H.fr f1
 have ht:=rTick.up f1 ht
 refine r_call (sParse_t txB (by decide) (G.up H.F)) ?_
 rintro _ w2 ⟨ps,pv,rfl,hpc,hpv,f2⟩
 rw [txB_eq,pm] at hpc hpv
 rw [txB_eq,pm]
 have H:=H.fr f2
 have ht:=rTick.up f2 ht
 have hpl:=rConf.len hpc
 refine r_as (cs:=ps) (zs:=zC) (n:=8) (λ v6 w3 e6 B6 f3=>?_) Tryz.zeroValue29 Tryz.sizeOf29 (rConf.one hpc) rfl rfl rfl hpl
 have H:=H.add e6 B6 f3
 have ht:=rTick.up f3 ht
 have hpc:=rConf.up f3 hpc
 have hpv:=hpv.up f3
 refine r_new (v:=.slice (some ⟨w3.heap.size,0,none⟩) 3 3) (T:=5) (cs:=[.int .u8 0,.int .u8 0,.int .u8 9]) (by kernel_rfl) (λ b4 w4 e4 B4 f4=>?_)
 rw [← e4]
 have H:=H.fr f4
 have ht:=rTick.up f4 ht
 have hpc:=rConf.up f4 hpc
 have hpv:=hpv.up f4
 have hr4:Rw (rI .u8) w4 (some ⟨b4,0,none⟩) [0,0,9]:=rw_blk (enc:=λ z=>[.int .u8 z]) (l:=[0,0,9]) B4
 refine r_call (sRead_t (bs:=[0,0,9]) (cp:=3) hr4 (by decide) (by show ∀ z∈[0,0,9],0≤z∧z < 256;decide) (by decide)) ?_
 rintro _ w5 ⟨rv,rfl,hrv,f5⟩
 rw [ex_read] at hrv ⊢
 have H:=H.fr f5
 have ht:=rTick.up f5 ht
 have hpc:=rConf.up f5 hpc
 have hpv:=hpv.up f5
 obtain ⟨Xr,cr,rfl,_⟩:=hrv
 refine r_call (sParse_t txK (by decide) (G.up H.F)) ?_
 rintro _ w6 ⟨qs,qv,rfl,hqc,hqv,f6⟩
 rw [txK_eq,ex_tock] at hqc hqv
 rw [txK_eq,ex_tock]
 have H:=H.fr f6
 have ht:=rTick.up f6 ht
 have hpc:=rConf.up f6 hpc
 have hpv:=hpv.up f6
 have hql:=rConf.len hqc
 refine r_as (cs:=qs) (zs:=zC) (n:=8) (λ v12 w7 e12 B12 f7=>?_) Tryz.zeroValue29 Tryz.sizeOf29 (rConf.one hqc) rfl rfl rfl hql
 have H:=H.add e12 B12 f7
 refine r_dr (λ w8 f8=>?_)
 have H:=H.fr f8
 have ht:=rTick.up (f7.trans f8) ht
 have hpc:=rConf.up (f7.trans f8) hpc
 have hpv:=hpv.up (f7.trans f8)
 refine r_teq (a:=txA) (b:=txB) ?_
 refine r_if (λ _=>?_) (λ h=>absurd txB_eq.symm h)
 refine b_ldn H 1 rfl ?_ hpl
 refine r_call one_t ?_
 rintro _ w9 ⟨os,rfl,hos,f9⟩
 have H:=H.fr f9
 refine r_chkn (n:=8) ((H.blk (i:=1) rfl).rd hpl) ?_
 refine r_call (Cg.rSame_t (x:=exO) (y:=exO) (rConf.up f9 hpc) hos) ?_
 rintro _ w10 ⟨rfl,f10⟩
 rw [decide_eq_true (Eq.refl exO)]
 have H:=H.fr f10
 have ht:=rTick.up (f9.trans f10) ht
 have hpv:=hpv.up (f9.trans f10)
 have hi2:((v12,29,qs) :: (v6,29,ps) :: L)[i+2]? = some (v3,76,cs):=hi
 refine b_ldn H (i+2) hi2 ?_ hcl
 refine r_bs1 (cs:=cs) Etick (λ b5 w11 e5 B5 f11=>?_) rfl hcl
 have H:=H.fr f11
 have ht:=rTick.up f11 ht
 obtain ⟨Xp,cp,rfl,p1,p2,p3⟩:=hpv.up f11
 refine r_call (rSame_t (a:=m) (b:=[tA]) (d:=1) p3 (rw_tick1 B5 ht) p2 (λ t ht=>(wm t ht).b) (λ t h=>by simp at h;subst h;exact tA_wf.b)) ?_
 rintro _ w12 ⟨rfl,f12⟩
 rw [sm]
 have H:=H.fr f12
 exact b_ret H (λ F=>⟨rfl,F⟩)
theorem awake_t (G:SW w):Cz Tryz.prog 15 [] w (λ r w'=>r=.bool true∧Fr [] w w') Z:=by
 have hqw:WfQ ⟨1,0,3,0,0⟩:=by constructor<;>decide
 have hq:isReq ⟨1,0,3,0,0⟩=true:=by decide
 refine go mixed Tryz.func15 Tryz.call15 rfl Tr.e15 ?_
 refine r_call (rBytes_t ⟨1,0,3,0,0⟩ hqw) ?_
 rintro _ w1 ⟨v19,rfl,HO,f1⟩
 rw [if_pos hq] at HO
 refine r_app2 (HO.fr0 (Fr.refl [] w1)) (by rw [bytesQ_len];decide) f1.size (λ v' w2 O2 f2=>?_)
 have F2:Fr [] w w2:=f1.trans_new f2 (λ q hq=>.inr (HO.lt q hq).1)
 have ebA:((bytesQ ⟨1,0,3,0,0⟩++[5])++[255])=bA:=by decide
 rw [ebA] at O2
 obtain ⟨Xb,cb,rfl,z1,z2,z3⟩:=O2.row (by decide)
 refine r_bs1 (cs:=[.slice Xb bA.length cb]) Erow (λ b1 w3 e1 B1 f3=>?_) rfl rfl
 refine r_new (v:=.slice (some ⟨w3.heap.size,0,none⟩) 2 2) (T:=3) (cs:=[I 0,I (-2)]) (by kernel_rfl) (λ b2 w4 e2 B2 f4=>?_)
 rw [← e2]
 have hrow:Rw (rL (rI .u8)) w4 (some ⟨b1,0,none⟩) [bA]:=by
  intro j x hj
  match j,hj with
  | 0,hj=>cases hj;exact ⟨_,[.slice Xb bA.length cb],rfl,(B1.fr0 f4).rd rfl,⟨Xb,cb,rfl,z1,z2,(z3.up f3).up f4⟩⟩
 have hpk:Rw (rI .i64) w4 (some ⟨b2,0,none⟩) [0,-2]:=rw_blk (enc:=λ z=>[I z]) (l:=[0,-2]) B2
 have ht4:rTick.r w4 [.slice (some ⟨b1,0,none⟩) 1 1,.slice (some ⟨b2,0,none⟩) 2 2] tA:=mTick (x:=tA) ⟨by decide,by decide,hrow⟩ ⟨by decide,by decide,hpk⟩
 have H:=Bx.of ((F2.trans f3).trans f4)
 refine r_as (cs:=[.slice (some ⟨b1,0,none⟩) 1 1,.slice (some ⟨b2,0,none⟩) 2 2]) (zs:=zT) (n:=2) (λ v3 w5 e3 B3 f5=>?_) Tryz.zeroValue76 Tryz.sizeOf76 (by simp [Value.oneCell'])
 have H:=H.add e3 B3 f5
 refine r_dr (λ w6 f6=>?_)
 have H:=H.fr f6
 have ht6:=rTick.up (f5.trans f6) ht4
 refine b_ldn H 0 rfl ?_
 refine ⟨?_,?_⟩
 ·refine r_call one_t ?_
  rintro _ w7 ⟨us,rfl,hus,f7⟩
  have H:=H.fr f7
  refine r_chkn (n:=2) ((H.blk (i:=0) rfl).rd rfl) ?_
  refine r_bs1 (cs:=[.slice (some ⟨b1,0,none⟩) 1 1,.slice (some ⟨b2,0,none⟩) 2 2]) Etick (λ b7 w8 e7 B7 f8=>?_) rfl rfl
  have ht8:=rTick.up (f7.trans f8) ht6
  exact awT_wp (i:=0) (H.fr f8) rfl (rConf.up f8 hus) ht8 (rw_tick1 B7 ht8) G
 ·refine r_bs1 (cs:=[.slice (some ⟨b1,0,none⟩) 1 1,.slice (some ⟨b2,0,none⟩) 2 2]) Etick (λ b7 w7 e7 B7 f7=>?_) rfl rfl
  have H:=H.fr f7
  refine r_call one_t ?_
  rintro _ w8 ⟨us,rfl,hus,f8⟩
  have H:=H.fr f8
  have ht8:=rTick.up (f7.trans f8) ht6
  refine r_chkn (n:=2) ((H.blk (i:=0) rfl).rd rfl) ?_
  exact awT_wp (i:=0) H rfl hus ht8 (rw_tick1 (B7.fr0 f8) ht8) G
end
end Go.Proofs.YtppodgdhdddfkaaGreatDoor.Sc
set_option linter.unusedVariables false
set_option linter.unusedSimpArgs false
namespace Go.Proofs.YtppodgdhdddfkaaGreatDoor.Sc
set_option maxRecDepth 100000
open Go Go.RowKit Go.Proofs.YtppodgdhdddfkaaGreatDoor.Sx
open Go.Proofs.YtppodgdhdddfkaaGreatDoor.Sg
open Go.Proofs.YtppodgdhdddfkaaGreatDoor.Bi (mixed take_s Eint)
open Go.Proofs.YtppodgdhdddfkaaGreatDoor.Hd (WfB isReq neReq egReq zReq oReq)
open Go.Proofs.YtppodgdhdddfkaaGreatDoor.Cg (r_callZ r_tne)
section
variable {P:Program} {Z:ZP} {R:Value→World→Prop} {w w0:World} {A:List Nat→List Value→World→Prop} {B:List Nat→Nat→List Value→World→Prop} {ds:List Nat} {k:Value→T}
end
section
variable {Z:ZP} {w w0:World} {R:Value→World→Prop} {A:List Nat→List Value→World→Prop} {B:List Nat→Nat→List Value→World→Prop}
end
end Go.Proofs.YtppodgdhdddfkaaGreatDoor.Sc
set_option linter.unusedVariables false
set_option linter.unusedSimpArgs false
namespace Go.Proofs.YtppodgdhdddfkaaGreatDoor.Sc
set_option maxRecDepth 100000
open Go Go.RowKit Go.Proofs.YtppodgdhdddfkaaGreatDoor.Sx
open Go.Proofs.YtppodgdhdddfkaaGreatDoor.Sg
open Go.Proofs.YtppodgdhdddfkaaGreatDoor.Bi (mixed take_s Eint)
open Go.Proofs.YtppodgdhdddfkaaGreatDoor.Hd (WfB Ebyte Erow Etick)
open Go.Proofs.YtppodgdhdddfkaaGreatDoor.Cg (r_callZ r_tne)
section
variable {P:Program} {Z:ZP} {R:Value→World→Prop} {w w0:World} {A:List Nat→List Value→World→Prop} {B:List Nat→Nat→List Value→World→Prop} {ds:List Nat} {k:Value→T}
end
section
variable {Z:ZP} {w w0:World} {R:Value→World→Prop} {A:List Nat→List Value→World→Prop} {B:List Nat→Nat→List Value→World→Prop}
end
end Go.Proofs.YtppodgdhdddfkaaGreatDoor.Sc
set_option linter.unusedVariables false
set_option linter.unusedSimpArgs false
namespace Go.Proofs.YtppodgdhdddfkaaGreatDoor.Sc
set_option maxRecDepth 100000
open Go Go.RowKit Go.Proofs.YtppodgdhdddfkaaGreatDoor.Sx
open Go.Proofs.YtppodgdhdddfkaaGreatDoor.Sg
open Go.Proofs.YtppodgdhdddfkaaGreatDoor.Bi (mixed take_s Eint)
open Go.Proofs.YtppodgdhdddfkaaGreatDoor.Hd (WfB Ebyte Erow Etick)
open Go.Proofs.YtppodgdhdddfkaaGreatDoor.Cg (r_callZ r_tne cutCh take_map_s mn Echan textP strP)
section
variable {Z:ZP} {w w0:World} {R:Value→World→Prop} {A:List Nat→List Value→World→Prop} {B:List Nat→Nat→List Value→World→Prop} {ds:List Nat} {k:Value→T}
end
section
variable {Z:ZP} {w:World}
def cutC10 (c:GConf):GConf:=⟨c.flows.take 18,c.tenants.take 18,(c.channels.take 10).map cutCh,c.gates.take 18,c.frame.take 66,c.budget,c.requests,c.pending⟩
theorem cut26_o {w0:World} {cs:List Value} {c:GConf} (S:List Nat) (hc:rConf.r w0 cs c) (F0:Fr [] w0 w) (hS:∀ q∈S,w0.heap.size≤q∧q < w.heap.size):Cz Tryz.prog 27 [.agg cs.toArray] w (λ r w'=>∃ us,r=.agg us.toArray∧Off S (λ w=>rConf.r w us (cutC10 c)) w'∧Fr [] w w') Z:=by
 obtain ⟨A0,c0,A1,c1,A2,c2,A3,c3,A4,c4,rfl,k0,k1,k2,k3,k4⟩:=oConf hc
 refine go mixed Tryz.func27 Tryz.call27 rfl (Tr.e27 _) ?_
 refine b_box (Bx.nil w) (λ v1 w1 H=>?_)
 refine b_al (zs:=[.slice none 0 0,.slice none 0 0,.slice none 0 0,.slice none 0 0,.slice none 0 0,I 0,I 0,I 0]) H Tryz.zeroValue29 (λ v2 w2 H=>?_)
 obtain ⟨m0,e0,l0,n0⟩:=mn c.flows 18
 obtain ⟨m1,e1,l1,n1⟩:=mn c.tenants 18
 obtain ⟨m3,e3,l3,n3⟩:=mn c.gates 18
 obtain ⟨m4,e4,l4,n4⟩:=mn c.frame 66
 refine b_ld H 1 rfl rfl ?_
 refine b_ld H 1 rfl rfl ?_
 refine r_min ?_
 rw [show (18:Int)=((18:Nat):Int) from rfl,e0]
 refine r_slh (e:=40) (m:=m0) (by kernel_rfl) Tryz.sizeOf40 (by omega) (by have:=k0.1;omega) (by omega) ?_
 refine b_st H 1 rfl Tryz.sizeOf23 (λ w3 H=>?_)
 refine b_ld H 1 rfl rfl ?_
 refine b_ld H 1 rfl rfl ?_
 refine r_min ?_
 rw [e1]
 refine r_slh (e:=82) (m:=m1) (by kernel_rfl) Tryz.sizeOf82 (by omega) (by have:=k1.1;omega) (by omega) ?_
 refine b_st H 1 rfl Tryz.sizeOf24 (λ w4 H=>?_)
 refine b_ld H 1 rfl rfl ?_
 refine b_ld H 1 rfl rfl ?_
 refine r_min ?_
 rw [e3]
 refine r_slh (e:=89) (m:=m3) (by kernel_rfl) Tryz.sizeOf89 (by omega) (by have:=k3.1;omega) (by omega) ?_
 refine b_st H 1 rfl Tryz.sizeOf26 (λ w5 H=>?_)
 refine b_ld H 1 rfl rfl ?_
 refine b_ld H 1 rfl rfl ?_
 refine r_min ?_
 rw [show (66:Int)=((66:Nat):Int) from rfl,e4]
 refine r_slh (e:=3) (m:=m4) (by kernel_rfl) Tryz.sizeOf3 (by omega) (by have:=k4.1;omega) (by omega) ?_
 refine b_st H 1 rfl Tryz.sizeOf27 (λ w6 H=>?_)
 have g1:=H.ge (i:=1) rfl
 have lv1:=(H.blk (i:=1) rfl).lt
 have lv2:=(H.blk (i:=0) rfl).lt
 refine r_loop (λ (s:Nat × Value)=>[I (s.1:Int),s.2]) (λ s w'=>s.1≤c.channels.length∧s.1≤10∧Or rChannel 87 w6.heap.size (v1 :: v2 :: S) w' s.2 ((c.channels.take s.1).map cutCh)∧Fr [] w6 w') (λ s=>10-s.1) (0,.slice none 0 0) ⟨Nat.zero_le _,Nat.zero_le _,Or.nil,Fr.refl _ _⟩ rfl ?_
 rintro ⟨i,s2⟩ w7 ⟨hi,hi10,HO,F7⟩
 dsimp only at hi hi10 HO
 have H7:=H.fr F7
 have out:¬ (i < c.channels.length∧i < 10)→(c.channels.take i).map cutCh=(c.channels.take 10).map cutCh:=by
  intro h
  rcases Nat.lt_or_ge i 10 with h1 | h1
  ·have:i=c.channels.length:=by omega
   subst this
   rw [List.take_length,List.take_of_length_le (by omega)]
  ·rw [show i=10 by omega]
 refine b_ld H7 1 rfl rfl ?_
 refine r_ifj (λ w'=>w'=w7 ∧ ¬ (i < c.channels.length∧i < 10)) ?_ ?_ (λ h=>⟨rfl,by dsimp only at h;omega⟩)
 ·rintro w7 ⟨rfl,hno⟩
  rw [out hno] at HO
  have hcl:((c.channels.take 10).map cutCh).length≤big:=by simp only [big];simp;omega
  have n1:v1∉s2.ownBlock.toList:=λ hq=>by have:=(HO.lt v1 hq).1;omega
  have n2:v2∉s2.ownBlock.toList:=λ hq=>by have:=(HO.lt v2 hq).1;omega
  obtain ⟨C1,cc,rfl⟩:∃ C1 cc,s2=.slice C1 ((c.channels.take 10).map cutCh).length cc:=by
   obtain ⟨C1,cc,e,_⟩:=HO.row hcl
   exact ⟨C1,cc,e⟩
  refine r_brk ?_
  refine r_st1 (H7.blk (i:=1) rfl) Tryz.sizeOf25 (λ w8 B8 f8=>?_)
  have H8:=H7.set (i:=1) rfl B8 f8
  have HO8:=HO.up f8 (by simpa using n1) (by simp)
  refine b_ldn (cs:=[.slice A0 m0 c0,.slice A1 m1 c1,.slice C1 ((c.channels.take 10).map cutCh).length cc,.slice A3 m3 c3,.slice A4 m4 c4,I c.budget,I c.requests,I c.pending]) H8 1 rfl ?_
  refine r_stn (cs:=[.slice A0 m0 c0,.slice A1 m1 c1,.slice C1 ((c.channels.take 10).map cutCh).length cc,.slice A3 m3 c3,.slice A4 m4 c4,I c.budget,I c.requests,I c.pending]) (H8.blk (i:=0) rfl) Tryz.sizeOf29 (by intro v hv;simp only [List.mem_cons,List.not_mem_nil,or_false] at hv;rcases hv with rfl | rfl | rfl | rfl | rfl | rfl | rfl | rfl<;>rfl) (λ w9 B9 f9=>?_)
  have H9:=H8.set (i:=0) rfl B9 f9
  have HO9:=HO8.up f9 (by simpa using n2) (by simp)
  refine b_ldn (cs:=[.slice A0 m0 c0,.slice A1 m1 c1,.slice C1 ((c.channels.take 10).map cutCh).length cc,.slice A3 m3 c3,.slice A4 m4 c4,I c.budget,I c.requests,I c.pending]) H9 0 rfl ?_
  refine b_ret H9 (λ F9=>⟨_,rfl,λ w9' f9'=>?_,F9⟩)
  have hS6:∀ q∈S,q < w6.heap.size:=λ q hq=>by have:=(hS q hq).2;have:=H.F.size;omega
  obtain ⟨_,_,e,y1,y2,y3⟩:=(HO9.up f9' (λ q hq hq2=>by have:=(HO9.lt q hq2).1;have:=hS6 q hq;omega) (λ q hq=>.inl (by simp [hq]))).row hcl
  cases e
  replace F9:=(F0.trans F9).trans_new f9' (λ q hq=>.inr (hS q hq).1)
  rw [l0,l1,l3,l4]
  exact mConf (x:=cutC10 c) ⟨by show (c.flows.take _).length≤_;rw [← l0];have:=k0.1;omega,by show (c.flows.take _).length≤_;rw [← l0];have:=k0.2.1;omega,(k0.2.2.up F9).take 18⟩ ⟨by show (c.tenants.take _).length≤_;rw [← l1];have:=k1.1;omega,by show (c.tenants.take _).length≤_;rw [← l1];have:=k1.2.1;omega,(k1.2.2.up F9).take 18⟩ ⟨y1,y2,y3⟩ ⟨by show (c.gates.take _).length≤_;rw [← l3];have:=k3.1;omega,by show (c.gates.take _).length≤_;rw [← l3];have:=k3.2.1;omega,(k3.2.2.up F9).take 18⟩ ⟨by show (c.frame.take _).length≤_;rw [← l4];have:=k4.1;omega,by show (c.frame.take _).length≤_;rw [← l4];have:=k4.2.1;omega,(k4.2.2.up F9).take 66⟩
 ·intro key h1
  refine r_if (λ h2=>?_) (λ h2=>key _ ⟨rfl,by dsimp only at h1 h2;omega⟩)
  dsimp only at h1 h2
  obtain ⟨x,hx⟩:=gt (xs:=c.channels) (j:=i) (by omega)
  obtain ⟨ad,es,rfl,rd,e5⟩:=k2.2.2 i x hx
  obtain ⟨L1,d1,L2,d2,rfl,q1,q2⟩:=oChannel e5
  refine b_ld H7 1 rfl rfl ?_
  refine r_ob ⟨by dsimp only;omega,by dsimp only;omega⟩ ?_
  refine r_ldn (rd.fr (F0.trans H7.F)) ?_
  obtain ⟨ma,ea,la,na⟩:=mn x.lanes 18
  obtain ⟨mb,eb,lb,nb⟩:=mn x.receivers 18
  refine b_as (cs:=[I x.label,.slice L1 x.lanes.length d1,.slice L2 x.receivers.length d2]) (zs:=[I 0,.slice none 0 0,.slice none 0 0]) (n:=3) (Bx.nil w7) Tryz.zeroValue87 Tryz.sizeOf87 (by intro v hv;simp at hv;rcases hv with rfl | rfl | rfl<;>rfl) (λ v5 w8 Hx=>?_)
  refine b_ld Hx 0 rfl rfl ?_
  refine b_ld Hx 0 rfl rfl ?_
  refine r_min ?_
  rw [ea]
  refine r_slh (e:=145) (m:=ma) (by kernel_rfl) Tryz.sizeOf145 (by omega) (by have:=q1.1;omega) (by omega) ?_
  refine b_st Hx 0 rfl Tryz.sizeOf84 (λ w9 Hx=>?_)
  refine b_ld Hx 0 rfl rfl ?_
  refine b_ld Hx 0 rfl rfl ?_
  refine r_min ?_
  rw [eb]
  refine r_slh (e:=147) (m:=mb) (by kernel_rfl) Tryz.sizeOf147 (by omega) (by have:=q2.1;omega) (by omega) ?_
  refine b_st Hx 0 rfl Tryz.sizeOf85 (λ w10 Hx=>?_)
  refine b_ldn Hx 0 rfl ?_
  have F10:=F7.trans Hx.F
  refine r_appL (x:=cutCh x) (es:=[I x.label,.slice L1 ma d1,.slice L2 mb d2]) Echan (HO.fr0 Hx.F) (Rl.off rChannel (w0:=w0) ?_ (F0.trans (H.F.trans F10)) (λ q hq=>?_)) (by simp only [big];simp;omega) F10.size (λ v' w11 g1 g2 g3=>?_)
  ·have ea':(cutCh x).lanes.length=ma:=la.symm
   have eb':(cutCh x).receivers.length=mb:=lb.symm
   rw [← ea',← eb']
   exact mChannel (x:=cutCh x) ⟨by have:=q1.1;omega,by have:=q1.2.1;omega,q1.2.2.take 18⟩ ⟨by have:=q2.1;omega,by have:=q2.2.1;omega,q2.2.2.take 18⟩
  ·rcases List.mem_append.1 hq with hq | hq
   ·have:=(HO.lt q hq).1
    have:=H.F.size
    have:=F0.size
    omega
   ·have s0:=F0.size
    simp at hq;rcases hq with rfl | rfl | hq
    ·have:=H.ge (i:=1) rfl;omega
    ·have:=H.ge (i:=0) rfl;omega
    ·exact (hS q hq).1
  ·refine r_ar (by dsimp only;omega) ?_
   refine r_ag (s:=(i,s2)) (i+1,v') ⟨by dsimp only;omega,by dsimp only;omega,?_,F10.trans_new g2 (λ q hq=>.inr (HO.lt q hq).1)⟩ (by dsimp only;omega) rfl
   dsimp only
   rw [take_map_s cutCh hx]
   exact g1
def fewB (b:By):By:=(if 120 < b.length∧b.length≤1024 then b.take 120 else b).take 1025
def fewT (t:GTick):GTick:=⟨(t.bytes.take 18).map fewB,t.picks.take 66⟩
def fewP (l:List GTick):List GTick:=(l.take 20).map fewT
def fewTl (v46:Value) (z2:List Value):T:=lnT v46 λ v60=>.hv (Builtin.min_ #[3,3] 3 [v60,(I 1025)].toArray) λ v61=>.pu (Instr.sliceAt 48 v46 none (some v61) none) λ v62=>.hv (Instr.buildSlice 74 1 [(0,v62)].toArray) λ v63=>.hv (Builtin.append_ #[74,74] 74 [(nv z2 1),v63].toArray) λ v64=>biT false .add (nv z2 0) (I 1) λ v41=>.again [v41,v64]
theorem few_o {w0:World} {X:Option Addr} {cp:Nat} {l:List GTick} (S:List Nat) (hr:Rw rTick w0 X l) (hb:l.length≤big) (F0:Fr [] w0 w) (hS:∀ q∈S,w0.heap.size≤q∧q < w.heap.size):Cz Tryz.prog 20 [.slice X l.length cp] w (λ r w'=>Off S (λ w=>Sl rTick w r (fewP l)) w'∧Fr [] w w') Z:=by
 simp only [big] at hb
 have hs0:=F0.size
 refine go mixed Tryz.func20 Tryz.call20 rfl (Tr.e20 _) ?_
 refine r_loop (λ (s:Nat × Value)=>[I (s.1:Int),s.2]) (λ s W=>s.1≤l.length∧s.1≤20∧Or rTick 76 w.heap.size S W s.2 ((l.take s.1).map fewT)∧Fr [] w W) (λ s=>20-s.1) (0,.slice none 0 0) ⟨Nat.zero_le _,Nat.zero_le _,Or.nil,Fr.refl _ _⟩ rfl ?_
 rintro ⟨i,v⟩ W ⟨hi,hi20,HO,F⟩
 dsimp only at hi hi20 HO
 have hol:((l.take i).map fewT).length≤20:=by rw [List.length_map,List.length_take];omega
 have out:¬ (i < l.length∧i < 20)→wp Tryz.prog Z (λ r w'=>Off S (λ w=>Sl rTick w r (fewP l)) w'∧Fr [] w w') [] (.ret v) W nA nB:=by
  intro h
  have e:(l.take i).map fewT=fewP l:=by
   unfold fewP
   rcases Nat.lt_or_ge i 20 with h1 | h1
   ·have:i=l.length:=by omega
    subst this
    rw [List.take_length,List.take_of_length_le (by omega)]
   ·rw [show i=20 by omega]
  refine r_ret ⟨?_,F⟩
  rw [← e]
  exact HO.off (by simp only [big];omega) (λ q hq=>⟨λ hq2=>by have:=(HO.lt q hq2).1;have:=(hS q hq).2;omega,.inl hq⟩)
 refine r_if (λ h=>?_) (λ h=>?_)
 rotate_left
 ·exact r_brk (out (by dsimp only at h;omega))
 refine r_if (λ h2=>?_) (λ h2=>?_)
 rotate_left
 ·exact r_brk (out (by dsimp only at h2;omega))
 dsimp only at h h2
 obtain ⟨t,ht⟩:=gt (xs:=l) (j:=i) (by omega)
 obtain ⟨ad,es,rfl,rd,e3⟩:=hr i t ht
 obtain ⟨A0,c0,A1,c1,rfl,k0,k1⟩:=oTick e3
 have hk0:=k0.2.1
 simp only [big] at hk0
 have F0W:=F0.trans F
 refine r_ob ⟨by dsimp only;omega,by dsimp only;omega⟩ ?_
 refine r_ldn (rd.fr F0W) ?_
 refine b_as (cs:=[.slice A0 t.bytes.length c0,.slice A1 t.picks.length c1]) (zs:=zT) (n:=2) (Bx.nil W) Tryz.zeroValue76 Tryz.sizeOf76 (by simp [Value.oneCell']) (λ v5 W1 H=>?_)
 obtain ⟨mp,ep,lp,np⟩:=mn t.picks 66
 refine b_ld H 0 (j:=1) rfl rfl ?_
 refine b_ld H 0 (j:=1) rfl rfl ?_
 refine r_min ?_
 rw [show (66:Int)=((66:Nat):Int) from rfl,ep]
 refine r_slh (e:=3) (m:=mp) (by kernel_rfl) Tryz.sizeOf3 (by omega) (by have:=k1.1;omega) (by omega) ?_
 refine b_st H 0 (j:=1) rfl Tryz.sizeOf27 (λ W2 H=>?_)
 have H:Bx W W2 [(v5,76,[.slice A0 t.bytes.length c0,.slice A1 mp c1])]:=H
 have g5:=H.ge (i:=0) rfl
 have l5:=(H.blk (i:=0) rfl).lt
 have hown:∀ q∈v.ownBlock.toList,w.heap.size≤q∧q < W.heap.size:=λ q hq=>HO.lt q hq
 have hsz2:=H.F.size
 have hszw:=F.size
 refine r_loop (λ (s:Nat × Value)=>[I (s.1:Int),s.2]) (λ s W'=>s.1≤t.bytes.length∧s.1≤18∧Or (rL (rI .u8)) 48 W2.heap.size (v5 :: (v.ownBlock.toList++S)) W' s.2 ((t.bytes.take s.1).map fewB)∧Fr [] W2 W') (λ s=>18-s.1) (0,.slice none 0 0) ⟨Nat.zero_le _,Nat.zero_le _,Or.nil,Fr.refl _ _⟩ rfl ?_
 rintro ⟨j,u⟩ W3 ⟨hj,hj18,HR,F3⟩
 dsimp only at hj hj18 HR
 have H3:=H.fr F3
 have hrl:((t.bytes.take j).map fewB).length≤18:=by rw [List.length_map,List.length_take];omega
 have out2:¬ (j < t.bytes.length∧j < 18)→∀ {B:List Nat→Nat→List Value→World→Prop},wp Tryz.prog Z (λ r w'=>Off S (λ w=>Sl rTick w r (fewP l)) w'∧Fr [] w w') [] (faT 0 (Pt v5 0) λ v66=>.ef (Instr.storeAt 74 v66 u) (.ldn 2 (Pt v5 0) λ v68=>.hv (Instr.buildSlice 30 1 [(0,v68)].toArray) λ v69=>.hv (Builtin.append_ #[30,30] 30 [v,v69].toArray) λ v70=>biT false .add (I (i:Int)) (I 1) λ v18=>.again [v18,v70])) W3 (λ ds' vs' w'=>∃ s':Nat × Value,[I (s'.1:Int),s'.2]=vs'∧20-s'.1 < 20-i∧ds'=[]∧s'.1≤l.length∧s'.1≤20∧Or rTick 76 w.heap.size S w' s'.2 ((l.take s'.1).map fewT)∧Fr [] w w') B:=by
  intro hex B
  have e:(t.bytes.take j).map fewB=(fewT t).bytes:=by
   show _=(t.bytes.take 18).map fewB
   rcases Nat.lt_or_ge j 18 with h1 | h1
   ·have:j=t.bytes.length:=by omega
    subst this
    rw [List.take_length,List.take_of_length_le (by omega)]
   ·rw [show j=18 by omega]
  rw [e] at HR hrl
  obtain ⟨Xu,cu,rfl,u1,u2,u3⟩:=HR.row (by simp only [big];omega)
  refine r_st1 (o:=0) (H3.blk (i:=0) rfl) Tryz.sizeOf74 (λ W4 B4 f4=>?_)
  have H4:=H3.set (i:=0) rfl B4 f4
  have HR4:=HR.up f4 (λ q hq hm=>by have:=(HR.lt q hm).1;simp at hq;omega) (λ q hq=>.inl (by simp at hq;subst hq;simp))
  refine b_ldn H4 0 rfl ?_
  have HO4:=HO.fr0 H4.F
  have F04:=F0W.trans H4.F
  refine r_appL (x:=fewT t) (es:=[.slice Xu (fewT t).bytes.length cu,.slice A1 mp c1]) Etick HO4 (λ W' f'=>?_) (by simp only [big];omega) (by have:=H4.F.size;omega) (λ v' W5 O5 f5 o5=>?_)
  ·obtain ⟨_,_,e0,y1,y2,y3⟩:=(HR4.up f' (λ q hq hm=>by
    have:=(HR4.lt q hm).1
    rcases List.mem_append.1 hq with hq | hq
    ·have:=(hown q hq).2;omega
    ·have:=(hS q hq).2;omega) (λ q hq=>.inl (List.mem_cons_of_mem _ hq))).row (by simp only [big];omega)
   cases e0
   have FW':Fr [] w0 W':=F04.trans_new f' (λ q hq=>.inr (by
    rcases List.mem_append.1 hq with hq | hq
    ·have:=(hown q hq).1;omega
    ·exact (hS q hq).1))
   have el:(fewT t).picks.length=mp:=lp.symm
   rw [← el]
   exact mTick (x:=fewT t) ⟨y1,y2,y3⟩ ⟨by show (t.picks.take 66).length≤_;have:=k1.1;omega,by show (t.picks.take 66).length≤_;have:=k1.2.1;omega,(k1.2.2.up FW').take 66⟩
  ·refine r_ar (by omega) ?_
   refine ⟨(i+1,v'),rfl,by dsimp only;omega,rfl,by dsimp only;omega,by dsimp only;omega,?_,(F.trans H4.F).trans_new f5 (λ q hq=>.inr (hown q hq).1)⟩
   dsimp only
   rw [take_map_s fewT ht]
   exact O5
 refine b_ld H3 0 (j:=0) rfl rfl ?_
 refine r_if (λ h3=>?_) (λ h3=>?_)
 rotate_left
 ·exact r_brk (out2 (by dsimp only at h3;omega))
 refine r_if (λ h4=>?_) (λ h4=>?_)
 rotate_left
 ·exact r_brk (out2 (by dsimp only at h4;omega))
 dsimp only at h3 h4
 obtain ⟨b,hbj⟩:=gt (xs:=t.bytes) (j:=j) (by omega)
 have F03:=F0W.trans H3.F
 refine b_ld H3 0 (j:=0) rfl rfl ?_
 obtain ⟨adb,esb,rfl,rdb,Y,cy,rfl,y1,y2,y3⟩:=k0.2.2 j b hbj
 refine r_ob ⟨by dsimp only;omega,by dsimp only;omega⟩ ?_
 refine r_ld (cell1 (rdb.fr F03)) ?_
 have tail:∀ (b2:By) (n2:Nat),b2.length=n2→b2.length≤cy→b2.length≤big→Rw (rI .u8) w0 Y b2→b2.take 1025=fewB b→∀ {B:List Nat→Nat→List Value→World→Prop},wp Tryz.prog Z (λ r w'=>Off S (λ w=>Sl rTick w r (fewP l)) w'∧Fr [] w w') [] (fewTl (.slice Y n2 cy) [I (j:Int),u]) W3 (λ ds' vs' w'=>∃ s':Nat × Value,[I (s'.1:Int),s'.2]=vs'∧18-s'.1 < 18-j∧ds'=[]∧s'.1≤t.bytes.length∧s'.1≤18∧Or (rL (rI .u8)) 48 W2.heap.size (v5 :: (v.ownBlock.toList++S)) w' s'.2 ((t.bytes.take s'.1).map fewB)∧Fr [] W2 w') B:=by
  intro b2 n2 hn2 hc2 hb2 hr2 he B
  subst hn2
  obtain ⟨mb,eb,lb,nb⟩:=mn b2 1025
  refine r_min ?_
  rw [show (1025:Int)=((1025:Nat):Int) from rfl,eb]
  refine r_slh (e:=5) (m:=mb) (by kernel_rfl) Tryz.sizeOf5 (by omega) (by omega) (by omega) ?_
  have hrow:=hr2.take 1025
  rw [he] at hrow lb
  refine r_appL (x:=fewB b) (es:=[.slice Y mb cy]) Erow HR (λ W' f'=>?_) (by simp only [big];omega) F3.size (λ u' W5 O5 f5 o5=>?_)
  ·have FW':Fr [] w0 W':=F03.trans_new f' (λ q hq=>.inr (by
    rcases List.mem_append.1 hq with hq | hq
    ·have:=(HR.lt q hq).1;omega
    ·rcases List.mem_cons.1 hq with rfl | hq
     ·omega
     ·rcases List.mem_append.1 hq with hq | hq
      ·have:=(hown q hq).1;omega
      ·exact (hS q hq).1))
   rw [lb]
   exact (show Sl (rI .u8) W' (.slice Y (fewB b).length cy) (fewB b) from ⟨Y,cy,rfl,by omega,by omega,hrow.up FW'⟩).r
  ·refine r_ar (by omega) ?_
   refine ⟨(j+1,u'),rfl,by dsimp only;omega,rfl,by dsimp only;omega,by dsimp only;omega,?_,F3.trans_new f5 (λ q hq=>.inr (HR.lt q hq).1)⟩
   dsimp only
   rw [take_map_s fewB hbj]
   exact O5
 have hyb:=y2
 simp only [big] at hyb
 refine r_if (λ h5=>?_) (λ h5=>?_)
 ·refine r_if (λ h6=>?_) (λ h6=>?_)
  ·refine r_slh (e:=5) (m:=120) (by kernel_rfl) Tryz.sizeOf5 (by omega) (by omega) (by omega) ?_
   have el:(b.take 120).length=120:=by rw [List.length_take];omega
   exact tail (b.take 120) 120 el (by omega) (by rw [el];decide) (y3.take 120) (by unfold fewB;rw [if_pos (by omega)])
  ·exact tail b b.length rfl y1 y2 y3 (by unfold fewB;rw [if_neg (by omega)])
 ·exact tail b b.length rfl y1 y2 y3 (by unfold fewB;rw [if_neg (by omega)])
theorem fewT_wf {t:GTick} (h:WfG t):WfG (fewT t):=by
 refine ⟨λ b hb=>?_,λ n hn=>h.p n (List.mem_of_mem_take hn)⟩
 obtain ⟨c,hc,rfl⟩:=List.mem_map.1 (show b∈(t.bytes.take 18).map fewB from hb)
 have hw:=h.b c (List.mem_of_mem_take hc)
 intro z hz
 unfold fewB at hz
 have hz:=List.mem_of_mem_take hz
 split at hz
 ·exact hw z (List.mem_of_mem_take hz)
 ·exact hw z hz
theorem fewP_wf {l:List GTick} (h:∀ t∈l,WfG t):∀ t∈fewP l,WfG t:=λ t ht=>by
 obtain ⟨x,hx,rfl⟩:=List.mem_map.1 (show t∈(l.take 20).map fewT from ht)
 exact fewT_wf (h x (List.mem_of_mem_take hx))
theorem fewP_len (l:List GTick):(fewP l).length≤20:=by
 unfold fewP
 rw [List.length_map,List.length_take];omega
theorem cut_in64 {c:GConf} (h:Cg.In64 c):Cg.In64 (cutC10 c):=by
 refine ⟨λ z hz=>h.fl z (List.mem_of_mem_take hz),λ t ht=>h.te t (List.mem_of_mem_take ht),λ x hx=>?_,λ g hg=>h.ga g (List.mem_of_mem_take hg),λ n hn=>h.fr n (List.mem_of_mem_take hn),h.bu⟩
 obtain ⟨y,hy,rfl⟩:=List.mem_map.1 (show x∈(c.channels.take 10).map cutCh from hx)
 obtain ⟨a,b,d⟩:=h.ch y (List.mem_of_mem_take hy)
 exact ⟨a,λ l hl=>b l (List.mem_of_mem_take hl),λ r hr=>d r (List.mem_of_mem_take hr)⟩
theorem sameT_rfl (t:GTick):sameT t t=true:=sameT_of rfl (λ _=>rfl)
theorem sameS_rfl:∀ (l:List GTick),sameS l l=true:=by
 intro l
 induction l with
 | nil=>rfl
 | cons t r ih=>show (sameT t t && sameS r r)=true;rw [sameT_rfl,ih];rfl
abbrev WfL (t:GTick):Prop:=(∀ b∈t.bytes,∀ z∈b,(Lit.int .u8 z).wf=true)∧(∀ n∈t.picks,(Lit.int .i64 n).wf=true)
theorem wfG_of {t:GTick} (h:WfL t):WfG t:=⟨λ b hb z hz=>by
 have:=h.1 b hb z hz
 simp [Lit.wf,IntKind.min,IntKind.max,IntKind.bits,IntKind.signed] at this
 omega,λ n hn=>by
 have:=h.2 n hn
 simp [Lit.wf,IntKind.min,IntKind.max,IntKind.bits,IntKind.signed] at this
 unfold in64
 omega⟩
abbrev WfK (c:GConf):Prop:=(∀ z∈c.flows,(Lit.int .u64 z).wf=true)∧(∀ t∈c.tenants,(Lit.int .i64 t.label).wf=true∧(Lit.int .i64 t.quota).wf=true)∧(∀ x∈c.channels,(Lit.int .i64 x.label).wf=true∧(∀ l∈x.lanes,(Lit.int .i64 l.tenant).wf=true∧(Lit.int .i64 l.credit).wf=true∧True)∧∀ r∈x.receivers,(Lit.int .i64 r.tenant).wf=true∧True)∧(∀ g∈c.gates,(Lit.int .i64 g.frm).wf=true∧(Lit.int .i64 g.til).wf=true∧(Lit.int .i64 g.room).wf=true)∧(∀ z∈c.frame,(Lit.int .i64 z).wf=true)∧(Lit.int .i64 c.budget).wf=true∧(Lit.int .i64 c.requests).wf=true∧(Lit.int .i64 c.pending).wf=true
theorem in64_of {c:GConf} (h:WfK c):Cg.In64 c:=by
 have w64:∀ {z:Int},(Lit.int .i64 z).wf=true→in64 z:=λ h=>by
  simp [Lit.wf,IntKind.min,IntKind.max,IntKind.bits,IntKind.signed] at h
  unfold in64
  omega
 obtain ⟨h1,h2,h3,h4,h5,h6,h7,h8⟩:=h
 refine ⟨λ z hz=>?_,λ t ht=>⟨w64 (h2 t ht).1,w64 (h2 t ht).2⟩,λ x hx=>⟨w64 (h3 x hx).1,λ l hl=>⟨w64 ((h3 x hx).2.1 l hl).1,w64 ((h3 x hx).2.1 l hl).2.1⟩,λ r hr=>w64 ((h3 x hx).2.2 r hr).1⟩,λ g hg=>⟨w64 (h4 g hg).1,w64 (h4 g hg).2.1,w64 (h4 g hg).2.2⟩,λ z hz=>w64 (h5 z hz),⟨w64 h6,w64 h7,w64 h8⟩⟩
 have:=h1 z hz
 simp [Lit.wf,IntKind.min,IntKind.max,IntKind.bits,IntKind.signed] at this
 omega
end
end Go.Proofs.YtppodgdhdddfkaaGreatDoor.Sc
