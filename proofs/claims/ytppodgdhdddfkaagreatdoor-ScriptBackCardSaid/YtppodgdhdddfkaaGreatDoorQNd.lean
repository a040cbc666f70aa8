import Derived.Test.YtppodgdhdddfkaaGreatDoorQNc
import Derived.Test.YtppodgdhdddfkaaGreatDoorQMr
set_option linter.unusedVariables false
set_option linter.unusedSimpArgs false
namespace Go.Proofs.YtppodgdhdddfkaaGreatDoor.Sc
set_option maxRecDepth 100000
open Go Go.RowKit Go.Proofs.YtppodgdhdddfkaaGreatDoor.Sx
open Go.Proofs.YtppodgdhdddfkaaGreatDoor.Sg
open Go.Proofs.YtppodgdhdddfkaaGreatDoor.Bi (take_s)
open Go.Proofs.YtppodgdhdddfkaaGreatDoor.Hd (WfB)
open Go.Proofs.YtppodgdhdddfkaaGreatDoor.Cg (splitP joinW join_split nums_join linesOf lines_back parseP textP text_back c0)
theorem split_snoc:∀ (k:Nat) (o b:By) (m m':Nat),o.length=16 * k→b≠[]→b.length≤16→(o++b).length≤m→o.length≤m'→Hd.split m (o++b)=Hd.split m' o++[b]:=by
 intro k
 induction k with
 | zero =>
  intro o b m m' ho hb hl hm hm'
  obtain rfl:o=[]:=List.eq_nil_of_length_eq_zero (by omega)
  rw [List.nil_append] at hm ⊢
  have hb0:=List.length_pos_iff.2 hb
  rw [Hd.split_step (by omega) (by omega),Hd.split_nil m' rfl,List.take_of_length_le hl,Hd.split_nil _ (by rw [List.length_drop];omega),List.nil_append]
 | succ k ih =>
  intro o b m m' ho hb hl hm hm'
  rw [List.length_append] at hm
  rw [Hd.split_step (by omega) (by rw [List.length_append];omega),Hd.split_step (m:=m') (by omega) (by omega),List.take_append_of_le_length (by omega),List.drop_append_of_le_length (by omega),ih (o.drop 16) b (m-1) (m'-1) (by rw [List.length_drop];omega) hb hl (by rw [List.length_append,List.length_drop];omega) (by rw [List.length_drop];omega)]
  rfl
theorem rowL_snoc {n:Nat} {o b:By} (ho:o.length % 16=0) (hb:b≠[]) (hl:b.length≤16):rowL n (o++b)=rowL n o++[lineB n b]:=by
 unfold rowL
 rw [split_snoc (o.length / 16) o b _ o.length (by omega) hb hl (Nat.le_refl _) (Nat.le_refl _),List.map_append]
 rfl
theorem rowsL_nil (k:Nat):∀ i,rowsL i (List.replicate k ([]:By))=[]:=by
 induction k with
 | zero=>intro i;rfl
 | succ k ih =>
  intro i
  rw [List.replicate_succ,rowsL,ih]
  rfl
theorem more_text {t x:GTick} {n:Nat} {b:By} (h:moreT t n b=some x) (hn:t.bytes.length≤n+1) (hb:b≠[]) (hl:b.length≤16):tickL x=tickL t++[lineB n b]:=by
 have hgl:(grow t.bytes n).length=n+1:=by unfold grow;rw [List.length_append,List.length_replicate];omega
 obtain ⟨o,ho⟩:=gt (xs:=grow t.bytes n) (j:=n) (by omega)
 unfold moreT at h
 rw [ho] at h
 simp only [Option.getD_some] at h
 split at h
 ·cases h
 ·rename_i h16
  split at h
  ·cases h
   have e1:grow t.bytes n=(grow t.bytes n).take n++[o]:=by
    have:=take_s ho
    rw [List.take_of_length_le (by omega)] at this
    exact this
   have hil:((grow t.bytes n).take n).length=n:=by rw [List.length_take];omega
   have e2:(grow t.bytes n).set n (o++b)=(grow t.bytes n).take n++[o++b]:=by
    conv=>lhs;rw [e1]
    rw [List.set_append_right _ _ (by omega),hil,Nat.sub_self]
    rfl
   have e3:rowsL 0 (grow t.bytes n)=rowsL 0 t.bytes:=by
    unfold grow
    rw [rowsL_app,rowsL_nil,List.append_nil]
   have e4:rowsL 0 ((grow t.bytes n).take n)++rowL n o=rowsL 0 t.bytes:=by
    rw [← e3]
    conv=>rhs;rw [e1]
    rw [rowsL_app,hil,Nat.zero_add]
    show _=_++(rowL n o++rowsL (n+1) [])
    rw [show rowsL (n+1) []=[] from rfl,List.append_nil]
   unfold tickL
   rw [e2,rowsL_app,hil,Nat.zero_add]
   show tickB _ :: (rowsL 0 ((grow t.bytes n).take n)++(rowL n (o++b)++rowsL (n+1) []))=_
   rw [show rowsL (n+1) []=[] from rfl,List.append_nil,rowL_snoc (by omega) hb hl,← List.append_assoc,e4]
   rfl
  ·cases h
theorem cans_text:∀ {ws:List Bs} {v:List Int},cans ws=some v→ws=v.map Lib.itoa:=by
 intro ws
 induction ws with
 | nil=>intro v h;cases h;rfl
 | cons a r ih =>
  intro v h
  rw [cans] at h
  cases ha:canI a with
  | none=>rw [ha] at h;cases h
  | some n =>
   rw [ha] at h
   cases hr:cans r with
   | none=>rw [hr] at h;cases h
   | some l =>
    rw [hr] at h
    cases h
    rw [List.map_cons,(canI_ok ha).1,← ih hr]
theorem picks_text {p:Bs} {t:GTick} (h:picksP p=some t):tickL t=[nlW p]:=by
 unfold picksP at h
 split at h
 ·rename_i hk
  cases hc:cans (splitP 32 p).tail with
  | none=>rw [hc] at h;cases h
  | some v =>
   rw [hc] at h
   replace h:(if smallT ⟨[],v⟩=true then some (⟨[],v⟩:GTick) else none)=some t:=h
   split at h
   ·cases h
    have hj:=join_split p
    rw [hk,cans_text hc,← nums_join] at hj
    unfold tickL tickB nlW
    show [(kTick++nums v)++[10]]=_
    rw [hj]
   ·cases h
 ·cases h
theorem line_text {p:Bs} {n:Nat} {b:By} (h2:2≤(splitP 32 p).length) (hc:canI ((splitP 32 p).headD [])=some (n:Int)) (hp:pieceP (p.drop (((splitP 32 p).headD []).length+1))=some b):lineB n b=nlW p:=by
 unfold lineB nlW
 rw [(pieceP_wf hp).2.2.2,(canI_ok hc).1]
 obtain ⟨h,x,r,hs⟩:∃ h x r,splitP 32 p=h :: x :: r:=by
  match hsp:splitP 32 p,h2 with
  | h :: x :: r,_=>exact ⟨h,x,r,rfl⟩
 have hj:=join_split p
 rw [hs] at hj ⊢
 have e:p=(h++[32])++(x++r.flatMap (λ x=>32 :: x)):=by
  rw [← hj]
  unfold joinW
  simp
 show ((h++[32])++p.drop (h.length+1))++[10]=p++[10]
 congr 1
 conv=>rhs;rw [e]
 congr 1
 rw [e]
 exact List.drop_left' (by simp)
theorem add_text {l l':List GTick} {p:Bs} (h:addP l (nlW p)=some l'):scrL l'=scrL l++[nlW p]:=by
 rw [addP_nl] at h
 split at h
 ·split at h
  ·cases hp:picksP p with
   | none=>rw [hp] at h;cases h
   | some t =>
    rw [hp] at h
    cases h
    unfold scrL
    rw [List.flatMap_append]
    simp [picks_text hp]
  ·cases h
 ·cases hl:l.getLast? with
  | none=>rw [hl] at h;cases h
  | some t =>
   rw [hl] at h
   replace h:(moreP t p).map (λ x=>l.dropLast++[x])=some l':=h
   cases hm:moreP t p with
   | none=>rw [hm] at h;cases h
   | some x =>
    rw [hm] at h
    cases h
    obtain ⟨n,b,k1,k2,k3,k4,k5,k6⟩:=moreP_parts hm
    obtain ⟨w1,w2,w3,w4⟩:=pieceP_wf k5
    have e:=more_text k6 k4 w2 w3
    have e2:l=l.dropLast++[t]:=by
     have hne:l≠[]:=by rintro rfl;cases hl
     have:=List.dropLast_concat_getLast hne
     rw [List.getLast?_eq_some_getLast hne] at hl
     cases hl
     exact this.symm
    conv=>rhs;rw [e2]
    unfold scrL
    rw [List.flatMap_append,List.flatMap_append]
    simp [e,line_text k1 k2 k5]
theorem line_nl {z:Bs} {l l':List GTick} (h:addP l z=some l'):∃ p,z=nlW p:=by
 unfold addP at h
 split at h
 ·rename_i hs
  unfold Lib.hasSuffix at hs
  obtain ⟨p,hp⟩:=List.isSuffixOf_iff_suffix.1 hs
  exact ⟨p,hp.symm⟩
 ·cases h
theorem fold_text:∀ (ls:List Bs) {l l':List GTick},foldA l ls=some l'→scrB l'=scrB l++ls.flatten:=by
 intro ls
 induction ls with
 | nil=>intro l l' h;cases h;simp
 | cons z r ih =>
  intro l l' h
  rw [foldA] at h
  cases ha:addP l z with
  | none=>rw [ha] at h;cases h
  | some l1 =>
   rw [ha] at h
   replace h:foldA l1 r=some l':=h
   obtain ⟨p,rfl⟩:=line_nl ha
   rw [ih h]
   unfold scrB
   rw [add_text ha]
   simp
theorem smallS_of {l:List GTick} (h:∀ t∈l,smallT t=true) (hl:l.length≤4096):smallS l=true:=by
 unfold smallS
 simp only [Bool.and_eq_true,decide_eq_true_eq,List.all_eq_true]
 exact ⟨hl,h⟩
theorem parse_back {s:Bs} (h:(parseS s).2.2.2=0):textS (parseS s).1 (parseS s).2.1=(s,0)∧Cg.In64 (parseS s).1:=by
 unfold parseS at h ⊢
 split
 ·rename_i h1;rw [if_pos h1] at h;cases h
 rename_i hlen
 rw [if_neg hlen] at h
 split
 ·rename_i h1;rw [if_pos h1] at h;exact absurd h h1
 rename_i hp
 rw [if_neg hp] at h
 have hp:(parseP ((linesOf s).take (headN (linesOf s))).flatten).2.2=0:=Classical.not_not.1 hp
 obtain ⟨ht,hi⟩:=text_back hp
 split
 ·rename_i l hl
  obtain ⟨h1,h2⟩:=foldA_small hl ⟨λ t ht=>(nomatch ht),Nat.zero_le _⟩
  have hb:=fold_text _ hl
  have hall:((linesOf s).take (headN (linesOf s))).flatten++scrB l=s:=by
   rw [hb]
   show _++([]++_)=s
   rw [List.nil_append,← List.flatten_append,List.take_append_drop]
   exact lines_back _ s (Nat.le_refl _)
  refine ⟨?_,hi⟩
  unfold textS
  rw [if_neg (by rw [smallS_of h1 h2];decide),ht,if_neg (λ h=>h rfl)]
  show (if 4194304 < (((linesOf s).take (headN (linesOf s))).flatten++scrB l).length then _ else _)=_
  rw [hall,if_neg hlen]
 ·rename_i hl
  rw [hl] at h
  cases h
theorem parse_none {s:Bs} (h:(parseS s).2.2.2≠0):(parseS s).2.1=[]:=by
 unfold parseS at h ⊢
 split
 ·rfl
 rename_i hlen
 rw [if_neg hlen] at h
 split
 ·rfl
 rename_i hp
 rw [if_neg hp] at h
 split
 ·rename_i l hl
  rw [hl] at h
  exact absurd rfl h
 ·rfl
end Go.Proofs.YtppodgdhdddfkaaGreatDoor.Sc
set_option linter.unusedVariables false
set_option linter.unusedSimpArgs false
namespace Go.Proofs.YtppodgdhdddfkaaGreatDoor.Sc
set_option maxRecDepth 100000
open Go Go.RowKit Go.Proofs.YtppodgdhdddfkaaGreatDoor.Sx
open Go.Proofs.YtppodgdhdddfkaaGreatDoor.Sg
open Go.Proofs.YtppodgdhdddfkaaGreatDoor.Bi (mixed)
open Go.Proofs.YtppodgdhdddfkaaGreatDoor.Hd (WfB)
open Go.Proofs.YtppodgdhdddfkaaGreatDoor.Cg (zC c0_r one_zC c0)
theorem bytesT_wf {t:GTick} (h:WfG t):WfB (bytesT t):=by
 have e:=bytesT_eq t []
 rw [List.nil_append] at e
 intro z hz
 rw [e] at hz
 rcases List.mem_append.1 hz with hz | hz
 ·rcases List.mem_append.1 hz with hz | hz
  ·rcases List.mem_append.1 hz with hz | hz
   ·simp at hz;omega
   ·obtain ⟨p,_,hz⟩:=List.mem_flatMap.1 hz
    exact lowB_wf _ _ z hz
  ·simp at hz;omega
 ·obtain ⟨b,hb,hz⟩:=List.mem_flatMap.1 hz
  unfold rwB at hz
  rcases List.mem_append.1 hz with hz | hz
  ·exact lowB_wf _ _ z hz
  ·exact h.b b hb z hz
def bk2T (v30:Value):T:=.call 11 [v30] λ v84=>exT 0 v84 λ v85=>exT 1 v84 λ v86=>exT 2 v84 λ v87=>exT 3 v84 λ v88=>.hv (Instr.alloc 29 true (.tuple #[])) λ v17=>.ef (Instr.storeAt 29 v17 v85) (biT true .neq v88 (I 0) λ v90=>gi v90 (lnT v86 λ v92=>biT true .eql v92 (I 0) λ v93=>.ret v93) (.ldn 8 v17 λ v95=>.call 25 [v95,v86] λ v97=>exT 0 v97 λ v98=>exT 1 v97 λ v99=>biT true .eql v99 (I 0) λ v101=>gi v101 (.pu (do eqGuard .eql 9 (.tmp 103) (.tmp 104) v98 v30;binOp .eql 9 v98 v30) λ v105=>.ret v105) (.ret (B false))))
def bk1T (v28 v30:Value):T:=.call 21 [v28] λ v62=>exT 0 v62 λ v63=>exT 1 v62 λ v64=>biT true .eql v64 (I 0) λ v66=>gi v66 (.call 23 [v63] λ v69=>exT 0 v69 λ v70=>exT 1 v69 λ v71=>lnT v63 λ v74=>biT true .neq v71 v74 λ v75=>gi v75 (.ret (B false)) (.call 14 [v70,v28] λ v79=>notT v79 λ v80=>gi v80 (.ret (B false)) (bk2T v30))) (bk2T v30)
section
variable {Z:ZP} {w w0:World} {R:Value→World→Prop} {A:List Nat→List Value→World→Prop} {B:List Nat→Nat→List Value→World→Prop}
theorem bk2_wp {s:Bs} (hs:s.length≤5000) (G:SW w) (F:Fr [] w0 w):wp Tryz.prog Z (λ r w'=>r=.bool true∧Fr [] w0 w') [] (bk2T (Tx s)) w A B:=by
 unfold bk2T
 obtain ⟨hwf,hpl⟩:=parseS_wf s
 refine r_call (sParse_t s (by omega) G) ?_
 rintro _ w1 ⟨cs,v,rfl,hc,hv,f1⟩
 have hcl:=rConf.len hc
 refine r_as (cs:=cs) (zs:=zC) (n:=8) (λ v3 w2 e3 B3 f2=>?_) Tryz.zeroValue29 Tryz.sizeOf29 (rConf.one hc) (hl:=hcl)
 have F2:=(F.trans f1).trans f2
 obtain ⟨X,c,rfl,x1,x2,x3⟩:=hv
 refine r_if (λ h=>?_) (λ h=>?_)
 ·have hn:=parse_none h
  rw [hn]
  exact r_ret ⟨rfl,F2⟩
 ·have h0:(parseS s).2.2.2=0:=Classical.not_not.1 h
  obtain ⟨ht,hi⟩:=parse_back h0
  refine r_ldn (B3.rd hcl) ?_
  refine r_call (sText_t (rConf.up f2 hc) hi (x3.up f2) x2 (λ t ht=>(hwf t ht).1) (G.up (f1.trans f2))) ?_
  rintro _ w3 ⟨rfl,f3⟩
  rw [ht]
  refine r_teq (a:=s) (b:=s) ?_
  exact r_ret ⟨by rw [decide_eq_true rfl],F2.trans f3⟩
theorem bk1_wp {s:Bs} {X:Option Addr} {cp:Nat} {l:List GTick} (hs:s.length≤5000) (G:SW w) (F:Fr [] w0 w) (hr:Rw rTick w X l) (lb:l.length≤20) (wl:∀ t∈l,WfG t):wp Tryz.prog Z (λ r w'=>r=.bool true∧Fr [] w0 w') [] (bk1T (.slice X l.length cp) (Tx s)) w A B:=by
 unfold bk1T
 have hbl:l.length≤big:=by simp only [big];omega
 refine r_call (sBytes_t hr hbl wl) ?_
 rintro _ w1 ⟨v,rfl,HO,f1⟩
 have F1:=F.trans f1
 refine r_if (λ h=>?_) (λ h=>?_)
 rotate_left
 ·exact bk2_wp hs (G.up f1) F1
 have hsm:smallS l=true:=by
  cases hq:smallS l with
  | true=>rfl
  | false=>unfold bytesS at h;rw [if_neg (by rw [hq];decide)] at h;cases h
 obtain ⟨q1,q2⟩:=smallS_parts hsm
 have hlen:=scr_len q2 l.length
 rw [List.take_length] at hlen
 have hback:=bytes_back wl hsm
 have ebs:(bytesS l).1=l.flatMap bytesT:=by rw [bytesS_ok q2 q1]
 have hwb:WfB (bytesS l).1:=by
  rw [ebs]
  intro z hz
  obtain ⟨t,ht,hz⟩:=List.mem_flatMap.1 hz
  exact bytesT_wf (wl t ht) z hz
 have hbb:(bytesS l).1.length≤340000:=by rw [ebs];omega
 generalize (bytesS l).1=b at HO hback hwb hbb
 obtain ⟨Xb,cb,rfl,z1,z2,z3⟩:=HO.row (by simp only [big];omega)
 refine r_call (sRead_t z3 z1 hwb (by omega)) ?_
 rintro _ w2 ⟨v2,rfl,S2,f2⟩
 rw [hback] at S2 ⊢
 obtain ⟨X2,c2,rfl,k1,k2,k3⟩:=S2
 have F2:=F1.trans f2
 refine r_if (λ h=>absurd rfl h) (λ _=>?_)
 refine r_call (rJust_t k3 ((hr.up f1).up f2) k2 (λ t ht=>(wl t ht).b)) ?_
 rintro _ w3 ⟨rfl,f3⟩
 exact bk2_wp hs (G.up ((f1.trans f2).trans f3)) (F2.trans f3)
theorem back26_t {cs:List Value} {c:GConf} {X:Option Addr} {cp:Nat} {l:List GTick} (G:SW w) (hc:rConf.r w cs c) (hi:Cg.In64 c) (hl:Rw rTick w X l) (lb:l.length≤big) (wl:∀ t∈l,WfG t) (s:Bs):Cz Tryz.prog 7 [.agg cs.toArray,.slice X l.length cp,Tx s] w (λ r w'=>r=.bool true∧Fr [] w w') Z:=by
 have hlc:=rConf.len hc
 refine go mixed Tryz.func7 Tryz.call7 rfl (Tr.e7 _ _ _) ?_
 refine b_box (Bx.nil w) (λ v3 w1 H=>?_)
 have g3:=H.ge (i:=0) rfl
 have l3:=(H.blk (i:=0) rfl).lt
 refine r_call (awake_t (G.up H.F)) ?_
 rintro _ w1' ⟨rfl,f0⟩
 have H:=H.fr f0
 refine b_ldn H 0 rfl ?_ hlc
 refine r_call (cut26_o [v3] hc H.F (λ q hq=>by simp at hq;subst hq;exact ⟨g3,(H.blk (i:=0) rfl).lt⟩)) ?_
 rintro _ w2 ⟨us,rfl,hO,f2⟩
 have H:=H.fr f2
 refine r_call (few_o [v3] hl lb H.F (λ q hq=>by simp at hq;subst hq;exact ⟨g3,(H.blk (i:=0) rfl).lt⟩)) ?_
 rintro v14 w3 ⟨hO1,f3⟩
 have H:=H.fr f3
 refine r_call (short_t s) ?_
 rintro _ _ ⟨rfl,rfl⟩
 have hs:(s.take 5000).length≤5000:=by rw [List.length_take];omega
 generalize s.take 5000=s at hs
 have hcu:=hO.now
 have hul:=rConf.len hcu
 refine r_stn (cs:=us) (H.blk (i:=0) rfl) Tryz.sizeOf29 (rConf.one hcu) (λ w5 B5 f5=>?_) rfl hul hlc
 have H:=H.set (i:=0) rfl B5 f5
 have hcu:=hO w5 ((f3.mono (by simp)).trans f5)
 have h1:=hO1 w5 f5
 have w1f:=fewP_wf wl
 have hci:=cut_in64 hi
 have b1:=fewP_len l
 generalize fewP l=fl at h1 w1f b1
 generalize cutC10 c=cc at hcu hci
 obtain ⟨X1,c1,rfl,x1,x2,x3⟩:=h1
 refine b_ldn H 0 rfl ?_ hul
 refine r_call (sText_t hcu hci x3 x2 w1f (G.up H.F)) ?_
 rintro _ w6 ⟨rfl,f6⟩
 have H:=H.fr f6
 refine r_if (λ h=>?_) (λ h=>?_)
 rotate_left
 ·exact bk1_wp hs (G.up H.F) H.F (x3.up f6) b1 w1f
 obtain ⟨m,hp,hsame,hfold⟩:=parse_text hci w1f h
 have hwm:=foldA_wf hfold (λ t ht=>(nomatch ht))
 have htl:(textS cc fl).1.length≤9223372036854775807:=by
  unfold textS
  split
  ·exact Nat.zero_le _
  ·split
   ·exact Nat.zero_le _
   ·split
    ·exact Nat.zero_le _
    ·rename_i hh
     exact Nat.le_trans (Nat.le_of_not_lt hh) (by decide)
 refine r_call (sParse_t (textS cc fl).1 htl (G.up H.F)) ?_
 rintro _ w7 ⟨ds,v,rfl,hd,hv,f7⟩
 rw [hp] at hd hv ⊢
 have H:=H.fr f7
 have hdl:=rConf.len hd
 refine r_as (cs:=ds) (zs:=zC) (n:=8) (λ v9 w8 e9 B9 f8=>?_) Tryz.zeroValue29 Tryz.sizeOf29 (rConf.one hd) (hl:=hdl)
 have H:=H.fr f8
 refine r_ldn (B9.rd hdl) ?_
 refine b_ldn H 0 rfl ?_ hul
 have f68:=(f6.trans f7).trans f8
 refine r_call (Cg.rSame_t (rConf.up f8 hd) (rConf.up f68 hcu)) ?_
 rintro _ w9 ⟨rfl,f9⟩
 rw [decide_eq_true rfl]
 have H:=H.fr f9
 obtain ⟨Y,d,rfl,y1,y2,y3⟩:=hv.up (f8.trans f9)
 refine r_call (rSame_t y3 ((x3.up f68).up f9) y2 (λ t ht=>(hwm t ht).b) (λ t ht=>(w1f t ht).b)) ?_
 rintro _ w10 ⟨rfl,f10⟩
 rw [hsame]
 have H:=H.fr f10
 exact bk1_wp hs (G.up H.F) H.F (((x3.up f68).up f9).up f10) b1 w1f
theorem back26_c (W:World) (G:SW W) {cs:List Value} {c:GConf} (hc:rConf.r W cs c) (hi:WfK c) {X:Option Addr} {cp:Nat} {l:List GTick} (hl:Rw rTick W X l) (lc:l.length≤cp) (lb:l.length≤big) (wl:∀ t∈l,WfL t) (s:ByteArray) (hs:s.size≤reachBytes):Cl Tryz.prog 7 [.agg cs.toArray,.slice X l.length cp,.string s] W (λ r w'=>r=.bool true∧Fr [] W w'):=by
 have h:=back26_t (Z:=λ _ _=>False) (cp:=cp) G hc (in64_of hi) hl lb (λ t ht=>wfG_of (wl t ht)) s.data.toList
 exact h.cl
end
end Go.Proofs.YtppodgdhdddfkaaGreatDoor.Sc
