import Derived.WalkKit
import Derived.Orders
import Derived.OrdersHeld
import Derived.KernelRfl
import Derived.Maps.AppendAt
import Derived.Deep.LoopGhost
import Derived.IntWalk
import Derived.ChangeSame
import Derived.WideShapes
import Derived.Deep.Slices
import Derived.DataReads
import Derived.Laws.Slices
import Derived.RangeFuncFrom
import Derived.OrdersIn
import Derived.TacticsIn
set_option linter.unusedVariables false
set_option linter.unusedSimpArgs false
namespace Go.Proofs.YtppodgdhdddfkaaGreatDoor.Sx
open Go Go.RowKit
abbrev Env:=List (Nat × Value)
def find:Env→Nat→Option Value
 | [],_=>none
 | (k,v) :: r,t=>match Nat.beq k t with | true=>some v | false=>find r t
theorem find_self (d:Nat) (v:Value) (l:Env):find ((d,v) :: l) d=some v:=by simp [find]
theorem find_ne {d t:Nat} (v:Value) (l:Env) (h:d≠t):find ((d,v) :: l) t=find l t:=by
 show (match Nat.beq d t with | true=>some v | false=>find l t)=find l t
 have:Nat.beq d t=false:=by
  cases hb:Nat.beq d t with
  | false=>rfl
  | true=>exact absurd (Nat.eq_of_beq_eq_true hb) h
 rw [this]
def ev (l:Env):Operand→Option Value
 | .tmp t=>find l t
 | .const v=>some v
 | .global g=>some (.pointer (some ⟨g,0,none⟩))
 | .func f=>some (.func (.func f) #[] #[])
structure Ag (a:Act) (n:Nat) (df:List Deferred) (l:Env):Prop where
 size:a.tmps.size=n
 defs:a.defers=df
 look:∀ t v,find l t=some v→a.tmps.getD t undef=v
def Fits (l:Env) (ρ:Operand→Value):Prop:=∀ x v,ev l x=some v→ρ x=v
theorem Ag.fits {a:Act} {n:Nat} {df:List Deferred} {l:Env} (h:Ag a n df l):Fits l a.eval:=by
 intro x v hx
 cases x with
 | tmp t=>exact h.look t v hx
 | const c=>simpa [ev,Act.eval] using hx
 | global g=>simpa [ev,Act.eval] using hx
 | func f=>simpa [ev,Act.eval] using hx
theorem Ag.put {a:Act} {n:Nat} {df:List Deferred} {l:Env} (h:Ag a n df l) {d:Nat} (hd:d < n) (v:Value):Ag (a.put (some d) v) n df ((d,v) :: l):=by
 refine ⟨by simpa [Act.put] using h.size,h.defs,?_⟩
 intro t u ht
 by_cases e:d=t
 ·subst e
  rw [find_self] at ht
  obtain rfl:=Option.some.inj ht
  have:d < a.tmps.size:=by rw [h.size];exact hd
  simp [Act.put,this]
 ·rw [find_ne v l e] at ht
  have:=h.look t u ht
  simpa [Act.put,Array.getElem?_setIfInBounds_ne e] using this
def Sub:Env→Env→Prop
 | [],_=>True
 | (t,v) :: r,l=>find l t=some v∧Sub r l
theorem Sub.look {r l:Env} (h:Sub r l):∀ t v,find r t=some v→find l t=some v:=by
 induction r with
 | nil=>intro t v h';simp [find] at h'
 | cons p r ih =>
  obtain ⟨k,u⟩:=p
  intro t v h'
  by_cases e:k=t
  ·subst e;rw [find_self] at h';obtain rfl:=Option.some.inj h';exact h.1
  ·rw [find_ne u r e] at h';exact ih h.2 t v h'
theorem Ag.sub {a:Act} {n:Nat} {df:List Deferred} {l r:Env} (h:Ag a n df l) (hs:Sub r l):Ag a n df r:=⟨h.size,h.defs,λ t v ht=>h.look t v (hs.look t v ht)⟩
def evl (l:Env):List Operand→Option (List Value)
 | []=>some []
 | x :: r=>match ev l x,evl l r with | some v,some vs=>some (v :: vs) | _,_=>none
theorem evl_fits {l:Env} {ρ:Operand→Value} (h:Fits l ρ):∀ {xs:List Operand} {vs:List Value},evl l xs=some vs→xs.map ρ=vs:=by
 intro xs
 induction xs with
 | nil=>intro vs hv;simp [evl] at hv;subst hv;rfl
 | cons x r ih =>
  intro vs hv
  unfold evl at hv
  split at hv
  ·rename_i v vs' h1 h2
   obtain rfl:=Option.some.inj hv
   simp [h x v h1,ih h2]
  ·cases hv
def evp (l:Env):List (Nat × Operand)→Option (List (Nat × Value))
 | []=>some []
 | (i,x) :: r=>match ev l x,evp l r with | some v,some vs=>some ((i,v) :: vs) | _,_=>none
theorem evp_fits {l:Env} {ρ:Operand→Value} (h:Fits l ρ):∀ {xs:List (Nat × Operand)} {vs:List (Nat × Value)},evp l xs=some vs→xs.map (λ p=>(p.1,ρ p.2))=vs:=by
 intro xs
 induction xs with
 | nil=>intro vs hv;simp [evp] at hv;subst hv;rfl
 | cons p r ih =>
  obtain ⟨i,x⟩:=p
  intro vs hv
  unfold evp at hv
  split at hv
  ·rename_i v vs' h1 h2
   obtain rfl:=Option.some.inj hv
   simp [h x v h1,ih h2]
  ·cases hv
structure Fr (S:List Nat) (w w':World):Prop where
 os:w'.os=w.os
 tape:w'.tape=w.tape
 output:w'.output=w.output
 size:w.heap.size≤w'.heap.size
 keep:∀ k,k < w.heap.size→k∉S→w'.heap[k]? = w.heap[k]?
theorem Fr.refl (S:List Nat) (w:World):Fr S w w:=⟨rfl,rfl,rfl,Nat.le_refl _,λ _ _ _=>rfl⟩
theorem Fr.trans {S:List Nat} {a b c:World} (h:Fr S a b) (k:Fr S b c):Fr S a c:=
 ⟨k.os.trans h.os,k.tape.trans h.tape,k.output.trans h.output,Nat.le_trans h.size k.size,λ i hi hs=>(k.keep i (Nat.lt_of_lt_of_le hi h.size) hs).trans (h.keep i hi hs)⟩
theorem Fr.mono {S T:List Nat} {a b:World} (h:Fr S a b) (hs:∀ x∈S,x∈T):Fr T a b:=⟨h.os,h.tape,h.output,h.size,λ i hi ht=>h.keep i hi (λ e=>ht (hs i e))⟩
theorem Fr.of0 {T:List Nat} {a b:World} (h:Fr [] a b):Fr T a b:=h.mono (λ _ e=>by cases e)
theorem Fr.trans_new {S T:List Nat} {a b c:World} (h:Fr S a b) (k:Fr T b c) (hn:∀ x∈T,x∈S∨a.heap.size≤x):Fr S a c:=
 ⟨k.os.trans h.os,k.tape.trans h.tape,k.output.trans h.output,Nat.le_trans h.size k.size,λ i hi hs=>(k.keep i (Nat.lt_of_lt_of_le hi h.size) (λ e=>by rcases hn i e with h1 | h1;exact hs h1;omega)).trans (h.keep i hi hs)⟩
theorem Fr.below {a b:World} (h:Fr [] a b):Below a.heap.size a b:=⟨h.os,h.tape,h.output,h.size,λ k hk=>h.keep k hk (by simp)⟩
theorem Fr.of_below {a b:World} (h:Below a.heap.size a b):Fr [] a b:=⟨h.os,h.tape,h.output,h.size,λ k hk _=>h.block k hk⟩
theorem Fr.cell {S:List Nat} {w w':World} (h:Fr S w w') {ad:Addr} {v:Value} (hc:w.cell? ad=some v) (hn:ad.block∉S):w'.cell? ad=some v:=by
 have hlt:=World.block_lt_of_cell? w ad hc
 rw [World.cell?_of_block (w:=w) (h.keep _ hlt hn)];exact hc
theorem Fr.drew (w:World):Fr [] w { w with drawn:=w.drawn+1 }:=⟨rfl,rfl,rfl,Nat.le_refl _,λ _ _ _=>rfl⟩
def Blk (w:World) (b:Nat) (T:TypeId) (l:List Value):Prop:=w.heap[b]? = some (.cells l.toArray T (0,0))
theorem Blk.lt {w:World} {b:Nat} {T:TypeId} {l:List Value} (h:Blk w b T l):b < w.heap.size:=(Array.getElem?_eq_some_iff.1 h).1
theorem Blk.fr {S:List Nat} {w w':World} {b:Nat} {T:TypeId} {l:List Value} (h:Blk w b T l) (k:Fr S w w') (hn:b∉S):Blk w' b T l:=(k.keep b h.lt hn).trans h
theorem Blk.fr0 {w w':World} {b:Nat} {T:TypeId} {l:List Value} (h:Blk w b T l) (k:Fr [] w w'):Blk w' b T l:=h.fr k (by simp)
theorem Blk.cell {w:World} {b:Nat} {T:TypeId} {l:List Value} (h:Blk w b T l) {o:Nat} {v:Value} (hv:l[o]? = some v):w.cell? ⟨b,o,none⟩=some v:=by
 unfold World.cell?
 rw [show w.heap[(⟨b,o,none⟩:Addr).block]? = _ from h]
 simpa using hv
theorem Blk.ne {w:World} {b b':Nat} {T T':TypeId} {l l':List Value} (h:Blk w b T l) (h':Blk w b' T' l') (hT:T≠T'):b≠b':=by
 rintro rfl
 have:=Option.some.inj ((show w.heap[b]? = _ from h).symm.trans h')
 injection this with _ e _
 exact hT e
theorem Blk.inj {w:World} {b:Nat} {T T':TypeId} {l l':List Value} (h:Blk w b T l) (h':Blk w b T' l'):l=l':=by
 have:=Option.some.inj ((show w.heap[b]? = _ from h).symm.trans h')
 injection this with e _ _
 simpa using e
theorem Blk.alloc (w:World) (T:TypeId) (l:List Value):Blk (w.alloc (.cells l.toArray T)) w.heap.size T l:=by
 unfold Blk World.alloc
 simp
theorem Fr.alloc (w:World) (o:Obj):Fr [] w (w.alloc o):=⟨rfl,rfl,rfl,by simp,λ k hk _=>Below.heap_alloc _ _ _ hk⟩
theorem Fr.setCell (w:World) (b o:Nat) (v:Value):Fr [b] w (w.setCell ⟨b,o,none⟩ v):=⟨rfl,rfl,rfl,by simp [World.setCell],λ k hk hn=>Below.heap_setCell _ _ _ _ (by simpa using hn)⟩
theorem Blk.setCell {w:World} {b:Nat} {T:TypeId} {l:List Value} (h:Blk w b T l) (o:Nat) (v:Value):Blk (w.setCell ⟨b,o,none⟩ v) b T (l.set o v):=by
 unfold Blk World.setCell at *
 rw [Array.getElem?_modify,if_pos rfl,h]
 simp
theorem Blk.unfrozen {w:World} {b:Nat} {T:TypeId} {l:List Value} (h:Blk w b T l) (o:Nat):w.frozen? ⟨b,o,none⟩=false:=by
 unfold World.frozen?
 rw [show w.heap[(⟨b,o,none⟩:Addr).block]? = _ from h]
 simp
def Ex (P:Program) (o:Oper) (l:Env) (w:World) (v:Value) (w':World):Prop:=∀ ρ,Fits l ρ→(execOp ρ o).run P w=.ok (.value v) w'
def Es (P:Program) (o:Oper) (l:Env) (w:World) (w':World):Prop:=∀ ρ,Fits l ρ→(execOp ρ o).run P w=.ok .skip w'
def Cl (P:Program) (f:FuncId) (args:List Value) (w:World) (R:Value→World→Prop):Prop:=Calls P f args.toArray w (λ e w'=>∃ v,e=.returned v∧R v w')
def Cx (P:Program) (o:Oper) (l:Env) (w:World) (R:Value→World→Prop):Prop:=∀ ρ,Fits l ρ→∃ f args,(execOp ρ o).run P w=.ok (.enter f args) w∧Calls P f args w (λ e w'=>∃ v,e=.returned v∧R v w')
def kq (N R:Act→World→Prop) (E:Nat→Act→World→Prop):Exit→Act→World→Prop
 | .normal=>N
 | .ret=>R
 | .exit i=>E i
 | _=>λ _ _=>False
def CL (P:Program) (C:Code) (n:Nat) (df:List Deferred) (l:Env) (w:World) (N R:Act→World→Prop) (E:Nat→Act→World→Prop):Prop:=∀ a,Ag a n df l→C.wp P (kq N R E) a w
def K (P:Program) (B:Code) (N R:Act→World→Prop) (E:Nat→Act→World→Prop):Act→World→Prop:=λ a w=>B.wp P (kq N R E) a w
def AL (n:Nat) (df:List Deferred) (l:Env) (w:World) (N:Act→World→Prop):Prop:=∀ a,Ag a n df l→N a w
def bB:Code→Code | .block _ b=>b | .loop b=>b | .scope b=>b | c=>c
def opsL:Code→List Oper | .region _ ops _=>ops.toList | _=>[]
def nth:List Oper→Nat→Option Oper
 | [],_=>none
 | o :: _,0=>some o
 | _ :: r,i+1=>nth r i
theorem nth_eq (l:List Oper):∀ i,nth l i=l[i]?:=by
 induction l with
 | nil=>intro i;simp [nth]
 | cons o r ih=>intro i;cases i with | zero=>simp [nth] | succ i=>simp [nth,ih]
section
variable {P:Program} {C A B:Code} {n:Nat} {df:List Deferred} {l r:Env} {w w':World} {N R:Act→World→Prop} {E:Nat→Act→World→Prop} {Q:Exit→Act→World→Prop}
theorem again {σ:Type} {env:σ→Env} {J:σ→World→Prop} {μ:σ→Nat} {m:Nat} (s':σ) (hlt:μ s' < m) (hs:Sub (env s') l) (hJ:J s' w) :
  AL n df l w (λ a' w'=>∃ s',μ s' < m∧Ag a' n df (env s')∧J s' w'):=λ a ha=>⟨s',hlt,ha.sub hs,hJ⟩
def argE:Nat→List Value→Env
 | _,[]=>[]
 | i,v :: r=>(i,v) :: argE (i+1) r
theorem find_argE (vs:List Value):∀ i t v,find (argE i vs) t=some v→i≤t∧vs[t-i]? = some v:=by
 induction vs with
 | nil=>intro i t v h;simp [argE,find] at h
 | cons u r ih =>
  intro i t v h
  unfold argE at h
  by_cases e:i=t
  ·subst e;rw [find_self] at h;simpa using h
  ·rw [find_ne u _ e] at h
   obtain ⟨h1,h2⟩:=ih _ _ _ h
   exact ⟨by omega,by rw [show t-i=(t-(i+1))+1 by omega];simpa using h2⟩
theorem enter {f:FuncId} {fn:Func} {args:List Value} {RR:Value→World→Prop} (hf:P.funcs[f]? = some fn) (hb:fn.body=some C) (hn:fn.ntmps=n) (hl0:Nat.ble args.length n=true)
  (h:CL P C n [] (argE 0 args) w (λ a w=>bodyPost P fn (λ e w'=>∃ v,e=.returned v∧RR v w') .normal a w) (λ a w=>bodyPost P fn (λ e w'=>∃ v,e=.returned v∧RR v w') .ret a w) (λ _ _ _=>False)):Cl P f args w RR:=by
 have hl:=Nat.le_of_ble_eq_true hl0
 refine calls_of_wp hf hb ?_
 refine wp_mono (h _ ⟨by simp [hn];omega,rfl,?_⟩) ?_
 ·intro t v ht
  obtain ⟨_,h2⟩:=find_argE args 0 t v ht
  have hlt:t < args.length:=by
   rcases Nat.lt_or_ge t args.length with h' | h'
   ·exact h'
   ·simp [List.getElem?_eq_none h'] at h2
  simp only [Nat.sub_zero] at h2
  have h3:=(List.getElem?_eq_some_iff.1 h2).2
  simp [Array.getElem?_append,hlt,h3]
 ·intro e a' w' hq
  cases e<;>first | exact hq | exact hq.elim
def RL (P:Program) (C:Code) (i:Nat) (n:Nat) (df:List Deferred) (l:Env) (w:World) (N R:Act→World→Prop) (E:Nat→Act→World→Prop):Prop:=
 ∀ a,Ag a n df l→wpList P (opsL C).toArray (kq N R E) ((opsL C).drop i) a w
theorem drop_of_nth {L:List Oper} {i:Nat} {o:Oper} (h:nth L i=some o):L.drop i=o :: L.drop (i+1):=by
 rw [nth_eq] at h
 obtain ⟨hlt,he⟩:=List.getElem?_eq_some_iff.1 h
 rw [List.drop_eq_getElem_cons hlt,he]
def Want (C:Code) (l:Env) (o:Oper):Option Bool:=
 match o.guard with
 | none=>some true
 | some (j,b)=>match (nth (opsL C) j).bind (·.dst) with
  | none=>none
  | some e=>match find l e with
   | some (.bool c)=>some (c == b)
   | some _=>some false
   | none=>none
theorem want_spec {a:Act} {o:Oper} {c:Bool} (ha:Ag a n df l) (h:Want C l o=some c):Region.wanted o (yielded (opsL C).toArray a.tmps)=c:=by
 unfold Want at h
 unfold Region.wanted
 split at h
 ·rename_i hg;rw [hg];simpa using h
 ·rename_i j b hg
  rw [hg]
  split at h
  ·cases h
  ·rename_i e he
   split at h
   ·rename_i cc hf
    obtain rfl:=Option.some.inj h
    rw [nth_eq] at he
    have h1:=ha.look e _ hf
    have h2:a.tmps[e]? = some (.bool cc):=by
     rw [Array.getD_eq_getD_getElem?] at h1
     cases hx:a.tmps[e]? with
     | none=>rw [hx] at h1;simp [undef] at h1
     | some u=>rw [hx] at h1;simp at h1;rw [h1]
    simp only [yielded,List.getElem?_toArray,he,Option.bind_some,h2]
    cases cc<;>cases b<;>rfl
   ·rename_i u hnb hf
    obtain rfl:=Option.some.inj h
    have h1:=ha.look e _ hf
    rw [Array.getD_eq_getD_getElem?] at h1
    cases hx:a.tmps[e]? with
    | none=>simp only [yielded,List.getElem?_toArray,← nth_eq,he,Option.bind_some,hx];rfl
    | some v =>
     rw [hx] at h1
     simp at h1
     subst h1
     simp only [yielded,List.getElem?_toArray,← nth_eq,he,Option.bind_some,hx]
     split
     ·rename_i b2 h2
      exact absurd (Option.some.inj h2) (by intro e2;exact hnb b2 e2)
     ·rfl
   ·cases h
theorem so {i d:Nat} {o:Oper} (ho:nth (opsL C) i=some o) (hw:Want C l o=some false) (hd:o.dst=some d) (hn:Nat.blt d n=true)
  (k:RL P C (i+1) n df ((d,undef) :: l) w N R E):RL P C i n df l w N R E:=by
 intro a ha
 rw [drop_of_nth ho]
 unfold wpList
 rw [if_neg (by rw [want_spec ha hw];simp)]
 rw [hd]
 exact k _ (ha.put (by simpa using hn) undef)
theorem ss {i:Nat} {o:Oper} (ho:nth (opsL C) i=some o) (hw:Want C l o=some true) (hd:o.dst=none) (h:Es P o l w w')
  (k:RL P C (i+1) n df l w' N R E):RL P C i n df l w N R E:=by
 intro a ha
 rw [drop_of_nth ho]
 unfold wpList
 rw [if_pos (want_spec ha hw)]
 refine .inl ?_
 unfold Oper.wp
 rw [h _ ha.fits]
 simp only [Oper.upon,hd]
 exact k _ ha
theorem sc {i d:Nat} {o:Oper} {RR:Value→World→Prop} (ho:nth (opsL C) i=some o) (hw:Want C l o=some true) (hd:o.dst=some d) (hn:Nat.blt d n=true) (h:Cx P o l w RR)
  (k:∀ v w',RR v w'→RL P C (i+1) n df ((d,v) :: l) w' N R E):RL P C i n df l w N R E:=by
 intro a ha
 rw [drop_of_nth ho]
 unfold wpList
 rw [if_pos (want_spec ha hw)]
 refine .inl ?_
 obtain ⟨f,args,he,hc⟩:=h _ ha.fits
 unfold Oper.wp
 rw [he]
 simp only [Oper.upon]
 refine Calls.mono hc ?_
 rintro e w' ⟨v,rfl,hr⟩
 rw [hd]
 exact k v w' hr _ (ha.put (by simpa using hn) v)
def XA (P:Program) (ops:Array Oper) (Q:Exit→Act→World→Prop) (T:Array Bool→World→Prop):Nat→Array Bool→Act→World→Prop
 | 0,L,a,w=>Region.ready .any ops L=[]∧Q .normal a w
 | f+1,L,a,w=>(Region.ready .any ops L=[]→Q .normal a w) ∧
  ∀ i∈Region.ready .any ops L,wpOp P ops Q i (λ a' w'=>T (L.setIfInBounds i true) w'∧XA P ops Q T f (L.setIfInBounds i true) a' w') a w
def noTail (tl:List Nat) (L:Array Bool):Bool:=tl.all λ j=>!(L.getD j false)
def TT (tl:List Nat) (U:World→Prop) (L:Array Bool) (w:World):Prop:=noTail tl L=true→U w
def mkL (n:Nat):List Nat→Array Bool
 | []=>Array.replicate n false
 | i :: D=>(mkL n D).setIfInBounds i true
def DL (P:Program) (C:Code) (tl:List Nat) (U:World→Prop) (f:Nat) (D:List Nat) (n:Nat) (df:List Deferred) (l:Env) (w:World) (N R:Act→World→Prop) (E:Nat→Act→World→Prop):Prop:=
 TT tl U (mkL (opsL C).length D) w→∀ a,Ag a n df l→XA P (opsL C).toArray (kq N R E) (TT tl U) f (mkL (opsL C).length D) a w
theorem XA_one {ops:Array Oper} {T:Array Bool→World→Prop} {f i:Nat} {L:Array Bool} {a:Act} (hr:Region.ready .any ops L=[i])
  (h:wpOp P ops Q i (λ a' w'=>T (L.setIfInBounds i true) w'∧XA P ops Q T f (L.setIfInBounds i true) a' w') a w):XA P ops Q T (f+1) L a w:=
 ⟨λ h0=>(by rw [hr] at h0;cases h0),λ j hj=>by rw [hr] at hj;simp at hj;subst hj;exact h⟩
theorem XA_two {ops:Array Oper} {T:Array Bool→World→Prop} {f i j:Nat} {L:Array Bool} {a:Act} (hr:Region.ready .any ops L=[i,j])
  (h:wpOp P ops Q i (λ a' w'=>T (L.setIfInBounds i true) w'∧XA P ops Q T f (L.setIfInBounds i true) a' w') a w)
  (h':wpOp P ops Q j (λ a' w'=>T (L.setIfInBounds j true) w'∧XA P ops Q T f (L.setIfInBounds j true) a' w') a w):XA P ops Q T (f+1) L a w:=
 ⟨λ h0=>(by rw [hr] at h0;cases h0),λ k hk=>by rw [hr] at hk;simp at hk;rcases hk with rfl | rfl;exact h;exact h'⟩
def OL (P:Program) (C:Code) (tl:List Nat) (U:World→Prop) (f:Nat) (D:List Nat) (i:Nat) (n:Nat) (df:List Deferred) (l:Env) (w:World) (N R:Act→World→Prop) (E:Nat→Act→World→Prop):Prop:=
 ∀ a,Ag a n df l→wpOp P (opsL C).toArray (kq N R E) i (λ a' w'=>TT tl U (mkL (opsL C).length (i :: D)) w'∧XA P (opsL C).toArray (kq N R E) (TT tl U) f (mkL (opsL C).length (i :: D)) a' w') a w
theorem d1 {tl D:List Nat} {U:World→Prop} {f i:Nat} (hr:Region.ready .any (opsL C).toArray (mkL (opsL C).length D)=[i]) (h:OL P C tl U f D i n df l w N R E):DL P C tl U (f+1) D n df l w N R E:=
 λ _ a ha=>XA_one hr (h a ha)
theorem d2 {tl D:List Nat} {U:World→Prop} {f i j:Nat} (hr:Region.ready .any (opsL C).toArray (mkL (opsL C).length D)=[i,j]) (h:OL P C tl U f D i n df l w N R E) (h':OL P C tl U f D j n df l w N R E):DL P C tl U (f+1) D n df l w N R E:=
 λ _ a ha=>XA_two hr (h a ha) (h' a ha)
theorem os {tl D:List Nat} {U:World→Prop} {f i:Nat} {o:Oper} (ho:nth (opsL C) i=some o) (hw:Want C l o=some true) (hd:o.dst=none) (h:Es P o l w w')
  (hT:noTail tl (mkL (opsL C).length (i :: D))=false∨U w') (k:DL P C tl U f (i :: D) n df l w' N R E):OL P C tl U f D i n df l w N R E:=by
 intro a ha
 have ho':(opsL C).toArray[i]? = some o:=by rw [List.getElem?_toArray,← nth_eq];exact ho
 have hTT:TT tl U (mkL (opsL C).length (i :: D)) w':=λ hx=>by rcases hT with h1 | h1;rw [h1] at hx;cases hx;exact h1
 unfold wpOp
 simp only [ho']
 rw [if_pos (want_spec ha hw)]
 refine .inl ?_
 unfold Oper.wp
 rw [h _ ha.fits]
 simp only [Oper.upon,hd]
 exact ⟨hTT,k hTT _ ha⟩
end
end Go.Proofs.YtppodgdhdddfkaaGreatDoor.Sx
set_option linter.unusedVariables false
set_option linter.unusedSimpArgs false
namespace Go.Proofs.YtppodgdhdddfkaaGreatDoor.Sx
open Go Go.RowKit
section
variable {P:Program} {l:Env} {w w':World} {d:Option Tmp} {ty t:TypeId} {pos:String} {af:Array Edge} {g:Option (Nat × Bool)}
theorem x_move {x:Operand} {v:Value} (hx:ev l x=some v):Ex P ⟨d,.move x,ty,pos,af,g⟩ l w v w:=λ ρ h=>by simp [execOp,h x v hx]
theorem x_asg {x:Operand} {v:Value} (hx:ev l x=some v):Ex P ⟨d,.assign x,ty,pos,af,g⟩ l w v w:=λ ρ h=>by simp [execOp,h x v hx]
theorem x_pick1 {c x y:Operand} {v:Value} (hc:ev l c=some (.bool true)) (hx:ev l x=some v):Ex P ⟨d,.pick c x y,ty,pos,af,g⟩ l w v w:=λ ρ h=>by simp [execOp,h c _ hc,h x v hx,asBool]
theorem x_pick0 {c x y:Operand} {v:Value} (hc:ev l c=some (.bool false)) (hx:ev l y=some v):Ex P ⟨d,.pick c x y,ty,pos,af,g⟩ l w v w:=λ ρ h=>by simp [execOp,h c _ hc,h y v hx,asBool]
theorem x_not {x:Operand} {b:Bool} (hx:ev l x=some (.bool b)):Ex P ⟨d,.unOp .not t x,ty,pos,af,g⟩ l w (.bool (!b)) w:=λ ρ h=>by simp [execOp,h x _ hx,Op.unary]
theorem x_nil {x:Operand} {a:Addr} (hx:ev l x=some (.pointer (some a))):Ex P ⟨d,.nilCheck x,ty,pos,af,g⟩ l w (.pointer (some a)) w:=λ ρ h=>by simp [execOp,h x _ hx]
theorem x_nilf {x:Operand} {f:FuncId} {p c:Array Value} (hx:ev l x=some (.func (.func f) p c)):Ex P ⟨d,.nilCheck x,ty,pos,af,g⟩ l w (.func (.func f) p c) w:=λ ρ h=>by simp [execOp,h x _ hx]
section
variable {x y:Operand} {k:IntKind} {a b:Int} {ty2:TypeId}
theorem x_lss (hx:ev l x=some (.int k a)) (hy:ev l y=some (.int k b)):Ex P ⟨d,.binOp .lss t x y ty2,ty,pos,af,g⟩ l w (.bool (decide (a < b))) w:=λ ρ h=>by simp [execOp,h x _ hx,h y _ hy,binOp_lss,eqGuard]
theorem x_leq (hx:ev l x=some (.int k a)) (hy:ev l y=some (.int k b)):Ex P ⟨d,.binOp .leq t x y ty2,ty,pos,af,g⟩ l w (.bool (decide (a≤b))) w:=λ ρ h=>by simp [execOp,h x _ hx,h y _ hy,binOp_leq,eqGuard]
theorem x_gtr (hx:ev l x=some (.int k a)) (hy:ev l y=some (.int k b)):Ex P ⟨d,.binOp .gtr t x y ty2,ty,pos,af,g⟩ l w (.bool (decide (b < a))) w:=λ ρ h=>by simp [execOp,h x _ hx,h y _ hy,binOp_gtr,eqGuard]
theorem x_geq (hx:ev l x=some (.int k a)) (hy:ev l y=some (.int k b)):Ex P ⟨d,.binOp .geq t x y ty2,ty,pos,af,g⟩ l w (.bool (decide (b≤a))) w:=λ ρ h=>by simp [execOp,h x _ hx,h y _ hy,binOp_geq,eqGuard]
theorem x_eql (hx:ev l x=some (.int k a)) (hy:ev l y=some (.int k b)):Ex P ⟨d,.binOp .eql t x y ty2,ty,pos,af,g⟩ l w (.bool (decide (a=b))) w:=λ ρ h=>by
 simp [execOp,h x _ hx,h y _ hy,binOp_eql,eqGuard_at_int]
 rw [Bool.eq_iff_iff];simp
theorem x_neq (hx:ev l x=some (.int k a)) (hy:ev l y=some (.int k b)):Ex P ⟨d,.binOp .neq t x y ty2,ty,pos,af,g⟩ l w (.bool (decide (¬ a=b))) w:=λ ρ h=>by
 simp [execOp,h x _ hx,h y _ hy,binOp_neq,eqGuard_at_int]
 rw [Bool.eq_iff_iff];simp
theorem x_addw (hx:ev l x=some (.int k a)) (hy:ev l y=some (.int k b)):Ex P ⟨d,.binOp .add t x y ty2,ty,pos,af,g⟩ l w (.int k (k.wrap (a+b))) w:=λ ρ h=>by simp [execOp,h x _ hx,h y _ hy,binOp_add,eqGuard_at_int,Op.intArith]
theorem x_subw (hx:ev l x=some (.int k a)) (hy:ev l y=some (.int k b)):Ex P ⟨d,.binOp .sub t x y ty2,ty,pos,af,g⟩ l w (.int k (k.wrap (a-b))) w:=λ ρ h=>by simp [execOp,h x _ hx,h y _ hy,binOp_sub,eqGuard_at_int,Op.intArith]
theorem x_eqlb {p q:Bool} (hx:ev l x=some (.bool p)) (hy:ev l y=some (.bool q)) (ht:P.underlying t=some .bool):Ex P ⟨d,.binOp .eql t x y ty2,ty,pos,af,g⟩ l w (.bool (p == q)) w:=λ ρ h=>by
 simp [execOp,h x _ hx,h y _ hy,eqGuard_at_bool,run_eql_bool w t p q ht]
theorem x_neqb {p q:Bool} (hx:ev l x=some (.bool p)) (hy:ev l y=some (.bool q)) (ht:P.underlying t=some .bool):Ex P ⟨d,.binOp .neq t x y ty2,ty,pos,af,g⟩ l w (.bool (p != q)) w:=λ ρ h=>by
 simp only [execOp,h x _ hx,h y _ hy,eqGuard_at_bool,run_neq_bool w t p q ht,Sem.run_bind,Sem.run_pure,Result.andThen_ok]
 cases p<;>cases q<;>rfl
theorem x_eqlp {p:Option Addr} (hx:ev l x=some (.pointer p)) (hy:ev l y=some (.pointer none)) (ht:P.underlying t=some (.pointer (P.pointee t))):Ex P ⟨d,.binOp .eql t x y ty2,ty,pos,af,g⟩ l w (.bool p.isNone) w:=λ ρ h=>by
 simp [execOp,h x _ hx,h y _ hy,eqGuard_at_pointer,run_eql_pointer_nil w t p ht]
theorem x_neqp {p:Option Addr} (hx:ev l x=some (.pointer p)) (hy:ev l y=some (.pointer none)) (ht:P.underlying t=some (.pointer (P.pointee t))):Ex P ⟨d,.binOp .neq t x y ty2,ty,pos,af,g⟩ l w (.bool p.isSome) w:=λ ρ h=>by
 simp [execOp,h x _ hx,h y _ hy,eqGuard_at_pointer,run_neq_pointer_nil w t p ht]
end
theorem Ex.b1 {o:Oper} {p:Prop} [Decidable p] (h:Ex P o l w (.bool (decide p)) w') (hp:p):Ex P o l w (.bool true) w':=by rwa [decide_eq_true hp] at h
theorem Ex.b0 {o:Oper} {p:Prop} [Decidable p] (h:Ex P o l w (.bool (decide p)) w') (hp:¬ p):Ex P o l w (.bool false) w':=by rwa [decide_eq_false hp] at h
theorem addr_add (b o n:Nat):(⟨b,o,none⟩:Addr).add n=⟨b,o+n,none⟩:=by unfold Addr.add;split<;>simp_all
theorem x_len {x:Operand} {a:Option Addr} {n c:Nat} (hx:ev l x=some (.slice a n c)) (hu:P.underlying t=some (.slice (P.elem t))):Ex P ⟨d,.call ⟨.builtin .len,#[x],#[t]⟩,ty,pos,af,g⟩ l w (.int .i64 n) w:=λ ρ h=>by
 simp [execOp,resolve,invoke,builtin,h x _ hx,run_len_slice w t ty a n c hu,goInt]
theorem x_box {x:Operand} {v:Value} {cs:List Value} (hx:ev l x=some v) (hc:v.cells=cs.toArray):Ex P ⟨d,.box t x,ty,pos,af,g⟩ l w (.pointer (some ⟨w.heap.size,0,none⟩)) (w.alloc (.cells cs.toArray t)):=λ ρ h=>by
 simp only [execOp,h x _ hx,Instr.box,newVar,newRow,hc,Sem.run_bind,Sem.run_pure,run_newObj,Result.andThen_ok];rfl
theorem x_alloc {z:Value} {cs:List Value} (hz:∀ w,(zeroValue t).run P w=.ok z w) (hc:z.cells=cs.toArray):Ex P ⟨d,.alloc t,ty,pos,af,g⟩ l w (.pointer (some ⟨w.heap.size,0,none⟩)) (w.alloc (.cells cs.toArray t)):=λ ρ h=>by
 simp only [execOp,Instr.alloc,hz,newVar,newRow,hc,Sem.run_bind,Sem.run_pure,run_newObj,Result.andThen_ok];rfl
theorem x_build {ps:Array (Nat × Operand)} {vs:List (Nat × Value)} {v:Value} (hp:evp l ps.toList=some vs) (hb:(Instr.build t vs.toArray).run P w=.ok v w):Ex P ⟨d,.build t ps,ty,pos,af,g⟩ l w v w:=λ ρ h=>by
 have e:(ps.map λ (i,x)=>(i,ρ x))=vs.toArray:=by
  rw [← evp_fits h hp];apply Array.ext';simp
 simp [execOp,e,hb]
theorem x_mkf {fn:Fn} {xs ys:Array Operand} {as bs:List Value} (hx:evl l xs.toList=some as) (hy:evl l ys.toList=some bs):Ex P ⟨d,.makeFunc fn xs ys,ty,pos,af,g⟩ l w (.func fn as.toArray bs.toArray) w:=λ ρ h=>by
 have e1:xs.map ρ=as.toArray:=by rw [← evl_fits h hx];apply Array.ext';simp
 have e2:ys.map ρ=bs.toArray:=by rw [← evl_fits h hy];apply Array.ext';simp
 simp [execOp,Instr.makeFunc,e1,e2]
theorem x_ext {x:Operand} {i:Nat} {vs:Array Value} {v:Value} (hx:ev l x=some (.tuple vs)) (hv:vs[i]? = some v):Ex P ⟨d,.extract x i,ty,pos,af,g⟩ l w v w:=λ ρ h=>by
 simp [execOp,h x _ hx,Instr.extract,hv]
theorem x_fld {x:Operand} {i:Nat} {fs:Array Field} {F:Field} {cs:Array Value} {v:Value} (hx:ev l x=some (.agg cs)) (hu:P.underlying t=some (.struct fs)) (hf:fs[i]? = some F) (ha:∀ w,(isAgg F.type).run P w=.ok false w) (hv:cs[F.offset]? = some v) :
  Ex P ⟨d,.field t x i,ty,pos,af,g⟩ l w v w:=λ ρ h=>by
 simp [execOp,h x _ hx,Instr.field,run_underlying hu,hf,asAgg,part,ha,hv]
theorem x_cvi {x:Operand} {k k':IntKind} {a:Int} {s t:TypeId} {ud:TypeDesc} (hx:ev l x=some (.int k a)) (hs:P.underlying s=some ud) (hu:P.underlying t=some (.int k')):Ex P ⟨d,.convert s t x,ty,pos,af,g⟩ l w (.int k' (k'.wrap a)) w:=λ ρ h=>by
 simp [execOp,h x _ hx,convert,run_underlying hs,run_underlying hu,Conv.intToInt]
theorem s_1 {x y:Operand} {b o:Nat} {v:Value} {T:TypeId} {cs:List Value} (hx:ev l x=some (.pointer (some ⟨b,o,none⟩))) (hy:ev l y=some v) (h1:v.cells=#[v]) (hv:v.oneCell'=true) (hs:∀ w,(sizeOf t).run P w=.ok 1 w) (hb:Blk w b T cs) (ho:o < cs.length) :
  Es P ⟨none,.store t x y,ty,pos,af,g⟩ l w (w.setCell ⟨b,o,none⟩ v):=λ ρ h=>by
 have hc:(w.cell? ⟨b,o,none⟩)=some (cs[o]'ho):=hb.cell (by simp [ho])
 have hst:=run_store P w ⟨b,o,none⟩ v .plain hv
 simp [execOp,h x _ hx,h y _ hy,Instr.storeAt,Instr.sureAddr,storeVar,hs,h1,storeCells,addr_add,hst,stored,hc,hb.unfrozen]
def Ev (P:Program) (o:Oper) (l:Env) (w:World) (R:Value→World→Prop):Prop:=∀ ρ,Fits l ρ→∃ v w',(execOp ρ o).run P w=.ok (.value v) w'∧R v w'
section
variable {C:Code} {n:Nat} {df:List Deferred} {N RR:Act→World→Prop} {E:Nat→Act→World→Prop}
end
section
variable {C:Code} {n:Nat} {df:List Deferred} {N RR:Act→World→Prop} {E:Nat→Act→World→Prop}
end
end
end Go.Proofs.YtppodgdhdddfkaaGreatDoor.Sx
set_option linter.unusedVariables false
set_option linter.unusedSimpArgs false
namespace Go.Proofs.YtppodgdhdddfkaaGreatDoor.Sx
open Go Go.RowKit
def flat {α:Type} (enc:α→List Value) (xs:List α):List Value:=xs.flatMap enc
section
variable {α:Type} {enc:α→List Value} {k:Nat} (hk:∀ x,(enc x).length=k)
include hk
theorem flat_length (xs:List α):(flat enc xs).length=xs.length * k:=by
 induction xs with
 | nil=>simp [flat]
 | cons x r ih=>simp only [flat,List.flatMap_cons,List.length_append,hk,List.length_cons] at *;rw [ih,Nat.succ_mul];omega
theorem flat_get {xs:List α} {i j:Nat} {x:α} (hi:xs[i]? = some x) (hj:j < k):(flat enc xs)[i * k+j]? = (enc x)[j]?:=by
 induction xs generalizing i with
 | nil=>simp at hi
 | cons y r ih =>
  cases i with
  | zero =>
   obtain rfl:y=x:=by simpa using hi
   simp only [flat,List.flatMap_cons,Nat.zero_mul,Nat.zero_add]
   rw [List.getElem?_append_left (by rw [hk];exact hj)]
  | succ i =>
   simp only [flat,List.flatMap_cons]
   rw [List.getElem?_append_right (by rw [hk,Nat.succ_mul];omega),hk,show (i+1) * k+j-k=i * k+j by rw [Nat.succ_mul];omega]
   exact ih (by simpa using hi)
theorem flat_set {xs:List α} {i j:Nat} {x y:α} {v:Value} (hi:xs[i]? = some x) (hj:j < k) (he:(enc x).set j v=enc y):(flat enc xs).set (i * k+j) v=flat enc (xs.set i y):=by
 induction xs generalizing i with
 | nil=>simp at hi
 | cons z r ih =>
  cases i with
  | zero =>
   obtain rfl:z=x:=by simpa using hi
   simp only [flat,List.flatMap_cons,Nat.zero_mul,Nat.zero_add,List.set_cons_zero]
   rw [List.set_append_left _ _ (by rw [hk];exact hj),he]
  | succ i =>
   simp only [flat,List.flatMap_cons,List.set_cons_succ]
   rw [List.set_append_right _ _ (by rw [hk,Nat.succ_mul];omega),hk,show (i+1) * k+j-k=i * k+j by rw [Nat.succ_mul];omega]
   have:=ih (by simpa using hi)
   simp only [flat] at this
   rw [this]
end
def splice:List Value→Nat→List Value→List Value
 | cs,_,[]=>cs
 | cs,o,v :: r=>splice (cs.set o v) (o+1) r
theorem splice_length (vs:List Value):∀ (cs:List Value) (o:Nat),(splice cs o vs).length=cs.length:=by
 induction vs with
 | nil=>intro cs o;rfl
 | cons v r ih=>intro cs o;simp [splice,ih]
theorem splice_eq (vs:List Value):∀ (a b c:List Value),b.length=vs.length→splice (a++b++c) a.length vs=a++vs++c:=by
 induction vs with
 | nil=>intro a b c h;obtain rfl:=List.eq_nil_of_length_eq_zero h;simp [splice]
 | cons v r ih =>
  intro a b c h
  cases b with
  | nil=>simp at h
  | cons u b =>
   have e:(a++(u :: b)++c).set a.length v=(a++[v])++b++c:=by
    rw [List.append_assoc,List.set_append_right _ _ (Nat.le_refl _)]
    simp
   show splice ((a++(u :: b)++c).set a.length v) (a.length+1) r=_
   rw [e]
   have:=ih (a++[v]) b c (by simpa using h)
   simp only [List.length_append,List.length_cons,List.length_nil,Nat.zero_add] at this
   rw [this]
   simp
section
variable {P:Program} {l:Env} {w w':World} {d:Option Tmp} {ty t:TypeId} {pos:String} {af:Array Edge} {g:Option (Nat × Bool)}
def Sv (P:Program) (o:Oper) (l:Env) (w:World) (R:World→Prop):Prop:=∀ ρ,Fits l ρ→∃ w',(execOp ρ o).run P w=.ok .skip w'∧R w'
theorem v_1 {x y:Operand} {b o:Nat} {v:Value} {T:TypeId} {cs:List Value} (hx:ev l x=some (.pointer (some ⟨b,o,none⟩))) (hy:ev l y=some v) (h1:v.cells=#[v]) (hv:v.oneCell'=true) (hs:∀ w,(sizeOf t).run P w=.ok 1 w) (hb:Blk w b T cs) (ho:o < cs.length) :
  Sv P ⟨none,.store t x y,ty,pos,af,g⟩ l w (λ w'=>Blk w' b T (cs.set o v)∧Fr [b] w w'):=λ ρ h=>⟨_,s_1 hx hy h1 hv hs hb ho ρ h,hb.setCell o v,Fr.setCell w b o v⟩
theorem run_splice {b:Nat} {T:TypeId} (vs:List Value) (hv:∀ v∈vs,v.oneCell'=true) (o:Nat):∀ (j:Nat) (w:World) (cs:List Value),Blk w b T cs→o+j+vs.length≤cs.length →
  ∃ w',(storeCells ⟨b,o,none⟩ vs j).run P w=.ok () w'∧Blk w' b T (splice cs (o+j) vs)∧Fr [b] w w':=by
 induction vs with
 | nil=>intro j w cs hb _;exact ⟨w,rfl,hb,Fr.refl _ _⟩
 | cons v r ih =>
  intro j w cs hb hl
  have h1:=hv v (by simp)
  have ho:o+j < cs.length:=by simp only [List.length_cons] at hl;omega
  have hc:(w.cell? ⟨b,o+j,none⟩)=some (cs[o+j]'ho):=hb.cell (by simp [ho])
  have hst:=run_store P w ⟨b,o+j,none⟩ v .plain h1
  obtain ⟨w',hr,hb',hf⟩:=ih (λ u hu=>hv u (by simp [hu])) (j+1) (w.setCell ⟨b,o+j,none⟩ v) (cs.set (o+j) v) (hb.setCell _ _) (by simp only [List.length_cons,List.length_set] at *;omega)
  refine ⟨w',?_,by simpa [splice,Nat.add_assoc] using hb',(Fr.setCell w b (o+j) v).trans hf⟩
  unfold storeCells
  simp [addr_add,hst,stored,hc,hb.unfrozen,hr]
theorem v_n {x y:Operand} {b o n:Nat} {vs:List Value} {T:TypeId} {cs:List Value} (hx:ev l x=some (.pointer (some ⟨b,o,none⟩))) (hy:ev l y=some (.agg vs.toArray)) (hv:∀ v∈vs,v.oneCell'=true) (hs:∀ w,(sizeOf t).run P w=.ok n w) (hn:vs.length=n) (hb:Blk w b T cs) (ho:o+n≤cs.length) :
  Sv P ⟨none,.store t x y,ty,pos,af,g⟩ l w (λ w'=>Blk w' b T (splice cs o vs)∧Fr [b] w w'):=λ ρ h=>by
 subst hn
 obtain ⟨w',hr,hb',hf⟩:=run_splice (P:=P) vs hv o 0 w cs hb (by omega)
 refine ⟨w',?_,hb',hf⟩
 simp [execOp,h x _ hx,h y _ hy,Instr.storeAt,Instr.sureAddr,storeVar,hs,Value.cells,hr]
section
variable {C:Code} {n:Nat} {df:List Deferred} {N RR:Act→World→Prop} {E:Nat→Act→World→Prop}
end
theorem x_iag {x i:Operand} {a:Addr} {len cap sz:Nat} {k:IntKind} {j:Int} {e:TypeId} (hx:ev l x=some (.slice (some a) len cap)) (hi:ev l i=some (.int k j)) (hu:P.underlying t=some (.slice e)) (hs:∀ w,(sizeOf e).run P w=.ok sz w) (hj:0≤j∧j < len) :
  Ex P ⟨d,.indexAddr t x i,ty,pos,af,g⟩ l w (.pointer (some (a.add (j.toNat * sz)))) w:=λ ρ h=>by
 simp [execOp,h x _ hx,h i _ hi,Instr.indexAt,asIntOf,run_underlying hu,hs,hj]
theorem heq {ad:Addr} {v:Value} (h:w'.heap=w.heap) (hc:w.cell? ad=some v):w'.cell? ad=some v:=by
 unfold World.cell? at *
 rw [h];exact hc
theorem Fr.of_grown {row:Option Nat} (h:w.grownBy w' row):Fr row.toList w w':=⟨h.os,h.tape,h.output,h.size,λ k hk hn=>h.block k hk (λ e=>hn (by rw [← e];simp))⟩
theorem Fr.grown {S:List Nat} {w0:World} {row:Option Nat} (h:Fr S w0 w) (hg:w.grownBy w' row) (hr:∀ k,row=some k→w0.heap.size≤k):Fr S w0 w':=
 h.trans_new (Fr.of_grown hg) (λ x hx=>.inr (hr x (by cases row with | none=>simp at hx | some r=>simp at hx;rw [hx])))
theorem own_fr {S:List Nat} {base:Nat} {e:TypeId} {size:Nat} {v:Value} {n:Nat} {xs:List Value} (h:w.ownsRow base e size v n xs) (k:Fr S w w') (hS:∀ x∈S,x < base):w'.ownsRow base e size v n xs:=by
 obtain ⟨hl,h | ⟨g,cap,cur,rfl,hg,hh,r⟩⟩:=h
 ·exact ⟨hl,.inl h⟩
 ·refine ⟨hl,.inr ⟨g,cap,cur,rfl,hg,?_,r⟩⟩
  rw [k.keep g (Array.getElem?_eq_some_iff.1 hh).1 (λ hx=>by have:=hS g hx;omega)]
  exact hh
theorem own_fr0 {base:Nat} {e:TypeId} {size:Nat} {v:Value} {n:Nat} {xs:List Value} (h:w.ownsRow base e size v n xs) (k:Fr [] w w'):w'.ownsRow base e size v n xs:=own_fr h k (by simp)
theorem e_app {s x:Operand} {base e:Nat} (size bytes:Nat) {n m c:Nat} (z:Value) {v:Value} {xs:List Value} (news:List Value) {ad:Addr} (hx:ev l s=some v) (hy:ev l x=some (.slice (some ad) m c)) (hu:P.underlying t=some (.slice e)) (hinfo:(P.info? e).map (λ i=>(i.zero,i.size,i.bytes))=some (some z,size,bytes)) (hzs:z.cells.size=size) (hsz:0 < size)
  (HO:w.ownsRow base e size v n xs) (hl:news.length=m * size) (hnews:∀ j u,news[j]? = some u→w.cell? (ad.add j)=some u) (h1:∀ u∈news,u.oneCell'=true) (hb:(n+m) * bytes≤140737488355328) (hnm:n+m≤140737488355328) (hbase:base≤w.heap.size) :
  Ev P ⟨d,.call ⟨.builtin .append,#[s,x],#[t,t]⟩,ty,pos,af,g⟩ l w (λ v' w'=>w'.ownsRow base e size v' (n+m) (xs++news)∧w.grownBy w' v.ownBlock∧(v'.ownBlock=v.ownBlock∨v'.ownBlock=some w.heap.size)):=λ ρ h=>by
 obtain ⟨i,hi,hz,hsize,hby⟩:=info_parts hinfo
 obtain ⟨v',w',hr,ho,hg,_,hat⟩:=run_append_own_at (P:=P) w base t ty e i z size bytes hu hi hz hsize hby hzs hsz v n xs HO ad m c news hl hnews h1 (by simp only [maxLen];omega) hb hbase
 refine ⟨v',w',?_,ho,hg,hat⟩
 simp only [execOp,resolve,invoke,builtin,h s _ hx,h x _ hy,List.map_toArray,List.map_cons,List.map_nil,hr,Sem.run_bind,Sem.run_pure,Result.andThen_ok]
theorem Blk.news {b:Nat} {T:TypeId} {cs:List Value} (h:Blk w b T cs):∀ j u,cs[j]? = some u→w.cell? ((⟨b,0,none⟩:Addr).add j)=some u:=λ j u hu=>by
 rw [addr_add,Nat.zero_add];exact h.cell hu
theorem e_appv {s x:Operand} {base e:Nat} (size bytes:Nat) {n m c:Nat} (z:Value) {v:Value} {xs:List Value} (news:List Value) {A:Option Addr} (hx:ev l s=some v) (hy:ev l x=some (.slice A m c)) (hu:P.underlying t=some (.slice e)) (hinfo:(P.info? e).map (λ i=>(i.zero,i.size,i.bytes))=some (some z,size,bytes)) (hzs:z.cells.size=size) (hsz:0 < size)
  (HO:w.ownsRow base e size v n xs) (hl:news.length=m * size) (hA:A=none→m=0) (hnews:∀ ad,A=some ad→∀ j u,news[j]? = some u→w.cell? (ad.add j)=some u) (h1:∀ u∈news,u.oneCell'=true) (hb:(n+m) * bytes≤140737488355328) (hnm:n+m≤140737488355328) (hbase:base≤w.heap.size) :
  Ev P ⟨d,.call ⟨.builtin .append,#[s,x],#[t,t]⟩,ty,pos,af,g⟩ l w (λ v' w'=>w'.ownsRow base e size v' (n+m) (xs++news)∧w.grownBy w' v.ownBlock∧(v'.ownBlock=v.ownBlock∨v'.ownBlock=some w.heap.size)):=by
 cases A with
 | some ad=>exact e_app size bytes z news hx hy hu hinfo hzs hsz HO hl (hnews ad rfl) h1 hb hnm hbase
 | none =>
  intro ρ h
  have hm:=hA rfl
  subst hm
  have hn0:news=[]:=List.eq_nil_of_length_eq_zero (by rw [hl];simp)
  subst hn0
  obtain ⟨i,hi,hz,hsize,hby⟩:=info_parts hinfo
  refine ⟨v,w,?_,by simpa using HO,⟨rfl,rfl,rfl,Nat.le_refl _,λ _ _ _=>rfl⟩,.inl rfl⟩
  obtain ⟨_,⟨rfl,rfl⟩ | ⟨g',cap,cur,rfl,hg,hh,hnc,r⟩⟩:=HO
  ·simp [execOp,resolve,invoke,builtin,h s _ hx,h x _ hy,Builtin.append_,run_underlying hu,sizeOf,typeInfo,hi,Builtin.lenOf,Builtin.firstCells,loadCells,loadCellsFrom]
  ·simp [execOp,resolve,invoke,builtin,h s _ hx,h x _ hy,Builtin.append_,run_underlying hu,sizeOf,typeInfo,hi,Builtin.lenOf,Builtin.firstCells,loadCells,loadCellsFrom,hnc,storeCells]
theorem own_lit {b base e n size:Nat} {cs:List Value} (h:Blk w b e cs) (hb:base≤b) (hl:cs.length=n * size) (hn:n≤1000000):w.ownsRow base e size (.slice (some ⟨b,0,none⟩) n n) n cs:=
 ⟨hl,.inr ⟨b,n,cs.toArray,rfl,hb,h,Nat.le_refl _,by simp only [maxLen];omega,by simpa using hl,by rw [← hl];simp⟩⟩
def ints (xs:List Int):List Value:=xs.map (λ z=>.int .i64 z)
theorem own_slice {base e n:Nat} {size:Nat} {v:Value} {xs:List Value} (h:w.ownsRow base e size v n xs):∃ A c,v=.slice A n c∧(xs=[]∨n=0∨∃ b,A=some ⟨b,0,none⟩∧base≤b∧b < w.heap.size∧∀ j u,xs[j]? = some u→w.cell? ⟨b,j,none⟩=some u):=by
 obtain ⟨hl,⟨rfl,rfl⟩ | ⟨g,cap,cur,rfl,hg,hh,hn,hm,hs,ht⟩⟩:=h
 ·exact ⟨none,0,rfl,.inr (.inl rfl)⟩
 ·refine ⟨_,cap,rfl,.inr (.inr ⟨g,rfl,hg,(Array.getElem?_eq_some_iff.1 hh).1,λ j u hu=>?_⟩)⟩
  unfold World.cell?
  rw [show w.heap[(⟨g,j,none⟩:Addr).block]? = _ from hh]
  rw [← ht,List.getElem?_take] at hu
  split at hu
  ·simpa using hu
  ·cases hu
theorem own_nil (base:Nat) (e:TypeId) (size:Nat):w.ownsRow base e size (.slice none 0 0) 0 []:=World.ownsRow_nil w base e size
theorem own_mono {base base':Nat} {e:TypeId} {size:Nat} {v:Value} {n:Nat} {xs:List Value} (h:w.ownsRow base e size v n xs) (hb:base'≤base):w.ownsRow base' e size v n xs:=by
 obtain ⟨hl,h | ⟨g,cap,cur,rfl,hg,r⟩⟩:=h
 ·exact ⟨hl,.inl h⟩
 ·exact ⟨hl,.inr ⟨g,cap,cur,rfl,by omega,r⟩⟩
def Stop (C:List Int→Bool) (xs:List Int) (k:Nat):Prop:=k≤xs.length∧(∀ j,0 < j→j < k→C (xs.take j)=true)∧(k=xs.length∨0 < k∧C (xs.take k)=false)
end
end Go.Proofs.YtppodgdhdddfkaaGreatDoor.Sx
set_option linter.unusedVariables false
namespace Go.Proofs.YtppodgdhdddfkaaGreatDoor.Sx
open Go Go.RowKit Go.ChangeShapes Go.WideShapes Go.Deep
section
variable {H:Type} {enc:TypeId × Value→H} {P:Program} {w:World} {base n:Nat} {spare:Nat→Bool} {held:Bool} {xs:List (DataW H × List MemPlace)} {i:Nat}
theorem cells_of {a:Addr} {m:Nat} {cs:List Value} (h:w.cells? base a m=some cs):∀ i v,cs[i]? = some v→w.cell? (a.add i)=some v:=by
 intro i v hv
 obtain ⟨_,hl,hc⟩:=World.cells?_some h
 have hi:i < cs.length:=(List.getElem?_eq_some_iff.1 hv).1
 rw [hc i (by omega)]
 exact hv
end
end Go.Proofs.YtppodgdhdddfkaaGreatDoor.Sx
set_option linter.unusedVariables false
set_option linter.unusedSimpArgs false
namespace Go.Proofs.YtppodgdhdddfkaaGreatDoor.Sx
open Go Go.RowKit
section
variable {P:Program} {l:Env} {w w':World} {d:Option Tmp} {ty t:TypeId} {pos:String} {af:Array Edge} {g:Option (Nat × Bool)}
theorem x_slh {x y:Operand} {A:Option Addr} {len cap:Nat} {k:IntKind} {j:Int} {e:TypeId} {s:Nat} (hx:ev l x=some (.slice A len cap)) (hy:ev l y=some (.int k j)) (hu:P.underlying t=some (.slice e)) (hs:∀ w,(sizeOf e).run P w=.ok s w) (hj:0≤j∧j≤cap) :
  Ex P ⟨d,.slice t x none (some y) none,ty,pos,af,g⟩ l w (.slice A j.toNat cap) w:=λ ρ h=>by
 have e0:∀ a:Addr,a.add 0=a:=λ a=>by unfold Addr.add;simp
 have e1:(A.map λ a=>a.add (0 * s))=A:=by cases A<;>simp [e0]
 have e2:(Instr.slice t (.slice A len cap) none (some (.int k j)) none).run P w=.ok (.slice A j.toNat cap) w:=by
  simp [Instr.slice,run_underlying hu,Instr.sliceBounds,run_sliceBound w k j cap _ hj.1 hj.2,hs]
  try (cases A<;>simp [e0])
 have hu2:P.underlying t=some (.slice (P.elem t)):=by rw [hu];simp [Program.elem,hu]
 simp [execOp,h x _ hx,h y _ hy,run_sliceAt_slice,hu2,e2]
theorem x_rem {x y:Operand} {k:IntKind} {a b:Int} {ty2:TypeId} (hx:ev l x=some (.int k a)) (hy:ev l y=some (.int k b)) (hb:b≠0):Ex P ⟨d,.binOp .rem t x y ty2,ty,pos,af,g⟩ l w (.int k (a.tmod b)) w:=λ ρ h=>by
 simp [execOp,h x _ hx,h y _ hy,binOp_rem,eqGuard_rem,Op.intDiv,hb]
theorem own_cap {base e n:Nat} {size:Nat} {A:Option Addr} {m c:Nat} {xs:List Value} (h:w.ownsRow base e size (.slice A m c) n xs):n≤c:=by
 obtain ⟨_,⟨e,rfl⟩ | ⟨g,cap,cur,e,hg,hh,hn,r⟩⟩:=h
 ·exact Nat.zero_le _
 ·injection e with _ _ e3
  omega
variable {n:Nat}
end
end Go.Proofs.YtppodgdhdddfkaaGreatDoor.Sx
set_option linter.unusedVariables false
set_option linter.unusedSimpArgs false
namespace Go.Proofs.YtppodgdhdddfkaaGreatDoor.Sx
open Go Go.RowKit
def FR (r:Option Nat):Fence:={ Fence.wide with round:=r }
theorem FR_depth (r:Option Nat) (n:Nat):(FR r).depth.isSome=true→1≤n:=λ h=>by cases h
def nodef (o:Oper):Bool:=match o.op with | .defer _=>false | _=>true
theorem semAt_of {o:Oper} (r:Option Nat) (e:Operand→Value) (h:nodef o=true):o.semAt (FR r).round e=execOp e o:=by
 cases r with
 | none=>rfl
 | some l=>exact Oper.semAt_some l e o (λ c hc=>by unfold nodef at h;rw [hc] at h;cases h)
theorem callsIn_FR {P:Program} {r:Option Nat} {n:Nat} {f:FuncId} {args:Array Value} {w:World} {R:Ending→World→Prop} (h:Calls P f args w R):CallsIn (FR r) n P f args w R:=by
 have h1:CallsIn Fence.wide n P f args w R:=callsIn_wide.2 h
 exact h1
def RI (P:Program) (r:Option Nat) (C:Code) (i:Nat) (n:Nat) (df:List Deferred) (l:Env) (w:World) (N R:Act→World→Prop) (E:Nat→Act→World→Prop):Prop:=
 ∀ a,Ag a n df l→wpListIn (FR r) 0 P (opsL C).toArray (kq N R E) ((opsL C).drop i) a w
section
variable {P:Program} {C A B:Code} {r:Option Nat} {n:Nat} {df:List Deferred} {l:Env} {w w':World} {N R:Act→World→Prop} {E:Nat→Act→World→Prop}
def Yd (P:Program) (L:Nat) (vs:List Value) (w:World) (RR:Value→World→Prop):Prop:=YieldAt Fence.wide 0 P L vs.toArray w (λ e w'=>∃ v,e=.returned v∧RR v w')
theorem iy {i d L:Nat} {q:Operand} {xs:Array Operand} {ts:Array TypeId} {vs:List Value} {ty:TypeId} {pos:String} {af:Array Edge} {g:Option (Nat × Bool)} {RR:Value→World→Prop} (ho:nth (opsL C) i=some ⟨some d,.call ⟨.value q,xs,ts⟩,ty,pos,af,g⟩) (hw:Want C l ⟨some d,.call ⟨.value q,xs,ts⟩,ty,pos,af,g⟩=some true) (hn:Nat.blt d n=true)
  (hq:ev l q=some (.func (.yield L) #[] #[])) (hx:evl l xs.toList=some vs) (h:Yd P L vs w RR)
  (k:∀ v w',RR v w'→RI P r C (i+1) n df ((d,v) :: l) w' N R E):RI P r C i n df l w N R E:=by
 intro a ha
 rw [drop_of_nth ho]
 unfold wpListIn
 rw [if_pos (want_spec ha hw)]
 refine ⟨λ _ _=>trivial,?_⟩
 obtain ⟨fn,tmps,assign,body,hy,hr⟩:=h
 have e1:xs.map a.eval=vs.toArray:=by rw [← evl_fits ha.fits hx];apply Array.ext';simp
 have e0:a.eval q=.func (.yield L) #[] #[]:=ha.fits q _ hq
 have e2:(execOp a.eval ⟨some d,.call ⟨.value q,xs,ts⟩,ty,pos,af,g⟩).run P w=.ok (.round L fn tmps assign body) w:=by
  simp [execOp,resolve,invoke,Deferred.ofValue,e0,e1,hy]
 rw [semAt_of _ _ rfl,e2]
 simp only [Oper.uponIn]
 refine ⟨FR_depth _ _,?_⟩
 have h2:RoundIn (FR r) 0 P L fn tmps assign body w (λ e w'=>∃ v,e=.returned v∧RR v w'):=hr
 refine RoundIn.mono h2 ?_
 rintro e w' ⟨v,rfl,hR⟩
 exact k v w' hR _ (ha.put (by simpa using hn) v)
theorem Fr.putObj (w:World) (q:Nat) (o:Obj):Fr [q] w (w.putObj q o):=⟨rfl,rfl,rfl,by simp,λ k hk hn=>World.putObj_heap_other (by simpa using hn)⟩
theorem Ag.paramsL {a:Act}:∀ (ps:List Nat) (vs:List Value) {t:Array Value} {l:Env},Ag { tmps:=t,defers:=[] } n [] l→(∀ p∈ps,p < n)→ps.length=vs.length →
  Ag { tmps:=(ps.zip vs).foldl (λ t (p,v)=>t.setIfInBounds p v) t,defers:=[] } n [] ((ps.zip vs).reverse++l):=by
 intro ps
 induction ps with
 | nil =>
  intro vs t l h _ hl
  obtain rfl:vs=[]:=List.eq_nil_of_length_eq_zero hl.symm
  simpa using h
 | cons p r ih =>
  intro vs t l h hp hl
  cases vs with
  | nil=>simp at hl
  | cons v vs =>
   have h1:Ag { tmps:=t.setIfInBounds p v,defers:=[] } n [] ((p,v) :: l):=h.put (hp p (by simp)) v
   have h2:=ih vs h1 (λ q hq=>hp q (by simp [hq])) (by simpa using hl)
   simpa using h2
theorem Ag.params {a:Act} (ps:List Nat) (vs:List Value) {t:Array Value} {l:Env} (h:Ag { tmps:=t,defers:=[] } n [] l) (hp:∀ p∈ps,p < n) (hl:ps.length=vs.length) :
  Ag { tmps:=(ps.toArray.zip vs.toArray).foldl (λ t (p,v)=>t.setIfInBounds p v) t,defers:=[] } n [] ((ps.zip vs).reverse++l):=by
 have:=Ag.paramsL (a:=a) ps vs h hp hl
 rw [List.zip_toArray,List.foldl_toArray]
 exact this
def mk (D:Nat):Deferred:={ target:=.collected D,args:=#[] }
end
end Go.Proofs.YtppodgdhdddfkaaGreatDoor.Sx
