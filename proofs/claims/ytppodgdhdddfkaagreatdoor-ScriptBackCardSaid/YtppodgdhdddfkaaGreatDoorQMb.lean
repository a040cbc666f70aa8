import Derived.Test.YtppodgdhdddfkaaGreatDoorQMa
import Derived.Sort.LoopGhostIn
set_option linter.unusedVariables false
set_option linter.unusedSimpArgs false
namespace Go.Proofs.YtppodgdhdddfkaaGreatDoor.Sx
open Go Go.RowKit
def pr {α:Type} (P:Program):Sem α→Option α
 | .pure a=>some a
 | .program k=>pr P (k P)
 | _=>none
theorem pr_run {α:Type} {P:Program}:∀ {s:Sem α} {a:α},pr P s=some a→∀ w,s.run P w=.ok a w:=by
 intro s
 induction s with
 | pure b=>intro a h w;simp [pr] at h;subst h;rfl
 | program k ih=>intro a h w;exact ih P h w
 | _=>intro a h;simp [pr] at h
def addA (a:Addr) (n:Nat):Addr:=match a with
 | ⟨b,o,none⟩=>⟨b,o+n,none⟩
 | a=>a.add n
theorem addA_eq (a:Addr) (n:Nat):addA a n=a.add n:=by
 obtain ⟨b,o,s⟩:=a
 cases s with
 | none=>exact (addr_add b o n).symm
 | some s=>rfl
inductive T where
 | ret (v:Value)
 | again (vs:List Value)
 | brk (i:Nat) (vs:List Value)
 | bad
 | ld (a:Value) (k:Value→T)
 | ldn (n:Nat) (a:Value) (k:Value→T)
 | chk (n:Option Nat) (a v:Value) (k:T)
 | call (f:Nat) (vs:List Value) (k:Value→T)
 | yld (L:Nat) (vs:List Value) (k:Value→T)
 | pu (s:Sem Value) (k:Value→T)
 | hv (s:Sem Value) (k:Value→T)
 | ef (s:Sem Unit) (k:T)
 | en (s:Sem Next) (k:Value→T)
 | pan (s:Sem Value)
 | ar (kd:IntKind) (z:Int) (k:Value→T)
 | ob (p:Prop) (k:T)
 | amb (a b:T)
 | dr (k:T)
 | loop (vs:List Value) (body:List Value→T) (after:Nat→List Value→T)
 | rb (L:Nat) (a b:Obj) (k:T)
 | rf (cx:Option (Nat × Obj)) (g:Value) (m:Nat) (body:Nat→Obj→Obj→List Value→T) (after:Nat→T)
def iteT (c:Bool) (a b:T):T:=match c with | true=>a | false=>b
def nilT (v:Value) (k:Value→T):T:=match v with
 | .pointer (some a)=>k (.pointer (some a))
 | .func (.func f) p c=>k (.func (.func f) p c)
 | .func (.yield f) p c=>k (.func (.yield f) p c)
 | _=>.bad
def faT (off:Nat) (v:Value) (k:Value→T):T:=match v with | .pointer (some a)=>k (.pointer (some (addA a off))) | _=>.bad
def adT (A:Option Addr) (n:Nat) (k:Value→T):T:=match A with | some a=>k (.pointer (some (addA a n))) | none=>.bad
def ixT (sz:Nat) (v i:Value) (k:Value→T):T:=match v,i with
 | .slice A len _,.int _ j=>.ob (0≤j∧j < len) (adT A (j.toNat * sz) k)
 | _,_=>.bad
def ixaT (len sz:Nat) (v i:Value) (k:Value→T):T:=match v,i with
 | .pointer A,.int _ j=>.ob (0≤j∧j < len) (adT A (j.toNat * sz) k)
 | _,_=>.bad
def opT (o:Option Value) (k:Value→T):T:=match o with | some c=>k c | none=>.bad
def fdT (off:Nat) (v:Value) (k:Value→T):T:=match v with | .agg cs=>opT cs[off]? k | _=>.bad
def fdnT (off n:Nat) (v:Value) (k:Value→T):T:=match v with | .agg cs=>k (.agg (cs.extract off (off+n))) | _=>.bad
def exT (i:Nat) (v:Value) (k:Value→T):T:=match v with | .tuple vs=>opT vs[i]? k | _=>.bad
def notT (v:Value) (k:Value→T):T:=match v with | .bool b=>k (.bool (!b)) | _=>.bad
def pickT (c a b:Value) (k:Value→T):T:=match c with | .bool x=>iteT x (k a) (k b) | _=>.bad
def cmT (op:BinOp) (a b:Int) (k:Value→T) (no:T):T:=match op with
 | .lss=>k (.bool (decide (a < b)))
 | .leq=>k (.bool (decide (a≤b)))
 | .gtr=>k (.bool (decide (b < a)))
 | .geq=>k (.bool (decide (b≤a)))
 | .eql=>k (.bool (decide (a=b)))
 | .neq=>k (.bool (decide (¬ a=b)))
 | _=>no
def arT (op:BinOp) (kd:IntKind) (a b:Int) (k:Value→T) (no:T):T:=match op with
 | .add=>.ar kd (a+b) k
 | .sub=>.ar kd (a-b) k
 | .mul=>.ar kd (a * b) k
 | _=>no
def biT (cmp:Bool) (op:BinOp) (x y:Value) (k:Value→T):T:=match x,y with
 | .int kd a,.int kd' b=>match decide (kd=kd') with
  | true=>match cmp with | true=>cmT op a b k .bad | false=>arT op kd a b k .bad
  | false=>.bad
 | _,_=>.bad
def bbT (op:BinOp) (x y:Value) (k:Value→T):T:=match x,y with
 | .bool a,.bool b=>match op with | .eql=>k (.bool (a == b)) | .neq=>k (.bool (a != b)) | _=>.bad
 | _,_=>.bad
def bpT (op:BinOp) (x y:Value) (k:Value→T):T:=match x,y with
 | .pointer p,.pointer none=>match op with | .eql=>k (.bool p.isNone) | .neq=>k (.bool p.isSome) | _=>.bad
 | _,_=>.bad
def cvT (kd:IntKind) (v:Value) (k:Value→T):T:=match v with | .int _ a=>.ar kd a k | _=>.bad
def lnT (v:Value) (k:Value→T):T:=match v with | .slice _ n _=>k (.int .i64 n) | _=>.bad
def clT (f:Value) (vs:List Value) (k:Value→T):T:=match f with
 | .func (.func g) p c=>.call g (p.toList++(vs++c.toList)) k
 | .func (.yield L) p c=>match p.toList,c.toList with | [],[]=>.yld L vs k | _,_=>.bad
 | _=>.bad
def gi (v:Value) (a b:T):T:=match v with | .bool c=>iteT c a b | _=>.bad
def setl:List Value→Nat→Value→List Value
 | [],_,_=>[]
 | _ :: r,0,v=>v :: r
 | c :: r,n+1,v=>c :: setl r n v
def bdT:List (Nat × Value)→List Value→(List Value→T)→T
 | [],cs,k=>k cs
 | (o,v) :: r,cs,k=>match v with
  | .agg _=>.bad
  | .tuple _=>.bad
  | v=>bdT r (setl cs o v) k
def bq (i id:Nat) (a b:T):T:=match Nat.beq i id with | true=>a | false=>b
def jm (a b:T) (c:Nat→T):Nat→T
 | 0=>a
 | 1=>b
 | i+2=>c i
abbrev I (n:Int):Value:=.int .i64 n
abbrev B (b:Bool):Value:=.bool b
section
variable (P:Program)
def vT (l:Env) (x:Operand) (k:Value→T):T:=match ev l x with | some v=>k v | none=>.bad
def vsT (l:Env):List Operand→(List Value→T)→T
 | [],k=>k []
 | x :: r,k=>vT l x λ v=>vsT l r λ vs=>k (v :: vs)
def voT (l:Env) (x:Option Operand) (k:Option Value→T):T:=match x with | none=>k none | some x=>vT l x λ v=>k (some v)
def psT (l:Env):List (Nat × Operand)→(List (Nat × Value)→T)→T
 | [],k=>k []
 | (i,x) :: r,k=>vT l x λ v=>psT l r λ vs=>k ((i,v) :: vs)
def fieldOf (t i:Nat):Option Field:=match P.underlying t with | some (.struct fs)=>fs[i]? | _=>none
def cls (t:Nat):Nat:=match P.underlying t with
 | some (.int _)=>0
 | some .bool=>1
 | some (.pointer _)=>2
 | _=>3
def isCmp:BinOp→Bool
 | .lss | .leq | .gtr | .geq | .eql | .neq=>true
 | _=>false
def isAr:BinOp→Bool
 | .add | .sub | .mul=>true
 | _=>false
def binT (l:Env) (op:BinOp) (t:Nat) (x y:Operand) (k:Value→T):T:=
 vT l x λ a=>vT l y λ b =>
  match cls P t,isCmp op,isAr op with
  | 0,true,_=>biT true op a b k
  | 0,false,true=>biT false op a b k
  | 1,true,_=>bbT op a b k
  | 2,true,_=>match y with | .const _=>bpT op a b k | _=>.pu (do eqGuard op t x y a b;binOp op t a b) k
  | _,true,_=>.pu (do eqGuard op t x y a b;binOp op t a b) k
  | _,false,_=>.pu (binOp op t a b) k
def placesOf (t:Nat):Option (Array (Nat × Nat)):=match P.underlying t with | some (.struct fs)=>pr P (fs.mapM λ f=>do pure (f.offset,← sizeOf f.type)) | _=>none
def offs (pl:Array (Nat × Nat)) (n:Nat):List (Nat × Value)→Option (List (Nat × Value))
 | []=>some []
 | (i,v) :: r=>match pl[i]?,offs pl n r with
  | some (o,1),some q=>match Nat.blt o n with
   | true=>some ((o,v) :: q)
   | false=>none
  | _,_=>none
def lop (l:Env) (ty:Nat) (o:Op) (k:Value→T):Option T:=match o with
 | .move x=>some (vT l x k)
 | .assign x=>some (vT l x k)
 | .pick c x y=>some (vT l c λ c=>vT l x λ a=>vT l y λ b=>pickT c a b k)
 | .nilCheck x=>some (vT l x λ v=>nilT v k)
 | .fieldAddr t x i=>match fieldOf P t i with
  | some F=>match pr P (sizeOf F.type) with
   | some (_+1)=>some (vT l x λ v=>faT F.offset v k)
   | _=>none
  | none=>none
 | .indexAddr t x i=>match P.underlying t with
  | some (.slice e)=>match pr P (sizeOf e) with
   | some sz=>some (vT l x λ v=>vT l i λ j=>ixT sz v j k)
   | none=>none
  | some (.array n e)=>match pr P (sizeOf e) with
   | some sz=>some (vT l x λ v=>vT l i λ j=>ixaT n sz v j k)
   | none=>none
  | _=>none
 | .field t x i=>match fieldOf P t i with
  | some F=>match pr P (isAgg F.type),pr P (sizeOf F.type) with
   | some false,_=>some (vT l x λ v=>fdT F.offset v k)
   | some true,some n=>some (vT l x λ v=>fdnT F.offset n v k)
   | _,_=>none
  | none=>none
 | .extract x i=>some (vT l x λ v=>exT i v k)
 | .unOp .not _ x=>some (vT l x λ v=>notT v k)
 | .unOp op t x=>some (vT l x λ v=>.pu (Op.unary op v) k)
 | .binOp op t x y _=>some (binT P l op t x y k)
 | .convert s t x=>match P.underlying s,P.underlying t with
  | some (.int _),some (.int kd)=>some (vT l x λ v=>cvT kd v k)
  | _,_=>none
 | .makeFunc fn fs cs=>some (vsT l fs.toList λ as=>vsT l cs.toList λ bs=>k (.func fn as.toArray bs.toArray))
 | .makeInterface t x=>match P.underlying t with
  | some (.interface _)=>none
  | some _=>some (vT l x λ v=>k (.iface t v))
  | none=>none
 | .slice t x lo hi mx=>some (vT l x λ v=>voT l lo λ a=>voT l hi λ b=>voT l mx λ c=>.pu (Instr.sliceAt t v a b c) k)
 | .index t x i=>some (vT l x λ v=>vT l i λ j=>.pu (Instr.index t v j) k)
 | .typeAssert x t u ok=>some (vT l x λ v=>.pu (Instr.typeAssert v t u ok) k)
 | .build t ps=>match placesOf P t,pr P (zeroValue t) with
  | some pl,some (.agg zs)=>some (psT l ps.toList λ vs=>match offs pl zs.toList.length vs with | some q=>bdT q zs.toList λ cs=>k (.agg cs.toArray) | none=>.pu (Instr.build t vs.toArray) k)
  | _,_=>some (psT l ps.toList λ vs=>.pu (Instr.build t vs.toArray) k)
 | .call ⟨.builtin .len,xs,ts⟩=>match xs.toList,ts.toList with
  | [x],[t]=>match P.underlying t with
   | some (.slice e)=>match decide (P.elem t=e) with | true=>some (vT l x λ v=>lnT v k) | false=>none
   | some .string=>some (vT l x λ v=>.pu (Builtin.len_ #[t] ty #[v]) k)
   | _=>none
  | _,_=>none
 | _=>none
def hop (l:Env) (ty:Nat) (o:Op) (k:Value→T):T:=match o with
 | .load t x=>match pr P (isAgg t),pr P (sizeOf t) with
  | some false,_=>vT l x λ v=>.ld v k
  | some true,some n=>vT l x λ v=>.ldn n v k
  | _,_=>.bad
 | .alloc t=>.hv (Instr.alloc t true (.tuple #[])) k
 | .box t x=>vT l x λ v=>.hv (Instr.box t v) k
 | .buildSlice t n ps=>psT l ps.toList λ vs=>.hv (Instr.buildSlice t n vs.toArray) k
 | .makeSlice t a b=>vT l a λ x=>vT l b λ y=>.hv (Instr.makeSlice t x y) k
 | .makeMap t r=>voT l r λ x=>.hv (Instr.makeMap t x) k
 | .lookup t x i ok=>vT l x λ v=>vT l i λ j=>.hv (Instr.lookup t v j ok) k
 | .convert s t x=>vT l x λ v=>.hv (convert s t v) k
 | .range t x=>vT l x λ v=>.hv (Instr.range t v) k
 | .next x b=>vT l x λ v=>.hv (Instr.next v b ty) k
 | .entry x=>vT l x λ v=>.hv (Instr.entry v) k
 | .panic x=>vT l x λ v=>.pan (Instr.panic v)
 | .call ⟨.value f,xs,_⟩=>vT l f λ g=>vsT l xs.toList λ vs=>clT g vs k
 | .call ⟨.invoke r m,xs,_⟩=>vT l r λ g=>vsT l xs.toList λ vs=>.en (callMethod g m vs.toArray) k
 | .call ⟨.builtin b,xs,ts⟩=>match b with
  | .append=>vsT l xs.toList λ vs=>.hv (Builtin.append_ ts ty vs.toArray) k
  | .copy=>vsT l xs.toList λ vs=>.hv (Builtin.copy_ ts ty vs.toArray) k
  | .clear=>vsT l xs.toList λ vs=>.hv (Builtin.clear_ ts ty vs.toArray) k
  | .delete=>vsT l xs.toList λ vs=>.hv (Builtin.delete_ ts ty vs.toArray) k
  | .len=>vsT l xs.toList λ vs=>.hv (Builtin.len_ ts ty vs.toArray) k
  | .cap=>vsT l xs.toList λ vs=>.hv (Builtin.cap_ ts ty vs.toArray) k
  | .max=>vsT l xs.toList λ vs=>.hv (Builtin.max_ ts ty vs.toArray) k
  | .min=>vsT l xs.toList λ vs=>.hv (Builtin.min_ ts ty vs.toArray) k
  | .unsafeString=>vsT l xs.toList λ vs=>.hv (Builtin.unsafeString_ ts ty vs.toArray) k
  | .unsafeStringData=>vsT l xs.toList λ vs=>.hv (Builtin.unsafeStringData_ ts ty vs.toArray) k
  | .unsafeSlice=>vsT l xs.toList λ vs=>.hv (Builtin.unsafeSlice_ ts ty vs.toArray) k
  | .unsafeSliceData=>vsT l xs.toList λ vs=>.hv (Builtin.unsafeSliceData_ ts ty vs.toArray) k
  | _=>.bad
 | _=>.bad
def eop (l:Env) (o:Op) (k:T):T:=match o with
 | .store t a x=>vT l a λ p=>vT l x λ v=>.ef (Instr.storeAt t p v) k
 | .mapUpdate t m i x=>vT l m λ a=>vT l i λ b=>vT l x λ c=>.ef (Instr.mapUpdate t a b c) k
 | .insert t m i x=>vT l m λ a=>vT l i λ b=>vT l x λ c=>.ef (Instr.mapUpdate t a b c) k
 | .panic x=>vT l x λ v=>.pan (Instr.panic v)
 | _=>.bad
def dop (n:Nat) (l:Env) (o:Oper) (k:Env→T):T:=match o.dst with
 | some d=>match Nat.blt d n with
  | true=>match lop P l o.type o.op (λ v=>k ((d,v) :: l)) with
   | some t=>t
   | none=>hop P l o.type o.op (λ v=>k ((d,v) :: l))
  | false=>.bad
 | none=>eop l o.op (k l)
def dskip (n:Nat) (l:Env) (o:Oper) (k:Env→T):T:=match o.dst with
 | some d=>match Nat.blt d n with
  | true=>k ((d,undef) :: l)
  | false=>.bad
 | none=>k l
def skips (o:Oper):List Nat:=match o.dst with | some d=>[d] | none=>[]
def dropU (o:Oper) (u:List Nat):List Nat:=match o.dst with | some d=>u.filter (λ e=>!(Nat.beq e d)) | none=>u
def dgo (n:Nat) (ops:List Oper) (u:List Nat) (l:Env) (o:Oper) (k:List Nat→Env→T):T:=match o.guard with
 | none=>dop P n l o (k (dropU o u))
 | some (j,b)=>match (nth ops j).bind (·.dst) with
  | some e=>match Nat.blt e n with
   | true=>match u.contains e with
    | true=>dskip n l o (k (skips o++u))
    | false=>vT l (.tmp e) λ g=>match b with
     | true=>gi g (dop P n ((e,.bool true) :: l) o (k (dropU o u))) (dskip n ((e,.bool false) :: l) o (k (skips o++u)))
     | false=>gi g (dskip n ((e,.bool true) :: l) o (k (skips o++u))) (dop P n ((e,.bool false) :: l) o (k (dropU o u)))
   | false=>.bad
  | none=>.bad
def dlist (n:Nat) (ops:List Oper):List Oper→List Nat→Env→(Env→T)→T
 | [],_,l,k=>k l
 | o :: r,u,l,k=>dgo P n ops u l o λ u' l'=>dlist n ops r u' l' k
def tmpsOf:List Operand→List Nat
 | []=>[]
 | .tmp t :: r=>t :: tmpsOf r
 | _ :: r=>tmpsOf r
def readsOf (ops:List Oper) (o:Oper):List Nat:=tmpsOf o.op.operands.toList++(match o.guard with | some (j,_)=>(match (nth ops j).bind (·.dst) with | some e=>[e] | none=>[]) | none=>[])
def dsts:List Oper→List Nat
 | []=>[]
 | o :: r=>skips o++dsts r
def warB (all:List Oper) (an:List Nat) (j d:Nat):Nat→List Oper→Bool
 | _,[]=>false
 | i,o :: r=>((readsOf all o).contains d && !(an.getD i 0).testBit j) || warB all an j d (i+1) r
def isLd:Op→Bool | .load _ _=>true | _=>false
def isLt (all:List Oper) (an:List Nat) (j:Nat) (o:Oper):Bool:=match o.dst with | some d=>((lop P [] o.type o.op (λ _=>.bad)).isSome || isLd o.op) && !warB all an j d 0 all | none=>false
def pm (o:Oper):Nat:=o.after.toList.foldl (λ s e=>match Region.binds .any e with | true=>s ||| 2 ^ e.on | false=>s) 0
def sub (a b:Nat):Bool:=Nat.beq (a &&& b) a
def rdy (A:Nat):Nat→List Oper→List (Nat × Oper)
 | _,[]=>[]
 | i,o :: r=>match A.testBit i,sub (pm o) A with
  | false,true=>(i,o) :: rdy A (i+1) r
  | _,_=>rdy A (i+1) r
def ams:List T→T
 | []=>.bad
 | [t]=>t
 | t :: r=>.amb t (ams r)
def ancs:List Oper→List Nat→List Nat
 | [],acc=>acc
 | o :: r,acc=>ancs r (acc++[(List.range acc.length).foldl (λ s i=>match (pm o).testBit i with | true=>s ||| (acc.getD i 0) | false=>s) (pm o)])
def chks (l:Env) (u:List Nat) (anc A:Nat):Nat→List Oper→T→T
 | _,[],t=>t
 | i,o :: r,t=>match o.op,o.dst with
  | .load ty x,some d=>match A.testBit i,anc.testBit i,u.contains d with
   | true,false,false=>match pr P (isAgg ty),pr P (sizeOf ty) with
    | some false,_=>vT l x λ a=>vT l (.tmp d) λ v=>.chk none a v (chks l u anc A (i+1) r t)
    | some true,some m=>vT l x λ a=>vT l (.tmp d) λ v=>.chk (some m) a v (chks l u anc A (i+1) r t)
    | _,_=>.bad
   | _,_,_=>chks l u anc A (i+1) r t
  | _,_=>chks l u anc A (i+1) r t
def dreg (n:Nat) (ops:List Oper) (an:List Nat):Nat→Nat→List Nat→Env→(Env→T)→T
 | 0,_,_,_,_=>.bad
 | f+1,A,u,l,k=>match (rdy A 0 ops).find? (λ p=>isLt P ops an p.1 p.2) with
  | some (i,o)=>dgo P n ops u l o λ u' l'=>dreg n ops an f (A ||| 2 ^ i) u' l' k
  | none=>match rdy A 0 ops with
   | []=>k l
   | js=>ams (js.map λ p=>dgo P n ops u l p.2 λ u' l'=>chks P l' u' (an.getD p.1 0) A 0 ops (dreg n ops an f (A ||| 2 ^ p.1) u' l' k))
def nodupB:List Nat→Bool
 | []=>true
 | d :: r=>!r.contains d && nodupB r
def rwOk (an:List Nat) (i t:Nat):Nat→List Oper→Bool
 | _,[]=>true
 | j,o :: r=>(match o.dst with | some d=>!(Nat.beq d t) || (an.getD i 0).testBit j || (an.getD j 0).testBit i || Nat.beq i j | none=>true) && rwOk an i t (j+1) r
def readsOk (all:List Oper) (an:List Nat):Nat→List Oper→Bool
 | _,[]=>true
 | i,o :: r=>(readsOf all o).all (λ t=>rwOk an i t 0 all) && readsOk all an (i+1) r
def noDef (o:Oper):Bool:=match o.op with | .defer _=>false | .select _ _=>false | _=>true
def lowB:Nat→List Oper→Bool
 | _,[]=>true
 | i,o :: r=>Nat.blt (pm o) (2 ^ i) && lowB (i+1) r
def wfR (ops:List Oper) (an:List Nat):Bool:=nodupB (dsts ops) && readsOk ops an 0 ops && ops.all noDef && lowB 0 ops
def wr:Code→List Nat
 | .region _ ops _=>dsts ops.toList
 | .seq a b=>wr a++wr b
 | .cond _ a b=>wr a++wr b
 | .block _ b=>wr b
 | .loop b=>wr b
 | _=>[]
def keep (l:Env) (W:List Nat):Env:=l.filter λ p=>!W.contains p.1
def keysOf (l:Env) (W:List Nat):List Nat:=((l.map (·.1)).eraseDups).filter λ t=>W.contains t
def nv:List Value→Nat→Value
 | [],_=>undef
 | v :: _,0=>v
 | _ :: r,i+1=>nv r i
def pairs:List Nat→Nat→List Value→Env
 | [],_,_=>[]
 | t :: r,i,vs=>(t,nv vs i) :: pairs r (i+1) vs
def D (n:Nat):Option (Nat × Obj)→Code→Env→(Env→T)→(Nat→Env→T)→(Env→T)→T
 | _,.skip,l,kN,_,_=>kN l
 | _,.region _ ops false,l,kN,_,_=>match ops.toList.all noDef with | true=>dlist P n ops.toList ops.toList [] l kN | false=>.bad
 | _,.region _ ops true,l,kN,_,_=>match wfR ops.toList (ancs ops.toList []) with
  | true=>.dr (dreg P n ops.toList (ancs ops.toList []) (ops.toList.length+1) 0 [] l kN)
  | false=>.bad
 | cx,.seq a b,l,kN,kE,kR=>D n cx a l (λ l'=>D n cx b l' kN kE kR) kE kR
 | cx,.cond c a b,l,kN,kE,kR=>vT l c λ v=>gi v (D n cx a l kN kE kR) (D n cx b l kN kE kR)
 | cx,.block id b,l,kN,kE,kR=>D n cx b l kN (λ i l'=>bq i id (kN l') (kE i l')) kR
 | cx,.loop b,l,kN,kE,kR=>vsT l ((keysOf l (wr b)).map .tmp) λ vs0=>.loop vs0
   (λ vs=>D n cx b (pairs (keysOf l (wr b)) 0 vs++keep l (wr b)) (λ l'=>vsT l' ((keysOf l (wr b)).map .tmp) .again) (λ i l'=>vsT l' ((keysOf l (wr b)).map .tmp) (.brk i)) kR)
   (λ i vs=>kE i (pairs (keysOf l (wr b)) 0 vs++keep l (wr b)))
 | cx,.rangeFunc g ps a b,l,kN,kE,kR=>match ps.toList.all (λ t=>Nat.blt t n) && nodupB ps.toList with
  | true=>vT l g λ v=>.rf cx v ps.size
   (λ L o1 o2 xs=>D n (some (L,o2)) a (pairs ps.toList 0 xs++l) (λ l'=>.rb L o1 o2 (D n (some (L,o2)) b l' (λ _=>.again []) (λ i _=>.brk i []) (λ _=>.ret (.tuple #[])))) (λ _ _=>.bad) (λ _=>.bad))
   (jm (kN l) (kR l) (λ i=>kE i l))
  | false=>.bad
 | _,.exit i,l,_,kE,_=>kE i l
 | _,.ret,l,_,_,kR=>kR l
 | _,_,_,_,_,_=>.bad
def resT (l:Env):List ResultVar→(List Value→T)→T
 | [],k=>k []
 | .tmp t :: r,k=>vT l (.tmp t) λ v=>resT l r λ vs=>k (v :: vs)
 | .cell a t :: r,k=>match pr P (isAgg t),pr P (sizeOf t) with
  | some false,_=>vT l (.tmp a) λ p=>.ld p λ v=>resT l r λ vs=>k (v :: vs)
  | some true,some m=>vT l (.tmp a) λ p=>.ldn m p λ v=>resT l r λ vs=>k (v :: vs)
  | _,_=>.bad
def outT (rs:List ResultVar) (l:Env):T:=resT P l rs λ vs=>match vs with | [v]=>.ret v | vs=>.ret (.tuple vs.toArray)
def DF (fn:Func) (args:List Value):T:=match fn.body with
 | some c=>D P fn.ntmps none c (argE 0 args) (outT P fn.results.toList) (λ _ _=>.bad) (outT P fn.results.toList)
 | none=>.bad
end
end Go.Proofs.YtppodgdhdddfkaaGreatDoor.Sx
set_option linter.unusedVariables false
set_option linter.unusedSimpArgs false
namespace Go.Proofs.YtppodgdhdddfkaaGreatDoor.Sx
open Go Go.RowKit
abbrev ZP:=List PanicEntry→World→Prop
def Pst (R:Value→World→Prop) (Z:ZP):Ending→World→Prop
 | .returned v,w=>R v w
 | .panicked c,w=>Z c w
 | .outgrown,_=>False
def CF (P:Program) (f:Nat):Prop:=∀ a w,(callFunc f a).run P w=.ok (.enter f a) w
def Cz (P:Program) (f:Nat) (vs:List Value) (w:World) (R:Value→World→Prop) (Z:ZP):Prop:=CF P f∧Calls P f vs.toArray w (Pst R Z)
def Rd (w:World) (n:Nat) (ad:Addr) (cs:List Value):Prop:=cs.length=n∧∀ j v,cs[j]? = some v→w.cell? (addA ad j)=some v
def Chk (w:World) (n:Option Nat) (a v:Value):Prop:=match n with
 | none=>∃ ad,a=.pointer (some ad)∧w.cell? ad=some v
 | some m=>∃ ad cs,a=.pointer (some ad)∧v=.agg cs.toArray∧Rd w m ad cs
def RD:List Nat→(Value→World→Prop)→Value→World→Prop
 | [],R=>R
 | D :: ds,R=>λ v W=>(D :: ds).Nodup∧(∀ q∈D :: ds,W.heap[q]? = some (.deferred (some [])))∧∀ W',Fr (D :: ds) W W'→R v W'
def ZD:List Nat→ZP→ZP
 | [],Z=>Z
 | D :: ds,Z=>λ c W=>(D :: ds).Nodup∧(∀ q∈D :: ds,W.heap[q]? = some (.deferred (some [])))∧∀ W',Fr (D :: ds) W W'→Z c W'
def noZ:ZP:=λ _ _=>False
def Stab (I:List Nat→World→Prop):Prop:=(∀ U W W',I U W→Fr U W W'→I U W')∧∀ U W b,I U W→W.heap.size≤b→I (b :: U) W
def Kp (L:Nat) (o:Obj) (U:List Nat) (W W':World):Prop:=W.heap.size≤W'.heap.size∧(∀ q∈U,q≠L→W'.heap[q]? = W.heap[q]?)∧W'.heap[L]? = some o
structure Rg (P:Program) (L:Nat) {σ:Type} (st:σ→List Value→σ→Prop) (J:List Nat→σ→World→Prop) (K:List Nat→World→Prop):Prop where
 js:∀ s,Stab λ V W=>J V s W
 ks:Stab K
 yd:∀ V s s' xs W,J V s W→(∀ q∈V,q < W.heap.size)→st s xs s'→Yd P L xs W λ v W'=>((v=.bool true∧J V s' W')∨(v=.bool false∧K V W'))∧W.heap.size≤W'.heap.size∧∀ q∈V,W'.heap[q]? = W.heap[q]?
def u0 (cx:Option (Nat × Obj)) (L D:Nat):List Nat:=match cx with | none=>[L,D] | some _=>[L]
def u1 (cx:Option (Nat × Obj)) (D:Nat) (ds:List Nat):List Nat:=match cx with | none=>D :: ds | some _=>ds
def mkD (cx:Option (Nat × Obj)) (L D:Nat) (w w1:World):Prop:=match cx with | none=>w.heap.size≤D∧D≠L∧D < w1.heap.size∧w1.heap[D]? = some (.deferred (some [])) | some _=>True
def okD (cx:Option (Nat × Obj)) (D:Nat) (w:World):Prop:=match cx with | none=>w.heap[D]? = some (.deferred (some [])) | some _=>True
def wp (P:Program):ZP→(Value→World→Prop)→List Nat→T→World→(List Nat→List Value→World→Prop)→(List Nat→Nat→List Value→World→Prop)→Prop
 | _,R,ds,.ret v,w,_,_=>RD ds R v w
 | _,_,ds,.again vs,w,A,_=>A ds vs w
 | _,_,ds,.brk i vs,w,_,B=>B ds i vs w
 | _,_,_,.bad,_,_,_=>False
 | Z,R,ds,.ld a k,w,A,B=>∃ ad v,a=.pointer (some ad)∧w.cell? ad=some v∧wp P Z R ds (k v) w A B
 | Z,R,ds,.ldn n a k,w,A,B=>∃ ad cs,a=.pointer (some ad)∧Rd w n ad cs∧wp P Z R ds (k (.agg cs.toArray)) w A B
 | Z,R,ds,.chk n a v k,w,A,B=>Chk w n a v∧wp P Z R ds k w A B
 | Z,R,ds,.call f vs k,w,A,B=>Cz P f vs w (λ v w'=>wp P Z R ds (k v) w' A B) (ZD ds Z)
 | Z,R,ds,.yld L vs k,w,A,B=>YieldAt Fence.wide 0 P L vs.toArray w (Pst (λ v w'=>wp P Z R ds (k v) w' A B) (ZD ds Z))
 | Z,R,ds,.pu s k,w,A,B=>∃ v,(∀ w',s.run P w'=.ok v w')∧wp P Z R ds (k v) w A B
 | Z,R,ds,.hv s k,w,A,B=>∃ v w',s.run P w=.ok v w'∧wp P Z R ds (k v) w' A B
 | Z,R,ds,.ef s k,w,A,B=>∃ w',s.run P w=.ok () w'∧wp P Z R ds k w' A B
 | Z,R,ds,.en s k,w,A,B=>∃ f args,s.run P w=.ok (.enter f args) w∧Calls P f args w (Pst (λ v w'=>wp P Z R ds (k v) w' A B) (ZD ds Z))
 | Z,_,ds,.pan s,w,_,_=>∃ v,s.run P w=.halt (.panic v) w∧ZD ds Z [{ v,recovered:=false }] w
 | Z,R,ds,.ar kd z k,w,A,B=>∃ y,kd.wrap z=y∧wp P Z R ds (k (.int kd y)) w A B
 | Z,R,ds,.ob p k,w,A,B=>p∧wp P Z R ds k w A B
 | Z,R,ds,.amb a b,w,A,B=>wp P Z R ds a w A B∧wp P Z R ds b w A B
 | Z,R,ds,.dr k,w,A,B=>∀ w',Fr [] w w'→w'.heap=w.heap→wp P Z R ds k w' A B
 | Z,R,ds,.loop vs body after,w,A,B=>∃ (σ:Type) (st:σ→List Value) (J:List Nat→σ→World→Prop) (μ:σ→Nat) (s0:σ),st s0=vs∧J ds s0 w ∧
   ∀ ds s w,J ds s w→wp P Z R ds (body (st s)) w (λ ds' vs' w'=>∃ s',st s'=vs'∧μ s' < μ s∧J ds' s' w') (λ ds' i vs' w'=>wp P Z R ds' (after i vs') w' A B)
 | Z,R,ds,.rb L a b k,w,A,B=>w.heap[L]? = some a∧∀ w',Fr [L] w w'→w'.heap[L]? = some b→wp P Z R ds k w' A B
 | Z,R,ds,.rf cx g m body after,w,A,B=>∃ gf cap,g=.func (.func gf) #[] cap∧CF P gf∧(∀ L o,cx=some (L,o)→w.heap[L]? = some o) ∧
   ∀ L D a b w1,w.heap.size≤L→L < w1.heap.size→Fr [] w w1→w1.heap[L]? = some a→mkD cx L D w w1 →
   ∃ (σ:Type) (st:σ→List Value→σ→Prop) (I:List Nat→σ→World→Prop) (X:Nat→List Nat→World→Prop) (s0 s1:σ),
    I (u0 cx L D) s0 w1∧(∀ s,Stab λ U W=>I U s W)∧(∀ j,Stab (X j)) ∧
    (∀ U s s' xs W,L∈U→(∀ q∈u0 cx L D,q∈U)→(∀ q∈U,q < W.heap.size)→I U s W→W.heap[L]? = some a→st s xs s'→xs.length=m ∧
     wp P noZ (λ _ W'=>X 1 U W'∧Kp L b U W W') [] (body L a b xs) W (λ _ _ W'=>I U s' W'∧Kp L b U W W') (λ _ j _ W'=>X (j+2) U W'∧Kp L b U W W')) ∧
    (∀ J K,Rg P L st J K→(∀ V s W,J V s W→I (V++u0 cx L D) s W)→J [] s0 w1→(∀ V,I (V++u0 cx L D) s0 w1→(∀ q∈V,q∉u0 cx L D)→J V s0 w1)→Cz P gf (.func (.yield L) #[] #[] :: cap.toList) w1 (λ _ W'=>∃ V,J V s1 W'∨K V W') (ZD (u1 cx D ds) Z)) ∧
    (∀ U W,I U s1 W→okD cx D W→wp P Z R (u1 cx D ds) (after 0) W A B) ∧
    ∀ U W j,X (j+1) U W→okD cx D W→wp P Z R (u1 cx D ds) (after (j+1)) W A B
section
variable {P:Program} {Z:ZP} {R:Value→World→Prop} {l:Env} {w:World} {A:List Nat→List Value→World→Prop} {B:List Nat→Nat→List Value→World→Prop} {ds:List Nat}
theorem vT_ok {x:Operand} {k:Value→T} (h:wp P Z R ds (vT l x k) w A B):∃ v,ev l x=some v∧wp P Z R ds (k v) w A B:=by
 unfold vT at h
 split at h
 ·exact ⟨_,by assumption,h⟩
 ·exact h.elim
theorem vsT_ok {xs:List Operand}:∀ {k:List Value→T},wp P Z R ds (vsT l xs k) w A B→∃ vs,evl l xs=some vs∧wp P Z R ds (k vs) w A B:=by
 induction xs with
 | nil=>intro k h;exact ⟨[],rfl,h⟩
 | cons x r ih =>
  intro k h
  obtain ⟨v,hv,h⟩:=vT_ok h
  obtain ⟨vs,hvs,h⟩:=ih h
  exact ⟨v :: vs,by simp [evl,hv,hvs],h⟩
theorem psT_ok {xs:List (Nat × Operand)}:∀ {k:List (Nat × Value)→T},wp P Z R ds (psT l xs k) w A B→∃ vs,evp l xs=some vs∧wp P Z R ds (k vs) w A B:=by
 induction xs with
 | nil=>intro k h;exact ⟨[],rfl,h⟩
 | cons x r ih =>
  intro k h
  obtain ⟨i,x⟩:=x
  obtain ⟨v,hv,h⟩:=vT_ok h
  obtain ⟨vs,hvs,h⟩:=ih h
  exact ⟨(i,v) :: vs,by simp [evp,hv,hvs],h⟩
theorem voT_ok {x:Option Operand} {k:Option Value→T} (h:wp P Z R ds (voT l x k) w A B):∃ v,(∀ ρ,Fits l ρ→x.map ρ=v)∧wp P Z R ds (k v) w A B:=by
 cases x with
 | none=>exact ⟨none,λ _ _=>rfl,h⟩
 | some x =>
  obtain ⟨v,hv,h⟩:=vT_ok h
  exact ⟨some v,λ ρ hf=>by simp [hf x v hv],h⟩
theorem iteT_ok {c:Bool} {a b:T} (h:wp P Z R ds (iteT c a b) w A B):(c=true∧wp P Z R ds a w A B)∨(c=false∧wp P Z R ds b w A B):=by
 cases c with
 | true=>exact .inl ⟨rfl,h⟩
 | false=>exact .inr ⟨rfl,h⟩
theorem gi_ok {v:Value} {a b:T} (h:wp P Z R ds (gi v a b) w A B):(v=.bool true∧wp P Z R ds a w A B)∨(v=.bool false∧wp P Z R ds b w A B):=by
 unfold gi at h
 split at h
 ·rcases iteT_ok h with ⟨rfl,h⟩ | ⟨rfl,h⟩
  ·exact .inl ⟨rfl,h⟩
  ·exact .inr ⟨rfl,h⟩
 ·exact h.elim
def Lv (P:Program) (l:Env) (ty:Nat) (op:Op) (v:Value):Prop:=∀ d pos af g ρ w',Fits l ρ→(execOp ρ ⟨d,op,ty,pos,af,g⟩).run P w'=.ok (.value v) w'
theorem Lv.of {ty:Nat} {op:Op} {v:Value} (h:∀ d pos af g w',Ex P ⟨d,op,ty,pos,af,g⟩ l w' v w'):Lv P l ty op v:=λ d pos af g ρ w' hf=>h d pos af g w' ρ hf
theorem fieldOf_some {t i:Nat} {F:Field} (h:fieldOf P t i=some F):∃ fs,P.underlying t=some (.struct fs)∧fs[i]? = some F:=by
 unfold fieldOf at h
 split at h
 ·exact ⟨_,by assumption,h⟩
 ·cases h
theorem ld_faT {off:Nat} {v:Value} {k:Value→T} (h:wp P Z R ds (faT off v k) w A B):∃ a,v=.pointer (some a)∧wp P Z R ds (k (.pointer (some (a.add off)))) w A B:=by
 unfold faT at h
 split at h
 ·rw [addA_eq] at h;exact ⟨_,rfl,h⟩
 ·exact h.elim
theorem ld_adT {X:Option Addr} {m:Nat} {k:Value→T} (h:wp P Z R ds (adT X m k) w A B):∃ a,X=some a∧wp P Z R ds (k (.pointer (some (a.add m)))) w A B:=by
 unfold adT at h
 split at h
 ·rw [addA_eq] at h;exact ⟨_,rfl,h⟩
 ·exact h.elim
theorem ld_ixT {sz:Nat} {v i:Value} {k:Value→T} (h:wp P Z R ds (ixT sz v i k) w A B):∃ a len cap kd j,v=.slice (some a) len cap∧i=.int kd j∧(0≤j∧j < len)∧wp P Z R ds (k (.pointer (some (a.add (j.toNat * sz))))) w A B:=by
 unfold ixT at h
 split at h
 ·obtain ⟨hb,h⟩:=h
  obtain ⟨a,rfl,h2⟩:=ld_adT h
  exact ⟨a,_,_,_,_,rfl,rfl,hb,h2⟩
 ·exact h.elim
theorem ld_ixaT {len sz:Nat} {v i:Value} {k:Value→T} (h:wp P Z R ds (ixaT len sz v i k) w A B):∃ a kd j,v=.pointer (some a)∧i=.int kd j∧(0≤j∧j < len)∧wp P Z R ds (k (.pointer (some (a.add (j.toNat * sz))))) w A B:=by
 unfold ixaT at h
 split at h
 ·obtain ⟨hb,h⟩:=h
  obtain ⟨a,rfl,h2⟩:=ld_adT h
  exact ⟨a,_,_,rfl,rfl,hb,h2⟩
 ·exact h.elim
theorem ld_opT {o:Option Value} {k:Value→T} (h:wp P Z R ds (opT o k) w A B):∃ v,o=some v∧wp P Z R ds (k v) w A B:=by
 unfold opT at h
 split at h
 ·exact ⟨_,rfl,h⟩
 ·exact h.elim
theorem setl_eq (cs:List Value):∀ (o:Nat) (v:Value),setl cs o v=cs.set o v:=by
 induction cs with
 | nil=>intro o v;rfl
 | cons c r ih=>intro o v;cases o with | zero=>rfl | succ o=>simp [setl,ih]
theorem fill_one {place:Nat→Option (Nat × Nat)} (q:List (Nat × Value)):∀ (vs:List (Nat × Value)) (cs:List Value) (k:List Value→T),
  wp P Z R ds (bdT q cs k) w A B→q.length=vs.length→(∀ (j:Nat) o v,q[j]? = some (o,v)→∃ i,vs[j]? = some (i,v)∧place i=some (o,1)∧o < cs.length) →
  ∃ cs',Instr.fill place cs.toArray vs=some cs'.toArray∧wp P Z R ds (k cs') w A B:=by
 induction q with
 | nil =>
  intro vs cs k h hl _
  have:vs=[]:=List.eq_nil_of_length_eq_zero hl.symm
  subst this
  exact ⟨cs,rfl,h⟩
 | cons p r ih =>
  intro vs cs k h hl hp
  obtain ⟨o,v⟩:=p
  cases vs with
  | nil=>simp at hl
  | cons u us =>
   obtain ⟨i,hi,hpl,ho⟩:=hp 0 o v rfl
   simp only [List.getElem?_cons_zero,Option.some.injEq] at hi
   subst hi
   have hv:v.cells=#[v]∧wp P Z R ds (bdT r (setl cs o v) k) w A B:=by
    unfold bdT at h
    split at h
    ·exact h.elim
    ·exact h.elim
    ·refine ⟨?_,h⟩
     cases v<;>first | rfl | (rename_i h1 h2;exact absurd rfl (h1 _))
   obtain ⟨hv,h⟩:=hv
   rw [setl_eq] at h
   obtain ⟨cs',h1,h2⟩:=ih us (cs.set o v) k h (by simpa using hl) (λ j o' v' hj=>by
    obtain ⟨i',h1,h2,h3⟩:=hp (j+1) o' v' hj
    exact ⟨i',h1,h2,by simpa using h3⟩)
   refine ⟨cs',?_,h2⟩
   unfold Instr.fill
   simp only [hpl,hv]
   rw [if_neg (by simp;omega)]
   rw [← h1]
   congr 1
   simp
theorem offs_ok {pl:Array (Nat × Nat)} {n:Nat}:∀ {vs q:List (Nat × Value)},offs pl n vs=some q→q.length=vs.length∧∀ (j:Nat) o v,q[j]? = some (o,v)→∃ i,vs[j]? = some (i,v)∧pl[i]? = some (o,1)∧o < n:=by
 intro vs
 induction vs with
 | nil=>intro q h;simp [offs] at h;subst h;exact ⟨rfl,λ j o v hj=>by simp at hj⟩
 | cons p r ih =>
  intro q h
  obtain ⟨i,v⟩:=p
  unfold offs at h
  split at h
  ·rename_i o q' h1 h2
   split at h
   ·rename_i hlt
    injection h with h
    subst h
    obtain ⟨h3,h4⟩:=ih h2
    refine ⟨by simp [h3],λ j o' v' hj=>?_⟩
    cases j with
    | zero=>simp at hj;obtain ⟨rfl,rfl⟩:=hj;exact ⟨i,rfl,h1,by simpa using hlt⟩
    | succ j=>simpa using h4 j o' v' (by simpa using hj)
   ·cases h
  ·cases h
theorem run_buildS {t:Nat} {pl:Array (Nat × Nat)} {zs:Array Value} {vs:List (Nat × Value)} {cs:Array Value} {w:World} (hp:placesOf P t=some pl) (hz:pr P (zeroValue t)=some (.agg zs)) (hf:Instr.fill (pl[·]?) zs vs=some cs):(Instr.build t vs.toArray).run P w=.ok (.agg cs) w:=by
 unfold placesOf at hp
 split at hp
 ·rename_i fs hu
  have h1:=pr_run hp w
  have h2:=pr_run hz w
  unfold Instr.build
  simp only [Sem.run_bind,h2,Result.andThen_ok,run_underlying hu,h1,Value.cells]
  simp [hf]
 ·cases hp
theorem ld_biT {cmp:Bool} {op:BinOp} {x y:Value} {k:Value→T} (h:wp P Z R ds (biT cmp op x y k) w A B):∃ kd a b,x=.int kd a∧y=.int kd b∧((cmp=true∧wp P Z R ds (cmT op a b k .bad) w A B)∨(cmp=false∧wp P Z R ds (arT op kd a b k .bad) w A B)):=by
 unfold biT at h
 split at h
 ·split at h
  ·rename_i hk
   obtain rfl:=of_decide_eq_true hk
   refine ⟨_,_,_,rfl,rfl,?_⟩
   cases cmp
   ·exact .inr ⟨rfl,h⟩
   ·exact .inl ⟨rfl,h⟩
  ·exact h.elim
 ·exact h.elim
section
variable {d:Option Tmp} {ty t:TypeId} {pos:String} {af:Array Edge} {g:Option (Nat × Bool)}
theorem x_mulw {x y:Operand} {k:IntKind} {a b:Int} {ty2:TypeId} (hx:ev l x=some (.int k a)) (hy:ev l y=some (.int k b)):Ex P ⟨d,.binOp .mul t x y ty2,ty,pos,af,g⟩ l w (.int k (k.wrap (a * b))) w:=λ ρ h=>by simp [execOp,h x _ hx,h y _ hy,binOp_mul,eqGuard_at_int,Op.intArith]
theorem x_binp {op:BinOp} {x y:Operand} {a b v:Value} {ty2:TypeId} (hx:ev l x=some a) (hy:ev l y=some b) (h:(do eqGuard op t x y a b;binOp op t a b:Sem Value).run P w=.ok v w):Ex P ⟨d,.binOp op t x y ty2,ty,pos,af,g⟩ l w v w:=λ ρ hf=>by
 have e:(do eqGuard op t x y (ρ x) (ρ y);binOp op t (ρ x) (ρ y):Sem Value).run P w=.ok v w:=by rw [hf x _ hx,hf y _ hy];exact h
 simp only [execOp,Sem.run_bind] at e ⊢
 rw [e]
 rfl
theorem eqGuard_no {op:BinOp} {x y:Operand} {a b:Value} (h:isCmp op=false):(eqGuard op t x y a b).run P w=.ok () w:=by
 unfold eqGuard
 cases op<;>first | rfl | cases h
theorem x_v1 {op:Op} {v:Value} {s:Sem Value} (hs:∀ ρ,Fits l ρ→execOp ρ ⟨d,op,ty,pos,af,g⟩=(do pure (.value (← s)))) (h:s.run P w=.ok v w):Ex P ⟨d,op,ty,pos,af,g⟩ l w v w:=λ ρ hf=>by
 rw [hs ρ hf]
 simp only [Sem.run_bind,h,Result.andThen_ok,Sem.run_pure]
end
theorem cls0 {t:Nat} (h:cls P t=1):P.underlying t=some .bool:=by
 unfold cls at h
 split at h<;>first | assumption | cases h
theorem cls2 {t:Nat} (h:cls P t=2):P.underlying t=some (.pointer (P.pointee t)):=by
 unfold cls at h
 split at h<;>first | cases h | skip
 rename_i e hu
 rw [hu]
 simp [Program.pointee,hu]
theorem binT_ok {op:BinOp} {t t2:Nat} {x y:Operand} {k:Value→T} {ty:Nat} (h:wp P Z R ds (binT P l op t x y k) w A B):∃ v,Lv P l ty (.binOp op t x y t2) v∧wp P Z R ds (k v) w A B:=by
 unfold binT at h
 obtain ⟨a,ha,h⟩:=vT_ok h
 obtain ⟨b,hb,h⟩:=vT_ok h
 have pu:∀ s:Sem Value,(∀ w' v,s.run P w'=.ok v w'→(do eqGuard op t x y a b;binOp op t a b:Sem Value).run P w'=.ok v w')→wp P Z R ds (.pu s k) w A B→∃ v,Lv P l ty (.binOp op t x y t2) v∧wp P Z R ds (k v) w A B:=by
  rintro s hs ⟨v,h1,h2⟩
  exact ⟨v,.of λ d pos af g w'=>x_binp ha hb (hs w' v (h1 w')),h2⟩
 have nop:isCmp op=false→∀ w' v,(binOp op t a b).run P w'=.ok v w'→(do eqGuard op t x y a b;binOp op t a b:Sem Value).run P w'=.ok v w':=by
  intro hc w' v hv
  simp only [Sem.run_bind,eqGuard_no hc,Result.andThen_ok,hv]
 split at h
 ·obtain ⟨kd,m,n,rfl,rfl,⟨_,h⟩ | ⟨hc,_⟩⟩:=ld_biT h
  ·unfold cmT at h
   cases op<;>first | exact h.elim | skip
   ·exact ⟨_,.of λ d pos af g w'=>x_eql ha hb,h⟩
   ·exact ⟨_,.of λ d pos af g w'=>x_neq ha hb,h⟩
   ·exact ⟨_,.of λ d pos af g w'=>x_lss ha hb,h⟩
   ·exact ⟨_,.of λ d pos af g w'=>x_leq ha hb,h⟩
   ·exact ⟨_,.of λ d pos af g w'=>x_gtr ha hb,h⟩
   ·exact ⟨_,.of λ d pos af g w'=>x_geq ha hb,h⟩
  ·cases hc
 ·obtain ⟨kd,m,n,rfl,rfl,⟨hc,_⟩ | ⟨_,h⟩⟩:=ld_biT h
  ·cases hc
  ·unfold arT at h
   cases op<;>first | exact h.elim | skip
   all_goals
    obtain ⟨z,rfl,h⟩:=h
    first
     | exact ⟨_,.of λ d pos af g w'=>x_addw ha hb,h⟩
     | exact ⟨_,.of λ d pos af g w'=>x_subw ha hb,h⟩
     | exact ⟨_,.of λ d pos af g w'=>x_mulw ha hb,h⟩
 ·rename_i hc _
  have hu:=cls0 hc
  unfold bbT at h
  split at h
  ·split at h
   ·exact ⟨_,.of λ d pos af g w'=>x_eqlb ha hb hu,h⟩
   ·exact ⟨_,.of λ d pos af g w'=>x_neqb ha hb hu,h⟩
   ·exact h.elim
  ·exact h.elim
 ·rename_i hc _
  have hu:=cls2 hc
  split at h
  ·unfold bpT at h
   split at h
   ·split at h
    ·exact ⟨_,.of λ d pos af g w'=>x_eqlp ha hb hu,h⟩
    ·exact ⟨_,.of λ d pos af g w'=>x_neqp ha hb hu,h⟩
    ·exact h.elim
   ·exact h.elim
  ·exact pu _ (λ _ _ h=>h) h
 ·exact pu _ (λ _ _ h=>h) h
 ·rename_i hc _
  exact pu _ (nop hc) h
end
end Go.Proofs.YtppodgdhdddfkaaGreatDoor.Sx
set_option linter.unusedVariables false
set_option linter.unusedSimpArgs false
namespace Go.Proofs.YtppodgdhdddfkaaGreatDoor.Sx
open Go Go.RowKit
section
variable {P:Program} {Z:ZP} {R:Value→World→Prop} {l:Env} {w:World} {A:List Nat→List Value→World→Prop} {B:List Nat→Nat→List Value→World→Prop} {ds:List Nat}
section
variable {d:Option Tmp} {ty t:TypeId} {pos:String} {af:Array Edge} {g:Option (Nat × Bool)}
theorem x_fag2 {x:Operand} {i s:Nat} {a:Addr} {fs:Array Field} {F:Field} (hx:ev l x=some (.pointer (some a))) (hu:P.underlying t=some (.struct fs)) (hf:fs[i]? = some F) (hs:∀ w,(sizeOf F.type).run P w=.ok (s+1) w) :
  Ex P ⟨d,.fieldAddr t x i,ty,pos,af,g⟩ l w (.pointer (some (a.add F.offset))) w:=λ ρ h=>by
 simp [execOp,h x _ hx,Instr.fieldAt,run_underlying hu,hf,Instr.sureAddr,fieldPlace,hs]
theorem x_iaag {x i:Operand} {a:Addr} {len sz:Nat} {k:IntKind} {j:Int} {e:TypeId} (hx:ev l x=some (.pointer (some a))) (hi:ev l i=some (.int k j)) (hu:P.underlying t=some (.array len e)) (hs:∀ w,(sizeOf e).run P w=.ok sz w) (hj:0≤j∧j < len) :
  Ex P ⟨d,.indexAddr t x i,ty,pos,af,g⟩ l w (.pointer (some (a.add (j.toNat * sz)))) w:=λ ρ h=>by
 simp [execOp,h x _ hx,h i _ hi,Instr.indexAt,Instr.sureAddr,asIntOf,run_underlying hu,hs,hj]
theorem x_nily {x:Operand} {v:Value} {n:Nat} {p c:Array Value} (hx:ev l x=some (.func (.yield n) p c)):Ex P ⟨d,.nilCheck x,ty,pos,af,g⟩ l w (.func (.yield n) p c) w:=λ ρ h=>by simp [execOp,h x _ hx]
theorem x_fldn {x:Operand} {i n:Nat} {fs:Array Field} {F:Field} {cs:Array Value} (hx:ev l x=some (.agg cs)) (hu:P.underlying t=some (.struct fs)) (hf:fs[i]? = some F) (ha:∀ w,(isAgg F.type).run P w=.ok true w) (hs:∀ w,(sizeOf F.type).run P w=.ok n w) :
  Ex P ⟨d,.field t x i,ty,pos,af,g⟩ l w (.agg (cs.extract F.offset (F.offset+n))) w:=λ ρ h=>by
 simp [execOp,h x _ hx,Instr.field,run_underlying hu,hf,asAgg,part,ha,hs]
theorem x_mki {x:Operand} {v:Value} {ud:TypeDesc} (hx:ev l x=some v) (hu:P.underlying t=some ud) (hn:∀ m,ud≠.interface m):Ex P ⟨d,.makeInterface t x,ty,pos,af,g⟩ l w (.iface t v) w:=λ ρ h=>by
 have e:(Instr.makeInterface t v).run P w=.ok (.iface t v) w:=by
  unfold Instr.makeInterface
  simp only [Sem.run_bind,run_underlying hu,Result.andThen_ok]
  cases ud<;>first | rfl | exact absurd rfl (hn _)
 simp only [execOp,h x _ hx,Sem.run_bind,e,Result.andThen_ok,Sem.run_pure]
theorem x_len1 {x:Operand} {v u:Value} (hx:ev l x=some v) (h:(Builtin.len_ #[t] ty #[v]).run P w=.ok u w):Ex P ⟨d,.call ⟨.builtin .len,#[x],#[t]⟩,ty,pos,af,g⟩ l w u w:=λ ρ hf=>by
 simp [execOp,resolve,invoke,builtin,hf x _ hx,h]
end
theorem lop_ok {ty:Nat} {op:Op} {k:Value→T} {t:T} (h:lop P l ty op k=some t) (hw:wp P Z R ds t w A B):∃ v,Lv P l ty op v∧wp P Z R ds (k v) w A B:=by
 have pu:∀ {s:Sem Value} {op:Op},(∀ d pos af g ρ,Fits l ρ→execOp ρ ⟨d,op,ty,pos,af,g⟩=(do pure (.value (← s))))→wp P Z R ds (.pu s k) w A B→∃ v,Lv P l ty op v∧wp P Z R ds (k v) w A B:=by
  rintro s op hs ⟨v,h1,h2⟩
  exact ⟨v,.of λ d pos af g w'=>x_v1 (λ ρ hf=>hs d pos af g ρ hf) (h1 w'),h2⟩
 cases op with
 | move x=>injection h with h;subst h;obtain ⟨v,hv,h⟩:=vT_ok hw;exact ⟨v,.of λ d pos af g w'=>x_move hv,h⟩
 | assign x=>injection h with h;subst h;obtain ⟨v,hv,h⟩:=vT_ok hw;exact ⟨v,.of λ d pos af g w'=>x_asg hv,h⟩
 | pick c x y =>
  injection h with h;subst h
  obtain ⟨vc,hc,h⟩:=vT_ok hw
  obtain ⟨va,ha,h⟩:=vT_ok h
  obtain ⟨vb,hb,h⟩:=vT_ok h
  unfold pickT at h
  split at h
  ·rcases iteT_ok h with ⟨rfl,h⟩ | ⟨rfl,h⟩
   ·exact ⟨_,.of λ d pos af g w'=>x_pick1 hc ha,h⟩
   ·exact ⟨_,.of λ d pos af g w'=>x_pick0 hc hb,h⟩
  ·exact h.elim
 | nilCheck x =>
  injection h with h;subst h
  obtain ⟨v,hv,h⟩:=vT_ok hw
  unfold nilT at h
  split at h
  ·exact ⟨_,.of λ d pos af g w'=>x_nil hv,h⟩
  ·exact ⟨_,.of λ d pos af g w'=>x_nilf hv,h⟩
  ·exact ⟨_,.of λ d pos af g w'=>x_nily (v:=undef) hv,h⟩
  ·exact h.elim
 | fieldAddr t x i =>
  simp only [lop] at h
  split at h
  ·rename_i F hF
   split at h
   ·rename_i s hs
    injection h with h;subst h
    obtain ⟨v,hv,h⟩:=vT_ok hw
    obtain ⟨a,rfl,h2⟩:=ld_faT h
    obtain ⟨fs,hu,hf⟩:=fieldOf_some hF
    exact ⟨_,.of λ d pos af g w'=>x_fag2 hv hu hf (pr_run hs),h2⟩
   ·cases h
  ·cases h
 | indexAddr t x i =>
  simp only [lop] at h
  split at h
  ·rename_i e hu
   split at h
   ·rename_i sz hs
    injection h with h;subst h
    obtain ⟨v,hv,h⟩:=vT_ok hw
    obtain ⟨j,hj,h⟩:=vT_ok h
    obtain ⟨a,len,cap,kd,j,rfl,rfl,hb,h⟩:=ld_ixT h
    exact ⟨_,.of λ d pos af g w'=>x_iag hv hj hu (pr_run hs) hb,h⟩
   ·cases h
  ·rename_i n e hu
   split at h
   ·rename_i sz hs
    injection h with h;subst h
    obtain ⟨v,hv,h⟩:=vT_ok hw
    obtain ⟨j,hj,h⟩:=vT_ok h
    obtain ⟨a,kd,j,rfl,rfl,hb,h⟩:=ld_ixaT h
    exact ⟨_,.of λ d pos af g w'=>x_iaag hv hj hu (pr_run hs) hb,h⟩
   ·cases h
  ·cases h
 | field t x i =>
  simp only [lop] at h
  split at h
  ·rename_i F hF
   obtain ⟨fs,hu,hf⟩:=fieldOf_some hF
   split at h
   ·rename_i hg
    injection h with h;subst h
    obtain ⟨v,hv,h⟩:=vT_ok hw
    unfold fdT at h
    split at h
    ·obtain ⟨c,hc,h⟩:=ld_opT h
     exact ⟨_,.of λ d pos af g w'=>x_fld hv hu hf (pr_run hg) hc,h⟩
    ·exact h.elim
   ·rename_i n hg hs
    injection h with h;subst h
    obtain ⟨v,hv,h⟩:=vT_ok hw
    unfold fdnT at h
    split at h
    ·exact ⟨_,.of λ d pos af g w'=>x_fldn hv hu hf (pr_run hg) (pr_run hs),h⟩
    ·exact h.elim
   ·cases h
  ·cases h
 | extract x i =>
  injection h with h;subst h
  obtain ⟨v,hv,h⟩:=vT_ok hw
  unfold exT at h
  split at h
  ·obtain ⟨c,hc,h⟩:=ld_opT h
   exact ⟨_,.of λ d pos af g w'=>x_ext hv hc,h⟩
  ·exact h.elim
 | unOp o t x =>
  cases o with
  | not =>
   injection h with h;subst h
   obtain ⟨v,hv,h⟩:=vT_ok hw
   unfold notT at h
   split at h
   ·exact ⟨_,.of λ d pos af g w'=>x_not hv,h⟩
   ·exact h.elim
  | _ =>
   injection h with h;subst h
   obtain ⟨v,hv,h⟩:=vT_ok hw
   exact pu (λ d pos af g ρ hf=>by simp only [execOp,hf x _ hv]) h
 | binOp o t x y t2=>injection h with h;subst h;exact binT_ok hw
 | convert s t x =>
  simp only [lop] at h
  split at h
  ·rename_i k1 kd hs ht
   injection h with h;subst h
   obtain ⟨v,hv,h⟩:=vT_ok hw
   unfold cvT at h
   split at h
   ·obtain ⟨z,rfl,h⟩:=h
    exact ⟨_,.of λ d pos af g w'=>x_cvi hv hs ht,h⟩
   ·exact h.elim
  ·cases h
 | makeFunc fn fs cs =>
  injection h with h;subst h
  obtain ⟨as,ha,h⟩:=vsT_ok hw
  obtain ⟨bs,hb,h⟩:=vsT_ok h
  exact ⟨_,.of λ d pos af g w'=>x_mkf ha hb,h⟩
 | makeInterface t x =>
  simp only [lop] at h
  split at h
  ·cases h
  ·rename_i ud hn hu
   injection h with h;subst h
   obtain ⟨v,hv,h⟩:=vT_ok hw
   exact ⟨_,.of λ d pos af g w'=>x_mki hv hu (λ m e=>hn m e),h⟩
  ·cases h
 | slice t x lo hi mx =>
  injection h with h;subst h
  obtain ⟨v,hv,h⟩:=vT_ok hw
  obtain ⟨a,ha,h⟩:=voT_ok h
  obtain ⟨b,hb,h⟩:=voT_ok h
  obtain ⟨c,hc,h⟩:=voT_ok h
  exact pu (λ d pos af g ρ hf=>by simp only [execOp,hf x _ hv,ha ρ hf,hb ρ hf,hc ρ hf]) h
 | index t x i =>
  injection h with h;subst h
  obtain ⟨v,hv,h⟩:=vT_ok hw
  obtain ⟨j,hj,h⟩:=vT_ok h
  exact pu (λ d pos af g ρ hf=>by simp only [execOp,hf x _ hv,hf i _ hj]) h
 | typeAssert x t u ok =>
  injection h with h;subst h
  obtain ⟨v,hv,h⟩:=vT_ok hw
  exact pu (λ d pos af g ρ hf=>by simp only [execOp,hf x _ hv]) h
 | build t ps =>
  have e:∀ {vs:List (Nat × Value)} {ρ:Operand→Value},evp l ps.toList=some vs→Fits l ρ→(ps.map λ (i,x)=>(i,ρ x))=vs.toArray:=by
   intro vs ρ hv hf
   rw [← evp_fits hf hv];apply Array.ext';simp
  have gen:wp P Z R ds (psT l ps.toList λ vs=>.pu (Instr.build t vs.toArray) k) w A B→∃ v,Lv P l ty (.build t ps) v∧wp P Z R ds (k v) w A B:=by
   intro h
   obtain ⟨vs,hv,h⟩:=psT_ok h
   exact pu (λ d pos af g ρ hf=>by simp only [execOp,e hv hf]) h
  simp only [lop] at h
  split at h
  ·rename_i pl zs hp hz
   injection h with h;subst h
   obtain ⟨vs,hv,h⟩:=psT_ok hw
   split at h
   ·rename_i q hq
    obtain ⟨h1,h2⟩:=offs_ok hq
    obtain ⟨cs,h3,h4⟩:=fill_one (place:=(pl[·]?)) q vs zs.toList (λ cs=>k (.agg cs.toArray)) h h1 h2
    exact ⟨_,.of λ d pos af g w'=>x_build hv (run_buildS hp hz (by simpa using h3)),h4⟩
   ·exact pu (λ d pos af g ρ hf=>by simp only [execOp,e hv hf]) h
  ·injection h with h;subst h
   exact gen hw
 | call c =>
  obtain ⟨cal,xs,ts⟩:=c
  cases cal with
  | value f=>cases h
  | invoke r m=>cases h
  | builtin b =>
   cases b<;>try cases h
   simp only [lop] at h
   split at h
   ·rename_i x t hxs hts
    obtain rfl:xs=#[x]:=by apply Array.ext';simpa using hxs
    obtain rfl:ts=#[t]:=by apply Array.ext';simpa using hts
    split at h
    ·rename_i e hu
     split at h
     ·rename_i he
      injection h with h;subst h
      have he:=of_decide_eq_true he
      obtain ⟨v,hv,h⟩:=vT_ok hw
      unfold lnT at h
      split at h
      ·exact ⟨_,.of λ d pos af g w'=>x_len hv (by rw [he];exact hu),h⟩
      ·exact h.elim
     ·cases h
    ·injection h with h;subst h
     obtain ⟨v,hv,u,h1,h2⟩:=vT_ok hw
     exact ⟨u,.of λ d pos af g w'=>x_len1 hv (h1 w'),h2⟩
    ·cases h
   ·cases h
 | _=>cases h
section
variable {r:Option Nat} {n:Nat} {df:List Deferred} {o:Oper} {a:Act} {K:Act→World→Prop} {Q:Exit→Act→World→Prop} {w':World}
theorem nodef_of (h:noDef o=true):nodef o=true:=by
 unfold noDef at h
 unfold nodef
 split at h<;>first | cases h | skip
 rename_i h1 h2
 split
 ·rename_i c hc;exact absurd hc (h1 c)
 ·rfl
theorem in_run {x:Next} (hnd:noDef o=true) (h:(execOp a.eval o).run P w=.ok x w') (hk:o.uponIn (FR r) 0 P a K Q (.ok x w')):o.wpIn (FR r) 0 P a w K Q:=by
 refine ⟨λ _ _=>trivial,?_⟩
 rw [semAt_of _ _ (nodef_of hnd),h]
 exact hk
theorem in_val {d:Nat} {op:Op} {ty:Nat} {pos:String} {af:Array Edge} {g:Option (Nat × Bool)} {v:Value} (hnd:noDef ⟨some d,op,ty,pos,af,g⟩=true) (h:(execOp a.eval ⟨some d,op,ty,pos,af,g⟩).run P w=.ok (.value v) w') (hk:K (a.put (some d) v) w'):Oper.wpIn (FR r) 0 P ⟨some d,op,ty,pos,af,g⟩ a w K Q:=in_run hnd h hk
theorem in_skip {op:Op} {ty:Nat} {pos:String} {af:Array Edge} {g:Option (Nat × Bool)} (hnd:noDef ⟨none,op,ty,pos,af,g⟩=true) (h:(execOp a.eval ⟨none,op,ty,pos,af,g⟩).run P w=.ok .skip w') (hk:K a w'):Oper.wpIn (FR r) 0 P ⟨none,op,ty,pos,af,g⟩ a w K Q:=in_run hnd h hk
theorem in_call {f:Nat} {args:Array Value} {RR:Value→World→Prop} (hnd:noDef o=true) (h:(execOp a.eval o).run P w=.ok (.enter f args) w') (hc:Calls P f args w' (Pst RR Z)) (hk:∀ v w'',RR v w''→K (a.put o.dst v) w'') (hZ:∀ c w'',Z c w''→Q (.panic c) a w''):o.wpIn (FR r) 0 P a w K Q:=by
 refine in_run hnd h ⟨FR_depth _ _,callsIn_FR (Calls.mono hc ?_)⟩
 intro e w'' he
 cases e with
 | returned v=>exact hk v w'' he
 | panicked c=>exact hZ c w'' he
 | outgrown=>exact he.elim
theorem run_v {s:Sem Value} {v:Value} (h:s.run P w=.ok v w'):(do pure (Next.value (← s)):Sem Next).run P w=.ok (.value v) w':=by
 simp only [Sem.run_bind,h,Result.andThen_ok,Sem.run_pure]
theorem run_u {s:Sem Unit} (h:s.run P w=.ok () w'):(do s;pure Next.skip:Sem Next).run P w=.ok .skip w':=by
 simp only [Sem.run_bind,h,Result.andThen_ok,Sem.run_pure]
theorem run_pan {s:Sem Value} {v:Value} (h:s.run P w=.halt (.panic v) w'):(do pure (Next.value (← s)):Sem Next).run P w=.halt (.panic v) w':=by
 simp only [Sem.run_bind,h,Result.andThen_halt]
theorem in_pan {v:Value} (hnd:noDef o=true) (h:(execOp a.eval o).run P w=.halt (.panic v) w') (hk:Q (.panic [{ v,recovered:=false }]) a w'):o.wpIn (FR r) 0 P a w K Q:=by
 refine ⟨λ _ _=>trivial,?_⟩
 rw [semAt_of _ _ (nodef_of hnd),h]
 exact hk
theorem in_yld {d L:Nat} {q:Operand} {xs:Array Operand} {ts:Array TypeId} {vs:List Value} {ty:TypeId} {pos:String} {af:Array Edge} {g:Option (Nat × Bool)} {RR:Value→World→Prop}
  (hq:a.eval q=.func (.yield L) #[] #[]) (hx:xs.map a.eval=vs.toArray) (h:YieldAt Fence.wide 0 P L vs.toArray w (Pst RR Z))
  (hk:∀ v w',RR v w'→K (a.put (some d) v) w') (hZ:∀ c w',Z c w'→Q (.panic c) a w'):Oper.wpIn (FR r) 0 P ⟨some d,.call ⟨.value q,xs,ts⟩,ty,pos,af,g⟩ a w K Q:=by
 obtain ⟨fn,tmps,assign,body,hy,hr⟩:=h
 refine in_run (x:=.round L fn tmps assign body) (w':=w) rfl ?_ ?_
 ·simp [execOp,resolve,invoke,Deferred.ofValue,hq,hx,hy]
 ·refine ⟨FR_depth _ _,?_⟩
  have h2:RoundIn (FR r) 0 P L fn tmps assign body w (Pst RR Z):=hr
  refine RoundIn.mono h2 ?_
  intro e w'' he
  cases e with
  | returned v=>exact hk v w'' he
  | panicked c=>exact hZ c w'' he
  | outgrown=>exact he.elim
theorem evl_map {xs:Array Operand} {vs:List Value} {ρ:Operand→Value} (hf:Fits l ρ) (h:evl l xs.toList=some vs):xs.map ρ=vs.toArray:=by
 rw [← evl_fits hf h];apply Array.ext';simp
theorem evp_map {ps:Array (Nat × Operand)} {vs:List (Nat × Value)} {ρ:Operand→Value} (hf:Fits l ρ) (h:evp l ps.toList=some vs):(ps.map λ (i,x)=>(i,ρ x))=vs.toArray:=by
 rw [← evp_fits hf h];apply Array.ext';simp
theorem loadVar1 {t:TypeId} {ad:Addr} {v:Value} (ha:pr P (isAgg t)=some false) (hc:w.cell? ad=some v):(Instr.loadAt t (.pointer (some ad))).run P w=.ok v w:=by
 simp [Instr.loadAt,Instr.sureAddr,loadVar,pr_run ha,hc]
theorem loadVarn {t:TypeId} {ad:Addr} {m:Nat} {cs:List Value} (ha:pr P (isAgg t)=some true) (hs:pr P (sizeOf t)=some m) (hr:Rd w m ad cs):(Instr.loadAt t (.pointer (some ad))).run P w=.ok (.agg cs.toArray) w:=by
 obtain ⟨rfl,hc⟩:=hr
 have:=run_loadCells_list (P:=P) (w:=w) ad cs (λ j v hv=>by rw [← addA_eq];exact hc j v hv)
 simp [Instr.loadAt,Instr.sureAddr,loadVar,pr_run ha,pr_run hs,this]
theorem hop_ok {d:Nat} {ty:Nat} {op:Op} {pos:String} {af:Array Edge} {g:Option (Nat × Bool)} {k:Value→T} (hw:wp P Z R ds (hop P l ty op k) w A B) (hf:Fits l a.eval)
  (hK:∀ v w',wp P Z R ds (k v) w' A B→K (a.put (some d) v) w') (hZ:∀ c w',ZD ds Z c w'→Q (.panic c) a w'):Oper.wpIn (FR r) 0 P ⟨some d,op,ty,pos,af,g⟩ a w K Q:=by
 have hv:∀ {s:Sem Value} {op:Op},noDef ⟨some d,op,ty,pos,af,g⟩=true→execOp a.eval ⟨some d,op,ty,pos,af,g⟩=(do pure (.value (← s)))→wp P Z R ds (.hv s k) w A B→Oper.wpIn (FR r) 0 P ⟨some d,op,ty,pos,af,g⟩ a w K Q:=by
  rintro s op hnd he ⟨v,w',h1,h2⟩
  exact in_val hnd (by rw [he];exact run_v h1) (hK v w' h2)
 cases op with
 | load t x =>
  simp only [hop] at hw
  split at hw
  ·rename_i ha
   obtain ⟨p,hp,ad,v,rfl,hc,h⟩:=vT_ok hw
   exact in_val rfl (by simp only [execOp,hf x _ hp];exact run_v (loadVar1 ha hc)) (hK v w h)
  ·rename_i m ha hs
   obtain ⟨p,hp,ad,cs,rfl,hr,h⟩:=vT_ok hw
   exact in_val rfl (by simp only [execOp,hf x _ hp];exact run_v (loadVarn ha hs hr)) (hK _ w h)
  ·exact hw.elim
 | alloc t=>exact hv rfl rfl hw
 | box t x=>obtain ⟨v,h1,h⟩:=vT_ok hw;exact hv rfl (by simp only [execOp,hf x _ h1]) h
 | buildSlice t m ps=>obtain ⟨vs,h1,h⟩:=psT_ok hw;exact hv rfl (by simp only [execOp,evp_map hf h1]) h
 | makeSlice t x y=>obtain ⟨u,h1,h⟩:=vT_ok hw;obtain ⟨v,h2,h⟩:=vT_ok h;exact hv rfl (by simp only [execOp,hf x _ h1,hf y _ h2]) h
 | makeMap t x =>
  have hw:wp P Z R ds (voT l x λ x=>.hv (Instr.makeMap t x) k) w A B:=hw
  obtain ⟨u,h1,h⟩:=voT_ok hw
  exact hv rfl (by simp only [execOp,h1 _ hf]) h
 | lookup t x y ok=>obtain ⟨u,h1,h⟩:=vT_ok hw;obtain ⟨v,h2,h⟩:=vT_ok h;exact hv rfl (by simp only [execOp,hf x _ h1,hf y _ h2]) h
 | convert s t x=>obtain ⟨v,h1,h⟩:=vT_ok hw;exact hv rfl (by simp only [execOp,hf x _ h1]) h
 | range t x=>obtain ⟨v,h1,h⟩:=vT_ok hw;exact hv rfl (by simp only [execOp,hf x _ h1]) h
 | next x b=>obtain ⟨v,h1,h⟩:=vT_ok hw;exact hv rfl (by simp only [execOp,hf x _ h1]) h
 | entry x=>obtain ⟨v,h1,h⟩:=vT_ok hw;exact hv rfl (by simp only [execOp,hf x _ h1]) h
 | panic x =>
  obtain ⟨v,h1,u,h2,h3⟩:=vT_ok hw
  exact in_pan rfl (by simp only [execOp,hf x _ h1];exact run_pan h2) (hZ _ _ h3)
 | call c =>
  obtain ⟨cal,xs,ts⟩:=c
  cases cal with
  | value f =>
   obtain ⟨fv,h1,h⟩:=vT_ok hw
   obtain ⟨vs,h2,h⟩:=vsT_ok h
   unfold clT at h
   split at h
   ·rename_i gf p c
    obtain ⟨hcf,hc⟩:=h
    refine in_call rfl ?_ hc (λ v w'' h=>hK v w'' h) hZ
    simp only [execOp,resolve,invoke,hf f _ h1,evl_map hf h2,Deferred.ofValue,Sem.run_bind,Sem.run_pure,Result.andThen_ok]
    rw [hcf]
    congr 2
    apply Array.ext'
    simp
   ·split at h
    ·rename_i p c _ _ _ hp hc
     have h9:=h
     obtain rfl:p=#[]:=by apply Array.ext';simpa using hp
     obtain rfl:c=#[]:=by apply Array.ext';simpa using hc
     exact in_yld (hf f _ h1) (evl_map hf h2) h9 (λ v w'' h=>hK v w'' h) hZ
    ·exact h.elim
   ·exact h.elim
  | invoke rv m =>
   obtain ⟨gv,h1,h⟩:=vT_ok hw
   obtain ⟨vs,h2,h⟩:=vsT_ok h
   obtain ⟨f,args,h3,h4⟩:=h
   refine in_call rfl ?_ h4 (λ v w'' h=>hK v w'' h) hZ
   simp only [execOp,resolve,invoke,hf rv _ h1,evl_map hf h2,Sem.run_bind,Sem.run_pure,Result.andThen_ok]
   have e0:(#[gv]++vs.toArray)[0]? = some gv:=by simp
   have e1:(#[gv]++vs.toArray).extract 1 (#[gv]++vs.toArray).size=vs.toArray:=by apply Array.ext';simp
   rw [e0,e1]
   exact h3
  | builtin b =>
   cases b<;>first
    | exact hw.elim
    | (obtain ⟨vs,h2,h⟩:=vsT_ok hw
       exact hv rfl (by simp only [execOp,resolve,evl_map hf h2];rfl) h)
 | _=>exact hw.elim
theorem eop_ok {ty:Nat} {op:Op} {pos:String} {af:Array Edge} {g:Option (Nat × Bool)} {t:T} (hw:wp P Z R ds (eop l op t) w A B) (hf:Fits l a.eval)
  (hK:∀ w',wp P Z R ds t w' A B→K a w') (hZ:∀ c w',ZD ds Z c w'→Q (.panic c) a w'):Oper.wpIn (FR r) 0 P ⟨none,op,ty,pos,af,g⟩ a w K Q:=by
 cases op with
 | store t a x =>
  obtain ⟨u,h1,h⟩:=vT_ok hw;obtain ⟨v,h2,h⟩:=vT_ok h
  obtain ⟨w',h3,h4⟩:=h
  exact in_skip rfl (by simp only [execOp,hf a _ h1,hf x _ h2];exact run_u h3) (hK w' h4)
 | mapUpdate t m i x =>
  obtain ⟨u,h1,h⟩:=vT_ok hw;obtain ⟨v,h2,h⟩:=vT_ok h;obtain ⟨z,h5,h⟩:=vT_ok h
  obtain ⟨w',h3,h4⟩:=h
  exact in_skip rfl (by simp only [execOp,hf m _ h1,hf i _ h2,hf x _ h5];exact run_u h3) (hK w' h4)
 | insert t m i x =>
  obtain ⟨u,h1,h⟩:=vT_ok hw;obtain ⟨v,h2,h⟩:=vT_ok h;obtain ⟨z,h5,h⟩:=vT_ok h
  obtain ⟨w',h3,h4⟩:=h
  exact in_skip rfl (by simp only [execOp,hf m _ h1,hf i _ h2,hf x _ h5];exact run_u h3) (hK w' h4)
 | panic x =>
  obtain ⟨v,h1,u,h2,h3⟩:=vT_ok hw
  exact in_pan rfl (by simp only [execOp,hf x _ h1];exact run_pan h2) (hZ _ _ h3)
 | _=>exact hw.elim
theorem dop_ok {k:Env→T} (hnd:noDef o=true) (hw:wp P Z R ds (dop P n l o k) w A B) (ha:Ag a n df l) (hK:∀ a' l' w',Ag a' n df l'→(∀ e,o.dst≠some e→find l' e=find l e)→wp P Z R ds (k l') w' A B→K a' w') (hZ:∀ c w',ZD ds Z c w'→Q (.panic c) a w'):o.wpIn (FR r) 0 P a w K Q:=by
 obtain ⟨dst,op,ty,pos,af,g⟩:=o
 unfold dop at hw
 cases dst with
 | none=>exact eop_ok hw ha.fits (λ w' h=>hK a l w' ha (λ _ _=>rfl) h) hZ
 | some d =>
  simp only at hw
  split at hw
  ·rename_i hd
   have hd:d < n:=by simpa using hd
   split at hw
   ·rename_i t ht
    obtain ⟨v,hv,h⟩:=lop_ok ht hw
    exact in_val hnd (hv _ _ _ _ _ _ ha.fits) (hK _ _ w (ha.put hd v) (λ e he=>find_ne v l (λ h=>he (by rw [h]))) h)
   ·exact hop_ok hw ha.fits (λ v w' h=>hK _ _ w' (ha.put hd v) (λ e he=>find_ne v l (λ h=>he (by rw [h]))) h) hZ
  ·exact hw.elim
theorem dskip_ok {k:Env→T} (hw:wp P Z R ds (dskip n l o k) w A B) (ha:Ag a n df l):∃ l',Ag (a.put o.dst undef) n df l'∧(∀ e,o.dst≠some e→find l' e=find l e)∧(∀ d,o.dst=some d→find l' d=some undef)∧wp P Z R ds (k l') w A B:=by
 unfold dskip at hw
 cases ho:o.dst with
 | none=>rw [ho] at hw;exact ⟨l,ha,λ _ _=>rfl,(λ _ h=>nomatch h),hw⟩
 | some d =>
  rw [ho] at hw
  simp only at hw
  split at hw
  ·rename_i hd;exact ⟨_,ha.put (by simpa using hd) undef,λ e he=>find_ne undef l (λ h=>he (by rw [h])),λ e he=>by injection he with he;subst he;exact find_self _ _ _,hw⟩
  ·exact hw.elim
theorem Ag.dup {e:Nat} {v:Value} (ha:Ag a n df l) (he:find l e=some v):Ag a n df ((e,v) :: l):=by
 refine ⟨ha.size,ha.defs,λ t u ht=>?_⟩
 by_cases h:e=t
 ·subst h;rw [find_self] at ht;injection ht with ht;subst ht;exact ha.look e v he
 ·rw [find_ne v l h] at ht;exact ha.look t u ht
theorem find_dup {e t:Nat} {v:Value} (he:find l e=some v):find ((e,v) :: l) t=find l t:=by
 by_cases h:e=t
 ·subst h;rw [find_self,he]
 ·rw [find_ne v l h]
def Us (u:List Nat) (l:Env):Prop:=∀ e∈u,find l e=some undef
theorem Us.drop {u:List Nat} {l l':Env} {o:Oper} (h:Us u l) (hl:∀ e,o.dst≠some e→find l' e=find l e):Us (dropU o u) l':=by
 unfold dropU
 cases ho:o.dst with
 | none=>exact λ e he=>by rw [hl e (by rw [ho];simp)];exact h e he
 | some d =>
  intro e he
  obtain ⟨h1,h2⟩:=List.mem_filter.1 he
  have hne:e≠d:=by
   rintro rfl
   simp at h2
  rw [hl e (by rw [ho];intro hh;injection hh with hh;exact hne hh.symm)]
  exact h e h1
theorem Us.skip {u:List Nat} {l l':Env} {o:Oper} (h:Us u l) (hl:∀ e,o.dst≠some e→find l' e=find l e) (hd:∀ d,o.dst=some d→find l' d=some undef):Us (skips o++u) l':=by
 intro e he
 rcases List.mem_append.1 he with h1 | h1
 ·unfold skips at h1
  cases ho:o.dst with
  | none=>rw [ho] at h1;simp at h1
  | some d=>rw [ho] at h1;simp at h1;subst h1;exact hd _ ho
 ·by_cases hh:o.dst=some e
  ·exact hd e hh
  ·rw [hl e hh];exact h e h1
def Wn (P:Program) (r:Option Nat) (ops:Array Oper) (o:Oper) (a:Act) (w:World) (K:Act→World→Prop) (Q:Exit→Act→World→Prop):Prop:=
 if Region.wanted o (yielded ops a.tmps) then o.wpIn (FR r) 0 P a w K Q else (∀ f,o.about P w a.eval=some f→(FR r).fn f)∧K (a.put o.dst undef) w
theorem wanted_none {ops:List Oper} (hg:o.guard=none):Region.wanted o (yielded ops.toArray a.tmps)=true:=by unfold Region.wanted;rw [hg]
def isB (b:Bool):Value→Bool
 | .bool x=>x == b
 | _=>false
theorem wanted_some {ops:List Oper} {j e:Nat} {b:Bool} {v:Value} (hg:o.guard=some (j,b)) (he:(nth ops j).bind (·.dst)=some e) (hn:e < n) (ha:Ag a n df l) (hv:find l e=some v) :
  Region.wanted o (yielded ops.toArray a.tmps)=isB b v:=by
 unfold Region.wanted
 rw [hg]
 have h1:ops.toArray[j]? = nth ops j:=by rw [List.getElem?_toArray,← nth_eq]
 have h2:a.tmps[e]? = some v:=by
  have h3:=ha.look e v hv
  rw [Array.getD_eq_getD_getElem?] at h3
  have h4:e < a.tmps.size:=by rw [ha.size];exact hn
  rw [Array.getElem?_eq_getElem h4] at h3 ⊢
  simpa using h3
 simp only [yielded,h1,he,Option.bind_some,h2]
 cases v<;>first | rfl | (rename_i x;cases x<;>cases b<;>rfl)
theorem dgo_ok {ops:List Oper} {u:List Nat} {k:List Nat→Env→T} (hnd:noDef o=true) (hw:wp P Z R ds (dgo P n ops u l o k) w A B) (ha:Ag a n df l) (hu:Us u l)
  (hK:∀ a' u' l' w',Ag a' n df l'→Us u' l'→(∀ e,o.dst≠some e→find l' e=find l e)→(u'=dropU o u∨u'=skips o++u)→wp P Z R ds (k u' l') w' A B→K a' w') (hZ:∀ c w',ZD ds Z c w'→Q (.panic c) a w'):Wn P r ops.toArray o a w K Q:=by
 have yes:∀ {l1:Env},(∀ t,find l1 t=find l t)→Ag a n df l1→wp P Z R ds (dop P n l1 o (k (dropU o u))) w A B→Region.wanted o (yielded ops.toArray a.tmps)=true→Wn P r ops.toArray o a w K Q:=by
  intro l1 h1 ha1 hw1 hwn
  unfold Wn
  rw [if_pos hwn]
  refine dop_ok hnd hw1 ha1 (λ a' l' w' ha' hl hw'=>?_) hZ
  have hl2:∀ e,o.dst≠some e→find l' e=find l e:=λ e he=>(hl e he).trans (h1 e)
  exact hK a' _ l' w' ha' (hu.drop hl2) hl2 (.inl rfl) hw'
 have no:∀ {l1:Env},(∀ t,find l1 t=find l t)→Ag a n df l1→wp P Z R ds (dskip n l1 o (k (skips o++u))) w A B→Region.wanted o (yielded ops.toArray a.tmps)=false→Wn P r ops.toArray o a w K Q:=by
  intro l1 h1 ha1 hw1 hwn
  unfold Wn
  rw [if_neg (by rw [hwn];simp)]
  obtain ⟨l',ha',hl,hd,hw'⟩:=dskip_ok hw1 ha1
  have hl2:∀ e,o.dst≠some e→find l' e=find l e:=λ e he=>(hl e he).trans (h1 e)
  exact ⟨λ _ _=>trivial,hK _ _ l' w ha' (hu.skip hl2 hd) hl2 (.inr rfl) hw'⟩
 unfold dgo at hw
 split at hw
 ·rename_i hg
  exact yes (λ _=>rfl) ha hw (wanted_none hg)
 ·rename_i j b hg
  split at hw
  ·rename_i e he
   split at hw
   ·rename_i hn
    have hn:e < n:=by simpa using hn
    split at hw
    ·rename_i hc
     have:=hu e (by simpa using hc)
     exact no (λ _=>rfl) ha hw (by rw [wanted_some hg he hn ha this];rfl)
    ·obtain ⟨v,hv,hw⟩:=vT_ok hw
     have hv:find l e=some v:=hv
     have hwn:=wanted_some hg he hn ha hv
     cases b with
     | true =>
      rcases gi_ok hw with ⟨rfl,h⟩ | ⟨rfl,h⟩
      ·exact yes (λ t=>find_dup hv) (ha.dup hv) h hwn
      ·exact no (λ t=>find_dup hv) (ha.dup hv) h hwn
     | false =>
      rcases gi_ok hw with ⟨rfl,h⟩ | ⟨rfl,h⟩
      ·exact no (λ t=>find_dup hv) (ha.dup hv) h hwn
      ·exact yes (λ t=>find_dup hv) (ha.dup hv) h hwn
   ·exact hw.elim
  ·exact hw.elim
theorem dsts_mem {rs:List Oper} {o:Oper} {d:Nat} (ho:o∈rs) (hd:o.dst=some d):d∈dsts rs:=by
 induction rs with
 | nil=>cases ho
 | cons q r ih =>
  unfold dsts
  rcases List.mem_cons.1 ho with rfl | h
  ·exact List.mem_append_left _ (by simp [skips,hd])
  ·exact List.mem_append_right _ (ih h)
theorem dlist_ok {ops:List Oper} {l0:Env} {k:Env→T} {Q:Exit→Act→World→Prop} (hQ:∀ a l w,Ag a n df l→(∀ t,t∉dsts ops→find l t=find l0 t)→wp P Z R ds (k l) w A B→Q .normal a w) (hZ:∀ c a w,a.defers=df→ZD ds Z c w→Q (.panic c) a w) :
  ∀ (rs:List Oper),(∀ o∈rs,noDef o=true)→(∀ o∈rs,o∈ops)→∀ (u:List Nat) (l:Env) (w:World) (a:Act),wp P Z R ds (dlist P n ops rs u l k) w A B→Ag a n df l→Us u l→(∀ t,t∉dsts ops→find l t=find l0 t)→wpListIn (FR r) 0 P ops.toArray Q rs a w:=by
 intro rs
 induction rs with
 | nil=>intro _ _ u l w a hw ha _ h0;exact hQ a l w ha h0 hw
 | cons o rs ih =>
  intro hnd hin u l w a hw ha hu h0
  exact dgo_ok (hnd o (by simp)) hw ha hu (λ a' u' l' w' ha' hu' hl _ hw'=>ih (λ o ho=>hnd o (by simp [ho])) (λ o ho=>hin o (by simp [ho])) u' l' w' a' hw' ha' hu' (λ t ht=>(hl t (λ e=>ht (dsts_mem (hin o (by simp)) e))).trans (h0 t ht))) (λ c w' hz=>hZ c a w' ha.defs hz)
end
end
end Go.Proofs.YtppodgdhdddfkaaGreatDoor.Sx
set_option linter.unusedVariables false
set_option linter.unusedSimpArgs false
namespace Go.Proofs.YtppodgdhdddfkaaGreatDoor.Sx
open Go Go.RowKit
theorem tb_or (A i j:Nat):(A ||| 2 ^ i).testBit j=(A.testBit j || decide (i=j)):=by rw [Nat.testBit_or,Nat.testBit_two_pow]
theorem sub_iff {a b:Nat}:sub a b=true↔∀ i,a.testBit i=true→b.testBit i=true:=by
 unfold sub
 constructor
 ·intro h i hi
  have h1:=Nat.eq_of_beq_eq_true h
  rw [← h1,Nat.testBit_and] at hi
  simp at hi
  exact hi.2
 ·intro h
  have:a &&& b=a:=by
   apply Nat.eq_of_testBit_eq
   intro i
   rw [Nat.testBit_and]
   cases ha:a.testBit i with
   | false=>rfl
   | true=>rw [h i ha];rfl
  rw [this]
  exact Nat.beq_refl a
theorem pm_iff {o:Oper} {i:Nat}:(pm o).testBit i=true↔∃ e∈o.after.toList,Region.binds .any e=true∧e.on=i:=by
 have gen:∀ (es:List Edge) (s:Nat),(es.foldl (λ s e=>match Region.binds .any e with | true=>s ||| 2 ^ e.on | false=>s) s).testBit i=true↔s.testBit i=true∨∃ e∈es,Region.binds .any e=true∧e.on=i:=by
  intro es
  induction es with
  | nil=>intro s;simp
  | cons e r ih =>
   intro s
   rw [List.foldl_cons,ih]
   cases hb:Region.binds .any e with
   | false =>
    simp [hb]
   | true =>
    simp only [tb_or,Bool.or_eq_true,decide_eq_true_eq,List.mem_cons,exists_eq_or_imp,hb,true_and]
    constructor
    ·rintro ((h | h) | h)
     ·exact .inl h
     ·exact .inr (.inl h)
     ·exact .inr (.inr h)
    ·rintro (h | h | h)
     ·exact .inl (.inl h)
     ·exact .inl (.inr h)
     ·exact .inr h
 have h:=gen o.after.toList 0
 exact h.trans (by simp)
theorem mem_rdy {A:Nat} {o:Oper} {i:Nat}:∀ {rs:List Oper} {k:Nat},(i,o)∈rdy A k rs↔∃ j,i=k+j∧rs[j]? = some o∧A.testBit i=false∧sub (pm o) A=true:=by
 intro rs
 induction rs with
 | nil=>intro k;simp [rdy]
 | cons q r ih =>
  intro k
  have key:(i,o)∈rdy A k (q :: r)↔(i=k∧o=q∧A.testBit k=false∧sub (pm q) A=true)∨(i,o)∈rdy A (k+1) r:=by
   rw [show rdy A k (q :: r)=(match A.testBit k,sub (pm q) A with | false,true=>(k,q) :: rdy A (k+1) r | _,_=>rdy A (k+1) r) from rfl]
   split
   ·rename_i h1 h2
    rw [List.mem_cons]
    constructor
    ·rintro (h | h)
     ·injection h with e1 e2;subst e1;subst e2;exact .inl ⟨rfl,rfl,h1,h2⟩
     ·exact .inr h
    ·rintro (⟨rfl,rfl,_,_⟩ | h)
     ·exact .inl rfl
     ·exact .inr h
   ·rename_i h
    constructor
    ·exact .inr
    ·rintro (⟨rfl,rfl,h1,h2⟩ | h')
     ·exact (h h1 h2).elim
     ·exact h'
  rw [key,ih]
  constructor
  ·rintro (⟨rfl,rfl,h1,h2⟩ | ⟨j,h1,h2,h3,h4⟩)
   ·exact ⟨0,rfl,rfl,h1,h2⟩
   ·exact ⟨j+1,by omega,by simpa using h2,h3,h4⟩
  ·rintro ⟨j,h1,h2,h3,h4⟩
   cases j with
   | zero =>
    obtain rfl:i=k:=by omega
    simp at h2
    subst h2
    exact .inl ⟨rfl,rfl,h3,h4⟩
   | succ j=>exact .inr ⟨j,by omega,by simpa using h2,h3,h4⟩
theorem ams_ok {P:Program} {Z:ZP} {R:Value→World→Prop} {w:World} {A:List Nat→List Value→World→Prop} {B:List Nat→Nat→List Value→World→Prop} {ds:List Nat}:∀ {ts:List T},wp P Z R ds (ams ts) w A B→∀ t∈ts,wp P Z R ds t w A B:=by
 intro ts
 induction ts with
 | nil=>intro h;exact h.elim
 | cons t r ih =>
  intro h u hu
  cases r with
  | nil=>simp at hu;subst hu;exact h
  | cons t2 r =>
   obtain ⟨h1,h2⟩:=h
   rcases List.mem_cons.1 hu with rfl | hu
   ·exact h1
   ·exact ih h2 u hu
theorem ancs_pre:∀ (r:List Oper) (acc:List Nat) (i:Nat),i < acc.length→(ancs r acc).getD i 0=acc.getD i 0:=by
 intro r
 induction r with
 | nil=>intro acc i _;rfl
 | cons o r ih =>
  intro acc i hi
  unfold ancs
  rw [ih _ _ (by simp;omega)]
  simp [List.getElem?_append_left hi]
theorem fold_bit {p:Nat} {f:Nat→Nat} {i:Nat}:∀ (ms:List Nat) (s:Nat),(ms.foldl (λ s m=>match p.testBit m with | true=>s ||| f m | false=>s) s).testBit i=true→s.testBit i=true∨∃ m∈ms,p.testBit m=true∧(f m).testBit i=true:=by
 intro ms
 induction ms with
 | nil=>intro s h;exact .inl h
 | cons m r ih =>
  intro s h
  rw [List.foldl_cons] at h
  rcases ih _ h with h | ⟨m',h1,h2,h3⟩
  ·cases hb:p.testBit m with
   | false=>rw [hb] at h;exact .inl h
   | true =>
    rw [hb] at h
    simp only [Nat.testBit_or,Bool.or_eq_true] at h
    rcases h with h | h
    ·exact .inl h
    ·exact .inr ⟨m,by simp,hb,h⟩
  ·exact .inr ⟨m',by simp [h1],h2,h3⟩
theorem ancs_at:∀ (r:List Oper) (acc:List Nat) (j:Nat) (o:Oper),r[j]? = some o→∀ i,((ancs r acc).getD (acc.length+j) 0).testBit i=true →
  (pm o).testBit i=true∨∃ m,m < acc.length+j∧(pm o).testBit m=true∧((ancs r acc).getD m 0).testBit i=true:=by
 intro r
 induction r with
 | nil=>intro acc j o h;simp at h
 | cons q r ih =>
  intro acc j o h i hi
  cases j with
  | zero =>
   simp at h
   subst h
   have e:(ancs (q :: r) acc).getD acc.length 0=(List.range acc.length).foldl (λ s i=>match (pm q).testBit i with | true=>s ||| (acc.getD i 0) | false=>s) (pm q):=by
    refine (ancs_pre r _ _ (by simp)).trans ?_
    rw [List.getD_eq_getElem?_getD,List.getElem?_append_right (Nat.le_refl _)]
    simp only [Nat.sub_self,List.getElem?_cons_zero,Option.getD_some]
    all_goals rfl
   rw [Nat.add_zero,e] at hi
   rcases fold_bit _ _ hi with h1 | ⟨m,h1,h2,h3⟩
   ·exact .inl h1
   ·have hm:=List.mem_range.1 h1
    refine .inr ⟨m,by omega,h2,?_⟩
    show ((ancs r _).getD m 0).testBit i=true
    rw [ancs_pre _ _ _ (by simp;omega)]
    simp only [List.getD_eq_getElem?_getD] at h3 ⊢
    rw [List.getElem?_append_left hm]
    exact h3
  | succ j =>
   have h2:r[j]? = some o:=by simpa using h
   have:=ih (acc++[(List.range acc.length).foldl (λ s i=>match (pm q).testBit i with | true=>s ||| (acc.getD i 0) | false=>s) (pm q)]) j o h2 i (by
    have e:acc.length+(j+1)=(acc++[(List.range acc.length).foldl (λ s i=>match (pm q).testBit i with | true=>s ||| (acc.getD i 0) | false=>s) (pm q)]).length+j:=by simp;omega
    rw [e] at hi
    exact hi)
   rcases this with h1 | ⟨m,h3,h4,h5⟩
   ·exact .inl h1
   ·exact .inr ⟨m,by simp at h3;omega,h4,h5⟩
theorem anc_in {ops:List Oper} {C:Nat→Prop} (hC:∀ i o,ops[i]? = some o→C i→∀ m,(pm o).testBit m=true→C m):∀ (j:Nat) (o:Oper),ops[j]? = some o→(∀ m,(pm o).testBit m=true→C m)→∀ i,((ancs ops []).getD j 0).testBit i=true→C i:=by
 intro j
 induction j using Nat.strongRecOn with
 | _ j ih =>
  intro o ho hp i hi
  have h:=ancs_at ops [] j o ho i (by simpa using hi)
  rcases h with h | ⟨m,h1,h2,h3⟩
  ·exact hp i h
  ·have hm:=hp m h2
   simp only [List.length_nil,Nat.zero_add] at h1
   cases hq:ops[m]? with
   | none =>
    have:=List.getElem?_eq_none_iff.1 hq
    have:=(List.getElem?_eq_some_iff.1 ho).1
    omega
   | some q=>exact ih m h1 q hq (λ x hx=>hC m q hq hm x hx) i h3
theorem noWar {all:List Oper} {an:List Nat} {j d:Nat}:∀ {rs:List Oper} {k:Nat},warB all an j d k rs=false→∀ (i:Nat) (o:Oper),rs[i]? = some o→d∈readsOf all o→(an.getD (k+i) 0).testBit j=true:=by
 intro rs
 induction rs with
 | nil=>intro k _ i o h;simp at h
 | cons q r ih =>
  intro k h i o ho hd
  unfold warB at h
  simp only [Bool.or_eq_false_iff,Bool.and_eq_false_iff] at h
  cases i with
  | zero =>
   simp at ho
   subst ho
   rcases h.1 with h1 | h1
   ·have:(readsOf all q).contains d=true:=by simpa using hd
    rw [this] at h1;cases h1
   ·simpa using h1
  | succ i =>
   have:=ih h.2 i o (by simpa using ho) hd
   rw [show k+(i+1)=k+1+i by omega]
   exact this
theorem rwOk_at {an:List Nat} {i t:Nat}:∀ {rs:List Oper} {k:Nat},rwOk an i t k rs=true→∀ (j:Nat) (o:Oper),rs[j]? = some o→o.dst=some t→(an.getD i 0).testBit (k+j)=true∨(an.getD (k+j) 0).testBit i=true∨i=k+j:=by
 intro rs
 induction rs with
 | nil=>intro k _ j o h;simp at h
 | cons q r ih =>
  intro k h j o ho hd
  unfold rwOk at h
  rw [Bool.and_eq_true] at h
  cases j with
  | zero =>
   simp at ho
   subst ho
   have h1:=h.1
   rw [hd] at h1
   simp only [Bool.or_eq_true,Nat.beq_refl,Bool.not_true,Bool.false_eq_true,false_or] at h1
   rcases h1 with (h1 | h1) | h1
   ·exact .inl h1
   ·exact .inr (.inl h1)
   ·exact .inr (.inr (Nat.eq_of_beq_eq_true h1))
  | succ j =>
   have:=ih h.2 j o (by simpa using ho) hd
   rw [show k+(j+1)=k+1+j by omega]
   exact this
theorem readsOk_at {all:List Oper} {an:List Nat}:∀ {rs:List Oper} {k:Nat},readsOk all an k rs=true→∀ (i:Nat) (o:Oper),rs[i]? = some o→∀ t∈readsOf all o,rwOk an (k+i) t 0 all=true:=by
 intro rs
 induction rs with
 | nil=>intro k _ i o h;simp at h
 | cons q r ih =>
  intro k h i o ho t ht
  unfold readsOk at h
  rw [Bool.and_eq_true] at h
  cases i with
  | zero=>simp at ho;subst ho;exact (List.all_eq_true.1 h.1) t ht
  | succ i =>
   have:=ih h.2 i o (by simpa using ho) t ht
   rw [show k+(i+1)=k+1+i by omega]
   exact this
theorem lowB_at:∀ {rs:List Oper} {k:Nat},lowB k rs=true→∀ (i:Nat) (o:Oper),rs[i]? = some o→∀ m,(pm o).testBit m=true→m < k+i:=by
 intro rs
 induction rs with
 | nil=>intro k _ i o h;simp at h
 | cons q r ih =>
  intro k h i o ho m hm
  unfold lowB at h
  rw [Bool.and_eq_true] at h
  cases i with
  | zero =>
   simp at ho
   subst ho
   have h1:pm q < 2 ^ k:=by simpa using h.1
   rcases Nat.lt_or_ge m (k+0) with h2 | h2
   ·exact h2
   ·have h4:pm q < 2 ^ m:=Nat.lt_of_lt_of_le h1 (Nat.pow_le_pow_right (by decide) h2)
    rw [Nat.testBit_lt_two_pow h4] at hm
    cases hm
  | succ i =>
   have:=ih h.2 i o (by simpa using ho) m hm
   omega
theorem mem_dsts {rs:List Oper} {d:Nat}:d∈dsts rs↔∃ (i:Nat) (o:Oper),rs[i]? = some o∧o.dst=some d:=by
 induction rs with
 | nil=>simp [dsts]
 | cons q r ih =>
  unfold dsts
  rw [List.mem_append,ih]
  constructor
  ·rintro (h | ⟨i,o,h1,h2⟩)
   ·unfold skips at h
    cases hq:q.dst with
    | none=>rw [hq] at h;simp at h
    | some e=>rw [hq] at h;simp at h;subst h;exact ⟨0,q,rfl,hq⟩
   ·exact ⟨i+1,o,by simpa using h1,h2⟩
  ·rintro ⟨i,o,h1,h2⟩
   cases i with
   | zero=>simp at h1;subst h1;exact .inl (by simp [skips,h2])
   | succ i=>exact .inr ⟨i,o,by simpa using h1,h2⟩
theorem dst_inj:∀ {rs:List Oper},nodupB (dsts rs)=true→∀ (i j:Nat) (o q:Oper) (d:Nat),rs[i]? = some o→rs[j]? = some q→o.dst=some d→q.dst=some d→i=j:=by
 intro rs
 induction rs with
 | nil=>intro _ i j o q d h;simp at h
 | cons p r ih =>
  intro h i j o q d hi hj ho hq
  have h1:∀ e,p.dst=some e→e∉dsts r:=by
   intro e he
   unfold dsts skips at h
   rw [he] at h
   simp only [List.singleton_append,nodupB,Bool.and_eq_true,Bool.not_eq_true'] at h
   have:=h.1
   intro hm
   rw [List.contains_iff_mem.2 hm] at this
   cases this
  have h2:nodupB (dsts r)=true:=by
   unfold dsts skips at h
   cases hp:p.dst with
   | none=>rw [hp] at h;simpa using h
   | some e=>rw [hp] at h;simp only [List.singleton_append,nodupB,Bool.and_eq_true] at h;exact h.2
  cases i with
  | zero =>
   cases j with
   | zero=>rfl
   | succ j =>
    simp at hi
    subst hi
    exact absurd (mem_dsts.2 ⟨j,q,by simpa using hj,hq⟩) (h1 d ho)
  | succ i =>
   cases j with
   | zero =>
    simp at hj
    subst hj
    exact absurd (mem_dsts.2 ⟨i,o,by simpa using hi,ho⟩) (h1 d hq)
   | succ j=>rw [ih h2 i j o q d (by simpa using hi) (by simpa using hj) ho hq]
abbrev PS:=List (Nat × Nat × Value)
def patch (S:PS) (a:Act):Act:=S.foldl (λ b p=>b.put (some p.2.1) p.2.2) a
def keysS (S:PS):List Nat:=S.map (·.2.1)
theorem put_comm (a:Act) {d e:Nat} (v u:Value) (h:d≠e):(a.put (some d) v).put (some e) u=(a.put (some e) u).put (some d) v:=by
 simp only [Act.put]
 congr 1
 exact Array.setIfInBounds_comm _ _ h
theorem patch_put:∀ (S:PS) (a:Act) (d:Nat) (v:Value),d∉keysS S→patch S (a.put (some d) v)=(patch S a).put (some d) v:=by
 intro S
 induction S with
 | nil=>intro a d v _;rfl
 | cons p r ih =>
  intro a d v h
  simp only [keysS,List.map_cons,List.mem_cons,not_or] at h
  show patch r ((a.put (some d) v).put (some p.2.1) p.2.2)=(patch r (a.put (some p.2.1) p.2.2)).put (some d) v
  rw [put_comm _ _ _ h.1]
  exact ih _ _ _ h.2
theorem patch_put' (S:PS) (a:Act) (d:Option Nat) (v:Value) (h:∀ e,d=some e→e∉keysS S):patch S (a.put d v)=(patch S a).put d v:=by
 cases d with
 | none=>rfl
 | some d=>exact patch_put S a d v (h d rfl)
theorem patch_defs (S:PS):∀ (a:Act) (D:List Deferred),patch S { a with defers:=D }={ patch S a with defers:=D }:=by
 induction S with
 | nil=>intro a D;rfl
 | cons p r ih=>intro a D;exact ih (a.put (some p.2.1) p.2.2) D
theorem patch_defers (S:PS):∀ (a:Act),(patch S a).defers=a.defers:=by
 induction S with
 | nil=>intro a;rfl
 | cons p r ih=>intro a;exact ih _
theorem patch_get (S:PS):∀ (a:Act) (t:Nat),t∉keysS S→(patch S a).tmps[t]? = a.tmps[t]?:=by
 induction S with
 | nil=>intro a t _;rfl
 | cons p r ih =>
  intro a t h
  simp only [keysS,List.map_cons,List.mem_cons,not_or] at h
  show (patch r _).tmps[t]? = _
  rw [ih _ t h.2]
  simp only [Act.put]
  exact Array.getElem?_setIfInBounds_ne (λ e=>h.1 e.symm)
theorem patch_rm:∀ (S:PS) (a:Act) (i d:Nat) (v:Value),(i,d,v)∈S→(keysS S).Nodup→(S.map (·.1)).Nodup→patch (S.filter (λ p=>!(Nat.beq p.1 i))) (a.put (some d) v)=patch S a:=by
 intro S
 induction S with
 | nil=>intro a i d v h;simp at h
 | cons p r ih =>
  intro a i d v h hk hi
  obtain ⟨j,e,u⟩:=p
  simp only [keysS,List.map_cons,List.nodup_cons] at hk hi
  rcases List.mem_cons.1 h with h1 | h1
  ·injection h1 with e1 e2
   injection e2 with e2 e3
   subst e1;subst e2;subst e3
   have hr:r.filter (λ p=>!(Nat.beq p.1 i))=r:=by
    rw [List.filter_eq_self]
    intro q hq
    have:q.1≠i:=λ hh=>hi.1 (hh ▸ List.mem_map_of_mem hq)
    cases hb:Nat.beq q.1 i with
    | false=>rfl
    | true=>exact absurd (Nat.eq_of_beq_eq_true hb) this
   rw [List.filter_cons_of_neg (by simp [Nat.beq_refl]),hr]
   rfl
  ·have hji:j≠i:=λ hh=>hi.1 (by rw [hh];exact List.mem_map.2 ⟨(i,d,v),h1,rfl⟩)
   have hde:d≠e:=λ hh=>hk.1 (by rw [← hh];exact List.mem_map.2 ⟨(i,d,v),h1,rfl⟩)
   have hb:Nat.beq j i=false:=by
    cases hb:Nat.beq j i with
    | false=>rfl
    | true=>exact absurd (Nat.eq_of_beq_eq_true hb) hji
   rw [List.filter_cons_of_pos (by simp [hb])]
   show patch _ ((a.put (some d) v).put (some e) u)=patch r (a.put (some e) u)
   rw [put_comm _ _ _ hde]
   exact ih _ i d v h1 hk.2 hi.2
theorem wpIn_patch {F:Fence} {m:Nat} {P:Program} {S:PS} {o:Oper} {a:Act} {w:World} {K:Act→World→Prop} {Q:Exit→Act→World→Prop} (hnd:noDef o=true) (hx:∀ x∈o.op.operands,a.eval x=(patch S a).eval x) (hd:∀ d,o.dst=some d→d∉keysS S) (hO:∀ b u,¬ Q .outgrown b u) (hQ:∀ c b w',Q (.panic c) (patch S b) w'→Q (.panic c) b w')
  (h:o.wpIn F m P (patch S a) w K Q):o.wpIn F m P a w (λ b w'=>K (patch S b) w') Q:=by
 obtain ⟨h1,h2⟩:=h
 have hs:∀ cs b,o.op≠.select cs b:=λ cs b e=>by unfold noDef at hnd;rw [e] at hnd;cases hnd
 have e1:o.semAt F.round a.eval=o.semAt F.round (patch S a).eval:=by
  have n1:=nodef_of hnd
  cases hr:F.round with
  | none=>exact execOp_congr o hs hx
  | some q =>
   rw [show o.semAt (some q) a.eval=execOp a.eval o from semAt_of (some q) a.eval n1,show o.semAt (some q) (patch S a).eval=execOp (patch S a).eval o from semAt_of (some q) _ n1]
   exact execOp_congr o hs hx
 refine ⟨λ f hf=>h1 f (by rw [← about_congr o w hx];exact hf),?_⟩
 rw [e1]
 generalize (o.semAt F.round (patch S a).eval).run P w=res at h2 ⊢
 have pp:∀ v,patch S (a.put o.dst v)=(patch S a).put o.dst v:=λ v=>patch_put' S a o.dst v hd
 cases res with
 | ok x w' =>
  cases x with
  | value v=>show K (patch S (a.put o.dst v)) w';rw [pp];exact h2
  | skip=>show K (patch S (a.put o.dst undef)) w';rw [pp];exact h2
  | defer dd =>
   show K (patch S (({ a with defers:=dd :: a.defers }:Act).put o.dst undef)) w'
   rw [patch_put' S _ o.dst _ hd,patch_defs,← patch_defers S a]
   exact h2
  | enter f args =>
   refine ⟨h2.1,CallsIn.mono h2.2 (λ e w'' he=>?_)⟩
   cases e with
   | returned v=>show K (patch S (a.put o.dst v)) w'';rw [pp];exact he
   | panicked c=>exact hQ _ _ _ he
   | outgrown=>obtain ⟨b,u,hq⟩:=(show LetsOut Q from he);exact (hO b u hq).elim
  | row rr args=>exact ⟨h2.1,RowsIn.mono h2.2 (λ v w'' he=>by show K (patch S (a.put o.dst v)) w'';rw [pp];exact he)⟩
  | round l f tmps assign body =>
   refine ⟨h2.1,RoundIn.mono h2.2 (λ e w'' he=>?_)⟩
   cases e with
   | returned v=>show K (patch S (a.put o.dst v)) w'';rw [pp];exact he
   | panicked c=>exact hQ _ _ _ he
   | outgrown=>obtain ⟨b,u,hq⟩:=(show LetsOut Q from he);exact (hO b u hq).elim
  | _=>exact h2
 | halt h w'=>cases h<;>first | exact h2 | exact hQ _ _ _ h2
end Go.Proofs.YtppodgdhdddfkaaGreatDoor.Sx
set_option linter.unusedVariables false
set_option linter.unusedSimpArgs false
namespace Go.Proofs.YtppodgdhdddfkaaGreatDoor.Sx
open Go Go.RowKit
section
variable {P:Program} {Z:ZP} {R:Value→World→Prop} {r:Option Nat} {n:Nat} {df:List Deferred} {A':List Nat→List Value→World→Prop} {B':List Nat→Nat→List Value→World→Prop} {ds:List Nat}
def OpFits (l:Env) (o:Oper) (ρ:Operand→Value):Prop:=∀ x∈o.op.operands,∀ y,ev l x=some y→ρ x=y
def VR (P:Program) (l:Env) (o:Oper) (v:Value) (w:World):Prop:=∀ ρ w',OpFits l o ρ→(isLd o.op=true→w'=w)→(execOp ρ o).run P w'=.ok (.value v) w'
theorem VR.of {l:Env} {o:Oper} {v:Value} {w:World} (hnd:noDef o=true) (h:∀ ρ w',Fits l ρ→(isLd o.op=true→w'=w)→(execOp ρ o).run P w'=.ok (.value v) w'):VR P l o v w:=by
 intro ρ w' hf hl
 have e:execOp ρ o=execOp (λ x=>match ev l x with | some y=>y | none=>ρ x) o:=by
  refine execOp_congr o (λ cs b e=>by unfold noDef at hnd;rw [e] at hnd;cases hnd) (λ x hx=>?_)
  cases hv:ev l x with
  | none=>rfl
  | some y=>exact hf x hx y hv
 rw [e]
 exact h _ w' (λ x y hy=>by simp only [hy]) hl
def gYes (n:Nat) (l:Env) (ops:List Oper) (o:Oper):Prop:=o.guard=none∨∃ j b e,o.guard=some (j,b)∧(nth ops j).bind (·.dst)=some e∧e < n∧find l e=some (.bool b)
def gNo (n:Nat) (l:Env) (ops:List Oper) (o:Oper):Prop:=∃ j b e g,o.guard=some (j,b)∧(nth ops j).bind (·.dst)=some e∧e < n∧find l e=some g∧isB b g=false
structure Pend (P:Program) (n:Nat) (ops:List Oper) (l:Env) (u:List Nat) (w:World) (o:Oper) (d:Nat) (v:Value):Prop where
 fd:find l d=some v
 way:(d∉u∧gYes n l ops o∧VR P l o v w)∨(v=undef∧gNo n l ops o)
theorem isLd_some {op:Op} (h:isLd op=true):∃ t x,op=.load t x:=by
 cases op<;>first | exact ⟨_,_,rfl⟩ | (unfold isLd at h;cases h)
theorem light {ops:List Oper} {an:List Nat} {i:Nat} {o:Oper} {u:List Nat} {l:Env} {w:World} {k:List Nat→Env→T} (hnd:noDef o=true) (hlt:isLt P ops an i o=true) (hu:Us u l) (hw:wp P Z R ds (dgo P n ops u l o k) w A' B') :
  ∃ d v u' l',o.dst=some d∧d < n∧wp P Z R ds (k u' l') w A' B'∧(∀ t,find l' t=if d=t then some v else find l t) ∧
   ((u'=dropU o u∧gYes n l ops o∧VR P l o v w)∨(u'=skips o++u∧v=undef∧gNo n l ops o)):=by
 obtain ⟨dst,op,ty,pos,af,g⟩:=o
 cases dst with
 | none=>cases hlt
 | some d =>
  have hl1:(lop P [] ty op (λ _=>.bad)).isSome=true∨isLd op=true:=by
   unfold isLt at hlt
   simp only [Bool.and_eq_true,Bool.or_eq_true] at hlt
   exact hlt.1
  have same:∀ {l1:Env},(∀ t,find l1 t=find l t)→∀ v t,find ((d,v) :: l1) t=if d=t then some v else find l t:=by
   intro l1 h1 v t
   by_cases h:d=t
   ·subst h;rw [find_self,if_pos rfl]
   ·rw [find_ne v l1 h,if_neg h,h1]
  have fits:∀ {l1:Env},(∀ t,find l1 t=find l t)→∀ ρ,Fits l ρ→Fits l1 ρ:=by
   intro l1 h1 ρ hf x v hx
   refine hf x v ?_
   cases x with
   | tmp t=>exact (h1 t).symm.trans hx
   | const c=>exact hx
   | global q=>exact hx
   | func q=>exact hx
  have yes:∀ {l1:Env},(∀ t,find l1 t=find l t)→gYes n l ops ⟨some d,op,ty,pos,af,g⟩→wp P Z R ds (dop P n l1 ⟨some d,op,ty,pos,af,g⟩ (k (dropU ⟨some d,op,ty,pos,af,g⟩ u))) w A' B' →
    ∃ d' v u' l',(some d:Option Nat)=some d'∧d' < n∧wp P Z R ds (k u' l') w A' B'∧(∀ t,find l' t=if d'=t then some v else find l t) ∧
   ((u'=dropU ⟨some d,op,ty,pos,af,g⟩ u∧gYes n l ops ⟨some d,op,ty,pos,af,g⟩∧VR P l ⟨some d,op,ty,pos,af,g⟩ v w)∨(u'=skips ⟨some d,op,ty,pos,af,g⟩++u∧v=undef∧gNo n l ops ⟨some d,op,ty,pos,af,g⟩)):=by
   intro l1 h1 hg hw
   unfold dop at hw
   simp only at hw
   split at hw
   ·rename_i hd
    have hd:d < n:=by simpa using hd
    split at hw
    ·rename_i t ht
     obtain ⟨v,hv,h⟩:=lop_ok ht hw
     exact ⟨d,v,_,_,rfl,hd,h,same h1 v,.inl ⟨rfl,hg,VR.of hnd (λ ρ w' hf _=>hv _ _ _ _ _ _ (fits h1 ρ hf))⟩⟩
    ·rename_i hno
     have hld:isLd op=true:=by
      rcases hl1 with h | h
      ·exfalso
       have gen:∀ (op:Op) (ka kb:Value→T) (la lb:Env),lop P la ty op ka=none→(lop P lb ty op kb).isSome=true→False:=by
        intro op ka kb la lb h1 h2
        cases op with
        | unOp q t x=>cases q<;>cases h1
        | call c =>
         obtain ⟨cal,xs,ts⟩:=c
         cases cal with
         | value f=>cases h2
         | invoke r m=>cases h2
         | builtin b =>
          cases b<;>try cases h2
          simp only [lop] at h1 h2
          (repeat' split at h1)<;>simp_all
        | _ =>
         simp only [lop] at h1 h2
         first
          | (cases h2;done)
          | (cases h1;done)
          | ((repeat' split at h1)<;>simp_all)
       exact gen op _ _ _ _ hno h
      ·exact h
     obtain ⟨t,x,rfl⟩:=isLd_some hld
     simp only [hop] at hw
     split at hw
     ·rename_i ha
      obtain ⟨p,hp,ad,v,rfl,hc,h⟩:=vT_ok hw
      refine ⟨d,v,_,_,rfl,hd,h,same h1 v,.inl ⟨rfl,hg,VR.of hnd (λ ρ w' hf hl=>?_)⟩⟩
      rw [hl rfl]
      simp only [execOp,fits h1 ρ hf x _ hp]
      exact run_v (loadVar1 ha hc)
     ·rename_i m ha hs
      obtain ⟨p,hp,ad,cs,rfl,hr,h⟩:=vT_ok hw
      refine ⟨d,_,_,_,rfl,hd,h,same h1 _,.inl ⟨rfl,hg,VR.of hnd (λ ρ w' hf hl=>?_)⟩⟩
      rw [hl rfl]
      simp only [execOp,fits h1 ρ hf x _ hp]
      exact run_v (loadVarn ha hs hr)
     ·exact hw.elim
   ·exact hw.elim
  have no:∀ {l1:Env},(∀ t,find l1 t=find l t)→gNo n l ops ⟨some d,op,ty,pos,af,g⟩→wp P Z R ds (dskip n l1 ⟨some d,op,ty,pos,af,g⟩ (k (skips ⟨some d,op,ty,pos,af,g⟩++u))) w A' B' →
    ∃ d' v u' l',(some d:Option Nat)=some d'∧d' < n∧wp P Z R ds (k u' l') w A' B'∧(∀ t,find l' t=if d'=t then some v else find l t) ∧
   ((u'=dropU ⟨some d,op,ty,pos,af,g⟩ u∧gYes n l ops ⟨some d,op,ty,pos,af,g⟩∧VR P l ⟨some d,op,ty,pos,af,g⟩ v w)∨(u'=skips ⟨some d,op,ty,pos,af,g⟩++u∧v=undef∧gNo n l ops ⟨some d,op,ty,pos,af,g⟩)):=by
   intro l1 h1 hg hw
   unfold dskip at hw
   simp only at hw
   split at hw
   ·rename_i hd
    exact ⟨d,undef,_,_,rfl,by simpa using hd,hw,same h1 undef,.inr ⟨rfl,rfl,hg⟩⟩
   ·exact hw.elim
  unfold dgo at hw
  split at hw
  ·rename_i hg
   exact yes (λ _=>rfl) (.inl hg) hw
  ·rename_i j b hg
   split at hw
   ·rename_i e he
    split at hw
    ·rename_i hn
     have hn:e < n:=by simpa using hn
     split at hw
     ·rename_i hc
      exact no (λ _=>rfl) ⟨j,b,e,undef,hg,he,hn,hu e (by simpa using hc),rfl⟩ hw
     ·obtain ⟨v,hv,hw⟩:=vT_ok hw
      have hv:find l e=some v:=hv
      cases b with
      | true =>
       rcases gi_ok hw with ⟨rfl,h⟩ | ⟨rfl,h⟩
       ·exact yes (λ t=>find_dup hv) (.inr ⟨j,true,e,hg,he,hn,hv⟩) h
       ·exact no (λ t=>find_dup hv) ⟨j,true,e,_,hg,he,hn,hv,rfl⟩ h
      | false =>
       rcases gi_ok hw with ⟨rfl,h⟩ | ⟨rfl,h⟩
       ·exact no (λ t=>find_dup hv) ⟨j,false,e,_,hg,he,hn,hv,rfl⟩ h
       ·exact yes (λ t=>find_dup hv) (.inr ⟨j,false,e,hg,he,hn,hv⟩) h
    ·exact hw.elim
   ·exact hw.elim
theorem mem_tmpsOf {xs:List Operand} {t:Nat}:t∈tmpsOf xs↔Operand.tmp t∈xs:=by
 induction xs with
 | nil=>simp [tmpsOf]
 | cons x r ih=>cases x<;>simp [tmpsOf,ih]
theorem op_read {ops:List Oper} {o:Oper} {t:Nat} (h:Operand.tmp t∈o.op.operands):t∈readsOf ops o:=List.mem_append_left _ (mem_tmpsOf.2 (by simpa using h))
theorem g_read {ops:List Oper} {o:Oper} {j e:Nat} {b:Bool} (hg:o.guard=some (j,b)) (he:(nth ops j).bind (·.dst)=some e):e∈readsOf ops o:=by
 refine List.mem_append_right _ ?_
 rw [hg]
 simp only [he]
 simp
theorem Pend.fr {ops:List Oper} {l l':Env} {u u':List Nat} {w:World} {o:Oper} {d:Nat} {v:Value} (h:Pend P n ops l u w o d v) (hr:∀ t∈readsOf ops o,find l' t=find l t) (hd:find l' d=find l d) (hu:d∉u→d∉u'):Pend P n ops l' u' w o d v:=by
 refine ⟨hd.trans h.fd,?_⟩
 have ho:∀ x∈o.op.operands,ev l' x=ev l x:=λ x hx=>by
  cases x with
  | tmp t=>exact hr t (op_read hx)
  | _=>rfl
 rcases h.way with ⟨h1,h2,h3⟩ | ⟨h1,j,b,e,g,h2,h3,h4,h5,h6⟩
 ·refine .inl ⟨hu h1,?_,λ ρ w' hf hl=>h3 ρ w' (λ x hx y hy=>hf x hx y (by rw [ho x hx];exact hy)) hl⟩
  rcases h2 with h2 | ⟨j,b,e,h2,h3,h4,h5⟩
  ·exact .inl h2
  ·exact .inr ⟨j,b,e,h2,h3,h4,by rw [hr e (g_read h2 h3)];exact h5⟩
 ·exact .inr ⟨h1,j,b,e,g,h2,h3,h4,by rw [hr e (g_read h2 h3)];exact h5,h6⟩
structure Iv (P:Program) (n:Nat) (df:List Deferred) (ops:List Oper) (listed:Array Bool) (A:Nat) (u:List Nat) (l:Env) (S:PS) (a:Act) (w:World):Prop where
 sz:listed.size=ops.length
 a1:∀ i,listed.getD i false=true→A.testBit i=true
 aN:∀ i,A.testBit i=true→i < ops.length
 a2:∀ i o,ops[i]? = some o→A.testBit i=true→∀ m,(pm o).testBit m=true→A.testBit m=true
 lc:∀ i o,ops[i]? = some o→listed.getD i false=true→∀ m,(pm o).testBit m=true→listed.getD m false=true
 a3:∀ i o,ops[i]? = some o→A.testBit i=true→listed.getD i false=false→isLt P ops (ancs ops []) i o=true
 ag:Ag (patch S a) n df l
 us:Us u l
 s1:∀ p∈S,∃ o,ops[p.1]? = some o∧listed.getD p.1 false=false∧A.testBit p.1=true∧o.dst=some p.2.1∧p.2.1 < n∧Pend P n ops l u w o p.2.1 p.2.2
 s2:∀ i,A.testBit i=true→listed.getD i false=false→∃ p∈S,p.1=i
 s3:(S.map (·.1)).Nodup
theorem lt_war {ops:List Oper} {an:List Nat} {i d:Nat} {o:Oper} (h:isLt P ops an i o=true) (hd:o.dst=some d):warB ops an i d 0 ops=false:=by
 unfold isLt at h
 rw [hd] at h
 simp only [Bool.and_eq_true,Bool.not_eq_true'] at h
 exact h.2
section
variable {ops:List Oper} {listed:Array Bool} {A:Nat} {u:List Nat} {l:Env} {S:PS} {a:Act} {w:World}
theorem Iv.keys (H:Iv P n df ops listed A u l S a w) (hwf:wfR ops (ancs ops [])=true):(keysS S).Nodup:=by
 have hnd:nodupB (dsts ops)=true:=by unfold wfR at hwf;simp only [Bool.and_eq_true] at hwf;exact hwf.1.1.1
 have h1:=H.s1
 have h3:=H.s3
 clear H
 induction S with
 | nil=>exact List.nodup_nil
 | cons p r ih =>
  simp only [keysS,List.map_cons,List.nodup_cons] at h3 ⊢
  refine ⟨λ hm=>?_,ih (λ q hq=>h1 q (by simp [hq])) h3.2⟩
  obtain ⟨q,hq,he⟩:=List.mem_map.1 hm
  obtain ⟨o1,e1,_,_,e2,_⟩:=h1 p (by simp)
  obtain ⟨o2,e3,_,_,e4,_⟩:=h1 q (by simp [hq])
  have:=dst_inj hnd q.1 p.1 o2 o1 p.2.1 e3 e1 (by rw [e4,he]) e2
  exact h3.1 (this ▸ List.mem_map_of_mem hq)
theorem Iv.reads (H:Iv P n df ops listed A u l S a w) {j:Nat} {o:Oper} (hj:ops[j]? = some o) (hr:∀ m,(pm o).testBit m=true→listed.getD m false=true) {t:Nat} (ht:t∈readsOf ops o):t∉keysS S:=by
 intro hm
 obtain ⟨p,hp,he⟩:=List.mem_map.1 hm
 obtain ⟨q,h1,h2,h3,h4,_⟩:=H.s1 p hp
 have hlt:=H.a3 p.1 q h1 h3 h2
 have hw:=noWar (lt_war hlt h4) j o hj (by rw [he];exact ht)
 rw [Nat.zero_add] at hw
 have:=anc_in (C:=λ i=>listed.getD i false=true) H.lc j o hj hr p.1 hw
 rw [h2] at this
 cases this
theorem getD_set {x:Array Bool} {i j:Nat} (hi:i < x.size):(x.setIfInBounds i true).getD j false=(x.getD j false || decide (i=j)):=by
 simp only [Array.getD_eq_getD_getElem?]
 by_cases h:i=j
 ·subst h;simp [hi]
 ·simp [Array.getElem?_setIfInBounds_ne h,h]
end
end
end Go.Proofs.YtppodgdhdddfkaaGreatDoor.Sx
