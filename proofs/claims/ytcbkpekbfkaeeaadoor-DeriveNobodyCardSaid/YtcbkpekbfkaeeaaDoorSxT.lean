/- What a function does, as a tree of what touches memory: the tree of a code, and what holds behind it. -/
import Derived.Test.YtcbkpekbfkaeeaaDoorSxR
set_option linter.unusedVariables false
set_option linter.unusedSimpArgs false
namespace Go.Proofs.YtcbkpekbfkaeeaaDoor.Sx
open Go Go.RowKit
/-! ### what needs no memory -/
def pr {α : Type} (P : Program) : Sem α → Option α
  | .pure a => some a
  | .program k => pr P (k P)
  | _ => none
theorem pr_run {α : Type} {P : Program} : ∀ {s : Sem α} {a : α}, pr P s = some a → ∀ w, s.run P w = .ok a w := by
  intro s
  induction s with
  | pure b => intro a h w; simp [pr] at h; subst h; rfl
  | program k ih => intro a h w; exact ih P h w
  | _ => intro a h; simp [pr] at h
def addA (a : Addr) (n : Nat) : Addr := match a with
  | ⟨b, o, none⟩ => ⟨b, o + n, none⟩
  | a => a.add n
theorem addA_eq (a : Addr) (n : Nat) : addA a n = a.add n := by
  obtain ⟨b, o, s⟩ := a
  cases s with
  | none => exact (addr_add b o n).symm
  | some s => rfl
/-! ### trees -/
inductive T where
  | ret (v : Value)
  | again (vs : List Value)
  | brk (i : Nat) (vs : List Value)
  | bad
  | ld (a : Value) (k : Value → T)
  | ldn (n : Nat) (a : Value) (k : Value → T)
  | chk (n : Option Nat) (a v : Value) (k : T)
  | call (f : Nat) (vs : List Value) (k : Value → T)
  | yld (L : Nat) (vs : List Value) (k : Value → T)
  | pu (s : Sem Value) (k : Value → T)
  | hv (s : Sem Value) (k : Value → T)
  | ef (s : Sem Unit) (k : T)
  | en (s : Sem Next) (k : Value → T)
  | pan (s : Sem Value)
  | ar (kd : IntKind) (z : Int) (k : Value → T)
  | ob (p : Prop) (k : T)
  | amb (a b : T)
  | dr (k : T)
  | loop (vs : List Value) (body : List Value → T) (after : Nat → List Value → T)
  | rb (L : Nat) (a b : Obj) (k : T)
  | rf (cx : Option (Nat × Obj)) (g : Value) (m : Nat) (body : Nat → Obj → Obj → List Value → T) (after : Nat → T)
def iteT (c : Bool) (a b : T) : T := match c with | true => a | false => b
def nilT (v : Value) (k : Value → T) : T := match v with
  | .pointer (some a) => k (.pointer (some a))
  | .func (.func f) p c => k (.func (.func f) p c)
  | .func (.yield f) p c => k (.func (.yield f) p c)
  | _ => .bad
def faT (off : Nat) (v : Value) (k : Value → T) : T := match v with | .pointer (some a) => k (.pointer (some (addA a off))) | _ => .bad
def adT (A : Option Addr) (n : Nat) (k : Value → T) : T := match A with | some a => k (.pointer (some (addA a n))) | none => .bad
def ixT (sz : Nat) (v i : Value) (k : Value → T) : T := match v, i with
  | .slice A len _, .int _ j => .ob (0 ≤ j ∧ j < len) (adT A (j.toNat * sz) k)
  | _, _ => .bad
def ixaT (len sz : Nat) (v i : Value) (k : Value → T) : T := match v, i with
  | .pointer A, .int _ j => .ob (0 ≤ j ∧ j < len) (adT A (j.toNat * sz) k)
  | _, _ => .bad
def opT (o : Option Value) (k : Value → T) : T := match o with | some c => k c | none => .bad
def fdT (off : Nat) (v : Value) (k : Value → T) : T := match v with | .agg cs => opT cs[off]? k | _ => .bad
def fdnT (off n : Nat) (v : Value) (k : Value → T) : T := match v with | .agg cs => k (.agg (cs.extract off (off + n))) | _ => .bad
def exT (i : Nat) (v : Value) (k : Value → T) : T := match v with | .tuple vs => opT vs[i]? k | _ => .bad
def notT (v : Value) (k : Value → T) : T := match v with | .bool b => k (.bool (!b)) | _ => .bad
def pickT (c a b : Value) (k : Value → T) : T := match c with | .bool x => iteT x (k a) (k b) | _ => .bad
def cmT (op : BinOp) (a b : Int) (k : Value → T) (no : T) : T := match op with
  | .lss => k (.bool (decide (a < b)))
  | .leq => k (.bool (decide (a ≤ b)))
  | .gtr => k (.bool (decide (b < a)))
  | .geq => k (.bool (decide (b ≤ a)))
  | .eql => k (.bool (decide (a = b)))
  | .neq => k (.bool (decide (¬ a = b)))
  | _ => no
def arT (op : BinOp) (kd : IntKind) (a b : Int) (k : Value → T) (no : T) : T := match op with
  | .add => .ar kd (a + b) k
  | .sub => .ar kd (a - b) k
  | .mul => .ar kd (a * b) k
  | _ => no
/-- Whole numbers compared, or reckoned with. -/
def biT (cmp : Bool) (op : BinOp) (x y : Value) (k : Value → T) : T := match x, y with
  | .int kd a, .int kd' b => match decide (kd = kd') with
    | true => match cmp with | true => cmT op a b k .bad | false => arT op kd a b k .bad
    | false => .bad
  | _, _ => .bad
def bbT (op : BinOp) (x y : Value) (k : Value → T) : T := match x, y with
  | .bool a, .bool b => match op with | .eql => k (.bool (a == b)) | .neq => k (.bool (a != b)) | _ => .bad
  | _, _ => .bad
def bpT (op : BinOp) (x y : Value) (k : Value → T) : T := match x, y with
  | .pointer p, .pointer none => match op with | .eql => k (.bool p.isNone) | .neq => k (.bool p.isSome) | _ => .bad
  | _, _ => .bad
def cvT (kd : IntKind) (v : Value) (k : Value → T) : T := match v with | .int _ a => .ar kd a k | _ => .bad
def lnT (v : Value) (k : Value → T) : T := match v with | .slice _ n _ => k (.int .i64 n) | _ => .bad
def clT (f : Value) (vs : List Value) (k : Value → T) : T := match f with
  | .func (.func g) p c => .call g (p.toList ++ (vs ++ c.toList)) k
  | .func (.yield L) p c => match p.toList, c.toList with | [], [] => .yld L vs k | _, _ => .bad
  | _ => .bad
def gi (v : Value) (a b : T) : T := match v with | .bool c => iteT c a b | _ => .bad
def setl : List Value → Nat → Value → List Value
  | [], _, _ => []
  | _ :: r, 0, v => v :: r
  | c :: r, n + 1, v => c :: setl r n v
/-- A struct of single cells, each given or zero. -/
def bdT : List (Nat × Value) → List Value → (List Value → T) → T
  | [], cs, k => k cs
  | (o, v) :: r, cs, k => match v with
    | .agg _ => .bad
    | .tuple _ => .bad
    | v => bdT r (setl cs o v) k
def bq (i id : Nat) (a b : T) : T := match Nat.beq i id with | true => a | false => b
/-- What stands behind a range, by the way its rounds were left. -/
def jm (a b : T) (c : Nat → T) : Nat → T
  | 0 => a
  | 1 => b
  | i + 2 => c i
abbrev I (n : Int) : Value := .int .i64 n
abbrev B (b : Bool) : Value := .bool b
/-! ### the tree of a code -/
section
variable (P : Program)
def vT (l : Env) (x : Operand) (k : Value → T) : T := match ev l x with | some v => k v | none => .bad
def vsT (l : Env) : List Operand → (List Value → T) → T
  | [], k => k []
  | x :: r, k => vT l x fun v => vsT l r fun vs => k (v :: vs)
def voT (l : Env) (x : Option Operand) (k : Option Value → T) : T := match x with | none => k none | some x => vT l x fun v => k (some v)
def psT (l : Env) : List (Nat × Operand) → (List (Nat × Value) → T) → T
  | [], k => k []
  | (i, x) :: r, k => vT l x fun v => psT l r fun vs => k ((i, v) :: vs)
def fieldOf (t i : Nat) : Option Field := match P.underlying t with | some (.struct fs) => fs[i]? | _ => none
/-- What sort of '==' a type has: 0 whole numbers, 1 bools, 2 pointers, 3 others. -/
def cls (t : Nat) : Nat := match P.underlying t with
  | some (.int _) => 0
  | some .bool => 1
  | some (.pointer _) => 2
  | _ => 3
def isCmp : BinOp → Bool
  | .lss | .leq | .gtr | .geq | .eql | .neq => true
  | _ => false
def isAr : BinOp → Bool
  | .add | .sub | .mul => true
  | _ => false
def binT (l : Env) (op : BinOp) (t : Nat) (x y : Operand) (k : Value → T) : T :=
  vT l x fun a => vT l y fun b =>
    match cls P t, isCmp op, isAr op with
    | 0, true, _ => biT true op a b k
    | 0, false, true => biT false op a b k
    | 1, true, _ => bbT op a b k
    | 2, true, _ => match y with | .const _ => bpT op a b k | _ => .pu (do eqGuard op t x y a b; binOp op t a b) k
    | _, true, _ => .pu (do eqGuard op t x y a b; binOp op t a b) k
    | _, false, _ => .pu (binOp op t a b) k
def placesOf (t : Nat) : Option (Array (Nat × Nat)) := match P.underlying t with | some (.struct fs) => pr P (fs.mapM fun f => do pure (f.offset, ← sizeOf f.type)) | _ => none
def offs (pl : Array (Nat × Nat)) (n : Nat) : List (Nat × Value) → Option (List (Nat × Value))
  | [] => some []
  | (i, v) :: r => match pl[i]?, offs pl n r with
    | some (o, 1), some q => match Nat.blt o n with
      | true => some ((o, v) :: q)
      | false => none
    | _, _ => none
/-- Operations that neither read nor write memory, nor call. -/
def lop (l : Env) (ty : Nat) (o : Op) (k : Value → T) : Option T := match o with
  | .move x => some (vT l x k)
  | .assign x => some (vT l x k)
  | .pick c x y => some (vT l c fun c => vT l x fun a => vT l y fun b => pickT c a b k)
  | .nilCheck x => some (vT l x fun v => nilT v k)
  | .fieldAddr t x i => match fieldOf P t i with
    | some F => match pr P (sizeOf F.type) with
      | some (_ + 1) => some (vT l x fun v => faT F.offset v k)
      | _ => none
    | none => none
  | .indexAddr t x i => match P.underlying t with
    | some (.slice e) => match pr P (sizeOf e) with
      | some sz => some (vT l x fun v => vT l i fun j => ixT sz v j k)
      | none => none
    | some (.array n e) => match pr P (sizeOf e) with
      | some sz => some (vT l x fun v => vT l i fun j => ixaT n sz v j k)
      | none => none
    | _ => none
  | .field t x i => match fieldOf P t i with
    | some F => match pr P (isAgg F.type), pr P (sizeOf F.type) with
      | some false, _ => some (vT l x fun v => fdT F.offset v k)
      | some true, some n => some (vT l x fun v => fdnT F.offset n v k)
      | _, _ => none
    | none => none
  | .extract x i => some (vT l x fun v => exT i v k)
  | .unOp .not _ x => some (vT l x fun v => notT v k)
  | .unOp op t x => some (vT l x fun v => .pu (Op.unary op v) k)
  | .binOp op t x y _ => some (binT P l op t x y k)
  | .convert s t x => match P.underlying s, P.underlying t with
    | some (.int _), some (.int kd) => some (vT l x fun v => cvT kd v k)
    | _, _ => none
  | .makeFunc fn fs cs => some (vsT l fs.toList fun as => vsT l cs.toList fun bs => k (.func fn as.toArray bs.toArray))
  | .makeInterface t x => match P.underlying t with
    | some (.interface _) => none
    | some _ => some (vT l x fun v => k (.iface t v))
    | none => none
  | .slice t x lo hi mx => some (vT l x fun v => voT l lo fun a => voT l hi fun b => voT l mx fun c => .pu (Instr.sliceAt t v a b c) k)
  | .index t x i => some (vT l x fun v => vT l i fun j => .pu (Instr.index t v j) k)
  | .typeAssert x t u ok => some (vT l x fun v => .pu (Instr.typeAssert v t u ok) k)
  | .build t ps => match placesOf P t, pr P (zeroValue t) with
    | some pl, some (.agg zs) => some (psT l ps.toList fun vs => match offs pl zs.toList.length vs with | some q => bdT q zs.toList fun cs => k (.agg cs.toArray) | none => .pu (Instr.build t vs.toArray) k)
    | _, _ => some (psT l ps.toList fun vs => .pu (Instr.build t vs.toArray) k)
  | .call ⟨.builtin .len, xs, ts⟩ => match xs.toList, ts.toList with
    | [x], [t] => match P.underlying t with
      | some (.slice e) => match decide (P.elem t = e) with | true => some (vT l x fun v => lnT v k) | false => none
      | some .string => some (vT l x fun v => .pu (Builtin.len_ #[t] ty #[v]) k)
      | _ => none
    | _, _ => none
  | _ => none
/-- Operations that read, write, make, or call. -/
def hop (l : Env) (ty : Nat) (o : Op) (k : Value → T) : T := match o with
  | .load t x => match pr P (isAgg t), pr P (sizeOf t) with
    | some false, _ => vT l x fun v => .ld v k
    | some true, some n => vT l x fun v => .ldn n v k
    | _, _ => .bad
  | .alloc t => .hv (Instr.alloc t true (.tuple #[])) k
  | .box t x => vT l x fun v => .hv (Instr.box t v) k
  | .buildSlice t n ps => psT l ps.toList fun vs => .hv (Instr.buildSlice t n vs.toArray) k
  | .makeSlice t a b => vT l a fun x => vT l b fun y => .hv (Instr.makeSlice t x y) k
  | .makeMap t r => voT l r fun x => .hv (Instr.makeMap t x) k
  | .lookup t x i ok => vT l x fun v => vT l i fun j => .hv (Instr.lookup t v j ok) k
  | .convert s t x => vT l x fun v => .hv (convert s t v) k
  | .range t x => vT l x fun v => .hv (Instr.range t v) k
  | .next x b => vT l x fun v => .hv (Instr.next v b ty) k
  | .entry x => vT l x fun v => .hv (Instr.entry v) k
  | .panic x => vT l x fun v => .pan (Instr.panic v)
  | .call ⟨.value f, xs, _⟩ => vT l f fun g => vsT l xs.toList fun vs => clT g vs k
  | .call ⟨.invoke r m, xs, _⟩ => vT l r fun g => vsT l xs.toList fun vs => .en (callMethod g m vs.toArray) k
  | .call ⟨.builtin b, xs, ts⟩ => match b with
    | .append => vsT l xs.toList fun vs => .hv (Builtin.append_ ts ty vs.toArray) k
    | .copy => vsT l xs.toList fun vs => .hv (Builtin.copy_ ts ty vs.toArray) k
    | .clear => vsT l xs.toList fun vs => .hv (Builtin.clear_ ts ty vs.toArray) k
    | .delete => vsT l xs.toList fun vs => .hv (Builtin.delete_ ts ty vs.toArray) k
    | .len => vsT l xs.toList fun vs => .hv (Builtin.len_ ts ty vs.toArray) k
    | .cap => vsT l xs.toList fun vs => .hv (Builtin.cap_ ts ty vs.toArray) k
    | .max => vsT l xs.toList fun vs => .hv (Builtin.max_ ts ty vs.toArray) k
    | .min => vsT l xs.toList fun vs => .hv (Builtin.min_ ts ty vs.toArray) k
    | .unsafeString => vsT l xs.toList fun vs => .hv (Builtin.unsafeString_ ts ty vs.toArray) k
    | .unsafeStringData => vsT l xs.toList fun vs => .hv (Builtin.unsafeStringData_ ts ty vs.toArray) k
    | .unsafeSlice => vsT l xs.toList fun vs => .hv (Builtin.unsafeSlice_ ts ty vs.toArray) k
    | .unsafeSliceData => vsT l xs.toList fun vs => .hv (Builtin.unsafeSliceData_ ts ty vs.toArray) k
    | _ => .bad
  | _ => .bad
/-- Operations without a value. -/
def eop (l : Env) (o : Op) (k : T) : T := match o with
  | .store t a x => vT l a fun p => vT l x fun v => .ef (Instr.storeAt t p v) k
  | .mapUpdate t m i x => vT l m fun a => vT l i fun b => vT l x fun c => .ef (Instr.mapUpdate t a b c) k
  | .insert t m i x => vT l m fun a => vT l i fun b => vT l x fun c => .ef (Instr.mapUpdate t a b c) k
  | .panic x => vT l x fun v => .pan (Instr.panic v)
  | _ => .bad
def dop (n : Nat) (l : Env) (o : Oper) (k : Env → T) : T := match o.dst with
  | some d => match Nat.blt d n with
    | true => match lop P l o.type o.op (fun v => k ((d, v) :: l)) with
      | some t => t
      | none => hop P l o.type o.op (fun v => k ((d, v) :: l))
    | false => .bad
  | none => eop l o.op (k l)
def dskip (n : Nat) (l : Env) (o : Oper) (k : Env → T) : T := match o.dst with
  | some d => match Nat.blt d n with
    | true => k ((d, undef) :: l)
    | false => .bad
  | none => k l
def skips (o : Oper) : List Nat := match o.dst with | some d => [d] | none => []
def dropU (o : Oper) (u : List Nat) : List Nat := match o.dst with | some d => u.filter (fun e => !(Nat.beq e d)) | none => u
/-- One operation, with its guard. 'u': the temporaries of what was passed over. -/
def dgo (n : Nat) (ops : List Oper) (u : List Nat) (l : Env) (o : Oper) (k : List Nat → Env → T) : T := match o.guard with
  | none => dop P n l o (k (dropU o u))
  | some (j, b) => match (nth ops j).bind (·.dst) with
    | some e => match Nat.blt e n with
      | true => match u.contains e with
        | true => dskip n l o (k (skips o ++ u))
        | false => vT l (.tmp e) fun g => match b with
          | true => gi g (dop P n ((e, .bool true) :: l) o (k (dropU o u))) (dskip n ((e, .bool false) :: l) o (k (skips o ++ u)))
          | false => gi g (dskip n ((e, .bool true) :: l) o (k (skips o ++ u))) (dop P n ((e, .bool false) :: l) o (k (dropU o u)))
      | false => .bad
    | none => .bad
def dlist (n : Nat) (ops : List Oper) : List Oper → List Nat → Env → (Env → T) → T
  | [], _, l, k => k l
  | o :: r, u, l, k => dgo P n ops u l o fun u' l' => dlist n ops r u' l' k
def tmpsOf : List Operand → List Nat
  | [] => []
  | .tmp t :: r => t :: tmpsOf r
  | _ :: r => tmpsOf r
def readsOf (ops : List Oper) (o : Oper) : List Nat := tmpsOf o.op.operands.toList ++ (match o.guard with | some (j, _) => (match (nth ops j).bind (·.dst) with | some e => [e] | none => []) | none => [])
def dsts : List Oper → List Nat
  | [] => []
  | o :: r => skips o ++ dsts r
/-- Is number j's temporary read by an operation that does not stand behind it? -/
def warB (all : List Oper) (an : List Nat) (j d : Nat) : Nat → List Oper → Bool
  | _, [] => false
  | i, o :: r => ((readsOf all o).contains d && !(an.getD i 0).testBit j) || warB all an j d (i + 1) r
def isLd : Op → Bool | .load _ _ => true | _ => false
def isLt (all : List Oper) (an : List Nat) (j : Nat) (o : Oper) : Bool := match o.dst with | some d => ((lop P [] o.type o.op (fun _ => .bad)).isSome || isLd o.op) && !warB all an j d 0 all | none => false
def pm (o : Oper) : Nat := o.after.toList.foldl (fun s e => match Region.binds .any e with | true => s ||| 2 ^ e.on | false => s) 0
def sub (a b : Nat) : Bool := Nat.beq (a &&& b) a
/-- What is ready: its number, and it. -/
def rdy (A : Nat) : Nat → List Oper → List (Nat × Oper)
  | _, [] => []
  | i, o :: r => match A.testBit i, sub (pm o) A with
    | false, true => (i, o) :: rdy A (i + 1) r
    | _, _ => rdy A (i + 1) r
def ams : List T → T
  | [] => .bad
  | [t] => t
  | t :: r => .amb t (ams r)
def ancs : List Oper → List Nat → List Nat
  | [], acc => acc
  | o :: r, acc => ancs r (acc ++ [(List.range acc.length).foldl (fun s i => match (pm o).testBit i with | true => s ||| (acc.getD i 0) | false => s) (pm o)])
/-- What was read, and does not stand ahead of what was done, is read again. -/
def chks (l : Env) (u : List Nat) (anc A : Nat) : Nat → List Oper → T → T
  | _, [], t => t
  | i, o :: r, t => match o.op, o.dst with
    | .load ty x, some d => match A.testBit i, anc.testBit i, u.contains d with
      | true, false, false => match pr P (isAgg ty), pr P (sizeOf ty) with
        | some false, _ => vT l x fun a => vT l (.tmp d) fun v => .chk none a v (chks l u anc A (i + 1) r t)
        | some true, some m => vT l x fun a => vT l (.tmp d) fun v => .chk (some m) a v (chks l u anc A (i + 1) r t)
        | _, _ => .bad
      | _, _, _ => chks l u anc A (i + 1) r t
    | _, _ => chks l u anc A (i + 1) r t
def dreg (n : Nat) (ops : List Oper) (an : List Nat) : Nat → Nat → List Nat → Env → (Env → T) → T
  | 0, _, _, _, _ => .bad
  | f + 1, A, u, l, k => match (rdy A 0 ops).find? (fun p => isLt P ops an p.1 p.2) with
    | some (i, o) => dgo P n ops u l o fun u' l' => dreg n ops an f (A ||| 2 ^ i) u' l' k
    | none => match rdy A 0 ops with
      | [] => k l
      | js => ams (js.map fun p => dgo P n ops u l p.2 fun u' l' => chks P l' u' (an.getD p.1 0) A 0 ops (dreg n ops an f (A ||| 2 ^ p.1) u' l' k))
def nodupB : List Nat → Bool
  | [] => true
  | d :: r => !r.contains d && nodupB r
/-- Of a writer (number j) and a reader (number i) of one temporary one stands ahead. -/
def rwOk (an : List Nat) (i t : Nat) : Nat → List Oper → Bool
  | _, [] => true
  | j, o :: r => (match o.dst with | some d => !(Nat.beq d t) || (an.getD i 0).testBit j || (an.getD j 0).testBit i || Nat.beq i j | none => true) && rwOk an i t (j + 1) r
def readsOk (all : List Oper) (an : List Nat) : Nat → List Oper → Bool
  | _, [] => true
  | i, o :: r => (readsOf all o).all (fun t => rwOk an i t 0 all) && readsOk all an (i + 1) r
def noDef (o : Oper) : Bool := match o.op with | .defer _ => false | .select _ _ => false | _ => true
def lowB : Nat → List Oper → Bool
  | _, [] => true
  | i, o :: r => Nat.blt (pm o) (2 ^ i) && lowB (i + 1) r
def wfR (ops : List Oper) (an : List Nat) : Bool := nodupB (dsts ops) && readsOk ops an 0 ops && ops.all noDef && lowB 0 ops
/-- The temporaries that a code writes. -/
def wr : Code → List Nat
  | .region _ ops _ => dsts ops.toList
  | .seq a b => wr a ++ wr b
  | .cond _ a b => wr a ++ wr b
  | .block _ b => wr b
  | .loop b => wr b
  | _ => []
def keep (l : Env) (W : List Nat) : Env := l.filter fun p => !W.contains p.1
def keysOf (l : Env) (W : List Nat) : List Nat := ((l.map (·.1)).eraseDups).filter fun t => W.contains t
def nv : List Value → Nat → Value
  | [], _ => undef
  | v :: _, 0 => v
  | _ :: r, i + 1 => nv r i
def pairs : List Nat → Nat → List Value → Env
  | [], _, _ => []
  | t :: r, i, vs => (t, nv vs i) :: pairs r (i + 1) vs
def D (n : Nat) : Option (Nat × Obj) → Code → Env → (Env → T) → (Nat → Env → T) → (Env → T) → T
  | _, .skip, l, kN, _, _ => kN l
  | _, .region _ ops false, l, kN, _, _ => match ops.toList.all noDef with | true => dlist P n ops.toList ops.toList [] l kN | false => .bad
  | _, .region _ ops true, l, kN, _, _ => match wfR ops.toList (ancs ops.toList []) with
    | true => .dr (dreg P n ops.toList (ancs ops.toList []) (ops.toList.length + 1) 0 [] l kN)
    | false => .bad
  | cx, .seq a b, l, kN, kE, kR => D n cx a l (fun l' => D n cx b l' kN kE kR) kE kR
  | cx, .cond c a b, l, kN, kE, kR => vT l c fun v => gi v (D n cx a l kN kE kR) (D n cx b l kN kE kR)
  | cx, .block id b, l, kN, kE, kR => D n cx b l kN (fun i l' => bq i id (kN l') (kE i l')) kR
  | cx, .loop b, l, kN, kE, kR => vsT l ((keysOf l (wr b)).map .tmp) fun vs0 => .loop vs0
      (fun vs => D n cx b (pairs (keysOf l (wr b)) 0 vs ++ keep l (wr b)) (fun l' => vsT l' ((keysOf l (wr b)).map .tmp) .again) (fun i l' => vsT l' ((keysOf l (wr b)).map .tmp) (.brk i)) kR)
      (fun i vs => kE i (pairs (keysOf l (wr b)) 0 vs ++ keep l (wr b)))
  | cx, .rangeFunc g ps a b, l, kN, kE, kR => match ps.toList.all (fun t => Nat.blt t n) && nodupB ps.toList with
    | true => vT l g fun v => .rf cx v ps.size
      (fun L o1 o2 xs => D n (some (L, o2)) a (pairs ps.toList 0 xs ++ l) (fun l' => .rb L o1 o2 (D n (some (L, o2)) b l' (fun _ => .again []) (fun i _ => .brk i []) (fun _ => .ret (.tuple #[])))) (fun _ _ => .bad) (fun _ => .bad))
      (jm (kN l) (kR l) (fun i => kE i l))
    | false => .bad
  | _, .exit i, l, _, kE, _ => kE i l
  | _, .ret, l, _, _, kR => kR l
  | _, _, _, _, _, _ => .bad
def resT (l : Env) : List ResultVar → (List Value → T) → T
  | [], k => k []
  | .tmp t :: r, k => vT l (.tmp t) fun v => resT l r fun vs => k (v :: vs)
  | .cell a t :: r, k => match pr P (isAgg t), pr P (sizeOf t) with
    | some false, _ => vT l (.tmp a) fun p => .ld p fun v => resT l r fun vs => k (v :: vs)
    | some true, some m => vT l (.tmp a) fun p => .ldn m p fun v => resT l r fun vs => k (v :: vs)
    | _, _ => .bad
def outT (rs : List ResultVar) (l : Env) : T := resT P l rs fun vs => match vs with | [v] => .ret v | vs => .ret (.tuple vs.toArray)
def DF (fn : Func) (args : List Value) : T := match fn.body with
  | some c => D P fn.ntmps none c (argE 0 args) (outT P fn.results.toList) (fun _ _ => .bad) (outT P fn.results.toList)
  | none => .bad
end
end Go.Proofs.YtcbkpekbfkaeeaaDoor.Sx
