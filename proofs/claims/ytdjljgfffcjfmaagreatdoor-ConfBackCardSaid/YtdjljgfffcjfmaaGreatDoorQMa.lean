/- The steps of a walk, as plain lemmas: frames as short lists of slots, code as terms, drawn regions by what floats and what is forced. -/
import Derived.WalkKit
import Derived.Orders
import Derived.OrdersHeld
import Derived.KernelRfl
import Derived.Maps.AppendAt
import Derived.Deep.LoopGhost
import Derived.IntWalk
import Derived.ChangeSame
import Derived.WideShapes
import Derived.Deep.Slices
import Derived.DataReads
import Derived.Laws.Slices
import Derived.RangeFuncFrom
import Derived.OrdersIn
import Derived.TacticsIn
set_option linter.unusedVariables false
set_option linter.unusedSimpArgs false
namespace Go.Proofs.YtdjljgfffcjfmaaGreatDoor.Sx
open Go Go.RowKit

/-! ### frames -/
abbrev Env := List (Nat × Value)
def find : Env → Nat → Option Value
  | [], _ => none
  | (k, v) :: r, t => match Nat.beq k t with | true => some v | false => find r t
theorem find_self (d : Nat) (v : Value) (l : Env) : find ((d, v) :: l) d = some v := by simp [find]
theorem find_ne {d t : Nat} (v : Value) (l : Env) (h : d ≠ t) : find ((d, v) :: l) t = find l t := by
  show (match Nat.beq d t with | true => some v | false => find l t) = find l t
  have : Nat.beq d t = false := by
    cases hb : Nat.beq d t with
    | false => rfl
    | true => exact absurd (Nat.eq_of_beq_eq_true hb) h
  rw [this]
def ev (l : Env) : Operand → Option Value
  | .tmp t => find l t
  | .const v => some v
  | .global g => some (.pointer (some ⟨g, 0, none⟩))
  | .func f => some (.func (.func f) #[] #[])
structure Ag (a : Act) (n : Nat) (df : List Deferred) (l : Env) : Prop where
  size : a.tmps.size = n
  defs : a.defers = df
  look : ∀ t v, find l t = some v → a.tmps.getD t undef = v
def Fits (l : Env) (ρ : Operand → Value) : Prop := ∀ x v, ev l x = some v → ρ x = v
theorem Ag.fits {a : Act} {n : Nat} {df : List Deferred} {l : Env} (h : Ag a n df l) : Fits l a.eval := by
  intro x v hx
  cases x with
  | tmp t => exact h.look t v hx
  | const c => simpa [ev, Act.eval] using hx
  | global g => simpa [ev, Act.eval] using hx
  | func f => simpa [ev, Act.eval] using hx
theorem Ag.put {a : Act} {n : Nat} {df : List Deferred} {l : Env} (h : Ag a n df l) {d : Nat} (hd : d < n) (v : Value) : Ag (a.put (some d) v) n df ((d, v) :: l) := by
  refine ⟨by simpa [Act.put] using h.size, h.defs, ?_⟩
  intro t u ht
  by_cases e : d = t
  · subst e
    rw [find_self] at ht
    obtain rfl := Option.some.inj ht
    have : d < a.tmps.size := by rw [h.size]; exact hd
    simp [Act.put, this]
  · rw [find_ne v l e] at ht
    have := h.look t u ht
    simpa [Act.put, Array.getElem?_setIfInBounds_ne e] using this
def Sub : Env → Env → Prop
  | [], _ => True
  | (t, v) :: r, l => find l t = some v ∧ Sub r l
theorem Sub.look {r l : Env} (h : Sub r l) : ∀ t v, find r t = some v → find l t = some v := by
  induction r with
  | nil => intro t v h'; simp [find] at h'
  | cons p r ih =>
    obtain ⟨k, u⟩ := p
    intro t v h'
    by_cases e : k = t
    · subst e; rw [find_self] at h'; obtain rfl := Option.some.inj h'; exact h.1
    · rw [find_ne u r e] at h'; exact ih h.2 t v h'
theorem Ag.sub {a : Act} {n : Nat} {df : List Deferred} {l r : Env} (h : Ag a n df l) (hs : Sub r l) : Ag a n df r := ⟨h.size, h.defs, fun t v ht => h.look t v (hs.look t v ht)⟩
def evl (l : Env) : List Operand → Option (List Value)
  | [] => some []
  | x :: r => match ev l x, evl l r with | some v, some vs => some (v :: vs) | _, _ => none
theorem evl_fits {l : Env} {ρ : Operand → Value} (h : Fits l ρ) : ∀ {xs : List Operand} {vs : List Value}, evl l xs = some vs → xs.map ρ = vs := by
  intro xs
  induction xs with
  | nil => intro vs hv; simp [evl] at hv; subst hv; rfl
  | cons x r ih =>
    intro vs hv
    unfold evl at hv
    split at hv
    · rename_i v vs' h1 h2
      obtain rfl := Option.some.inj hv
      simp [h x v h1, ih h2]
    · cases hv
def evp (l : Env) : List (Nat × Operand) → Option (List (Nat × Value))
  | [] => some []
  | (i, x) :: r => match ev l x, evp l r with | some v, some vs => some ((i, v) :: vs) | _, _ => none
theorem evp_fits {l : Env} {ρ : Operand → Value} (h : Fits l ρ) : ∀ {xs : List (Nat × Operand)} {vs : List (Nat × Value)}, evp l xs = some vs → xs.map (fun p => (p.1, ρ p.2)) = vs := by
  intro xs
  induction xs with
  | nil => intro vs hv; simp [evp] at hv; subst hv; rfl
  | cons p r ih =>
    obtain ⟨i, x⟩ := p
    intro vs hv
    unfold evp at hv
    split at hv
    · rename_i v vs' h1 h2
      obtain rfl := Option.some.inj hv
      simp [h x v h1, ih h2]
    · cases hv

/-! ### worlds: all but the blocks of S is as it was -/
structure Fr (S : List Nat) (w w' : World) : Prop where
  os : w'.os = w.os
  tape : w'.tape = w.tape
  output : w'.output = w.output
  size : w.heap.size ≤ w'.heap.size
  keep : ∀ k, k < w.heap.size → k ∉ S → w'.heap[k]? = w.heap[k]?
theorem Fr.refl (S : List Nat) (w : World) : Fr S w w := ⟨rfl, rfl, rfl, Nat.le_refl _, fun _ _ _ => rfl⟩
theorem Fr.trans {S : List Nat} {a b c : World} (h : Fr S a b) (k : Fr S b c) : Fr S a c :=
  ⟨k.os.trans h.os, k.tape.trans h.tape, k.output.trans h.output, Nat.le_trans h.size k.size, fun i hi hs => (k.keep i (Nat.lt_of_lt_of_le hi h.size) hs).trans (h.keep i hi hs)⟩
theorem Fr.mono {S T : List Nat} {a b : World} (h : Fr S a b) (hs : ∀ x ∈ S, x ∈ T) : Fr T a b := ⟨h.os, h.tape, h.output, h.size, fun i hi ht => h.keep i hi (fun e => ht (hs i e))⟩
theorem Fr.of0 {T : List Nat} {a b : World} (h : Fr [] a b) : Fr T a b := h.mono (fun _ e => by cases e)
/-- What is written lay not in the first world. -/
theorem Fr.trans_new {S T : List Nat} {a b c : World} (h : Fr S a b) (k : Fr T b c) (hn : ∀ x ∈ T, x ∈ S ∨ a.heap.size ≤ x) : Fr S a c :=
  ⟨k.os.trans h.os, k.tape.trans h.tape, k.output.trans h.output, Nat.le_trans h.size k.size, fun i hi hs => (k.keep i (Nat.lt_of_lt_of_le hi h.size) (fun e => by rcases hn i e with h1 | h1; exact hs h1; omega)).trans (h.keep i hi hs)⟩
theorem Fr.below {a b : World} (h : Fr [] a b) : Below a.heap.size a b := ⟨h.os, h.tape, h.output, h.size, fun k hk => h.keep k hk (by simp)⟩
theorem Fr.of_below {a b : World} (h : Below a.heap.size a b) : Fr [] a b := ⟨h.os, h.tape, h.output, h.size, fun k hk _ => h.block k hk⟩
theorem Fr.cell {S : List Nat} {w w' : World} (h : Fr S w w') {ad : Addr} {v : Value} (hc : w.cell? ad = some v) (hn : ad.block ∉ S) : w'.cell? ad = some v := by
  have hlt := World.block_lt_of_cell? w ad hc
  rw [World.cell?_of_block (w := w) (h.keep _ hlt hn)]; exact hc
theorem Fr.drew (w : World) : Fr [] w { w with drawn := w.drawn + 1 } := ⟨rfl, rfl, rfl, Nat.le_refl _, fun _ _ _ => rfl⟩
/-- A block of the program's own, not frozen. -/
def Blk (w : World) (b : Nat) (T : TypeId) (l : List Value) : Prop := w.heap[b]? = some (.cells l.toArray T (0, 0))
theorem Blk.lt {w : World} {b : Nat} {T : TypeId} {l : List Value} (h : Blk w b T l) : b < w.heap.size := (Array.getElem?_eq_some_iff.1 h).1
theorem Blk.fr {S : List Nat} {w w' : World} {b : Nat} {T : TypeId} {l : List Value} (h : Blk w b T l) (k : Fr S w w') (hn : b ∉ S) : Blk w' b T l := (k.keep b h.lt hn).trans h
theorem Blk.fr0 {w w' : World} {b : Nat} {T : TypeId} {l : List Value} (h : Blk w b T l) (k : Fr [] w w') : Blk w' b T l := h.fr k (by simp)
theorem Blk.cell {w : World} {b : Nat} {T : TypeId} {l : List Value} (h : Blk w b T l) {o : Nat} {v : Value} (hv : l[o]? = some v) : w.cell? ⟨b, o, none⟩ = some v := by
  unfold World.cell?
  rw [show w.heap[(⟨b, o, none⟩ : Addr).block]? = _ from h]
  simpa using hv
theorem Blk.ne {w : World} {b b' : Nat} {T T' : TypeId} {l l' : List Value} (h : Blk w b T l) (h' : Blk w b' T' l') (hT : T ≠ T') : b ≠ b' := by
  rintro rfl
  have := Option.some.inj ((show w.heap[b]? = _ from h).symm.trans h')
  injection this with _ e _
  exact hT e
theorem Blk.inj {w : World} {b : Nat} {T T' : TypeId} {l l' : List Value} (h : Blk w b T l) (h' : Blk w b T' l') : l = l' := by
  have := Option.some.inj ((show w.heap[b]? = _ from h).symm.trans h')
  injection this with e _ _
  simpa using e
theorem Blk.alloc (w : World) (T : TypeId) (l : List Value) : Blk (w.alloc (.cells l.toArray T)) w.heap.size T l := by
  unfold Blk World.alloc
  simp
theorem Fr.alloc (w : World) (o : Obj) : Fr [] w (w.alloc o) := ⟨rfl, rfl, rfl, by simp, fun k hk _ => Below.heap_alloc _ _ _ hk⟩
theorem Fr.setCell (w : World) (b o : Nat) (v : Value) : Fr [b] w (w.setCell ⟨b, o, none⟩ v) := ⟨rfl, rfl, rfl, by simp [World.setCell], fun k hk hn => Below.heap_setCell _ _ _ _ (by simpa using hn)⟩
theorem Blk.setCell {w : World} {b : Nat} {T : TypeId} {l : List Value} (h : Blk w b T l) (o : Nat) (v : Value) : Blk (w.setCell ⟨b, o, none⟩ v) b T (l.set o v) := by
  unfold Blk World.setCell at *
  rw [Array.getElem?_modify, if_pos rfl, h]
  simp
theorem Blk.unfrozen {w : World} {b : Nat} {T : TypeId} {l : List Value} (h : Blk w b T l) (o : Nat) : w.frozen? ⟨b, o, none⟩ = false := by
  unfold World.frozen?
  rw [show w.heap[(⟨b, o, none⟩ : Addr).block]? = _ from h]
  simp

/-! ### what an operation yields -/
def Ex (P : Program) (o : Oper) (l : Env) (w : World) (v : Value) (w' : World) : Prop := ∀ ρ, Fits l ρ → (execOp ρ o).run P w = .ok (.value v) w'
/-- A store. -/
def Es (P : Program) (o : Oper) (l : Env) (w : World) (w' : World) : Prop := ∀ ρ, Fits l ρ → (execOp ρ o).run P w = .ok .skip w'
/-- A call's contract: it returns. -/
def Cl (P : Program) (f : FuncId) (args : List Value) (w : World) (R : Value → World → Prop) : Prop := Calls P f args.toArray w (fun e w' => ∃ v, e = .returned v ∧ R v w')
theorem Cl.mono {P : Program} {f : FuncId} {args : List Value} {w : World} {R R' : Value → World → Prop} (h : Cl P f args w R) (k : ∀ v w', R v w' → R' v w') : Cl P f args w R' :=
  Calls.mono h (fun e w' ⟨v, he, hr⟩ => ⟨v, he, k v w' hr⟩)
def Cx (P : Program) (o : Oper) (l : Env) (w : World) (R : Value → World → Prop) : Prop := ∀ ρ, Fits l ρ → ∃ f args, (execOp ρ o).run P w = .ok (.enter f args) w ∧ Calls P f args w (fun e w' => ∃ v, e = .returned v ∧ R v w')

/-! ### code -/
def kq (N R : Act → World → Prop) (E : Nat → Act → World → Prop) : Exit → Act → World → Prop
  | .normal => N
  | .ret => R
  | .exit i => E i
  | _ => fun _ _ => False
def CL (P : Program) (C : Code) (n : Nat) (df : List Deferred) (l : Env) (w : World) (N R : Act → World → Prop) (E : Nat → Act → World → Prop) : Prop := ∀ a, Ag a n df l → C.wp P (kq N R E) a w
def K (P : Program) (B : Code) (N R : Act → World → Prop) (E : Nat → Act → World → Prop) : Act → World → Prop := fun a w => B.wp P (kq N R E) a w
/-- A claim on the frame alone. -/
def AL (n : Nat) (df : List Deferred) (l : Env) (w : World) (N : Act → World → Prop) : Prop := ∀ a, Ag a n df l → N a w
def sL : Code → Code | .seq a _ => a | c => c
def sR : Code → Code | .seq _ b => b | c => c
def cT : Code → Code | .cond _ a _ => a | c => c
def cE : Code → Code | .cond _ _ b => b | c => c
def bB : Code → Code | .block _ b => b | .loop b => b | .scope b => b | c => c
def opsL : Code → List Oper | .region _ ops _ => ops.toList | _ => []
def bodyOf (fn : Func) : Code := match fn.body with | some c => c | none => .skip
def nth : List Oper → Nat → Option Oper
  | [], _ => none
  | o :: _, 0 => some o
  | _ :: r, i + 1 => nth r i
theorem nth_eq (l : List Oper) : ∀ i, nth l i = l[i]? := by
  induction l with
  | nil => intro i; simp [nth]
  | cons o r ih => intro i; cases i with | zero => simp [nth] | succ i => simp [nth, ih]
section
variable {P : Program} {C A B : Code} {n : Nat} {df : List Deferred} {l r : Env} {w w' : World} {N R : Act → World → Prop} {E : Nat → Act → World → Prop} {Q : Exit → Act → World → Prop}
theorem CL.sub (hs : Sub r l) (h : CL P C n df r w N R E) : CL P C n df l w N R E := fun a ha => h a (ha.sub hs)
theorem AL.sub (hs : Sub r l) (h : AL n df r w N) : AL n df l w N := fun a ha => h a (ha.sub hs)
theorem cl_seq (hs : C = .seq A B) (h : CL P A n df l w (K P B N R E) R E) : CL P C n df l w N R E := by
  subst hs
  intro a ha
  refine wp_seq (wp_mono (h a ha) ?_)
  intro e a w hq
  cases e <;> first | exact hq | exact hq.elim
theorem al_k (h : CL P B n df l w N R E) : AL n df l w (K P B N R E) := h
theorem cl_skip (hs : C = .skip) (h : AL n df l w N) : CL P C n df l w N R E := by subst hs; exact fun a ha => wp_skip (h a ha)
theorem cl_ret (hs : C = .ret) (h : AL n df l w R) : CL P C n df l w N R E := by subst hs; exact fun a ha => wp_ret (h a ha)
theorem cl_exit {i : Nat} (hs : C = .exit i) (h : AL n df l w (E i)) : CL P C n df l w N R E := by subst hs; exact fun a ha => wp_exit (h a ha)
theorem cl_cond {c : Operand} {b : Bool} (hs : C = .cond c A B) (hc : ev l c = some (.bool b)) (ht : b = true → CL P A n df l w N R E) (hf : b = false → CL P B n df l w N R E) : CL P C n df l w N R E := by
  subst hs
  intro a ha
  exact wp_cond_split (ha.fits c _ hc) (fun h => ht h a ha) (fun h => hf h a ha)
theorem cl_if1 {c : Operand} (hs : C = .cond c A B) (hc : ev l c = some (.bool true)) (h : CL P A n df l w N R E) : CL P C n df l w N R E := by
  subst hs; exact fun a ha => wp_cond_true (ha.fits c _ hc) (h a ha)
theorem cl_if0 {c : Operand} (hs : C = .cond c A B) (hc : ev l c = some (.bool false)) (h : CL P B n df l w N R E) : CL P C n df l w N R E := by
  subst hs; exact fun a ha => wp_cond_false (ha.fits c _ hc) (h a ha)
def upd (E : Nat → Act → World → Prop) (id : Nat) (N : Act → World → Prop) : Nat → Act → World → Prop := fun i => match Nat.beq i id with | true => N | false => E i
theorem cl_block {id : Nat} (hs : C = .block id B) (h : CL P B n df l w N R (upd E id N)) : CL P C n df l w N R E := by
  subst hs
  intro a ha
  refine wp_block (wp_mono (h a ha) ?_)
  intro e a w hq
  cases e with
  | exit i =>
    simp only [kq, upd] at hq
    simp only [Exit.inBlock]
    by_cases hi : i = id
    · rw [if_pos hi]; subst hi; simpa [kq] using hq
    · rw [if_neg hi]
      have : Nat.beq i id = false := by
        cases hb : Nat.beq i id with
        | false => rfl
        | true => exact absurd (Nat.eq_of_beq_eq_true hb) hi
      rw [this] at hq; exact hq
  | _ => exact hq
/-- A loop: a state, what holds of it and of the world at a round's head, a measure. -/
theorem cl_loop {σ : Type} (env : σ → Env) (J : σ → World → Prop) (μ : σ → Nat) (s0 : σ) (hs : C = .loop B) (hsub : Sub (env s0) l) (h0 : J s0 w)
    (round : ∀ s w, J s w → CL P B n df (env s) w (fun a' w' => ∃ s', μ s' < μ s ∧ Ag a' n df (env s') ∧ J s' w') R E) : CL P C n df l w N R E := by
  subst hs
  intro a ha
  refine wp_loop_ghost (fun m a w => ∃ s, μ s = m ∧ Ag a n df (env s) ∧ J s w) (μ s0) ⟨s0, rfl, ha.sub hsub, h0⟩ ?_
  rintro m a w ⟨s, rfl, hA, hJ⟩
  refine wp_mono (round s w hJ a hA) ?_
  intro e a' w' hq
  cases e with
  | normal => obtain ⟨s', hlt, hA', hJ'⟩ := hq; exact ⟨_, hlt, s', rfl, hA', hJ'⟩
  | _ => exact hq
theorem again {σ : Type} {env : σ → Env} {J : σ → World → Prop} {μ : σ → Nat} {m : Nat} (s' : σ) (hlt : μ s' < m) (hs : Sub (env s') l) (hJ : J s' w) :
    AL n df l w (fun a' w' => ∃ s', μ s' < m ∧ Ag a' n df (env s') ∧ J s' w') := fun a ha => ⟨s', hlt, ha.sub hs, hJ⟩
/-- The function's own frame. -/
def argE : Nat → List Value → Env
  | _, [] => []
  | i, v :: r => (i, v) :: argE (i + 1) r
theorem find_argE (vs : List Value) : ∀ i t v, find (argE i vs) t = some v → i ≤ t ∧ vs[t - i]? = some v := by
  induction vs with
  | nil => intro i t v h; simp [argE, find] at h
  | cons u r ih =>
    intro i t v h
    unfold argE at h
    by_cases e : i = t
    · subst e; rw [find_self] at h; simpa using h
    · rw [find_ne u _ e] at h
      obtain ⟨h1, h2⟩ := ih _ _ _ h
      exact ⟨by omega, by rw [show t - i = (t - (i + 1)) + 1 by omega]; simpa using h2⟩
theorem enter {f : FuncId} {fn : Func} {args : List Value} {RR : Value → World → Prop} (hf : P.funcs[f]? = some fn) (hb : fn.body = some C) (hn : fn.ntmps = n) (hl0 : Nat.ble args.length n = true)
    (h : CL P C n [] (argE 0 args) w (fun a w => bodyPost P fn (fun e w' => ∃ v, e = .returned v ∧ RR v w') .normal a w) (fun a w => bodyPost P fn (fun e w' => ∃ v, e = .returned v ∧ RR v w') .ret a w) (fun _ _ _ => False)) : Cl P f args w RR := by
  have hl := Nat.le_of_ble_eq_true hl0
  refine calls_of_wp hf hb ?_
  refine wp_mono (h _ ⟨by simp [hn]; omega, rfl, ?_⟩) ?_
  · intro t v ht
    obtain ⟨_, h2⟩ := find_argE args 0 t v ht
    have hlt : t < args.length := by
      rcases Nat.lt_or_ge t args.length with h' | h'
      · exact h'
      · simp [List.getElem?_eq_none h'] at h2
    simp only [Nat.sub_zero] at h2
    have h3 := (List.getElem?_eq_some_iff.1 h2).2
    simp [Array.getElem?_append, hlt, h3]
  · intro e a' w' hq
    cases e <;> first | exact hq | exact hq.elim
theorem fin0 {fn : Func} {RR : Value → World → Prop} (hr : fn.results = #[]) (h : RR (.tuple #[]) w) :
    AL n [] l w (fun a w => bodyPost P fn (fun e w' => ∃ v, e = .returned v ∧ RR v w') .ret a w) :=
  fun a ha => ⟨ha.defs, _, results_none hr _ _ _, _, rfl, h⟩
theorem fin0n {fn : Func} {RR : Value → World → Prop} (hr : fn.results = #[]) (h : RR (.tuple #[]) w) :
    AL n [] l w (fun a w => bodyPost P fn (fun e w' => ∃ v, e = .returned v ∧ RR v w') .normal a w) :=
  fun a ha => ⟨ha.defs, _, results_none hr _ _ _, _, rfl, h⟩
theorem fin1 {fn : Func} {RR : Value → World → Prop} {t : Nat} {v : Value} (hr : fn.results = #[.tmp t]) (hv : find l t = some v) (h : RR v w) :
    AL n [] l w (fun a w => bodyPost P fn (fun e w' => ∃ v, e = .returned v ∧ RR v w') .ret a w) :=
  fun a ha => ⟨ha.defs, v, by rw [results_tmp hr, ha.look t v hv], _, rfl, h⟩
theorem fin2 {fn : Func} {RR : Value → World → Prop} {t u : Nat} {v x : Value} (hr : fn.results = #[.tmp t, .tmp u]) (hv : find l t = some v) (hx : find l u = some x) (h : RR (.tuple #[v, x]) w) :
    AL n [] l w (fun a w => bodyPost P fn (fun e w' => ∃ v, e = .returned v ∧ RR v w') .ret a w) :=
  fun a ha => ⟨ha.defs, _, by rw [results_tmp2 hr, ha.look t v hv, ha.look u x hx], _, rfl, h⟩
theorem fin3 {fn : Func} {RR : Value → World → Prop} {t u s : Nat} {v x y : Value} (hr : fn.results = #[.tmp t, .tmp u, .tmp s]) (hv : find l t = some v) (hx : find l u = some x) (hy : find l s = some y) (h : RR (.tuple #[v, x, y]) w) :
    AL n [] l w (fun a w => bodyPost P fn (fun e w' => ∃ v, e = .returned v ∧ RR v w') .ret a w) :=
  fun a ha => ⟨ha.defs, .tuple #[v, x, y], by
    have h1 := ha.look t v hv
    have h2 := ha.look u x hx
    have h3 := ha.look s y hy
    rw [Array.getD_eq_getD_getElem?] at h1 h2 h3
    simp [results, hr, h1, h2, h3], _, rfl, h⟩

/-! ### a region in the text's order -/
def RL (P : Program) (C : Code) (i : Nat) (n : Nat) (df : List Deferred) (l : Env) (w : World) (N R : Act → World → Prop) (E : Nat → Act → World → Prop) : Prop :=
  ∀ a, Ag a n df l → wpList P (opsL C).toArray (kq N R E) ((opsL C).drop i) a w
theorem cl_reg {id : Nat} {ops : Array Oper} (hs : C = .region id ops false) (h : RL P C 0 n df l w N R E) : CL P C n df l w N R E := by
  subst hs
  intro a ha
  exact wp_region_list (by simpa [RL, opsL] using h a ha)
theorem drop_of_nth {L : List Oper} {i : Nat} {o : Oper} (h : nth L i = some o) : L.drop i = o :: L.drop (i + 1) := by
  rw [nth_eq] at h
  obtain ⟨hlt, he⟩ := List.getElem?_eq_some_iff.1 h
  rw [List.drop_eq_getElem_cons hlt, he]
theorem rl_end {i : Nat} (he : nth (opsL C) i = none) (h : AL n df l w N) : RL P C i n df l w N R E := by
  intro a ha
  rw [nth_eq] at he
  rw [List.drop_eq_nil_of_le (List.getElem?_eq_none_iff.1 he)]
  exact h a ha
/-- Is an operation carried out? -/
def Want (C : Code) (l : Env) (o : Oper) : Option Bool :=
  match o.guard with
  | none => some true
  | some (j, b) => match (nth (opsL C) j).bind (·.dst) with
    | none => none
    | some e => match find l e with
      | some (.bool c) => some (c == b)
      | some _ => some false
      | none => none
theorem want_spec {a : Act} {o : Oper} {c : Bool} (ha : Ag a n df l) (h : Want C l o = some c) : Region.wanted o (yielded (opsL C).toArray a.tmps) = c := by
  unfold Want at h
  unfold Region.wanted
  split at h
  · rename_i hg; rw [hg]; simpa using h
  · rename_i j b hg
    rw [hg]
    split at h
    · cases h
    · rename_i e he
      split at h
      · rename_i cc hf
        obtain rfl := Option.some.inj h
        rw [nth_eq] at he
        have h1 := ha.look e _ hf
        have h2 : a.tmps[e]? = some (.bool cc) := by
          rw [Array.getD_eq_getD_getElem?] at h1
          cases hx : a.tmps[e]? with
          | none => rw [hx] at h1; simp [undef] at h1
          | some u => rw [hx] at h1; simp at h1; rw [h1]
        simp only [yielded, List.getElem?_toArray, he, Option.bind_some, h2]
        cases cc <;> cases b <;> rfl
      · rename_i u hnb hf
        obtain rfl := Option.some.inj h
        have h1 := ha.look e _ hf
        rw [Array.getD_eq_getD_getElem?] at h1
        cases hx : a.tmps[e]? with
        | none => simp only [yielded, List.getElem?_toArray, ← nth_eq, he, Option.bind_some, hx]; rfl
        | some v =>
          rw [hx] at h1
          simp at h1
          subst h1
          simp only [yielded, List.getElem?_toArray, ← nth_eq, he, Option.bind_some, hx]
          split
          · rename_i b2 h2
            exact absurd (Option.some.inj h2) (by intro e2; exact hnb b2 e2)
          · rfl
      · cases h
theorem st {i d : Nat} {o : Oper} {v : Value} (ho : nth (opsL C) i = some o) (hw : Want C l o = some true) (hd : o.dst = some d) (hn : Nat.blt d n = true) (h : Ex P o l w v w')
    (k : RL P C (i + 1) n df ((d, v) :: l) w' N R E) : RL P C i n df l w N R E := by
  intro a ha
  rw [drop_of_nth ho]
  unfold wpList
  rw [if_pos (want_spec ha hw)]
  refine .inl ?_
  unfold Oper.wp
  rw [h _ ha.fits]
  simp only [Oper.upon, hd]
  exact k _ (ha.put (by simpa using hn) v)
theorem so {i d : Nat} {o : Oper} (ho : nth (opsL C) i = some o) (hw : Want C l o = some false) (hd : o.dst = some d) (hn : Nat.blt d n = true)
    (k : RL P C (i + 1) n df ((d, undef) :: l) w N R E) : RL P C i n df l w N R E := by
  intro a ha
  rw [drop_of_nth ho]
  unfold wpList
  rw [if_neg (by rw [want_spec ha hw]; simp)]
  rw [hd]
  exact k _ (ha.put (by simpa using hn) undef)
theorem ss {i : Nat} {o : Oper} (ho : nth (opsL C) i = some o) (hw : Want C l o = some true) (hd : o.dst = none) (h : Es P o l w w')
    (k : RL P C (i + 1) n df l w' N R E) : RL P C i n df l w N R E := by
  intro a ha
  rw [drop_of_nth ho]
  unfold wpList
  rw [if_pos (want_spec ha hw)]
  refine .inl ?_
  unfold Oper.wp
  rw [h _ ha.fits]
  simp only [Oper.upon, hd]
  exact k _ ha
theorem sc {i d : Nat} {o : Oper} {RR : Value → World → Prop} (ho : nth (opsL C) i = some o) (hw : Want C l o = some true) (hd : o.dst = some d) (hn : Nat.blt d n = true) (h : Cx P o l w RR)
    (k : ∀ v w', RR v w' → RL P C (i + 1) n df ((d, v) :: l) w' N R E) : RL P C i n df l w N R E := by
  intro a ha
  rw [drop_of_nth ho]
  unfold wpList
  rw [if_pos (want_spec ha hw)]
  refine .inl ?_
  obtain ⟨f, args, he, hc⟩ := h _ ha.fits
  unfold Oper.wp
  rw [he]
  simp only [Oper.upon]
  refine Calls.mono hc ?_
  rintro e w' ⟨v, rfl, hr⟩
  rw [hd]
  exact k v w' hr _ (ha.put (by simpa using hn) v)

/-! ### a region that draws its order -/
/-- Whatever order is picked, and T of what is listed holds behind every operation. -/
def XA (P : Program) (ops : Array Oper) (Q : Exit → Act → World → Prop) (T : Array Bool → World → Prop) : Nat → Array Bool → Act → World → Prop
  | 0, L, a, w => Region.ready .any ops L = [] ∧ Q .normal a w
  | f + 1, L, a, w => (Region.ready .any ops L = [] → Q .normal a w) ∧
    ∀ i ∈ Region.ready .any ops L, wpOp P ops Q i (fun a' w' => T (L.setIfInBounds i true) w' ∧ XA P ops Q T f (L.setIfInBounds i true) a' w') a w
theorem wpAny_of_XA {ops : Array Oper} {T : Array Bool → World → Prop} : ∀ (f : Nat) (L : Array Bool) (a : Act) (w : World), XA P ops Q T f L a w → wpAny P .any ops Q f L a w
  | 0, _, _, _, h => h
  | f + 1, _, _, _, h => ⟨h.1, fun i hi => wpOp_mono (fun a' w' h' => wpAny_of_XA f _ a' w' h'.2) (h.2 i hi)⟩
theorem XA_first {ops : Array Oper} {T : Array Bool → World → Prop} {S : World → Prop} {G : Array Bool → Prop} {i : Nat} {oi : Oper} {v : Value} (hi : ops[i]? = some oi) (hsel : ∀ (j : Nat) (o : Oper) cs b, ops[j]? = some o → o.op ≠ .select cs b)
    (hQ : ∀ c a w, Q (.panic c) (a.put oi.dst v) w → Q (.panic c) a w) (hG : ∀ L j, G L → L.getD i true = false → j ∈ Region.ready .any ops L → j ≠ i → G (L.setIfInBounds j true)) (hS : ∀ L w, G L → T L w → S w)
    (hTi : ∀ L w, T (L.setIfInBounds i true) w ↔ T L w) :
    ∀ (f : Nat) (L : Array Bool) (a : Act) (w : World),
      (∀ j oj, ops[j]? = some oj → j ≠ i → L.getD j true = false → (∀ e ∈ oj.after, Region.binds .any e = true → e.on ≠ i) → oi.apart ops oj = true) →
      i ∈ Region.ready .any ops L → YieldsIf P ops S oi v a → G L → T L w → XA P ops Q T f (L.setIfInBounds i true) (a.put oi.dst v) w → XA P ops Q T (f + 1) L a w := by
  intro f
  induction f with
  | zero =>
    intro L a w _ hr hy hg ht H
    refine ⟨fun h => (by rw [h] at hr; cases hr), fun j hj => ?_⟩
    by_cases hji : j = i
    · subst hji; exact hy.wpOp hi (hS _ _ hg ht) ⟨(hTi L w).2 ht, H⟩
    · have := ready_mono hj hji
      rw [H.1] at this
      cases this
  | succ f ih =>
    intro L a w hfree hr hy hg ht H
    refine ⟨fun h => (by rw [h] at hr; cases hr), fun j hj => ?_⟩
    by_cases hji : j = i
    · subst hji; exact hy.wpOp hi (hS _ _ hg ht) ⟨(hTi L w).2 ht, H⟩
    · have h1 := H.2 j (ready_mono hj hji)
      obtain ⟨hjun, oj, hoj, hall⟩ := mem_ready.1 hj
      have hiun := (mem_ready.1 hr).1
      have hnot : ∀ e ∈ oj.after, Region.binds .any e = true → e.on ≠ i := fun e he hb heq => by
        have h1 := hall e he hb
        rw [heq] at h1
        rcases Nat.lt_or_ge i L.size with h' | h'
        · simp [h'] at hiun h1; rw [hiun] at h1; cases h1
        · simp [Array.getElem?_eq_none h'] at h1
      have h2 := wpOp_putIf hoj (hfree j oj hoj hji hjun hnot) (fun cs b => hsel i oi cs b hi) (fun cs b => hsel j oj cs b hoj) hQ hy h1
      have hfree' : ∀ k ok, ops[k]? = some ok → k ≠ i → (L.setIfInBounds j true).getD k true = false →
          (∀ e ∈ ok.after, Region.binds .any e = true → e.on ≠ i) → oi.apart ops ok = true := fun k ok hk hki hun hno => by
        refine hfree k ok hk hki ?_ hno
        by_cases hjk : j = k
        · subst hjk; exact hjun
        · rw [getD_set_ne true hjk] at hun; exact hun
      refine wpOp_mono (fun a' w' h3 => ?_) h2
      obtain ⟨hy', ht', hx'⟩ := h3
      have ht2 : T (L.setIfInBounds j true) w' := by
        rw [Array.setIfInBounds_comm _ _ (Ne.symm hji)] at ht'
        exact (hTi _ _).1 ht'
      refine ⟨ht2, ih (L.setIfInBounds j true) a' w' hfree' (ready_mono hr (Ne.symm hji)) hy' (hG L j hg hiun hj hji) ht2 ?_⟩
      rw [Array.setIfInBounds_comm _ _ hji]
      exact hx'
/-- No operation of the tail is listed. -/
def noTail (tl : List Nat) (L : Array Bool) : Bool := tl.all fun j => !(L.getD j false)
def TT (tl : List Nat) (U : World → Prop) (L : Array Bool) (w : World) : Prop := noTail tl L = true → U w
theorem noTail_set {tl : List Nat} {i : Nat} (h : tl.contains i = false) (L : Array Bool) : noTail tl (L.setIfInBounds i true) = noTail tl L := by
  unfold noTail
  induction tl with
  | nil => rfl
  | cons t r ih =>
    simp only [List.contains_cons, Bool.or_eq_false_iff] at h
    have hne : i ≠ t := by simpa using h.1
    simp only [List.all_cons]
    rw [ih h.2]
    simp [Array.getElem?_setIfInBounds_ne hne]
def mkL (n : Nat) : List Nat → Array Bool
  | [] => Array.replicate n false
  | i :: D => (mkL n D).setIfInBounds i true
/-- Every operation of the tail waits for number i. -/
def tailWaits (ops : Array Oper) (tl : List Nat) (i : Nat) : Bool := tl.all fun j => match ops[j]? with | some o => o.after.any (fun e => Region.binds .any e && e.on == i) | none => true
def DL (P : Program) (C : Code) (tl : List Nat) (U : World → Prop) (f : Nat) (D : List Nat) (n : Nat) (df : List Deferred) (l : Env) (w : World) (N R : Act → World → Prop) (E : Nat → Act → World → Prop) : Prop :=
  TT tl U (mkL (opsL C).length D) w → ∀ a, Ag a n df l → XA P (opsL C).toArray (kq N R E) (TT tl U) f (mkL (opsL C).length D) a w
def okTake (C : Code) (tl : List Nat) (D : List Nat) (i : Nat) : Bool :=
  Region.noSelect (opsL C).toArray && Region.free .any (opsL C).toArray (mkL (opsL C).length D) i && (Region.ready .any (opsL C).toArray (mkL (opsL C).length D)).contains i && !tl.contains i
def okLoad (C : Code) (tl : List Nat) (D : List Nat) (i : Nat) : Bool := noTail tl (mkL (opsL C).length D) && tailWaits (opsL C).toArray tl i
theorem kq_panic (N R : Act → World → Prop) (E : Nat → Act → World → Prop) (dst : Option Tmp) (v : Value) : ∀ c a w, kq N R E (.panic c) (Act.put a dst v) w → kq N R E (.panic c) a w := fun _ _ _ h => h
/-- An operation that yields in whatever world. -/
theorem dt {tl D : List Nat} {U : World → Prop} {f i d : Nat} {o : Oper} {v : Value} (ho : nth (opsL C) i = some o) (hw : Want C l o = some true) (hd : o.dst = some d) (hn : Nat.blt d n = true)
    (hst : okTake C tl D i = true) (h : ∀ w', Ex P o l w' v w') (k : DL P C tl U f (i :: D) n df ((d, v) :: l) w N R E) : DL P C tl U (f + 1) D n df l w N R E := by
  intro ht a ha
  unfold okTake at hst
  simp only [Bool.and_eq_true, Bool.not_eq_true'] at hst
  obtain ⟨⟨⟨h1, h2⟩, h3⟩, h4⟩ := hst
  have ho' : (opsL C).toArray[i]? = some o := by rw [List.getElem?_toArray, ← nth_eq]; exact ho
  have hTi : ∀ L w, TT tl U (L.setIfInBounds i true) w ↔ TT tl U L w := fun L w => by unfold TT; rw [noTail_set h4]
  refine XA_first (S := fun _ => True) (G := fun _ => True) (v := v) ho' (Region.noSelect_spec h1) (kq_panic N R E _ _) (fun _ _ _ _ _ _ => trivial) (fun _ _ _ _ => trivial) hTi f _ a w (Region.free_spec ho' h2) (by simpa using h3)
    (.inl ⟨want_spec ha hw, fun w' _ => h w' _ ha.fits⟩) trivial ht ?_
  have := k ((hTi _ _).2 ht) _ (ha.put (by simpa using hn) v)
  rw [hd]
  exact this
theorem dz {tl D : List Nat} {U : World → Prop} {f i d : Nat} {o : Oper} (ho : nth (opsL C) i = some o) (hw : Want C l o = some false) (hd : o.dst = some d) (hn : Nat.blt d n = true)
    (hst : okTake C tl D i = true) (k : DL P C tl U f (i :: D) n df ((d, undef) :: l) w N R E) : DL P C tl U (f + 1) D n df l w N R E := by
  intro ht a ha
  unfold okTake at hst
  simp only [Bool.and_eq_true, Bool.not_eq_true'] at hst
  obtain ⟨⟨⟨h1, h2⟩, h3⟩, h4⟩ := hst
  have ho' : (opsL C).toArray[i]? = some o := by rw [List.getElem?_toArray, ← nth_eq]; exact ho
  have hTi : ∀ L w, TT tl U (L.setIfInBounds i true) w ↔ TT tl U L w := fun L w => by unfold TT; rw [noTail_set h4]
  refine XA_first (S := fun _ => True) (G := fun _ => True) (v := undef) ho' (Region.noSelect_spec h1) (kq_panic N R E _ _) (fun _ _ _ _ _ _ => trivial) (fun _ _ _ _ => trivial) hTi f _ a w (Region.free_spec ho' h2) (by simpa using h3)
    (.inr ⟨want_spec ha hw, rfl⟩) trivial ht ?_
  have := k ((hTi _ _).2 ht) _ (ha.put (by simpa using hn) undef)
  rw [hd]
  exact this
/-- An operation that yields in every world that meets U. -/
theorem dl {tl D : List Nat} {U : World → Prop} {f i d : Nat} {o : Oper} {v : Value} (ho : nth (opsL C) i = some o) (hw : Want C l o = some true) (hd : o.dst = some d) (hn : Nat.blt d n = true)
    (hst : okTake C tl D i = true) (hld : okLoad C tl D i = true) (h : ∀ w', U w' → Ex P o l w' v w') (k : DL P C tl U f (i :: D) n df ((d, v) :: l) w N R E) : DL P C tl U (f + 1) D n df l w N R E := by
  intro ht a ha
  unfold okTake at hst
  unfold okLoad at hld
  simp only [Bool.and_eq_true, Bool.not_eq_true'] at hst hld
  obtain ⟨⟨⟨h1, h2⟩, h3⟩, h4⟩ := hst
  have ho' : (opsL C).toArray[i]? = some o := by rw [List.getElem?_toArray, ← nth_eq]; exact ho
  have hTi : ∀ L w, TT tl U (L.setIfInBounds i true) w ↔ TT tl U L w := fun L w => by unfold TT; rw [noTail_set h4]
  have hG : ∀ L j, noTail tl L = true → L.getD i true = false → j ∈ Region.ready .any (opsL C).toArray L → j ≠ i → noTail tl (L.setIfInBounds j true) = true := by
    intro L j hL hiun hj hji
    have hjt : tl.contains j = false := by
      cases hc : tl.contains j with
      | false => rfl
      | true =>
        exfalso
        obtain ⟨_, oj, hoj, hall⟩ := mem_ready.1 hj
        have h5 := hld.2
        unfold tailWaits at h5
        rw [List.all_eq_true] at h5
        have h6 := h5 j (by simpa using hc)
        rw [hoj] at h6
        obtain ⟨e, he, hb⟩ := Array.any_eq_true'.1 h6
        simp only [Bool.and_eq_true, beq_iff_eq] at hb
        have h7 := hall e he hb.1
        rw [hb.2] at h7
        rcases Nat.lt_or_ge i L.size with h' | h'
        · simp [h'] at hiun h7; rw [hiun] at h7; cases h7
        · simp [Array.getElem?_eq_none h'] at h7
    rw [noTail_set hjt]; exact hL
  refine XA_first (S := U) (G := fun L => noTail tl L = true) (v := v) ho' (Region.noSelect_spec h1) (kq_panic N R E _ _) hG (fun L w hg ht => ht hg) hTi f _ a w (Region.free_spec ho' h2) (by simpa using h3)
    (.inl ⟨want_spec ha hw, fun w' hU => h w' hU _ ha.fits⟩) hld.1 ht ?_
  have := k ((hTi _ _).2 ht) _ (ha.put (by simpa using hn) v)
  rw [hd]
  exact this
theorem XA_one {ops : Array Oper} {T : Array Bool → World → Prop} {f i : Nat} {L : Array Bool} {a : Act} (hr : Region.ready .any ops L = [i])
    (h : wpOp P ops Q i (fun a' w' => T (L.setIfInBounds i true) w' ∧ XA P ops Q T f (L.setIfInBounds i true) a' w') a w) : XA P ops Q T (f + 1) L a w :=
  ⟨fun h0 => (by rw [hr] at h0; cases h0), fun j hj => by rw [hr] at hj; simp at hj; subst hj; exact h⟩
theorem XA_two {ops : Array Oper} {T : Array Bool → World → Prop} {f i j : Nat} {L : Array Bool} {a : Act} (hr : Region.ready .any ops L = [i, j])
    (h : wpOp P ops Q i (fun a' w' => T (L.setIfInBounds i true) w' ∧ XA P ops Q T f (L.setIfInBounds i true) a' w') a w)
    (h' : wpOp P ops Q j (fun a' w' => T (L.setIfInBounds j true) w' ∧ XA P ops Q T f (L.setIfInBounds j true) a' w') a w) : XA P ops Q T (f + 1) L a w :=
  ⟨fun h0 => (by rw [hr] at h0; cases h0), fun k hk => by rw [hr] at hk; simp at hk; rcases hk with rfl | rfl; exact h; exact h'⟩
/-- What one operation that is carried out leaves: for dv, ds, dc and for a branch. -/
def OL (P : Program) (C : Code) (tl : List Nat) (U : World → Prop) (f : Nat) (D : List Nat) (i : Nat) (n : Nat) (df : List Deferred) (l : Env) (w : World) (N R : Act → World → Prop) (E : Nat → Act → World → Prop) : Prop :=
  ∀ a, Ag a n df l → wpOp P (opsL C).toArray (kq N R E) i (fun a' w' => TT tl U (mkL (opsL C).length (i :: D)) w' ∧ XA P (opsL C).toArray (kq N R E) (TT tl U) f (mkL (opsL C).length (i :: D)) a' w') a w
theorem d1 {tl D : List Nat} {U : World → Prop} {f i : Nat} (hr : Region.ready .any (opsL C).toArray (mkL (opsL C).length D) = [i]) (h : OL P C tl U f D i n df l w N R E) : DL P C tl U (f + 1) D n df l w N R E :=
  fun _ a ha => XA_one hr (h a ha)
theorem d2 {tl D : List Nat} {U : World → Prop} {f i j : Nat} (hr : Region.ready .any (opsL C).toArray (mkL (opsL C).length D) = [i, j]) (h : OL P C tl U f D i n df l w N R E) (h' : OL P C tl U f D j n df l w N R E) : DL P C tl U (f + 1) D n df l w N R E :=
  fun _ a ha => XA_two hr (h a ha) (h' a ha)
theorem ov {tl D : List Nat} {U : World → Prop} {f i d : Nat} {o : Oper} {v : Value} (ho : nth (opsL C) i = some o) (hw : Want C l o = some true) (hd : o.dst = some d) (hn : Nat.blt d n = true) (h : Ex P o l w v w')
    (hT : noTail tl (mkL (opsL C).length (i :: D)) = false ∨ U w') (k : DL P C tl U f (i :: D) n df ((d, v) :: l) w' N R E) : OL P C tl U f D i n df l w N R E := by
  intro a ha
  have ho' : (opsL C).toArray[i]? = some o := by rw [List.getElem?_toArray, ← nth_eq]; exact ho
  have hTT : TT tl U (mkL (opsL C).length (i :: D)) w' := fun hx => by rcases hT with h1 | h1; rw [h1] at hx; cases hx; exact h1
  unfold wpOp
  simp only [ho']
  rw [if_pos (want_spec ha hw)]
  refine .inl ?_
  unfold Oper.wp
  rw [h _ ha.fits]
  simp only [Oper.upon, hd]
  exact ⟨hTT, k hTT _ (ha.put (by simpa using hn) v)⟩
theorem os {tl D : List Nat} {U : World → Prop} {f i : Nat} {o : Oper} (ho : nth (opsL C) i = some o) (hw : Want C l o = some true) (hd : o.dst = none) (h : Es P o l w w')
    (hT : noTail tl (mkL (opsL C).length (i :: D)) = false ∨ U w') (k : DL P C tl U f (i :: D) n df l w' N R E) : OL P C tl U f D i n df l w N R E := by
  intro a ha
  have ho' : (opsL C).toArray[i]? = some o := by rw [List.getElem?_toArray, ← nth_eq]; exact ho
  have hTT : TT tl U (mkL (opsL C).length (i :: D)) w' := fun hx => by rcases hT with h1 | h1; rw [h1] at hx; cases hx; exact h1
  unfold wpOp
  simp only [ho']
  rw [if_pos (want_spec ha hw)]
  refine .inl ?_
  unfold Oper.wp
  rw [h _ ha.fits]
  simp only [Oper.upon, hd]
  exact ⟨hTT, k hTT _ ha⟩
theorem oc {tl D : List Nat} {U : World → Prop} {f i d : Nat} {o : Oper} {RR : Value → World → Prop} (ho : nth (opsL C) i = some o) (hw : Want C l o = some true) (hd : o.dst = some d) (hn : Nat.blt d n = true) (h : Cx P o l w RR)
    (k : ∀ v w', RR v w' → (noTail tl (mkL (opsL C).length (i :: D)) = false ∨ U w') ∧ DL P C tl U f (i :: D) n df ((d, v) :: l) w' N R E) : OL P C tl U f D i n df l w N R E := by
  intro a ha
  have ho' : (opsL C).toArray[i]? = some o := by rw [List.getElem?_toArray, ← nth_eq]; exact ho
  unfold wpOp
  simp only [ho']
  rw [if_pos (want_spec ha hw)]
  refine .inl ?_
  obtain ⟨g, args, he, hc⟩ := h _ ha.fits
  unfold Oper.wp
  rw [he]
  simp only [Oper.upon]
  refine Calls.mono hc ?_
  rintro e w' ⟨v, rfl, hr⟩
  obtain ⟨hT, k'⟩ := k v w' hr
  have hTT : TT tl U (mkL (opsL C).length (i :: D)) w' := fun hx => by rcases hT with h1 | h1; rw [h1] at hx; cases hx; exact h1
  rw [hd]
  exact ⟨hTT, k' hTT _ (ha.put (by simpa using hn) v)⟩
theorem dn {tl D : List Nat} {U : World → Prop} {f : Nat} (hr : Region.ready .any (opsL C).toArray (mkL (opsL C).length D) = []) (h : AL n df l w N) : DL P C tl U f D n df l w N R E := by
  intro _ a ha
  cases f with
  | zero => exact ⟨hr, h a ha⟩
  | succ f => exact ⟨fun _ => h a ha, fun j hj => by rw [hr] at hj; cases hj⟩
theorem cl_draw {id : Nat} {ops : Array Oper} (hm : P.follows .mixedOrders = true) (hs : C = .region id ops true) (tl : List Nat) (U : World → Prop)
    (h : ∀ w', Fr [] w w' → w'.heap = w.heap → U w' ∧ DL P C tl U (opsL C).length [] n df l w' N R E) : CL P C n df l w N R E := by
  subst hs
  intro a ha
  obtain ⟨hU, hd⟩ := h { w with drawn := w.drawn + 1 } (Fr.drew w) rfl
  refine wp_region_any hm (wpAny_of_XA (T := TT tl U) _ _ _ _ ?_)
  have := hd (fun _ => hU) a ha
  simpa [opsL, mkL] using this
end
end Go.Proofs.YtdjljgfffcjfmaaGreatDoor.Sx

/- What each operation of a walk yields, as plain lemmas. -/
set_option linter.unusedVariables false
set_option linter.unusedSimpArgs false
namespace Go.Proofs.YtdjljgfffcjfmaaGreatDoor.Sx
open Go Go.RowKit
section
variable {P : Program} {l : Env} {w w' : World} {d : Option Tmp} {ty t : TypeId} {pos : String} {af : Array Edge} {g : Option (Nat × Bool)}
theorem x_move {x : Operand} {v : Value} (hx : ev l x = some v) : Ex P ⟨d, .move x, ty, pos, af, g⟩ l w v w := fun ρ h => by simp [execOp, h x v hx]
theorem x_asg {x : Operand} {v : Value} (hx : ev l x = some v) : Ex P ⟨d, .assign x, ty, pos, af, g⟩ l w v w := fun ρ h => by simp [execOp, h x v hx]
theorem x_pick1 {c x y : Operand} {v : Value} (hc : ev l c = some (.bool true)) (hx : ev l x = some v) : Ex P ⟨d, .pick c x y, ty, pos, af, g⟩ l w v w := fun ρ h => by simp [execOp, h c _ hc, h x v hx, asBool]
theorem x_pick0 {c x y : Operand} {v : Value} (hc : ev l c = some (.bool false)) (hx : ev l y = some v) : Ex P ⟨d, .pick c x y, ty, pos, af, g⟩ l w v w := fun ρ h => by simp [execOp, h c _ hc, h y v hx, asBool]
theorem x_pick {c x y : Operand} {b : Bool} {u v : Value} (hc : ev l c = some (.bool b)) (hx : ev l x = some u) (hy : ev l y = some v) : Ex P ⟨d, .pick c x y, ty, pos, af, g⟩ l w (if b then u else v) w := fun ρ h => by simp [execOp, h c _ hc, h x u hx, h y v hy, asBool]
theorem x_not {x : Operand} {b : Bool} (hx : ev l x = some (.bool b)) : Ex P ⟨d, .unOp .not t x, ty, pos, af, g⟩ l w (.bool (!b)) w := fun ρ h => by simp [execOp, h x _ hx, Op.unary]
theorem x_not1 {x : Operand} (hx : ev l x = some (.bool true)) : Ex P ⟨d, .unOp .not t x, ty, pos, af, g⟩ l w (.bool false) w := x_not hx
theorem x_not0 {x : Operand} (hx : ev l x = some (.bool false)) : Ex P ⟨d, .unOp .not t x, ty, pos, af, g⟩ l w (.bool true) w := x_not hx
theorem x_nil {x : Operand} {a : Addr} (hx : ev l x = some (.pointer (some a))) : Ex P ⟨d, .nilCheck x, ty, pos, af, g⟩ l w (.pointer (some a)) w := fun ρ h => by simp [execOp, h x _ hx]
theorem x_nilf {x : Operand} {f : FuncId} {p c : Array Value} (hx : ev l x = some (.func (.func f) p c)) : Ex P ⟨d, .nilCheck x, ty, pos, af, g⟩ l w (.func (.func f) p c) w := fun ρ h => by simp [execOp, h x _ hx]
section
variable {x y : Operand} {k : IntKind} {a b : Int} {ty2 : TypeId}
theorem x_lss (hx : ev l x = some (.int k a)) (hy : ev l y = some (.int k b)) : Ex P ⟨d, .binOp .lss t x y ty2, ty, pos, af, g⟩ l w (.bool (decide (a < b))) w := fun ρ h => by simp [execOp, h x _ hx, h y _ hy, binOp_lss, eqGuard]
theorem x_leq (hx : ev l x = some (.int k a)) (hy : ev l y = some (.int k b)) : Ex P ⟨d, .binOp .leq t x y ty2, ty, pos, af, g⟩ l w (.bool (decide (a ≤ b))) w := fun ρ h => by simp [execOp, h x _ hx, h y _ hy, binOp_leq, eqGuard]
theorem x_gtr (hx : ev l x = some (.int k a)) (hy : ev l y = some (.int k b)) : Ex P ⟨d, .binOp .gtr t x y ty2, ty, pos, af, g⟩ l w (.bool (decide (b < a))) w := fun ρ h => by simp [execOp, h x _ hx, h y _ hy, binOp_gtr, eqGuard]
theorem x_geq (hx : ev l x = some (.int k a)) (hy : ev l y = some (.int k b)) : Ex P ⟨d, .binOp .geq t x y ty2, ty, pos, af, g⟩ l w (.bool (decide (b ≤ a))) w := fun ρ h => by simp [execOp, h x _ hx, h y _ hy, binOp_geq, eqGuard]
theorem x_eql (hx : ev l x = some (.int k a)) (hy : ev l y = some (.int k b)) : Ex P ⟨d, .binOp .eql t x y ty2, ty, pos, af, g⟩ l w (.bool (decide (a = b))) w := fun ρ h => by
  simp [execOp, h x _ hx, h y _ hy, binOp_eql, eqGuard_at_int]
  rw [Bool.eq_iff_iff]; simp
theorem x_neq (hx : ev l x = some (.int k a)) (hy : ev l y = some (.int k b)) : Ex P ⟨d, .binOp .neq t x y ty2, ty, pos, af, g⟩ l w (.bool (decide (¬ a = b))) w := fun ρ h => by
  simp [execOp, h x _ hx, h y _ hy, binOp_neq, eqGuard_at_int]
  rw [Bool.eq_iff_iff]; simp
theorem x_add (hx : ev l x = some (.int .i64 a)) (hy : ev l y = some (.int .i64 b)) (hb : -9223372036854775808 ≤ a + b ∧ a + b ≤ 9223372036854775807) : Ex P ⟨d, .binOp .add t x y ty2, ty, pos, af, g⟩ l w (.int .i64 (a + b)) w := fun ρ h => by
  have e : IntKind.i64.wrap (a + b) = a + b := by rw [IntKind.wrap_i64]; omega
  simp [execOp, h x _ hx, h y _ hy, binOp_add, eqGuard_at_int, Op.intArith, e]
theorem x_sub (hx : ev l x = some (.int .i64 a)) (hy : ev l y = some (.int .i64 b)) (hb : -9223372036854775808 ≤ a - b ∧ a - b ≤ 9223372036854775807) : Ex P ⟨d, .binOp .sub t x y ty2, ty, pos, af, g⟩ l w (.int .i64 (a - b)) w := fun ρ h => by
  have e : IntKind.i64.wrap (a - b) = a - b := by rw [IntKind.wrap_i64]; omega
  simp [execOp, h x _ hx, h y _ hy, binOp_sub, eqGuard_at_int, Op.intArith, e]
theorem x_mul (hx : ev l x = some (.int .i64 a)) (hy : ev l y = some (.int .i64 b)) (hb : -9223372036854775808 ≤ a * b ∧ a * b ≤ 9223372036854775807) : Ex P ⟨d, .binOp .mul t x y ty2, ty, pos, af, g⟩ l w (.int .i64 (a * b)) w := fun ρ h => by
  have e : IntKind.i64.wrap (a * b) = a * b := by rw [IntKind.wrap_i64]; omega
  simp [execOp, h x _ hx, h y _ hy, binOp_mul, eqGuard_at_int, Op.intArith, e]
theorem x_addw (hx : ev l x = some (.int k a)) (hy : ev l y = some (.int k b)) : Ex P ⟨d, .binOp .add t x y ty2, ty, pos, af, g⟩ l w (.int k (k.wrap (a + b))) w := fun ρ h => by simp [execOp, h x _ hx, h y _ hy, binOp_add, eqGuard_at_int, Op.intArith]
theorem x_subw (hx : ev l x = some (.int k a)) (hy : ev l y = some (.int k b)) : Ex P ⟨d, .binOp .sub t x y ty2, ty, pos, af, g⟩ l w (.int k (k.wrap (a - b))) w := fun ρ h => by simp [execOp, h x _ hx, h y _ hy, binOp_sub, eqGuard_at_int, Op.intArith]
theorem x_eqlb {p q : Bool} (hx : ev l x = some (.bool p)) (hy : ev l y = some (.bool q)) (ht : P.underlying t = some .bool) : Ex P ⟨d, .binOp .eql t x y ty2, ty, pos, af, g⟩ l w (.bool (p == q)) w := fun ρ h => by
  simp [execOp, h x _ hx, h y _ hy, eqGuard_at_bool, run_eql_bool w t p q ht]
theorem x_neqb {p q : Bool} (hx : ev l x = some (.bool p)) (hy : ev l y = some (.bool q)) (ht : P.underlying t = some .bool) : Ex P ⟨d, .binOp .neq t x y ty2, ty, pos, af, g⟩ l w (.bool (p != q)) w := fun ρ h => by
  simp only [execOp, h x _ hx, h y _ hy, eqGuard_at_bool, run_neq_bool w t p q ht, Sem.run_bind, Sem.run_pure, Result.andThen_ok]
  cases p <;> cases q <;> rfl
theorem x_eqlp {p : Option Addr} (hx : ev l x = some (.pointer p)) (hy : ev l y = some (.pointer none)) (ht : P.underlying t = some (.pointer (P.pointee t))) : Ex P ⟨d, .binOp .eql t x y ty2, ty, pos, af, g⟩ l w (.bool p.isNone) w := fun ρ h => by
  simp [execOp, h x _ hx, h y _ hy, eqGuard_at_pointer, run_eql_pointer_nil w t p ht]
theorem x_neqp {p : Option Addr} (hx : ev l x = some (.pointer p)) (hy : ev l y = some (.pointer none)) (ht : P.underlying t = some (.pointer (P.pointee t))) : Ex P ⟨d, .binOp .neq t x y ty2, ty, pos, af, g⟩ l w (.bool p.isSome) w := fun ρ h => by
  simp [execOp, h x _ hx, h y _ hy, eqGuard_at_pointer, run_neq_pointer_nil w t p ht]
end
/-- A Bool that a fact decides. -/
theorem Ex.b1 {o : Oper} {p : Prop} [Decidable p] (h : Ex P o l w (.bool (decide p)) w') (hp : p) : Ex P o l w (.bool true) w' := by rwa [decide_eq_true hp] at h
theorem Ex.b0 {o : Oper} {p : Prop} [Decidable p] (h : Ex P o l w (.bool (decide p)) w') (hp : ¬ p) : Ex P o l w (.bool false) w' := by rwa [decide_eq_false hp] at h
theorem Ex.of {o : Oper} {v v' : Value} (h : Ex P o l w v w') (e : v = v') : Ex P o l w v' w' := e ▸ h

/-- '==' and '!=' of structs, by a law of the type's own. -/
theorem x_eqs {x y : Operand} {ty2 : TypeId} {op : BinOp} {cs ds : Array Value} {v : Value} (hx : ev l x = some (.agg cs)) (hy : ev l y = some (.agg ds)) (hg : (eqGuard op t x y (.agg cs) (.agg ds)).run P w = .ok () w) (hb : (binOp op t (.agg cs) (.agg ds)).run P w = .ok v w) : Ex P ⟨d, .binOp op t x y ty2, ty, pos, af, g⟩ l w v w := fun ρ h => by
  simp only [execOp, h x _ hx, h y _ hy, hg, hb, Sem.run_bind, Sem.run_pure, Result.andThen_ok]
/-! ### memory -/
theorem addr_add (b o n : Nat) : (⟨b, o, none⟩ : Addr).add n = ⟨b, o + n, none⟩ := by unfold Addr.add; split <;> simp_all
theorem x_fa {x : Operand} {i b o s : Nat} {fs : Array Field} {F : Field} (hx : ev l x = some (.pointer (some ⟨b, o, none⟩))) (hu : P.underlying t = some (.struct fs)) (hf : fs[i]? = some F) (hs : ∀ w, (sizeOf F.type).run P w = .ok (s + 1) w) (off : Nat) (ho : F.offset = off) :
    Ex P ⟨d, .fieldAddr t x i, ty, pos, af, g⟩ l w (.pointer (some ⟨b, o + off, none⟩)) w := fun ρ h => by
  subst ho
  simp [execOp, h x _ hx, Instr.fieldAt, run_underlying hu, hf, Instr.sureAddr, fieldPlace, hs, addr_add]
theorem x_ia {x i : Operand} {b o len cap sz : Nat} {k : IntKind} {j : Int} {e : TypeId} (hx : ev l x = some (.slice (some ⟨b, o, none⟩) len cap)) (hi : ev l i = some (.int k j)) (hu : P.underlying t = some (.slice e)) (hs : ∀ w, (sizeOf e).run P w = .ok sz w) (hj : 0 ≤ j ∧ j < len) :
    Ex P ⟨d, .indexAddr t x i, ty, pos, af, g⟩ l w (.pointer (some ⟨b, o + j.toNat * sz, none⟩)) w := fun ρ h => by
  simp [execOp, h x _ hx, h i _ hi, Instr.indexAt, asIntOf, run_underlying hu, hs, addr_add, hj]
theorem x_ia0 {x i : Operand} {b len cap sz : Nat} {k : IntKind} {j : Int} {e : TypeId} (hx : ev l x = some (.slice (some ⟨b, 0, none⟩) len cap)) (hi : ev l i = some (.int k j)) (hu : P.underlying t = some (.slice e)) (hs : ∀ w, (sizeOf e).run P w = .ok sz w) (hj : 0 ≤ j ∧ j < len) :
    Ex P ⟨d, .indexAddr t x i, ty, pos, af, g⟩ l w (.pointer (some ⟨b, j.toNat * sz, none⟩)) w := by
  have := x_ia (w := w) (d := d) (ty := ty) (pos := pos) (af := af) (g := g) hx hi hu hs hj
  rwa [Nat.zero_add] at this
/-- An element of an array that lies in memory. -/
theorem x_iaa {x i : Operand} {b o len sz : Nat} {k : IntKind} {j : Int} {e : TypeId} (hx : ev l x = some (.pointer (some ⟨b, o, none⟩))) (hi : ev l i = some (.int k j)) (hu : P.underlying t = some (.array len e)) (hs : ∀ w, (sizeOf e).run P w = .ok sz w) (hj : 0 ≤ j ∧ j < len) :
    Ex P ⟨d, .indexAddr t x i, ty, pos, af, g⟩ l w (.pointer (some ⟨b, o + j.toNat * sz, none⟩)) w := fun ρ h => by
  simp [execOp, h x _ hx, h i _ hi, Instr.indexAt, Instr.sureAddr, asIntOf, run_underlying hu, hs, addr_add, hj]
theorem x_ld {x : Operand} {ad : Addr} {v : Value} (hx : ev l x = some (.pointer (some ad))) (ha : ∀ w, (isAgg t).run P w = .ok false w) (hc : w.cell? ad = some v) : Ex P ⟨d, .load t x, ty, pos, af, g⟩ l w v w := fun ρ h => by
  simp [execOp, h x _ hx, Instr.loadAt, Instr.sureAddr, loadVar, ha, hc]
theorem x_ldn {x : Operand} {b o n : Nat} {cs : List Value} (hx : ev l x = some (.pointer (some ⟨b, o, none⟩))) (ha : ∀ w, (isAgg t).run P w = .ok true w) (hs : ∀ w, (sizeOf t).run P w = .ok n w) (hl : cs.length = n) (hc : ∀ j v, cs[j]? = some v → w.cell? ⟨b, o + j, none⟩ = some v) :
    Ex P ⟨d, .load t x, ty, pos, af, g⟩ l w (.agg cs.toArray) w := fun ρ h => by
  subst hl
  have hr := run_loadCells_list (P := P) (w := w) ⟨b, o, none⟩ cs (fun j v hv => by rw [addr_add]; exact hc j v hv)
  simp [execOp, h x _ hx, Instr.loadAt, Instr.sureAddr, loadVar, ha, hs, hr]
theorem x_len {x : Operand} {a : Option Addr} {n c : Nat} (hx : ev l x = some (.slice a n c)) (hu : P.underlying t = some (.slice (P.elem t))) : Ex P ⟨d, .call ⟨.builtin .len, #[x], #[t]⟩, ty, pos, af, g⟩ l w (.int .i64 n) w := fun ρ h => by
  simp [execOp, resolve, invoke, builtin, h x _ hx, run_len_slice w t ty a n c hu, goInt]
theorem x_box {x : Operand} {v : Value} {cs : List Value} (hx : ev l x = some v) (hc : v.cells = cs.toArray) : Ex P ⟨d, .box t x, ty, pos, af, g⟩ l w (.pointer (some ⟨w.heap.size, 0, none⟩)) (w.alloc (.cells cs.toArray t)) := fun ρ h => by
  simp only [execOp, h x _ hx, Instr.box, newVar, newRow, hc, Sem.run_bind, Sem.run_pure, run_newObj, Result.andThen_ok]; rfl
theorem x_alloc {z : Value} {cs : List Value} (hz : ∀ w, (zeroValue t).run P w = .ok z w) (hc : z.cells = cs.toArray) : Ex P ⟨d, .alloc t, ty, pos, af, g⟩ l w (.pointer (some ⟨w.heap.size, 0, none⟩)) (w.alloc (.cells cs.toArray t)) := fun ρ h => by
  simp only [execOp, Instr.alloc, hz, newVar, newRow, hc, Sem.run_bind, Sem.run_pure, run_newObj, Result.andThen_ok]; rfl
theorem x_build {ps : Array (Nat × Operand)} {vs : List (Nat × Value)} {v : Value} (hp : evp l ps.toList = some vs) (hb : (Instr.build t vs.toArray).run P w = .ok v w) : Ex P ⟨d, .build t ps, ty, pos, af, g⟩ l w v w := fun ρ h => by
  have e : (ps.map fun (i, x) => (i, ρ x)) = vs.toArray := by
    rw [← evp_fits h hp]; apply Array.ext'; simp
  simp [execOp, e, hb]
theorem x_bsl {ps : Array (Nat × Operand)} {vs : List (Nat × Value)} {v : Value} {n : Nat} (hp : evp l ps.toList = some vs) (hb : (Instr.buildSlice t n vs.toArray).run P w = .ok v w') : Ex P ⟨d, .buildSlice t n ps, ty, pos, af, g⟩ l w v w' := fun ρ h => by
  have e : (ps.map fun (i, x) => (i, ρ x)) = vs.toArray := by
    rw [← evp_fits h hp]; apply Array.ext'; simp
  simp [execOp, e, hb]
theorem x_mkf {fn : Fn} {xs ys : Array Operand} {as bs : List Value} (hx : evl l xs.toList = some as) (hy : evl l ys.toList = some bs) : Ex P ⟨d, .makeFunc fn xs ys, ty, pos, af, g⟩ l w (.func fn as.toArray bs.toArray) w := fun ρ h => by
  have e1 : xs.map ρ = as.toArray := by rw [← evl_fits h hx]; apply Array.ext'; simp
  have e2 : ys.map ρ = bs.toArray := by rw [← evl_fits h hy]; apply Array.ext'; simp
  simp [execOp, Instr.makeFunc, e1, e2]
theorem x_ext {x : Operand} {i : Nat} {vs : Array Value} {v : Value} (hx : ev l x = some (.tuple vs)) (hv : vs[i]? = some v) : Ex P ⟨d, .extract x i, ty, pos, af, g⟩ l w v w := fun ρ h => by
  simp [execOp, h x _ hx, Instr.extract, hv]
theorem x_fld {x : Operand} {i : Nat} {fs : Array Field} {F : Field} {cs : Array Value} {v : Value} (hx : ev l x = some (.agg cs)) (hu : P.underlying t = some (.struct fs)) (hf : fs[i]? = some F) (ha : ∀ w, (isAgg F.type).run P w = .ok false w) (hv : cs[F.offset]? = some v) :
    Ex P ⟨d, .field t x i, ty, pos, af, g⟩ l w v w := fun ρ h => by
  simp [execOp, h x _ hx, Instr.field, run_underlying hu, hf, asAgg, part, ha, hv]
theorem x_cvi {x : Operand} {k k' : IntKind} {a : Int} {s t : TypeId} {ud : TypeDesc} (hx : ev l x = some (.int k a)) (hs : P.underlying s = some ud) (hu : P.underlying t = some (.int k')) : Ex P ⟨d, .convert s t x, ty, pos, af, g⟩ l w (.int k' (k'.wrap a)) w := fun ρ h => by
  simp [execOp, h x _ hx, convert, run_underlying hs, run_underlying hu, Conv.intToInt]
/-! stores -/
theorem s_1 {x y : Operand} {b o : Nat} {v : Value} {T : TypeId} {cs : List Value} (hx : ev l x = some (.pointer (some ⟨b, o, none⟩))) (hy : ev l y = some v) (h1 : v.cells = #[v]) (hv : v.oneCell' = true) (hs : ∀ w, (sizeOf t).run P w = .ok 1 w) (hb : Blk w b T cs) (ho : o < cs.length) :
    Es P ⟨none, .store t x y, ty, pos, af, g⟩ l w (w.setCell ⟨b, o, none⟩ v) := fun ρ h => by
  have hc : (w.cell? ⟨b, o, none⟩) = some (cs[o]'ho) := hb.cell (by simp [ho])
  have hst := run_store P w ⟨b, o, none⟩ v .plain hv
  simp [execOp, h x _ hx, h y _ hy, Instr.storeAt, Instr.sureAddr, storeVar, hs, h1, storeCells, addr_add, hst, stored, hc, hb.unfrozen]
/-! calls -/
theorem c_fn {f : FuncId} {xs : Array Operand} {ts : Array TypeId} {vs : List Value} {R : Value → World → Prop} (hx : evl l xs.toList = some vs) (hf : ∀ a w, (callFunc f a).run P w = .ok (.enter f a) w) (hc : Cl P f vs w R) :
    Cx P ⟨d, .call ⟨.value (.func f), xs, ts⟩, ty, pos, af, g⟩ l w R := fun ρ h => by
  have e1 : xs.map ρ = vs.toArray := by rw [← evl_fits h hx]; apply Array.ext'; simp
  have e0 : ρ (.func f) = .func (.func f) #[] #[] := h (.func f) _ rfl
  exact ⟨f, vs.toArray, by simp [execOp, resolve, invoke, Deferred.ofValue, e0, e1, hf], hc⟩
/-- A call of a function value. -/
theorem c_fv {q : Operand} {f : FuncId} {xs : Array Operand} {ts : Array TypeId} {vs ps cs : List Value} {R : Value → World → Prop} (hq : ev l q = some (.func (.func f) ps.toArray cs.toArray)) (hx : evl l xs.toList = some vs) (hf : ∀ a w, (callFunc f a).run P w = .ok (.enter f a) w) (hc : Cl P f (ps ++ vs ++ cs) w R) :
    Cx P ⟨d, .call ⟨.value q, xs, ts⟩, ty, pos, af, g⟩ l w R := fun ρ h => by
  have e1 : xs.map ρ = vs.toArray := by rw [← evl_fits h hx]; apply Array.ext'; simp
  have e0 : ρ q = .func (.func f) ps.toArray cs.toArray := h q _ hq
  exact ⟨f, (ps ++ vs ++ cs).toArray, by simp [execOp, resolve, invoke, Deferred.ofValue, e0, e1, hf], hc⟩
/-! what makes memory or a slice, told by what it leaves -/
def Ev (P : Program) (o : Oper) (l : Env) (w : World) (R : Value → World → Prop) : Prop := ∀ ρ, Fits l ρ → ∃ v w', (execOp ρ o).run P w = .ok (.value v) w' ∧ R v w'
theorem Ex.ev {o : Oper} {v : Value} (h : Ex P o l w v w') : Ev P o l w (fun v' w'' => v' = v ∧ w'' = w') := fun ρ hf => ⟨v, w', h ρ hf, rfl, rfl⟩
/-- A new block: what is left of the world is this. -/
theorem e_new {o : Oper} {v : Value} {T : TypeId} {cs : List Value} (h : Ex P o l w v (w.alloc (.cells cs.toArray T))) :
    Ev P o l w (fun v' w' => v' = v ∧ Blk w' w.heap.size T cs ∧ Fr [] w w' ∧ w'.heap.size = w.heap.size + 1) := fun ρ hf => ⟨v, _, h ρ hf, rfl, Blk.alloc w T cs, Fr.alloc w _, by simp⟩
theorem Ev.mono {o : Oper} {R R' : Value → World → Prop} (h : Ev P o l w R) (k : ∀ v w', R v w' → R' v w') : Ev P o l w R' := fun ρ hf => let ⟨v, w', h1, h2⟩ := h ρ hf; ⟨v, w', h1, k v w' h2⟩
section
variable {C : Code} {n : Nat} {df : List Deferred} {N RR : Act → World → Prop} {E : Nat → Act → World → Prop}
theorem se {i d : Nat} {o : Oper} {R : Value → World → Prop} (ho : nth (opsL C) i = some o) (hw : Want C l o = some true) (hd : o.dst = some d) (hn : Nat.blt d n = true) (h : Ev P o l w R)
    (k : ∀ v w', R v w' → RL P C (i + 1) n df ((d, v) :: l) w' N RR E) : RL P C i n df l w N RR E := by
  intro a ha
  rw [drop_of_nth ho]
  unfold wpList
  rw [if_pos (want_spec ha hw)]
  refine .inl ?_
  obtain ⟨v, w', he, hr⟩ := h _ ha.fits
  unfold Oper.wp
  rw [he]
  simp only [Oper.upon, hd]
  exact k v w' hr _ (ha.put (by simpa using hn) v)
theorem oe {tl D : List Nat} {U : World → Prop} {f i d : Nat} {o : Oper} {R : Value → World → Prop} (ho : nth (opsL C) i = some o) (hw : Want C l o = some true) (hd : o.dst = some d) (hn : Nat.blt d n = true) (h : Ev P o l w R)
    (k : ∀ v w', R v w' → (noTail tl (mkL (opsL C).length (i :: D)) = false ∨ U w') ∧ DL P C tl U f (i :: D) n df ((d, v) :: l) w' N RR E) : OL P C tl U f D i n df l w N RR E := by
  intro a ha
  have ho' : (opsL C).toArray[i]? = some o := by rw [List.getElem?_toArray, ← nth_eq]; exact ho
  unfold wpOp
  simp only [ho']
  rw [if_pos (want_spec ha hw)]
  refine .inl ?_
  obtain ⟨v, w', he, hr⟩ := h _ ha.fits
  unfold Oper.wp
  rw [he]
  simp only [Oper.upon]
  obtain ⟨hT, k'⟩ := k v w' hr
  have hTT : TT tl U (mkL (opsL C).length (i :: D)) w' := fun hx => by rcases hT with h1 | h1; rw [h1] at hx; cases hx; exact h1
  rw [hd]
  exact ⟨hTT, k' hTT _ (ha.put (by simpa using hn) v)⟩
end
section
variable {C : Code} {n : Nat} {df : List Deferred} {N RR : Act → World → Prop} {E : Nat → Act → World → Prop}
/-- A test, both ways. -/
theorem sf {i d : Nat} {o : Oper} {p : Prop} [Decidable p] (ho : nth (opsL C) i = some o) (hw : Want C l o = some true) (hd : o.dst = some d) (hn : Nat.blt d n = true) (h : Ex P o l w (.bool (decide p)) w')
    (k1 : p → RL P C (i + 1) n df ((d, .bool true) :: l) w' N RR E) (k0 : ¬ p → RL P C (i + 1) n df ((d, .bool false) :: l) w' N RR E) : RL P C i n df l w N RR E := by
  by_cases hp : p
  · exact st ho hw hd hn (h.b1 hp) (k1 hp)
  · exact st ho hw hd hn (h.b0 hp) (k0 hp)
theorem dfk {tl D : List Nat} {U : World → Prop} {f i d : Nat} {o : Oper} {p : Prop} [Decidable p] (ho : nth (opsL C) i = some o) (hw : Want C l o = some true) (hd : o.dst = some d) (hn : Nat.blt d n = true)
    (hst : okTake C tl D i = true) (h : ∀ w', Ex P o l w' (.bool (decide p)) w') (k1 : p → DL P C tl U f (i :: D) n df ((d, .bool true) :: l) w N RR E) (k0 : ¬ p → DL P C tl U f (i :: D) n df ((d, .bool false) :: l) w N RR E) : DL P C tl U (f + 1) D n df l w N RR E := by
  by_cases hp : p
  · exact dt ho hw hd hn hst (fun w' => (h w').b1 hp) (k1 hp)
  · exact dt ho hw hd hn hst (fun w' => (h w').b0 hp) (k0 hp)
theorem upd_self {id : Nat} (h : AL n df l w N) : AL n df l w (upd E id N id) := by
  unfold upd
  rw [Nat.beq_refl id]
  exact h
theorem upd_ne {id i : Nat} {N' : Act → World → Prop} (hne : Nat.beq i id = false) (h : AL n df l w (E i)) : AL n df l w (upd E id N' i) := by
  unfold upd
  rw [hne]
  exact h
end
/-- A slice literal whose elements are single cells. -/
theorem bsl1 {e : TypeId} {z x : Value} (hu : P.underlying t = some (.slice e)) (hs : ∀ w, (sizeOf e).run P w = .ok 1 w) (hz : ∀ w, (zeroValue e).run P w = .ok z w) (hzc : z.cells = #[z]) (hx : x.cells = #[x]) :
    (Instr.buildSlice t 1 [(0, x)].toArray).run P w = .ok (.slice (some ⟨w.heap.size, 0, none⟩) 1 1) (w.alloc (.cells [x].toArray e)) := by
  unfold Instr.buildSlice
  simp only [Sem.run_bind, run_underlying hu, hs, hz, Result.andThen_ok, Sem.run_ite, Sem.run_pure, newRow, run_newObj, hzc]
  have hf : Instr.fill (fun i => some (i * 1, 1)) (Array.map (fun x => #[z][x % #[z].size]!) (Array.range (1 * 1))) [(0, x)] = some #[x] := by
    simp [Instr.fill, hx, Array.range]
    apply Array.ext'
    simp
  rw [if_neg (by decide), if_neg (by decide)]
  simp only [Sem.run_pure, Result.andThen_ok, hf]
  rfl
theorem bsl0 {e : TypeId} (hu : P.underlying t = some (.slice e)) {s : Nat} (hs : ∀ w, (sizeOf e).run P w = .ok s w) :
    (Instr.buildSlice t 0 [].toArray).run P w = .ok (.slice (some ⟨w.heap.size, 0, none⟩) 0 0) (w.alloc (.cells [].toArray e)) := by
  unfold Instr.buildSlice
  simp [run_underlying hu, hs, newRow, Instr.fill]
  refine congrArg (fun c => w.alloc (Obj.cells c e)) ?_
  apply Array.ext'
  simp
/-- make([]T, n). -/
theorem x_make {x y : Operand} {k : IntKind} {e : TypeId} {i : TypeInfo} {z : Value} {m : Nat} (hx : ev l x = some (.int .i64 m)) (hy : ev l y = some (.int .i64 m)) (hu : P.underlying t = some (.slice e)) (hi : P.info? e = some i) (hz : i.zero = some z) (hm : i.bytes * m ≤ 281474976710656) (hm2 : m ≤ 281474976710656) :
    Ex P ⟨d, .makeSlice t x y, ty, pos, af, g⟩ l w (.slice (some ⟨w.heap.size, 0, none⟩) m m) (w.alloc (.cells (madeCells z.cells (m * i.size)) e)) := fun ρ h => by
  have h2 : ((i.bytes * m : Nat) : Int) ≤ 281474976710656 := by omega
  rw [Int.natCast_mul] at h2
  have hr := run_make w t e i z hu hi hz .i64 .i64 m m (by omega) (by omega) h2 (by omega)
  simp only [Int.toNat_natCast] at hr
  simp only [execOp, h x _ hx, h y _ hy, hr, Sem.run_bind, Sem.run_pure, Result.andThen_ok]
end
end Go.Proofs.YtdjljgfffcjfmaaGreatDoor.Sx

/- Arrays of structs in one block; stores told by what they leave. -/
set_option linter.unusedVariables false
set_option linter.unusedSimpArgs false
namespace Go.Proofs.YtdjljgfffcjfmaaGreatDoor.Sx
open Go Go.RowKit
def flat {α : Type} (enc : α → List Value) (xs : List α) : List Value := xs.flatMap enc
section
variable {α : Type} {enc : α → List Value} {k : Nat} (hk : ∀ x, (enc x).length = k)
include hk
theorem flat_length (xs : List α) : (flat enc xs).length = xs.length * k := by
  induction xs with
  | nil => simp [flat]
  | cons x r ih => simp only [flat, List.flatMap_cons, List.length_append, hk, List.length_cons] at *; rw [ih, Nat.succ_mul]; omega
theorem flat_get {xs : List α} {i j : Nat} {x : α} (hi : xs[i]? = some x) (hj : j < k) : (flat enc xs)[i * k + j]? = (enc x)[j]? := by
  induction xs generalizing i with
  | nil => simp at hi
  | cons y r ih =>
    cases i with
    | zero =>
      obtain rfl : y = x := by simpa using hi
      simp only [flat, List.flatMap_cons, Nat.zero_mul, Nat.zero_add]
      rw [List.getElem?_append_left (by rw [hk]; exact hj)]
    | succ i =>
      simp only [flat, List.flatMap_cons]
      rw [List.getElem?_append_right (by rw [hk, Nat.succ_mul]; omega), hk, show (i + 1) * k + j - k = i * k + j by rw [Nat.succ_mul]; omega]
      exact ih (by simpa using hi)
theorem flat_set {xs : List α} {i j : Nat} {x y : α} {v : Value} (hi : xs[i]? = some x) (hj : j < k) (he : (enc x).set j v = enc y) : (flat enc xs).set (i * k + j) v = flat enc (xs.set i y) := by
  induction xs generalizing i with
  | nil => simp at hi
  | cons z r ih =>
    cases i with
    | zero =>
      obtain rfl : z = x := by simpa using hi
      simp only [flat, List.flatMap_cons, Nat.zero_mul, Nat.zero_add, List.set_cons_zero]
      rw [List.set_append_left _ _ (by rw [hk]; exact hj), he]
    | succ i =>
      simp only [flat, List.flatMap_cons, List.set_cons_succ]
      rw [List.set_append_right _ _ (by rw [hk, Nat.succ_mul]; omega), hk, show (i + 1) * k + j - k = i * k + j by rw [Nat.succ_mul]; omega]
      have := ih (by simpa using hi)
      simp only [flat] at this
      rw [this]
end
/-- Cells written from o on. -/
def splice : List Value → Nat → List Value → List Value
  | cs, _, [] => cs
  | cs, o, v :: r => splice (cs.set o v) (o + 1) r
theorem splice_length (vs : List Value) : ∀ (cs : List Value) (o : Nat), (splice cs o vs).length = cs.length := by
  induction vs with
  | nil => intro cs o; rfl
  | cons v r ih => intro cs o; simp [splice, ih]
theorem splice_eq (vs : List Value) : ∀ (a b c : List Value), b.length = vs.length → splice (a ++ b ++ c) a.length vs = a ++ vs ++ c := by
  induction vs with
  | nil => intro a b c h; obtain rfl := List.eq_nil_of_length_eq_zero h; simp [splice]
  | cons v r ih =>
    intro a b c h
    cases b with
    | nil => simp at h
    | cons u b =>
      have e : (a ++ (u :: b) ++ c).set a.length v = (a ++ [v]) ++ b ++ c := by
        rw [List.append_assoc, List.set_append_right _ _ (Nat.le_refl _)]
        simp
      show splice ((a ++ (u :: b) ++ c).set a.length v) (a.length + 1) r = _
      rw [e]
      have := ih (a ++ [v]) b c (by simpa using h)
      simp only [List.length_append, List.length_cons, List.length_nil, Nat.zero_add] at this
      rw [this]
      simp
theorem flat_splice {α : Type} {enc : α → List Value} {k : Nat} (hk : ∀ x, (enc x).length = k) {xs : List α} {i : Nat} (hi : i < xs.length) (y : α) : splice (flat enc xs) (i * k) (enc y) = flat enc (xs.set i y) := by
  have h1 : xs = xs.take i ++ xs[i] :: xs.drop (i + 1) := by rw [List.getElem_cons_drop, List.take_append_drop]
  have h2 : flat enc xs = flat enc (xs.take i) ++ enc xs[i] ++ flat enc (xs.drop (i + 1)) :=
    (congrArg (flat enc) h1).trans (by simp only [flat, List.flatMap_append, List.flatMap_cons, List.append_assoc])
  have h3 : (flat enc (xs.take i)).length = i * k := by rw [flat_length hk, List.length_take, Nat.min_eq_left (by omega)]
  rw [h2, ← h3, splice_eq _ _ _ _ (by rw [hk, hk])]
  rw [List.set_eq_take_append_cons_drop, if_pos hi]
  simp [flat]
section
variable {P : Program} {l : Env} {w w' : World} {d : Option Tmp} {ty t : TypeId} {pos : String} {af : Array Edge} {g : Option (Nat × Bool)}
def Sv (P : Program) (o : Oper) (l : Env) (w : World) (R : World → Prop) : Prop := ∀ ρ, Fits l ρ → ∃ w', (execOp ρ o).run P w = .ok .skip w' ∧ R w'
theorem Sv.mono {o : Oper} {R R' : World → Prop} (h : Sv P o l w R) (k : ∀ w', R w' → R' w') : Sv P o l w R' := fun ρ hf => let ⟨w', h1, h2⟩ := h ρ hf; ⟨w', h1, k w' h2⟩
theorem v_1 {x y : Operand} {b o : Nat} {v : Value} {T : TypeId} {cs : List Value} (hx : ev l x = some (.pointer (some ⟨b, o, none⟩))) (hy : ev l y = some v) (h1 : v.cells = #[v]) (hv : v.oneCell' = true) (hs : ∀ w, (sizeOf t).run P w = .ok 1 w) (hb : Blk w b T cs) (ho : o < cs.length) :
    Sv P ⟨none, .store t x y, ty, pos, af, g⟩ l w (fun w' => Blk w' b T (cs.set o v) ∧ Fr [b] w w') := fun ρ h => ⟨_, s_1 hx hy h1 hv hs hb ho ρ h, hb.setCell o v, Fr.setCell w b o v⟩
theorem run_splice {b : Nat} {T : TypeId} (vs : List Value) (hv : ∀ v ∈ vs, v.oneCell' = true) (o : Nat) : ∀ (j : Nat) (w : World) (cs : List Value), Blk w b T cs → o + j + vs.length ≤ cs.length →
    ∃ w', (storeCells ⟨b, o, none⟩ vs j).run P w = .ok () w' ∧ Blk w' b T (splice cs (o + j) vs) ∧ Fr [b] w w' := by
  induction vs with
  | nil => intro j w cs hb _; exact ⟨w, rfl, hb, Fr.refl _ _⟩
  | cons v r ih =>
    intro j w cs hb hl
    have h1 := hv v (by simp)
    have ho : o + j < cs.length := by simp only [List.length_cons] at hl; omega
    have hc : (w.cell? ⟨b, o + j, none⟩) = some (cs[o + j]'ho) := hb.cell (by simp [ho])
    have hst := run_store P w ⟨b, o + j, none⟩ v .plain h1
    obtain ⟨w', hr, hb', hf⟩ := ih (fun u hu => hv u (by simp [hu])) (j + 1) (w.setCell ⟨b, o + j, none⟩ v) (cs.set (o + j) v) (hb.setCell _ _) (by simp only [List.length_cons, List.length_set] at *; omega)
    refine ⟨w', ?_, by simpa [splice, Nat.add_assoc] using hb', (Fr.setCell w b (o + j) v).trans hf⟩
    unfold storeCells
    simp [addr_add, hst, stored, hc, hb.unfrozen, hr]
theorem v_n {x y : Operand} {b o n : Nat} {vs : List Value} {T : TypeId} {cs : List Value} (hx : ev l x = some (.pointer (some ⟨b, o, none⟩))) (hy : ev l y = some (.agg vs.toArray)) (hv : ∀ v ∈ vs, v.oneCell' = true) (hs : ∀ w, (sizeOf t).run P w = .ok n w) (hn : vs.length = n) (hb : Blk w b T cs) (ho : o + n ≤ cs.length) :
    Sv P ⟨none, .store t x y, ty, pos, af, g⟩ l w (fun w' => Blk w' b T (splice cs o vs) ∧ Fr [b] w w') := fun ρ h => by
  subst hn
  obtain ⟨w', hr, hb', hf⟩ := run_splice (P := P) vs hv o 0 w cs hb (by omega)
  refine ⟨w', ?_, hb', hf⟩
  simp [execOp, h x _ hx, h y _ hy, Instr.storeAt, Instr.sureAddr, storeVar, hs, Value.cells, hr]
/-- A field of an element. -/
theorem v_f {α : Type} {enc : α → List Value} {k : Nat} (hk : ∀ x, (enc x).length = k) {x y : Operand} {b i j : Nat} {v : Value} {T : TypeId} {xs : List α} {u : α} (u' : α) {o : Nat} (hx : ev l x = some (.pointer (some ⟨b, o, none⟩))) (ho : o = i * k + j) (hy : ev l y = some v) (h1 : v.cells = #[v]) (hv : v.oneCell' = true) (hs : ∀ w, (sizeOf t).run P w = .ok 1 w) (hb : Blk w b T (flat enc xs)) (hi : xs[i]? = some u) (hj : j < k) (he : (enc u).set j v = enc u') :
    Sv P ⟨none, .store t x y, ty, pos, af, g⟩ l w (fun w' => Blk w' b T (flat enc (xs.set i u')) ∧ Fr [b] w w') := by
  subst ho
  have hlt : i < xs.length := (List.getElem?_eq_some_iff.1 hi).1
  have hl : i * k + j < (flat enc xs).length := by
    rw [flat_length hk]
    calc i * k + j < i * k + k := by omega
      _ = (i + 1) * k := by rw [Nat.succ_mul]
      _ ≤ xs.length * k := Nat.mul_le_mul_right _ hlt
  have := v_1 (P := P) (ty := ty) (pos := pos) (af := af) (g := g) hx hy h1 hv hs hb hl
  rw [flat_set hk hi hj he] at this
  exact this
/-- A whole element. -/
theorem v_e {α : Type} {enc : α → List Value} {k : Nat} (hk : ∀ x, (enc x).length = k) {x y : Operand} {b i : Nat} {T : TypeId} {xs : List α} (u : α) {o : Nat} {vs : List Value} (hx : ev l x = some (.pointer (some ⟨b, o, none⟩))) (ho : o = i * k) (hy : ev l y = some (.agg vs.toArray)) (hu : vs = enc u) (hv : ∀ v ∈ enc u, v.oneCell' = true) (hs : ∀ w, (sizeOf t).run P w = .ok k w) (hb : Blk w b T (flat enc xs)) (hi : i < xs.length) :
    Sv P ⟨none, .store t x y, ty, pos, af, g⟩ l w (fun w' => Blk w' b T (flat enc (xs.set i u)) ∧ Fr [b] w w') := by
  subst ho
  subst hu
  have := v_n (P := P) (ty := ty) (pos := pos) (af := af) (g := g) hx hy hv hs (hk u) hb (by rw [flat_length hk]; calc i * k + k = (i + 1) * k := by rw [Nat.succ_mul]
                                                                                                                     _ ≤ xs.length * k := Nat.mul_le_mul_right _ hi)
  rw [flat_splice hk hi] at this
  exact this
section
variable {C : Code} {n : Nat} {df : List Deferred} {N RR : Act → World → Prop} {E : Nat → Act → World → Prop}
theorem sv {i : Nat} {o : Oper} {R : World → Prop} (ho : nth (opsL C) i = some o) (hw : Want C l o = some true) (hd : o.dst = none) (h : Sv P o l w R)
    (k : ∀ w', R w' → RL P C (i + 1) n df l w' N RR E) : RL P C i n df l w N RR E := by
  intro a ha
  rw [drop_of_nth ho]
  unfold wpList
  rw [if_pos (want_spec ha hw)]
  refine .inl ?_
  obtain ⟨w', he, hr⟩ := h _ ha.fits
  unfold Oper.wp
  rw [he]
  simp only [Oper.upon, hd]
  exact k w' hr _ ha
theorem osv {tl D : List Nat} {U : World → Prop} {f i : Nat} {o : Oper} {R : World → Prop} (ho : nth (opsL C) i = some o) (hw : Want C l o = some true) (hd : o.dst = none) (h : Sv P o l w R)
    (k : ∀ w', R w' → (noTail tl (mkL (opsL C).length (i :: D)) = false ∨ U w') ∧ DL P C tl U f (i :: D) n df l w' N RR E) : OL P C tl U f D i n df l w N RR E := by
  intro a ha
  have ho' : (opsL C).toArray[i]? = some o := by rw [List.getElem?_toArray, ← nth_eq]; exact ho
  unfold wpOp
  simp only [ho']
  rw [if_pos (want_spec ha hw)]
  refine .inl ?_
  obtain ⟨w', he, hr⟩ := h _ ha.fits
  unfold Oper.wp
  rw [he]
  simp only [Oper.upon]
  obtain ⟨hT, k'⟩ := k w' hr
  have hTT : TT tl U (mkL (opsL C).length (i :: D)) w' := fun hx => by rcases hT with h1 | h1; rw [h1] at hx; cases hx; exact h1
  rw [hd]
  exact ⟨hTT, k' hTT _ ha⟩
end
/-- A cell of an element's field, as the walk comes to it. -/
theorem cell_f {α : Type} {enc : α → List Value} {k : Nat} (hk : ∀ x, (enc x).length = k) {b i j o : Nat} {T : TypeId} {xs : List α} {u : α} {v : Value} (hb : Blk w b T (flat enc xs)) (hi : xs[i]? = some u) (ho : o = i * k + j) (hj : j < k) (hv : (enc u)[j]? = some v) : w.cell? ⟨b, o, none⟩ = some v := by
  subst ho
  exact hb.cell (by rw [flat_get hk hi hj]; exact hv)
theorem cell_e {α : Type} {enc : α → List Value} {k : Nat} (hk : ∀ x, (enc x).length = k) {b i o : Nat} {T : TypeId} {xs : List α} {u : α} (hb : Blk w b T (flat enc xs)) (hi : xs[i]? = some u) (ho : o = i * k) : ∀ j v, (enc u)[j]? = some v → w.cell? ⟨b, o + j, none⟩ = some v := by
  intro j v hv
  subst ho
  have hj : j < k := by have := (List.getElem?_eq_some_iff.1 hv).1; rwa [hk] at this
  exact hb.cell (by rw [flat_get hk hi hj]; exact hv)
theorem add_add (a : Addr) (m n : Nat) : (a.add m).add n = a.add (m + n) := by
  unfold Addr.add
  by_cases hm : m = 0
  · subst hm; simp
  · by_cases hn : n = 0
    · subst hn; simp [hm]
    · simp [hm, hn, Nat.add_assoc]
/-- An element of a slice that came in. -/
theorem x_iag {x i : Operand} {a : Addr} {len cap sz : Nat} {k : IntKind} {j : Int} {e : TypeId} (hx : ev l x = some (.slice (some a) len cap)) (hi : ev l i = some (.int k j)) (hu : P.underlying t = some (.slice e)) (hs : ∀ w, (sizeOf e).run P w = .ok sz w) (hj : 0 ≤ j ∧ j < len) :
    Ex P ⟨d, .indexAddr t x i, ty, pos, af, g⟩ l w (.pointer (some (a.add (j.toNat * sz)))) w := fun ρ h => by
  simp [execOp, h x _ hx, h i _ hi, Instr.indexAt, asIntOf, run_underlying hu, hs, hj]
theorem x_ldg {x : Operand} {ad : Addr} {n : Nat} {cs : List Value} (hx : ev l x = some (.pointer (some ad))) (ha : ∀ w, (isAgg t).run P w = .ok true w) (hs : ∀ w, (sizeOf t).run P w = .ok n w) (hl : cs.length = n) (hc : ∀ j v, cs[j]? = some v → w.cell? (ad.add j) = some v) :
    Ex P ⟨d, .load t x, ty, pos, af, g⟩ l w (.agg cs.toArray) w := fun ρ h => by
  subst hl
  have hr := run_loadCells_list (P := P) (w := w) ad cs hc
  simp [execOp, h x _ hx, Instr.loadAt, Instr.sureAddr, loadVar, ha, hs, hr]
theorem heq {ad : Addr} {v : Value} (h : w'.heap = w.heap) (hc : w.cell? ad = some v) : w'.cell? ad = some v := by
  unfold World.cell? at *
  rw [h]; exact hc
theorem heqn {b o : Nat} {cs : List Value} (h : w'.heap = w.heap) (hc : ∀ j v, cs[j]? = some v → w.cell? ⟨b, o + j, none⟩ = some v) : ∀ j v, cs[j]? = some v → w'.cell? ⟨b, o + j, none⟩ = some v := fun j v hv => heq h (hc j v hv)
theorem made_flat {α : Type} {enc : α → List Value} {k : Nat} (hk : ∀ x, (enc x).length = k) (x0 : α) (m : Nat) : madeCells (enc x0).toArray (m * k) = (flat enc (List.replicate m x0)).toArray := by
  apply Array.ext'
  apply List.ext_getElem?
  intro j
  have hz : (enc x0).toArray.size = k := by simp [hk]
  rcases Nat.lt_or_ge j (m * k) with hj | hj
  · have hk0 : 0 < k := by rcases Nat.eq_zero_or_pos k with h | h; rw [h] at hj; omega; exact h
    have h1 : j / k < m := Nat.div_lt_of_lt_mul (by rw [Nat.mul_comm]; exact hj)
    have h2 : (flat enc (List.replicate m x0))[j]? = (enc x0)[j % k]? := by
      have := flat_get hk (xs := List.replicate m x0) (i := j / k) (j := j % k) (x := x0) (by simp [h1]) (Nat.mod_lt _ hk0)
      rwa [Nat.mul_comm, Nat.div_add_mod] at this
    simp only [h2]
    have h3 : j % k < (enc x0).length := by rw [hk]; exact Nat.mod_lt _ hk0
    simp [madeCells, hz, hj, h3]
  · rw [List.getElem?_eq_none (by simp [size_madeCells, hj]), List.getElem?_eq_none (by simp [flat_length hk, hj])]
/-- make([]T, n), a block of structs all alike. -/
theorem x_mk {x y : Operand} {e : TypeId} (size bytes : Nat) (z : Value) {cs : List Value} {m : Nat} (hx : ev l x = some (.int .i64 m)) (hy : ev l y = some (.int .i64 m)) (hu : P.underlying t = some (.slice e)) (hinfo : (P.info? e).map (fun i => (i.zero, i.size, i.bytes)) = some (some z, size, bytes)) (hcs : madeCells z.cells (m * size) = cs.toArray) (hm : bytes * m ≤ 281474976710656) (hm2 : m ≤ 281474976710656) :
    Ex P ⟨d, .makeSlice t x y, ty, pos, af, g⟩ l w (.slice (some ⟨w.heap.size, 0, none⟩) m m) (w.alloc (.cells cs.toArray e)) := by
  obtain ⟨i, hi, hz, hsize, hby⟩ := info_parts hinfo
  subst hsize
  subst hby
  have := x_make (P := P) (w := w) (d := d) (ty := ty) (pos := pos) (af := af) (g := g) (k := .i64) hx hy hu hi hz hm hm2
  rwa [hcs] at this
theorem fill_set {α : Type} (a b : α) (k n : Nat) (h : k < n) : (List.replicate k a ++ List.replicate (n - k) b).set k a = List.replicate (k + 1) a ++ List.replicate (n - (k + 1)) b := by
  rw [List.set_append_right _ _ (by simp)]
  rw [show n - k = (n - (k + 1)) + 1 by omega, List.replicate_succ]
  simp [List.replicate_succ']
/-! append -/
theorem Fr.of_grown {row : Option Nat} (h : w.grownBy w' row) : Fr row.toList w w' := ⟨h.os, h.tape, h.output, h.size, fun k hk hn => h.block k hk (fun e => hn (by rw [← e]; simp))⟩
theorem Fr.grown {S : List Nat} {w0 : World} {row : Option Nat} (h : Fr S w0 w) (hg : w.grownBy w' row) (hr : ∀ k, row = some k → w0.heap.size ≤ k) : Fr S w0 w' :=
  h.trans_new (Fr.of_grown hg) (fun x hx => .inr (hr x (by cases row with | none => simp at hx | some r => simp at hx; rw [hx])))
theorem own_ge {base : Nat} {e : TypeId} {size : Nat} {v : Value} {n : Nat} {xs : List Value} (h : w.ownsRow base e size v n xs) : ∀ k, v.ownBlock = some k → base ≤ k := fun k hk => (h.lt k hk).1
theorem own_fr {S : List Nat} {base : Nat} {e : TypeId} {size : Nat} {v : Value} {n : Nat} {xs : List Value} (h : w.ownsRow base e size v n xs) (k : Fr S w w') (hS : ∀ x ∈ S, x < base) : w'.ownsRow base e size v n xs := by
  obtain ⟨hl, h | ⟨g, cap, cur, rfl, hg, hh, r⟩⟩ := h
  · exact ⟨hl, .inl h⟩
  · refine ⟨hl, .inr ⟨g, cap, cur, rfl, hg, ?_, r⟩⟩
    rw [k.keep g (Array.getElem?_eq_some_iff.1 hh).1 (fun hx => by have := hS g hx; omega)]
    exact hh
theorem own_fr0 {base : Nat} {e : TypeId} {size : Nat} {v : Value} {n : Nat} {xs : List Value} (h : w.ownsRow base e size v n xs) (k : Fr [] w w') : w'.ownsRow base e size v n xs := own_fr h k (by simp)
/-- append of one element, made by a literal in a block of its own. -/
theorem e_app {s x : Operand} {base e : Nat} (size bytes : Nat) {n m c : Nat} (z : Value) {v : Value} {xs : List Value} (news : List Value) {ad : Addr} (hx : ev l s = some v) (hy : ev l x = some (.slice (some ad) m c)) (hu : P.underlying t = some (.slice e)) (hinfo : (P.info? e).map (fun i => (i.zero, i.size, i.bytes)) = some (some z, size, bytes)) (hzs : z.cells.size = size) (hsz : 0 < size)
    (HO : w.ownsRow base e size v n xs) (hl : news.length = m * size) (hnews : ∀ j u, news[j]? = some u → w.cell? (ad.add j) = some u) (h1 : ∀ u ∈ news, u.oneCell' = true) (hb : (n + m) * bytes ≤ 140737488355328) (hnm : n + m ≤ 140737488355328) (hbase : base ≤ w.heap.size) :
    Ev P ⟨d, .call ⟨.builtin .append, #[s, x], #[t, t]⟩, ty, pos, af, g⟩ l w (fun v' w' => w'.ownsRow base e size v' (n + m) (xs ++ news) ∧ w.grownBy w' v.ownBlock ∧ (v'.ownBlock = v.ownBlock ∨ v'.ownBlock = some w.heap.size)) := fun ρ h => by
  obtain ⟨i, hi, hz, hsize, hby⟩ := info_parts hinfo
  obtain ⟨v', w', hr, ho, hg, _, hat⟩ := run_append_own_at (P := P) w base t ty e i z size bytes hu hi hz hsize hby hzs hsz v n xs HO ad m c news hl hnews h1 (by simp only [maxLen]; omega) hb hbase
  refine ⟨v', w', ?_, ho, hg, hat⟩
  simp only [execOp, resolve, invoke, builtin, h s _ hx, h x _ hy, List.map_toArray, List.map_cons, List.map_nil, hr, Sem.run_bind, Sem.run_pure, Result.andThen_ok]
theorem Blk.news {b : Nat} {T : TypeId} {cs : List Value} (h : Blk w b T cs) : ∀ j u, cs[j]? = some u → w.cell? ((⟨b, 0, none⟩ : Addr).add j) = some u := fun j u hu => by
  rw [addr_add, Nat.zero_add]; exact h.cell hu
/-- append of all of another slice. -/
theorem e_appv {s x : Operand} {base e : Nat} (size bytes : Nat) {n m c : Nat} (z : Value) {v : Value} {xs : List Value} (news : List Value) {A : Option Addr} (hx : ev l s = some v) (hy : ev l x = some (.slice A m c)) (hu : P.underlying t = some (.slice e)) (hinfo : (P.info? e).map (fun i => (i.zero, i.size, i.bytes)) = some (some z, size, bytes)) (hzs : z.cells.size = size) (hsz : 0 < size)
    (HO : w.ownsRow base e size v n xs) (hl : news.length = m * size) (hA : A = none → m = 0) (hnews : ∀ ad, A = some ad → ∀ j u, news[j]? = some u → w.cell? (ad.add j) = some u) (h1 : ∀ u ∈ news, u.oneCell' = true) (hb : (n + m) * bytes ≤ 140737488355328) (hnm : n + m ≤ 140737488355328) (hbase : base ≤ w.heap.size) :
    Ev P ⟨d, .call ⟨.builtin .append, #[s, x], #[t, t]⟩, ty, pos, af, g⟩ l w (fun v' w' => w'.ownsRow base e size v' (n + m) (xs ++ news) ∧ w.grownBy w' v.ownBlock ∧ (v'.ownBlock = v.ownBlock ∨ v'.ownBlock = some w.heap.size)) := by
  cases A with
  | some ad => exact e_app size bytes z news hx hy hu hinfo hzs hsz HO hl (hnews ad rfl) h1 hb hnm hbase
  | none =>
    intro ρ h
    have hm := hA rfl
    subst hm
    have hn0 : news = [] := List.eq_nil_of_length_eq_zero (by rw [hl]; simp)
    subst hn0
    obtain ⟨i, hi, hz, hsize, hby⟩ := info_parts hinfo
    refine ⟨v, w, ?_, by simpa using HO, ⟨rfl, rfl, rfl, Nat.le_refl _, fun _ _ _ => rfl⟩, .inl rfl⟩
    obtain ⟨_, ⟨rfl, rfl⟩ | ⟨g', cap, cur, rfl, hg, hh, hnc, r⟩⟩ := HO
    · simp [execOp, resolve, invoke, builtin, h s _ hx, h x _ hy, Builtin.append_, run_underlying hu, sizeOf, typeInfo, hi, Builtin.lenOf, Builtin.firstCells, loadCells, loadCellsFrom]
    · simp [execOp, resolve, invoke, builtin, h s _ hx, h x _ hy, Builtin.append_, run_underlying hu, sizeOf, typeInfo, hi, Builtin.lenOf, Builtin.firstCells, loadCells, loadCellsFrom, hnc, storeCells]
theorem own_lit {b base e n size : Nat} {cs : List Value} (h : Blk w b e cs) (hb : base ≤ b) (hl : cs.length = n * size) (hn : n ≤ 1000000) : w.ownsRow base e size (.slice (some ⟨b, 0, none⟩) n n) n cs :=
  ⟨hl, .inr ⟨b, n, cs.toArray, rfl, hb, h, Nat.le_refl _, by simp only [maxLen]; omega, by simpa using hl, by rw [← hl]; simp⟩⟩
def ints (xs : List Int) : List Value := xs.map (fun z => .int .i64 z)
/-- What is owned reads so. -/
theorem own_slice {base e n : Nat} {size : Nat} {v : Value} {xs : List Value} (h : w.ownsRow base e size v n xs) : ∃ A c, v = .slice A n c ∧ (xs = [] ∨ n = 0 ∨ ∃ b, A = some ⟨b, 0, none⟩ ∧ base ≤ b ∧ b < w.heap.size ∧ ∀ j u, xs[j]? = some u → w.cell? ⟨b, j, none⟩ = some u) := by
  obtain ⟨hl, ⟨rfl, rfl⟩ | ⟨g, cap, cur, rfl, hg, hh, hn, hm, hs, ht⟩⟩ := h
  · exact ⟨none, 0, rfl, .inr (.inl rfl)⟩
  · refine ⟨_, cap, rfl, .inr (.inr ⟨g, rfl, hg, (Array.getElem?_eq_some_iff.1 hh).1, fun j u hu => ?_⟩)⟩
    unfold World.cell?
    rw [show w.heap[(⟨g, j, none⟩ : Addr).block]? = _ from hh]
    rw [← ht, List.getElem?_take] at hu
    split at hu
    · simpa using hu
    · cases hu
theorem own_nil (base : Nat) (e : TypeId) (size : Nat) : w.ownsRow base e size (.slice none 0 0) 0 [] := World.ownsRow_nil w base e size
/-- A function value against nil. -/
theorem x_eqlf {x : Operand} {f : Fn} {p c : Array Value} {y : Operand} {ty2 : TypeId} {ps rs : Array TypeId} {vr : Bool} (hx : ev l x = some (.func f p c)) (hy : ev l y = some .nilFunc) (hu : P.underlying t = some (.func ps rs vr)) : Ex P ⟨d, .binOp .eql t x y ty2, ty, pos, af, g⟩ l w (.bool false) w := fun ρ h => by
  have e : (binOp .eql t (.func f p c) .nilFunc).run P w = .ok (.bool false) w := by
    have e0 : ∀ d, (Op.equalIn (d + 1) t (.func f p c) .nilFunc).run P w = .ok false w := fun d => by simp [Op.equalIn, run_underlying hu]
    have e1 : (Op.equal t (.func f p c) .nilFunc).run P w = .ok false w := e0 9999
    simp only [binOp]
    simp [e1]
  simp only [execOp, h x _ hx, h y _ hy, eqGuard_at_func, e, Sem.run_bind, Sem.run_pure, Result.andThen_ok]
theorem own_mono {base base' : Nat} {e : TypeId} {size : Nat} {v : Value} {n : Nat} {xs : List Value} (h : w.ownsRow base e size v n xs) (hb : base' ≤ base) : w.ownsRow base' e size v n xs := by
  obtain ⟨hl, h | ⟨g, cap, cur, rfl, hg, r⟩⟩ := h
  · exact ⟨hl, .inl h⟩
  · exact ⟨hl, .inr ⟨g, cap, cur, rfl, by omega, r⟩⟩
/-- Where a walk over a row stops. -/
def Stop (C : List Int → Bool) (xs : List Int) (k : Nat) : Prop := k ≤ xs.length ∧ (∀ j, 0 < j → j < k → C (xs.take j) = true) ∧ (k = xs.length ∨ 0 < k ∧ C (xs.take k) = false)
end
end Go.Proofs.YtdjljgfffcjfmaaGreatDoor.Sx

/- What a law's inputs are, read out of the memory that holds them. -/
set_option linter.unusedVariables false
namespace Go.Proofs.YtdjljgfffcjfmaaGreatDoor.Sx
open Go Go.RowKit Go.ChangeShapes Go.WideShapes Go.Deep
section
variable {H : Type} {enc : TypeId × Value → H} {P : Program} {w : World} {base n : Nat} {spare : Nat → Bool} {held : Bool} {xs : List (DataW H × List MemPlace)} {i : Nat}
theorem take1 {cs : List Value} {o : Nat} {c : Value} (hc : cs[o]? = some c) : (cs.drop o).take 1 = [c] := by
  obtain ⟨h, e⟩ := List.getElem?_eq_some_iff.1 hc
  rw [List.take_one]
  simp [hc]
theorem tr_int {t : TypeId} {k : IntKind} (hu : P.underlying t = some (.int k)) (h1 : P.cellsOf t = 1) {cs : List Value} {o : Nat} {c : Value} (hc : cs[o]? = some c) (hi : i < xs.length) (h : DataW.trod enc P w base spare held n t ((cs.drop o).take (P.cellsOf t)) = xs[i]?) :
    ∃ z, c = .int k z ∧ (Lit.int k z).wf = true := by
  rw [h1, take1 hc, List.getElem?_eq_getElem hi] at h
  obtain ⟨z, e, _, wf⟩ := DataW.trod_int hu h
  exact ⟨z, by simpa using e, wf⟩
theorem tr_bool {t : TypeId} (hu : P.underlying t = some .bool) (h1 : P.cellsOf t = 1) {cs : List Value} {o : Nat} {c : Value} (hc : cs[o]? = some c) (hi : i < xs.length) (h : DataW.trod enc P w base spare held n t ((cs.drop o).take (P.cellsOf t)) = xs[i]?) :
    ∃ z, c = .bool z := by
  rw [h1, take1 hc, List.getElem?_eq_getElem hi] at h
  obtain ⟨z, e, _⟩ := DataW.trod_bool hu h
  exact ⟨z, by simpa using e⟩
theorem tr_struct {t : TypeId} {fs : Array Field} (hu : P.underlying t = some (.struct fs)) {cs : List Value} {o : Nat} (hi : i < xs.length) (h : DataW.trod enc P w base spare held n t ((cs.drop o).take (P.cellsOf t)) = xs[i]?) :
    ∃ (ys : List (DataW H × List MemPlace)) (m : Nat), ys.length = fs.size ∧ ∀ (j : Nat) (f : Field), fs[j]? = some f → DataW.trod enc P w base spare held m f.type ((((cs.drop o).take (P.cellsOf t)).drop f.offset).take (P.cellsOf f.type)) = ys[j]? := by
  rw [List.getElem?_eq_getElem hi] at h
  obtain ⟨ys, m, _, _, _, hl, hf⟩ := DataW.trod_struct hu h
  exact ⟨ys, m, hl, hf⟩
theorem cells_of {a : Addr} {m : Nat} {cs : List Value} (h : w.cells? base a m = some cs) : ∀ i v, cs[i]? = some v → w.cell? (a.add i) = some v := by
  intro i v hv
  obtain ⟨_, hl, hc⟩ := World.cells?_some h
  have hi : i < cs.length := (List.getElem?_eq_some_iff.1 hv).1
  rw [hc i (by omega)]
  exact hv
end
end Go.Proofs.YtdjljgfffcjfmaaGreatDoor.Sx

/- More of what single operations yield: min, a slice cut above. -/
set_option linter.unusedVariables false
set_option linter.unusedSimpArgs false
namespace Go.Proofs.YtdjljgfffcjfmaaGreatDoor.Sx
open Go Go.RowKit
section
variable {P : Program} {l : Env} {w w' : World} {d : Option Tmp} {ty t : TypeId} {pos : String} {af : Array Edge} {g : Option (Nat × Bool)}
theorem x_min {x y : Operand} {k : IntKind} {a b : Int} {ts : Array TypeId} (hx : ev l x = some (.int k a)) (hy : ev l y = some (.int k b)) : Ex P ⟨d, .call ⟨.builtin .min, #[x, y], ts⟩, ty, pos, af, g⟩ l w (.int k (if b < a then b else a)) w := fun ρ h => by
  simp [execOp, resolve, invoke, builtin, h x _ hx, h y _ hy, Builtin.min_, Builtin.min2]
theorem x_slh {x y : Operand} {A : Option Addr} {len cap : Nat} {k : IntKind} {j : Int} {e : TypeId} {s : Nat} (hx : ev l x = some (.slice A len cap)) (hy : ev l y = some (.int k j)) (hu : P.underlying t = some (.slice e)) (hs : ∀ w, (sizeOf e).run P w = .ok s w) (hj : 0 ≤ j ∧ j ≤ cap) :
    Ex P ⟨d, .slice t x none (some y) none, ty, pos, af, g⟩ l w (.slice A j.toNat cap) w := fun ρ h => by
  have e0 : ∀ a : Addr, a.add 0 = a := fun a => by unfold Addr.add; simp
  have e1 : (A.map fun a => a.add (0 * s)) = A := by cases A <;> simp [e0]
  have e2 : (Instr.slice t (.slice A len cap) none (some (.int k j)) none).run P w = .ok (.slice A j.toNat cap) w := by
    simp [Instr.slice, run_underlying hu, Instr.sliceBounds, run_sliceBound w k j cap _ hj.1 hj.2, hs]
    try (cases A <;> simp [e0])
  have hu2 : P.underlying t = some (.slice (P.elem t)) := by rw [hu]; simp [Program.elem, hu]
  simp [execOp, h x _ hx, h y _ hy, run_sliceAt_slice, hu2, e2]
theorem x_sll {x y : Operand} {A : Option Addr} {len cap : Nat} {k : IntKind} {j : Int} {e : TypeId} {s : Nat} (hx : ev l x = some (.slice A len cap)) (hy : ev l y = some (.int k j)) (hu : P.underlying t = some (.slice e)) (hs : ∀ w, (sizeOf e).run P w = .ok s w) (hj : 0 ≤ j ∧ j ≤ len) :
    Ex P ⟨d, .slice t x (some y) none none, ty, pos, af, g⟩ l w (.slice (if cap = j.toNat then A else A.map (·.add (j.toNat * s))) (len - j.toNat) (cap - j.toNat)) w := fun ρ h => by
  have e2 : (Instr.slice t (.slice A len cap) (some (.int k j)) none none).run P w = .ok (.slice (if cap = j.toNat then A else A.map (·.add (j.toNat * s))) (len - j.toNat) (cap - j.toNat)) w := by
    simp [Instr.slice, run_underlying hu, Instr.sliceBounds, run_sliceBound w k j len _ hj.1 hj.2, hs]
  have hu2 : P.underlying t = some (.slice (P.elem t)) := by rw [hu]; simp [Program.elem, hu]
  simp [execOp, h x _ hx, h y _ hy, run_sliceAt_slice, hu2, e2]
theorem x_rem {x y : Operand} {k : IntKind} {a b : Int} {ty2 : TypeId} (hx : ev l x = some (.int k a)) (hy : ev l y = some (.int k b)) (hb : b ≠ 0) : Ex P ⟨d, .binOp .rem t x y ty2, ty, pos, af, g⟩ l w (.int k (a.tmod b)) w := fun ρ h => by
  simp [execOp, h x _ hx, h y _ hy, binOp_rem, eqGuard_rem, Op.intDiv, hb]
theorem own_cap {base e n : Nat} {size : Nat} {A : Option Addr} {m c : Nat} {xs : List Value} (h : w.ownsRow base e size (.slice A m c) n xs) : n ≤ c := by
  obtain ⟨_, ⟨e, rfl⟩ | ⟨g, cap, cur, e, hg, hh, hn, r⟩⟩ := h
  · exact Nat.zero_le _
  · injection e with _ _ e3
    omega
theorem run_ldv {b n : Nat} {cs : List Value} {T : TypeId} (ha : ∀ w, (isAgg t).run P w = .ok true w) (hs : ∀ w, (sizeOf t).run P w = .ok n w) (hl : cs.length = n) (hb : Blk w b T cs) : (loadVar t ⟨b, 0, none⟩).run P w = .ok (.agg cs.toArray) w := by
  subst hl
  have hr := run_loadCells_list (P := P) (w := w) ⟨b, 0, none⟩ cs (fun j v hv => by rw [addr_add, Nat.zero_add]; exact hb.cell hv)
  simp [loadVar, ha, hs, hr]
variable {n : Nat}
theorem fin_c {fn : Func} {RR : Value → World → Prop} {p : Nat} {ad : Addr} {v : Value} (hr : fn.results = #[.cell p t]) (hp : find l p = some (.pointer (some ad))) (hc : (loadVar t ad).run P w = .ok v w) (h : RR v w) :
    AL n [] l w (fun a w => bodyPost P fn (fun e w' => ∃ v, e = .returned v ∧ RR v w') .ret a w) :=
  fun a ha => ⟨ha.defs, v, by
    have h1 := ha.look p _ hp
    rw [Array.getD_eq_getD_getElem?] at h1
    simp [results, hr, h1, asAddr, hc], _, rfl, h⟩
theorem fin_ct {fn : Func} {RR : Value → World → Prop} {p u : Nat} {ad : Addr} {v x : Value} (hr : fn.results = #[.cell p t, .tmp u]) (hp : find l p = some (.pointer (some ad))) (hc : (loadVar t ad).run P w = .ok v w) (hx : find l u = some x) (h : RR (.tuple #[v, x]) w) :
    AL n [] l w (fun a w => bodyPost P fn (fun e w' => ∃ v, e = .returned v ∧ RR v w') .ret a w) :=
  fun a ha => ⟨ha.defs, .tuple #[v, x], by
    have h1 := ha.look p _ hp
    have h2 := ha.look u _ hx
    rw [Array.getD_eq_getD_getElem?] at h1 h2
    simp [results, hr, h1, h2, asAddr, hc], _, rfl, h⟩
end
end Go.Proofs.YtdjljgfffcjfmaaGreatDoor.Sx

/- Ranges over functions: the steps within a round's frame, the statement, the function's end behind it. -/
set_option linter.unusedVariables false
set_option linter.unusedSimpArgs false
namespace Go.Proofs.YtdjljgfffcjfmaaGreatDoor.Sx
open Go Go.RowKit
def FR (r : Option Nat) : Fence := { Fence.wide with round := r }
theorem FR_fn (r : Option Nat) (f : FuncId) : (FR r).fn f := trivial
theorem FR_depth (r : Option Nat) (n : Nat) : (FR r).depth.isSome = true → 1 ≤ n := fun h => by cases h
def nodef (o : Oper) : Bool := match o.op with | .defer _ => false | _ => true
theorem semAt_of {o : Oper} (r : Option Nat) (e : Operand → Value) (h : nodef o = true) : o.semAt (FR r).round e = execOp e o := by
  cases r with
  | none => rfl
  | some l => exact Oper.semAt_some l e o (fun c hc => by unfold nodef at h; rw [hc] at h; cases h)
theorem callsIn_FR {P : Program} {r : Option Nat} {n : Nat} {f : FuncId} {args : Array Value} {w : World} {R : Ending → World → Prop} (h : Calls P f args w R) : CallsIn (FR r) n P f args w R := by
  have h1 : CallsIn Fence.wide n P f args w R := callsIn_wide.2 h
  exact h1
def CI (P : Program) (r : Option Nat) (C : Code) (n : Nat) (df : List Deferred) (l : Env) (w : World) (N R : Act → World → Prop) (E : Nat → Act → World → Prop) : Prop := ∀ a, Ag a n df l → C.wpIn (FR r) 0 P (kq N R E) a w
def KI (P : Program) (r : Option Nat) (B : Code) (N R : Act → World → Prop) (E : Nat → Act → World → Prop) : Act → World → Prop := fun a w => B.wpIn (FR r) 0 P (kq N R E) a w
def RI (P : Program) (r : Option Nat) (C : Code) (i : Nat) (n : Nat) (df : List Deferred) (l : Env) (w : World) (N R : Act → World → Prop) (E : Nat → Act → World → Prop) : Prop :=
  ∀ a, Ag a n df l → wpListIn (FR r) 0 P (opsL C).toArray (kq N R E) ((opsL C).drop i) a w
def DI (P : Program) (r : Option Nat) (C : Code) (f : Nat) (D : List Nat) (n : Nat) (df : List Deferred) (l : Env) (w : World) (N R : Act → World → Prop) (E : Nat → Act → World → Prop) : Prop :=
  ∀ a, Ag a n df l → wpAnyIn (FR r) 0 P .any (opsL C).toArray (kq N R E) f (mkL (opsL C).length D) a w
def OI (P : Program) (r : Option Nat) (C : Code) (f : Nat) (D : List Nat) (i : Nat) (n : Nat) (df : List Deferred) (l : Env) (w : World) (N R : Act → World → Prop) (E : Nat → Act → World → Prop) : Prop :=
  ∀ a, Ag a n df l → wpOpIn (FR r) 0 P (opsL C).toArray (kq N R E) i (wpAnyIn (FR r) 0 P .any (opsL C).toArray (kq N R E) f (mkL (opsL C).length (i :: D))) a w
section
variable {P : Program} {C A B : Code} {r : Option Nat} {n : Nat} {df : List Deferred} {l : Env} {w w' : World} {N R : Act → World → Prop} {E : Nat → Act → World → Prop}
theorem icl_seq (hs : C = .seq A B) (h : CI P r A n df l w (KI P r B N R E) R E) : CI P r C n df l w N R E := by
  subst hs
  intro a ha
  refine wpIn_seq (wpIn_mono (h a ha) ?_)
  intro e a w hq
  cases e <;> first | exact hq | exact hq.elim
theorem ial_k (h : CI P r B n df l w N R E) : AL n df l w (KI P r B N R E) := h
theorem icl_skip (hs : C = .skip) (h : AL n df l w N) : CI P r C n df l w N R E := by subst hs; exact fun a ha => wpIn_skip (h a ha)
theorem icl_block {id : Nat} (hs : C = .block id B) (h : CI P r B n df l w N R (upd E id N)) : CI P r C n df l w N R E := by
  subst hs
  intro a ha
  refine wpIn_block (wpIn_mono (h a ha) ?_)
  intro e a w hq
  cases e with
  | exit i =>
    simp only [kq, upd] at hq
    simp only [Exit.inBlock]
    by_cases hi : i = id
    · rw [if_pos hi]; subst hi; simpa [kq] using hq
    · rw [if_neg hi]
      have : Nat.beq i id = false := by
        cases hb : Nat.beq i id with
        | false => rfl
        | true => exact absurd (Nat.eq_of_beq_eq_true hb) hi
      rw [this] at hq; exact hq
  | _ => exact hq
theorem icl_reg {id : Nat} {ops : Array Oper} (hs : C = .region id ops false) (h : RI P r C 0 n df l w N R E) : CI P r C n df l w N R E := by
  subst hs
  intro a ha
  exact wpIn_region_list (by simpa [RI, opsL] using h a ha)
/-- A region of a plain frame by the fenced rules: where a yield is called. -/
theorem cl_regI {id : Nat} {ops : Array Oper} (hs : C = .region id ops false) (h : RI P none C 0 n df l w N R E) : CL P C n df l w N R E :=
  fun a ha => wpIn_wide.1 (icl_reg hs h a ha)
theorem irl_end {i : Nat} (he : nth (opsL C) i = none) (h : AL n df l w N) : RI P r C i n df l w N R E := by
  intro a ha
  rw [nth_eq] at he
  rw [List.drop_eq_nil_of_le (List.getElem?_eq_none_iff.1 he)]
  exact h a ha
theorem ist {i d : Nat} {o : Oper} {v : Value} (ho : nth (opsL C) i = some o) (hw : Want C l o = some true) (hd : o.dst = some d) (hn : Nat.blt d n = true) (h : Ex P o l w v w')
    (k : RI P r C (i + 1) n df ((d, v) :: l) w' N R E) (hnd : nodef o = true := by rfl) : RI P r C i n df l w N R E := by
  intro a ha
  rw [drop_of_nth ho]
  unfold wpListIn
  rw [if_pos (want_spec ha hw)]
  refine ⟨fun _ _ => trivial, ?_⟩
  rw [semAt_of _ _ hnd, h _ ha.fits]
  simp only [Oper.uponIn, hd]
  exact k _ (ha.put (by simpa using hn) v)
theorem iso {i d : Nat} {o : Oper} (ho : nth (opsL C) i = some o) (hw : Want C l o = some false) (hd : o.dst = some d) (hn : Nat.blt d n = true)
    (k : RI P r C (i + 1) n df ((d, undef) :: l) w N R E) : RI P r C i n df l w N R E := by
  intro a ha
  rw [drop_of_nth ho]
  unfold wpListIn
  rw [if_neg (by rw [want_spec ha hw]; simp)]
  rw [hd]
  exact ⟨fun _ _ => trivial, k _ (ha.put (by simpa using hn) undef)⟩
theorem isf {i d : Nat} {o : Oper} {p : Prop} [Decidable p] (ho : nth (opsL C) i = some o) (hw : Want C l o = some true) (hd : o.dst = some d) (hn : Nat.blt d n = true) (h : Ex P o l w (.bool (decide p)) w')
    (k1 : p → RI P r C (i + 1) n df ((d, .bool true) :: l) w' N R E) (k0 : ¬ p → RI P r C (i + 1) n df ((d, .bool false) :: l) w' N R E) (hnd : nodef o = true := by rfl) : RI P r C i n df l w N R E := by
  by_cases hp : p
  · exact ist ho hw hd hn (h.b1 hp) (k1 hp) hnd
  · exact ist ho hw hd hn (h.b0 hp) (k0 hp) hnd
theorem ise {i d : Nat} {o : Oper} {RR : Value → World → Prop} (ho : nth (opsL C) i = some o) (hw : Want C l o = some true) (hd : o.dst = some d) (hn : Nat.blt d n = true) (h : Ev P o l w RR)
    (k : ∀ v w', RR v w' → RI P r C (i + 1) n df ((d, v) :: l) w' N R E) (hnd : nodef o = true := by rfl) : RI P r C i n df l w N R E := by
  intro a ha
  rw [drop_of_nth ho]
  unfold wpListIn
  rw [if_pos (want_spec ha hw)]
  refine ⟨fun _ _ => trivial, ?_⟩
  obtain ⟨v, w', he, hr⟩ := h _ ha.fits
  rw [semAt_of _ _ hnd, he]
  simp only [Oper.uponIn, hd]
  exact k v w' hr _ (ha.put (by simpa using hn) v)
theorem isv {i : Nat} {o : Oper} {RR : World → Prop} (ho : nth (opsL C) i = some o) (hw : Want C l o = some true) (hd : o.dst = none) (h : Sv P o l w RR)
    (k : ∀ w', RR w' → RI P r C (i + 1) n df l w' N R E) (hnd : nodef o = true := by rfl) : RI P r C i n df l w N R E := by
  intro a ha
  rw [drop_of_nth ho]
  unfold wpListIn
  rw [if_pos (want_spec ha hw)]
  refine ⟨fun _ _ => trivial, ?_⟩
  obtain ⟨w', he, hr⟩ := h _ ha.fits
  rw [semAt_of _ _ hnd, he]
  simp only [Oper.uponIn, hd]
  exact k w' hr _ ha
theorem isc {i d : Nat} {o : Oper} {RR : Value → World → Prop} (ho : nth (opsL C) i = some o) (hw : Want C l o = some true) (hd : o.dst = some d) (hn : Nat.blt d n = true) (h : Cx P o l w RR)
    (k : ∀ v w', RR v w' → RI P r C (i + 1) n df ((d, v) :: l) w' N R E) (hnd : nodef o = true := by rfl) : RI P r C i n df l w N R E := by
  intro a ha
  rw [drop_of_nth ho]
  unfold wpListIn
  rw [if_pos (want_spec ha hw)]
  refine ⟨fun _ _ => trivial, ?_⟩
  obtain ⟨f, args, he, hc⟩ := h _ ha.fits
  rw [semAt_of _ _ hnd, he]
  simp only [Oper.uponIn]
  refine ⟨FR_depth _ _, (callsIn_FR (Calls.mono hc ?_))⟩
  rintro e w' ⟨v, rfl, hr⟩
  rw [hd]
  exact k v w' hr _ (ha.put (by simpa using hn) v)
/-- A call of a range's yield: one round. -/
def Yd (P : Program) (L : Nat) (vs : List Value) (w : World) (RR : Value → World → Prop) : Prop := YieldAt Fence.wide 0 P L vs.toArray w (fun e w' => ∃ v, e = .returned v ∧ RR v w')
theorem iy {i d L : Nat} {q : Operand} {xs : Array Operand} {ts : Array TypeId} {vs : List Value} {ty : TypeId} {pos : String} {af : Array Edge} {g : Option (Nat × Bool)} {RR : Value → World → Prop} (ho : nth (opsL C) i = some ⟨some d, .call ⟨.value q, xs, ts⟩, ty, pos, af, g⟩) (hw : Want C l ⟨some d, .call ⟨.value q, xs, ts⟩, ty, pos, af, g⟩ = some true) (hn : Nat.blt d n = true)
    (hq : ev l q = some (.func (.yield L) #[] #[])) (hx : evl l xs.toList = some vs) (h : Yd P L vs w RR)
    (k : ∀ v w', RR v w' → RI P r C (i + 1) n df ((d, v) :: l) w' N R E) : RI P r C i n df l w N R E := by
  intro a ha
  rw [drop_of_nth ho]
  unfold wpListIn
  rw [if_pos (want_spec ha hw)]
  refine ⟨fun _ _ => trivial, ?_⟩
  obtain ⟨fn, tmps, assign, body, hy, hr⟩ := h
  have e1 : xs.map a.eval = vs.toArray := by rw [← evl_fits ha.fits hx]; apply Array.ext'; simp
  have e0 : a.eval q = .func (.yield L) #[] #[] := ha.fits q _ hq
  have e2 : (execOp a.eval ⟨some d, .call ⟨.value q, xs, ts⟩, ty, pos, af, g⟩).run P w = .ok (.round L fn tmps assign body) w := by
    simp [execOp, resolve, invoke, Deferred.ofValue, e0, e1, hy]
  rw [semAt_of _ _ rfl, e2]
  simp only [Oper.uponIn]
  refine ⟨FR_depth _ _, ?_⟩
  have h2 : RoundIn (FR r) 0 P L fn tmps assign body w (fun e w' => ∃ v, e = .returned v ∧ RR v w') := hr
  refine RoundIn.mono h2 ?_
  rintro e w' ⟨v, rfl, hR⟩
  exact k v w' hR _ (ha.put (by simpa using hn) v)
/-! a region that draws, order by order -/
theorem icl_draw {id : Nat} {ops : Array Oper} (hm : P.follows .mixedOrders = true) (hs : C = .region id ops true) (h : ∀ w', Fr [] w w' → w'.heap = w.heap → DI P r C (opsL C).length [] n df l w' N R E) : CI P r C n df l w N R E := by
  subst hs
  intro a ha
  have := h { w with drawn := w.drawn + 1 } (Fr.drew w) rfl a ha
  exact wpIn_region_any hm (by simpa [opsL, mkL] using this)
theorem di_n {f : Nat} {D : List Nat} (hr : Region.ready .any (opsL C).toArray (mkL (opsL C).length D) = []) (h : AL n df l w N) : DI P r C f D n df l w N R E := by
  intro a ha
  cases f with
  | zero => exact ⟨hr, h a ha⟩
  | succ f => exact ⟨fun _ => h a ha, fun i hi => by rw [hr] at hi; cases hi⟩
theorem di_1 {f i : Nat} {D : List Nat} (hr : Region.ready .any (opsL C).toArray (mkL (opsL C).length D) = [i]) (h : OI P r C f D i n df l w N R E) : DI P r C (f + 1) D n df l w N R E :=
  fun a ha => ⟨fun h0 => (by rw [hr] at h0; cases h0), fun k hk => by rw [hr] at hk; simp at hk; subst hk; exact h a ha⟩
theorem di_2 {f i j : Nat} {D : List Nat} (hr : Region.ready .any (opsL C).toArray (mkL (opsL C).length D) = [i, j]) (h : OI P r C f D i n df l w N R E) (h' : OI P r C f D j n df l w N R E) : DI P r C (f + 1) D n df l w N R E :=
  fun a ha => ⟨fun h0 => (by rw [hr] at h0; cases h0), fun k hk => by rw [hr] at hk; simp at hk; rcases hk with rfl | rfl; exact h a ha; exact h' a ha⟩
theorem di_3 {f i j m : Nat} {D : List Nat} (hr : Region.ready .any (opsL C).toArray (mkL (opsL C).length D) = [i, j, m]) (h : OI P r C f D i n df l w N R E) (h' : OI P r C f D j n df l w N R E) (h'' : OI P r C f D m n df l w N R E) : DI P r C (f + 1) D n df l w N R E :=
  fun a ha => ⟨fun h0 => (by rw [hr] at h0; cases h0), fun k hk => by rw [hr] at hk; simp at hk; rcases hk with rfl | rfl | rfl; exact h a ha; exact h' a ha; exact h'' a ha⟩
theorem oi_e {f i d : Nat} {D : List Nat} {o : Oper} {RR : Value → World → Prop} (ho : nth (opsL C) i = some o) (hw : Want C l o = some true) (hd : o.dst = some d) (hn : Nat.blt d n = true) (h : Ev P o l w RR)
    (k : ∀ v w', RR v w' → DI P r C f (i :: D) n df ((d, v) :: l) w' N R E) (hnd : nodef o = true := by rfl) : OI P r C f D i n df l w N R E := by
  intro a ha
  have ho' : (opsL C).toArray[i]? = some o := by rw [List.getElem?_toArray, ← nth_eq]; exact ho
  unfold wpOpIn
  simp only [ho']
  rw [if_pos (want_spec ha hw)]
  refine ⟨fun _ _ => trivial, ?_⟩
  obtain ⟨v, w', he, hr⟩ := h _ ha.fits
  rw [semAt_of _ _ hnd, he]
  simp only [Oper.uponIn, hd]
  exact k v w' hr _ (ha.put (by simpa using hn) v)
theorem oi_x {f i d : Nat} {D : List Nat} {o : Oper} {v : Value} (ho : nth (opsL C) i = some o) (hw : Want C l o = some true) (hd : o.dst = some d) (hn : Nat.blt d n = true) (h : Ex P o l w v w')
    (k : DI P r C f (i :: D) n df ((d, v) :: l) w' N R E) (hnd : nodef o = true := by rfl) : OI P r C f D i n df l w N R E :=
  oi_e ho hw hd hn h.ev (fun _ _ ⟨e1, e2⟩ => by rw [e1, e2]; exact k) hnd
theorem oi_v {f i : Nat} {D : List Nat} {o : Oper} {RR : World → Prop} (ho : nth (opsL C) i = some o) (hw : Want C l o = some true) (hd : o.dst = none) (h : Sv P o l w RR)
    (k : ∀ w', RR w' → DI P r C f (i :: D) n df l w' N R E) (hnd : nodef o = true := by rfl) : OI P r C f D i n df l w N R E := by
  intro a ha
  have ho' : (opsL C).toArray[i]? = some o := by rw [List.getElem?_toArray, ← nth_eq]; exact ho
  unfold wpOpIn
  simp only [ho']
  rw [if_pos (want_spec ha hw)]
  refine ⟨fun _ _ => trivial, ?_⟩
  obtain ⟨w', he, hr⟩ := h _ ha.fits
  rw [semAt_of _ _ hnd, he]
  simp only [Oper.uponIn, hd]
  exact k w' hr _ ha
theorem oi_c {f i d : Nat} {D : List Nat} {o : Oper} {RR : Value → World → Prop} (ho : nth (opsL C) i = some o) (hw : Want C l o = some true) (hd : o.dst = some d) (hn : Nat.blt d n = true) (h : Cx P o l w RR)
    (k : ∀ v w', RR v w' → DI P r C f (i :: D) n df ((d, v) :: l) w' N R E) (hnd : nodef o = true := by rfl) : OI P r C f D i n df l w N R E := by
  intro a ha
  have ho' : (opsL C).toArray[i]? = some o := by rw [List.getElem?_toArray, ← nth_eq]; exact ho
  unfold wpOpIn
  simp only [ho']
  rw [if_pos (want_spec ha hw)]
  refine ⟨fun _ _ => trivial, ?_⟩
  obtain ⟨g, args, he, hc⟩ := h _ ha.fits
  rw [semAt_of _ _ hnd, he]
  simp only [Oper.uponIn]
  refine ⟨FR_depth _ _, (callsIn_FR (Calls.mono hc ?_))⟩
  rintro e w' ⟨v, rfl, hr⟩
  rw [hd]
  exact k v w' hr _ (ha.put (by simpa using hn) v)
theorem Fr.putObj (w : World) (q : Nat) (o : Obj) : Fr [q] w (w.putObj q o) := ⟨rfl, rfl, rfl, by simp, fun k hk hn => World.putObj_heap_other (by simpa using hn)⟩
/-- A round's frame: yield's arguments in the parameters. -/
theorem Ag.paramsL {a : Act} : ∀ (ps : List Nat) (vs : List Value) {t : Array Value} {l : Env}, Ag { tmps := t, defers := [] } n [] l → (∀ p ∈ ps, p < n) → ps.length = vs.length →
    Ag { tmps := (ps.zip vs).foldl (fun t (p, v) => t.setIfInBounds p v) t, defers := [] } n [] ((ps.zip vs).reverse ++ l) := by
  intro ps
  induction ps with
  | nil =>
    intro vs t l h _ hl
    obtain rfl : vs = [] := List.eq_nil_of_length_eq_zero hl.symm
    simpa using h
  | cons p r ih =>
    intro vs t l h hp hl
    cases vs with
    | nil => simp at hl
    | cons v vs =>
      have h1 : Ag { tmps := t.setIfInBounds p v, defers := [] } n [] ((p, v) :: l) := h.put (hp p (by simp)) v
      have h2 := ih vs h1 (fun q hq => hp q (by simp [hq])) (by simpa using hl)
      simpa using h2
theorem Ag.params {a : Act} (ps : List Nat) (vs : List Value) {t : Array Value} {l : Env} (h : Ag { tmps := t, defers := [] } n [] l) (hp : ∀ p ∈ ps, p < n) (hl : ps.length = vs.length) :
    Ag { tmps := (ps.toArray.zip vs.toArray).foldl (fun t (p, v) => t.setIfInBounds p v) t, defers := [] } n [] ((ps.zip vs).reverse ++ l) := by
  have := Ag.paramsL (a := a) ps vs h hp hl
  rw [List.zip_toArray, List.foldl_toArray]
  exact this
def mk (D : Nat) : Deferred := { target := .collected D, args := #[] }
/-- The statement: rounds that end normally. I: what holds behind m rounds. -/
theorem cl_range {g : Operand} {ps : Array Tmp} {gf : Nat} {cap : List Value} (hs : C = .rangeFunc g ps A B) (hg : ev l g = some (.func (.func gf) #[] cap.toArray)) (hcf : ∀ a w, (callFunc gf a).run P w = .ok (.enter gf a) w)
    (len : Nat) (arg : Nat → List Value) (env : Nat → Env) (I : Nat → World → Prop) (hps : ∀ p ∈ ps.toList, p < n) (hal : ∀ m, (arg m).length = ps.size)
    (h0 : ∀ W, Fr [] w W → w.heap.size + 2 ≤ W.heap.size → I 0 W) (hI : ∀ m W W', I m W → Fr [w.heap.size + 1] W W' → I m W')
    (hcall : ∀ J : Nat → World → Prop, (∀ m W W', J m W → Fr [] W W' → J m W') → (∀ m W, J m W → I m W) →
      (∀ m W, m < len → J m W → Yd P (w.heap.size + 1) (arg m) W (fun v W' => v = .bool true ∧ J (m + 1) W')) → ∀ W, J 0 W → Cl P gf (.func (.yield (w.heap.size + 1)) #[] #[] :: cap) W (fun _ W' => J len W'))
    (hIfr : ∀ m W W', I m W → Fr [] W W' → I m W')
    (hA : ∀ m W, m < len → CI P (some (w.heap.size + 1)) A n [] ((ps.toList.zip (arg m)).reverse ++ l) W (fun a W1 => W1 = W ∧ Ag a n [] (env m)) (fun _ _ => False) (fun _ _ _ => False))
    (hB : ∀ m W, m < len → I m W → CI P (some (w.heap.size + 1)) B n [] (env m) W (fun a W' => I (m + 1) W' ∧ W.heap.size ≤ W'.heap.size ∧ ∀ q, q = w.heap.size ∨ q = w.heap.size + 1 → W'.heap[q]? = W.heap[q]?) (fun _ _ => False) (fun _ _ _ => False))
    (hN : ∀ W, I len W → W.heap[w.heap.size]? = some (.deferred (some [])) → AL n (mk w.heap.size :: df) l W N) : CL P C n df l w N R E := by
  subst hs
  intro a ha
  refine (wpIn_wide (n := 0)).1 (wpIn_rangeFunc ?_)
  intro fn hfn
  obtain ⟨rec, hrec⟩ : ∃ rec : LoopState → Option Code → Loop, rec = fun st pe => { state := st, pending := pe, fn, tmps := a.tmps, params := ps, assign := A, body := B, defers := w.heap.size } := ⟨_, rfl⟩
  obtain ⟨W1, hW1⟩ : ∃ W1, (w.alloc (.deferred (some []))).alloc (.loop (rec .ready none)) = W1 := ⟨_, rfl⟩
  have hL1 : W1.heap[w.heap.size + 1]? = some (.loop (rec .ready none)) := by
    rw [← hW1]; have := World.alloc_heap_new (w.alloc (.deferred (some []))) (.loop (rec .ready none)); rwa [World.size_alloc] at this
  have hK1 : W1.heap[w.heap.size]? = some (.deferred (some [])) := by
    rw [← hW1]; exact (Below.heap_alloc _ _ _ (by simp)).trans (World.alloc_heap_new w _)
  have hF1 : Fr [] w W1 := by rw [← hW1]; exact (Fr.alloc w _).trans (Fr.alloc _ _)
  have hgv : a.eval g = .func (.func gf) #[] cap.toArray := ha.fits g _ hg
  refine ⟨w.heap.size + 1, [mk w.heap.size], W1, { target := .fn (.func gf) cap.toArray, args := #[.func (.yield (w.heap.size + 1)) #[] #[]] }, W1, gf,
    #[.func (.yield (w.heap.size + 1)) #[] #[]] ++ cap.toArray, W1, ?_, ?_, fun _ _ => trivial, ?_, FR_depth none _, ?_⟩
  · rw [← hW1, hrec]; exact run_enterLoop_outer _ _ _ _ _
  · simp only [resolve, hgv]
    simp [go_sem]
  · simp [invoke, go_sem, hcf]
  · refine callsIn_wide.2 ?_
    have hc := hcall (fun m W => I m W ∧ W.heap[w.heap.size + 1]? = some (.loop (rec .ready none)) ∧ W.heap[w.heap.size]? = some (.deferred (some [])))
      (fun m W W' h f => ⟨hIfr m W W' h.1 f, (f.keep _ (Array.getElem?_eq_some_iff.1 h.2.1).1 (by simp)).trans h.2.1, (f.keep _ (Array.getElem?_eq_some_iff.1 h.2.2).1 (by simp)).trans h.2.2⟩)
      (fun m W h => h.1) ?_ W1 ⟨h0 W1 hF1 (by rw [← hW1]; simp), hL1, hK1⟩
    · have e : #[.func (.yield (w.heap.size + 1)) #[] #[]] ++ cap.toArray = (Value.func (.yield (w.heap.size + 1)) #[] #[] :: cap).toArray := by simp
      rw [e]
      refine Calls.mono hc ?_
      rintro e W2 ⟨v, rfl, hi, hl, hk⟩
      refine ⟨none, _, by have := run_endLoop (P := P) hl (by rw [hrec]; simp); rw [hrec] at this; exact this, ?_⟩
      have f1 := Fr.putObj W2 (w.heap.size + 1) (.loop { rec .ready none with state := .exhausted })
      have ha2 : Ag { a with defers := [mk w.heap.size] ++ a.defers } n (mk w.heap.size :: df) l := ⟨ha.size, by simp [ha.defs], ha.look⟩
      rw [hrec] at f1
      exact hN _ (hI _ _ _ hi f1) ((World.putObj_heap_other (by omega)).trans hk) _ ha2
    · rintro m W hm ⟨hi, hl, hk⟩
      have hlt : w.heap.size + 1 < W.heap.size := (Array.getElem?_eq_some_iff.1 hl).1
      have hy := run_yield (P := P) (args := (arg m).toArray) hl (by rw [hrec]; simp [hal m])
      rw [hrec] at hy
      refine ⟨fn, _, A, B, hy, roundIn_of_wpIn hfn ?_⟩
      have hp0 := Ag.params (n := n) (a := a) ps.toList (arg m) (t := a.tmps) (l := l) ⟨ha.size, rfl, ha.look⟩ hps (by simp [hal m])
      have hps2 : ps.toList.toArray = ps := by simp
      rw [hps2] at hp0
      refine wpIn_mono (hA m W hm _ hp0) ?_
      intro e a1 W2 hq
      cases e with
      | normal =>
        obtain ⟨rfl, ha1⟩ := hq
        refine ⟨_, run_beginRound hl (by rw [hrec]), ?_⟩
        have f2 := Fr.putObj W2 (w.heap.size + 1) (.loop { rec .ready none with state := .busy })
        have hl2 : (W2.putObj (w.heap.size + 1) (.loop { rec .ready none with state := .busy })).heap[w.heap.size + 1]? = some (.loop { rec .ready none with state := .busy }) := World.putObj_heap_same hlt
        have hk2 : (W2.putObj (w.heap.size + 1) (.loop { rec .ready none with state := .busy })).heap[w.heap.size]? = some (.deferred (some [])) := (World.putObj_heap_other (by omega)).trans hk
        refine wpIn_mono (hB m _ hm (hI _ _ _ hi f2) a1 ha1) ?_
        intro e a3 W3 hp
        cases e with
        | normal =>
          obtain ⟨hi3, _, hkp⟩ := hp
          have hl3 := (hkp _ (.inr rfl)).trans hl2
          have hk3 := (hkp _ (.inl rfl)).trans hk2
          have hr := run_endRound (P := P) none hl3
          rw [hrec] at hr
          refine ⟨_, _, hr, _, rfl, rfl, hI _ _ _ hi3 (Fr.putObj _ _ _), ?_, (World.putObj_heap_other (by omega)).trans hk3⟩
          rw [World.putObj_heap_same (Array.getElem?_eq_some_iff.1 hl3).1, hrec]
          rfl
        | ret => exact hp.elim
        | exit id => exact hp.elim
        | goto t => exact hp.elim
        | panic ch => exact hp.elim
        | outgrown => exact hp.elim
      | ret => exact hq.elim
      | exit id => exact hq.elim
      | goto t => exact hq.elim
      | panic ch => exact hq.elim
      | outgrown => exact hq.elim
/-- A function that holds a range over a function: its end. -/
def LM (P : Program) (fn : Func) (RR : Value → World → Prop) : Act → World → Prop := fun a w => LeavesInM Fence.wide 0 P fn a.tmps (fun e w' => ∃ v, e = .returned v ∧ RR v w') a.defers .returning w
theorem enterM {f : FuncId} {fn : Func} {args : List Value} {RR : Value → World → Prop} (hf : P.funcs[f]? = some fn) (hb : fn.body = some C) (hn : fn.ntmps = n) (hl0 : Nat.ble args.length n = true)
    (h : CL P C n [] (argE 0 args) w (LM P fn RR) (LM P fn RR) (fun _ _ _ => False)) : Cl P f args w RR := by
  have hl := Nat.le_of_ble_eq_true hl0
  refine callsIn_wide.1 (callsIn_of_wp_marks (n := 0) hf hb trivial (wpIn_wide.2 ?_))
  refine wp_mono (h _ ⟨by simp [hn]; omega, rfl, ?_⟩) ?_
  · intro t v ht
    obtain ⟨_, h2⟩ := find_argE args 0 t v ht
    have hlt : t < args.length := by
      rcases Nat.lt_or_ge t args.length with h' | h'
      · exact h'
      · simp [List.getElem?_eq_none h'] at h2
    simp only [Nat.sub_zero] at h2
    have h3 := (List.getElem?_eq_some_iff.1 h2).2
    simp [Array.getElem?_append, hlt, h3]
  · intro e a' w' hq
    cases e <;> first | exact hq | exact hq.elim
theorem finM0 {fn : Func} {RR : Value → World → Prop} (hr : fn.results = #[]) (h : RR (.tuple #[]) w) : AL n [] l w (LM P fn RR) := fun a ha => by
  unfold LM
  rw [ha.defs]
  exact ⟨_, results_none hr _ _ _, _, rfl, h⟩
theorem finMD {fn : Func} {RR : Value → World → Prop} {D : Nat} (hr : fn.results = #[]) (hD : w.heap[D]? = some (.deferred (some []))) (h : RR (.tuple #[]) (w.putObj D (.deferred none))) : AL n [mk D] l w (LM P fn RR) := fun a ha => by
  unfold LM
  rw [ha.defs]
  exact ⟨by simp, .inl ⟨D, _, rfl, run_takeDeferred hD, ⟨_, results_none hr _ _ _, _, rfl, h⟩⟩⟩
end
end Go.Proofs.YtdjljgfffcjfmaaGreatDoor.Sx
