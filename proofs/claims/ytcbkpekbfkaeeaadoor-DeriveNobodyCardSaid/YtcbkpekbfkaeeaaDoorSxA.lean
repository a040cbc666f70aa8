/- The steps of a walk, as plain lemmas: frames as short lists of slots, code as terms, drawn regions by what floats and what is forced. -/
import Derived.WalkKit
import Derived.Orders
import Derived.OrdersHeld
import Derived.KernelRfl
import Derived.Maps.AppendAt
import Derived.Deep.LoopGhost
set_option linter.unusedVariables false
set_option linter.unusedSimpArgs false
namespace Go.Proofs.YtcbkpekbfkaeeaaDoor.Sx
open Go Go.RowKit

/-! ### frames -/
abbrev Env := List (Nat × Value)
def find : Env → Nat → Option Value
  | [], _ => none
  | (k, v) :: r, t => match Nat.beq k t with | true => some v | false => find r t
theorem find_self (d : Nat) (v : Value) (l : Env) : find ((d, v) :: l) d = some v := by simp [find]
theorem find_ne {d t : Nat} (v : Value) (l : Env) (h : d ≠ t) : find ((d, v) :: l) t = find l t := by
  show (match Nat.beq d t with | true => some v | false => find l t) = find l t
  have : Nat.beq d t = false := by
    cases hb : Nat.beq d t with
    | false => rfl
    | true => exact absurd (Nat.eq_of_beq_eq_true hb) h
  rw [this]
def ev (l : Env) : Operand → Option Value
  | .tmp t => find l t
  | .const v => some v
  | .global g => some (.pointer (some ⟨g, 0, none⟩))
  | .func f => some (.func (.func f) #[] #[])
structure Ag (a : Act) (n : Nat) (df : List Deferred) (l : Env) : Prop where
  size : a.tmps.size = n
  defs : a.defers = df
  look : ∀ t v, find l t = some v → a.tmps.getD t undef = v
def Fits (l : Env) (ρ : Operand → Value) : Prop := ∀ x v, ev l x = some v → ρ x = v
theorem Ag.fits {a : Act} {n : Nat} {df : List Deferred} {l : Env} (h : Ag a n df l) : Fits l a.eval := by
  intro x v hx
  cases x with
  | tmp t => exact h.look t v hx
  | const c => simpa [ev, Act.eval] using hx
  | global g => simpa [ev, Act.eval] using hx
  | func f => simpa [ev, Act.eval] using hx
theorem Ag.put {a : Act} {n : Nat} {df : List Deferred} {l : Env} (h : Ag a n df l) {d : Nat} (hd : d < n) (v : Value) : Ag (a.put (some d) v) n df ((d, v) :: l) := by
  refine ⟨by simpa [Act.put] using h.size, h.defs, ?_⟩
  intro t u ht
  by_cases e : d = t
  · subst e
    rw [find_self] at ht
    obtain rfl := Option.some.inj ht
    have : d < a.tmps.size := by rw [h.size]; exact hd
    simp [Act.put, this]
  · rw [find_ne v l e] at ht
    have := h.look t u ht
    simpa [Act.put, Array.getElem?_setIfInBounds_ne e] using this
def Sub : Env → Env → Prop
  | [], _ => True
  | (t, v) :: r, l => find l t = some v ∧ Sub r l
theorem Sub.look {r l : Env} (h : Sub r l) : ∀ t v, find r t = some v → find l t = some v := by
  induction r with
  | nil => intro t v h'; simp [find] at h'
  | cons p r ih =>
    obtain ⟨k, u⟩ := p
    intro t v h'
    by_cases e : k = t
    · subst e; rw [find_self] at h'; obtain rfl := Option.some.inj h'; exact h.1
    · rw [find_ne u r e] at h'; exact ih h.2 t v h'
theorem Ag.sub {a : Act} {n : Nat} {df : List Deferred} {l r : Env} (h : Ag a n df l) (hs : Sub r l) : Ag a n df r := ⟨h.size, h.defs, fun t v ht => h.look t v (hs.look t v ht)⟩
def evl (l : Env) : List Operand → Option (List Value)
  | [] => some []
  | x :: r => match ev l x, evl l r with | some v, some vs => some (v :: vs) | _, _ => none
theorem evl_fits {l : Env} {ρ : Operand → Value} (h : Fits l ρ) : ∀ {xs : List Operand} {vs : List Value}, evl l xs = some vs → xs.map ρ = vs := by
  intro xs
  induction xs with
  | nil => intro vs hv; simp [evl] at hv; subst hv; rfl
  | cons x r ih =>
    intro vs hv
    unfold evl at hv
    split at hv
    · rename_i v vs' h1 h2
      obtain rfl := Option.some.inj hv
      simp [h x v h1, ih h2]
    · cases hv
def evp (l : Env) : List (Nat × Operand) → Option (List (Nat × Value))
  | [] => some []
  | (i, x) :: r => match ev l x, evp l r with | some v, some vs => some ((i, v) :: vs) | _, _ => none
theorem evp_fits {l : Env} {ρ : Operand → Value} (h : Fits l ρ) : ∀ {xs : List (Nat × Operand)} {vs : List (Nat × Value)}, evp l xs = some vs → xs.map (fun p => (p.1, ρ p.2)) = vs := by
  intro xs
  induction xs with
  | nil => intro vs hv; simp [evp] at hv; subst hv; rfl
  | cons p r ih =>
    obtain ⟨i, x⟩ := p
    intro vs hv
    unfold evp at hv
    split at hv
    · rename_i v vs' h1 h2
      obtain rfl := Option.some.inj hv
      simp [h x v h1, ih h2]
    · cases hv

/-! ### worlds: all but the blocks of S is as it was -/
structure Fr (S : List Nat) (w w' : World) : Prop where
  os : w'.os = w.os
  tape : w'.tape = w.tape
  output : w'.output = w.output
  size : w.heap.size ≤ w'.heap.size
  keep : ∀ k, k < w.heap.size → k ∉ S → w'.heap[k]? = w.heap[k]?
theorem Fr.refl (S : List Nat) (w : World) : Fr S w w := ⟨rfl, rfl, rfl, Nat.le_refl _, fun _ _ _ => rfl⟩
theorem Fr.trans {S : List Nat} {a b c : World} (h : Fr S a b) (k : Fr S b c) : Fr S a c :=
  ⟨k.os.trans h.os, k.tape.trans h.tape, k.output.trans h.output, Nat.le_trans h.size k.size, fun i hi hs => (k.keep i (Nat.lt_of_lt_of_le hi h.size) hs).trans (h.keep i hi hs)⟩
theorem Fr.mono {S T : List Nat} {a b : World} (h : Fr S a b) (hs : ∀ x ∈ S, x ∈ T) : Fr T a b := ⟨h.os, h.tape, h.output, h.size, fun i hi ht => h.keep i hi (fun e => ht (hs i e))⟩
theorem Fr.of0 {T : List Nat} {a b : World} (h : Fr [] a b) : Fr T a b := h.mono (fun _ e => by cases e)
/-- What is written lay not in the first world. -/
theorem Fr.trans_new {S T : List Nat} {a b c : World} (h : Fr S a b) (k : Fr T b c) (hn : ∀ x ∈ T, x ∈ S ∨ a.heap.size ≤ x) : Fr S a c :=
  ⟨k.os.trans h.os, k.tape.trans h.tape, k.output.trans h.output, Nat.le_trans h.size k.size, fun i hi hs => (k.keep i (Nat.lt_of_lt_of_le hi h.size) (fun e => by rcases hn i e with h1 | h1; exact hs h1; omega)).trans (h.keep i hi hs)⟩
theorem Fr.below {a b : World} (h : Fr [] a b) : Below a.heap.size a b := ⟨h.os, h.tape, h.output, h.size, fun k hk => h.keep k hk (by simp)⟩
theorem Fr.of_below {a b : World} (h : Below a.heap.size a b) : Fr [] a b := ⟨h.os, h.tape, h.output, h.size, fun k hk _ => h.block k hk⟩
theorem Fr.cell {S : List Nat} {w w' : World} (h : Fr S w w') {ad : Addr} {v : Value} (hc : w.cell? ad = some v) (hn : ad.block ∉ S) : w'.cell? ad = some v := by
  have hlt := World.block_lt_of_cell? w ad hc
  rw [World.cell?_of_block (w := w) (h.keep _ hlt hn)]; exact hc
theorem Fr.drew (w : World) : Fr [] w { w with drawn := w.drawn + 1 } := ⟨rfl, rfl, rfl, Nat.le_refl _, fun _ _ _ => rfl⟩
/-- A block of the program's own, not frozen. -/
def Blk (w : World) (b : Nat) (T : TypeId) (l : List Value) : Prop := w.heap[b]? = some (.cells l.toArray T (0, 0))
theorem Blk.lt {w : World} {b : Nat} {T : TypeId} {l : List Value} (h : Blk w b T l) : b < w.heap.size := (Array.getElem?_eq_some_iff.1 h).1
theorem Blk.fr {S : List Nat} {w w' : World} {b : Nat} {T : TypeId} {l : List Value} (h : Blk w b T l) (k : Fr S w w') (hn : b ∉ S) : Blk w' b T l := (k.keep b h.lt hn).trans h
theorem Blk.fr0 {w w' : World} {b : Nat} {T : TypeId} {l : List Value} (h : Blk w b T l) (k : Fr [] w w') : Blk w' b T l := h.fr k (by simp)
theorem Blk.cell {w : World} {b : Nat} {T : TypeId} {l : List Value} (h : Blk w b T l) {o : Nat} {v : Value} (hv : l[o]? = some v) : w.cell? ⟨b, o, none⟩ = some v := by
  unfold World.cell?
  rw [show w.heap[(⟨b, o, none⟩ : Addr).block]? = _ from h]
  simpa using hv
theorem Blk.ne {w : World} {b b' : Nat} {T T' : TypeId} {l l' : List Value} (h : Blk w b T l) (h' : Blk w b' T' l') (hT : T ≠ T') : b ≠ b' := by
  rintro rfl
  have := Option.some.inj ((show w.heap[b]? = _ from h).symm.trans h')
  injection this with _ e _
  exact hT e
theorem Blk.inj {w : World} {b : Nat} {T T' : TypeId} {l l' : List Value} (h : Blk w b T l) (h' : Blk w b T' l') : l = l' := by
  have := Option.some.inj ((show w.heap[b]? = _ from h).symm.trans h')
  injection this with e _ _
  simpa using e
theorem Blk.alloc (w : World) (T : TypeId) (l : List Value) : Blk (w.alloc (.cells l.toArray T)) w.heap.size T l := by
  unfold Blk World.alloc
  simp
theorem Fr.alloc (w : World) (o : Obj) : Fr [] w (w.alloc o) := ⟨rfl, rfl, rfl, by simp, fun k hk _ => Below.heap_alloc _ _ _ hk⟩
theorem Fr.setCell (w : World) (b o : Nat) (v : Value) : Fr [b] w (w.setCell ⟨b, o, none⟩ v) := ⟨rfl, rfl, rfl, by simp [World.setCell], fun k hk hn => Below.heap_setCell _ _ _ _ (by simpa using hn)⟩
theorem Blk.setCell {w : World} {b : Nat} {T : TypeId} {l : List Value} (h : Blk w b T l) (o : Nat) (v : Value) : Blk (w.setCell ⟨b, o, none⟩ v) b T (l.set o v) := by
  unfold Blk World.setCell at *
  rw [Array.getElem?_modify, if_pos rfl, h]
  simp
theorem Blk.unfrozen {w : World} {b : Nat} {T : TypeId} {l : List Value} (h : Blk w b T l) (o : Nat) : w.frozen? ⟨b, o, none⟩ = false := by
  unfold World.frozen?
  rw [show w.heap[(⟨b, o, none⟩ : Addr).block]? = _ from h]
  simp

/-! ### what an operation yields -/
def Ex (P : Program) (o : Oper) (l : Env) (w : World) (v : Value) (w' : World) : Prop := ∀ ρ, Fits l ρ → (execOp ρ o).run P w = .ok (.value v) w'
/-- A store. -/
def Es (P : Program) (o : Oper) (l : Env) (w : World) (w' : World) : Prop := ∀ ρ, Fits l ρ → (execOp ρ o).run P w = .ok .skip w'
/-- A call's contract: it returns. -/
def Cl (P : Program) (f : FuncId) (args : List Value) (w : World) (R : Value → World → Prop) : Prop := Calls P f args.toArray w (fun e w' => ∃ v, e = .returned v ∧ R v w')
theorem Cl.mono {P : Program} {f : FuncId} {args : List Value} {w : World} {R R' : Value → World → Prop} (h : Cl P f args w R) (k : ∀ v w', R v w' → R' v w') : Cl P f args w R' :=
  Calls.mono h (fun e w' ⟨v, he, hr⟩ => ⟨v, he, k v w' hr⟩)
def Cx (P : Program) (o : Oper) (l : Env) (w : World) (R : Value → World → Prop) : Prop := ∀ ρ, Fits l ρ → ∃ f args, (execOp ρ o).run P w = .ok (.enter f args) w ∧ Calls P f args w (fun e w' => ∃ v, e = .returned v ∧ R v w')

/-! ### code -/
def kq (N R : Act → World → Prop) (E : Nat → Act → World → Prop) : Exit → Act → World → Prop
  | .normal => N
  | .ret => R
  | .exit i => E i
  | _ => fun _ _ => False
def CL (P : Program) (C : Code) (n : Nat) (df : List Deferred) (l : Env) (w : World) (N R : Act → World → Prop) (E : Nat → Act → World → Prop) : Prop := ∀ a, Ag a n df l → C.wp P (kq N R E) a w
def K (P : Program) (B : Code) (N R : Act → World → Prop) (E : Nat → Act → World → Prop) : Act → World → Prop := fun a w => B.wp P (kq N R E) a w
/-- A claim on the frame alone. -/
def AL (n : Nat) (df : List Deferred) (l : Env) (w : World) (N : Act → World → Prop) : Prop := ∀ a, Ag a n df l → N a w
def sL : Code → Code | .seq a _ => a | c => c
def sR : Code → Code | .seq _ b => b | c => c
def cT : Code → Code | .cond _ a _ => a | c => c
def cE : Code → Code | .cond _ _ b => b | c => c
def bB : Code → Code | .block _ b => b | .loop b => b | .scope b => b | c => c
def opsL : Code → List Oper | .region _ ops _ => ops.toList | _ => []
def bodyOf (fn : Func) : Code := match fn.body with | some c => c | none => .skip
def nth : List Oper → Nat → Option Oper
  | [], _ => none
  | o :: _, 0 => some o
  | _ :: r, i + 1 => nth r i
theorem nth_eq (l : List Oper) : ∀ i, nth l i = l[i]? := by
  induction l with
  | nil => intro i; simp [nth]
  | cons o r ih => intro i; cases i with | zero => simp [nth] | succ i => simp [nth, ih]
section
variable {P : Program} {C A B : Code} {n : Nat} {df : List Deferred} {l r : Env} {w w' : World} {N R : Act → World → Prop} {E : Nat → Act → World → Prop} {Q : Exit → Act → World → Prop}
theorem CL.sub (hs : Sub r l) (h : CL P C n df r w N R E) : CL P C n df l w N R E := fun a ha => h a (ha.sub hs)
theorem AL.sub (hs : Sub r l) (h : AL n df r w N) : AL n df l w N := fun a ha => h a (ha.sub hs)
theorem cl_seq (hs : C = .seq A B) (h : CL P A n df l w (K P B N R E) R E) : CL P C n df l w N R E := by
  subst hs
  intro a ha
  refine wp_seq (wp_mono (h a ha) ?_)
  intro e a w hq
  cases e <;> first | exact hq | exact hq.elim
theorem al_k (h : CL P B n df l w N R E) : AL n df l w (K P B N R E) := h
theorem cl_skip (hs : C = .skip) (h : AL n df l w N) : CL P C n df l w N R E := by subst hs; exact fun a ha => wp_skip (h a ha)
theorem cl_ret (hs : C = .ret) (h : AL n df l w R) : CL P C n df l w N R E := by subst hs; exact fun a ha => wp_ret (h a ha)
theorem cl_exit {i : Nat} (hs : C = .exit i) (h : AL n df l w (E i)) : CL P C n df l w N R E := by subst hs; exact fun a ha => wp_exit (h a ha)
theorem cl_cond {c : Operand} {b : Bool} (hs : C = .cond c A B) (hc : ev l c = some (.bool b)) (ht : b = true → CL P A n df l w N R E) (hf : b = false → CL P B n df l w N R E) : CL P C n df l w N R E := by
  subst hs
  intro a ha
  exact wp_cond_split (ha.fits c _ hc) (fun h => ht h a ha) (fun h => hf h a ha)
theorem cl_if1 {c : Operand} (hs : C = .cond c A B) (hc : ev l c = some (.bool true)) (h : CL P A n df l w N R E) : CL P C n df l w N R E := by
  subst hs; exact fun a ha => wp_cond_true (ha.fits c _ hc) (h a ha)
theorem cl_if0 {c : Operand} (hs : C = .cond c A B) (hc : ev l c = some (.bool false)) (h : CL P B n df l w N R E) : CL P C n df l w N R E := by
  subst hs; exact fun a ha => wp_cond_false (ha.fits c _ hc) (h a ha)
def upd (E : Nat → Act → World → Prop) (id : Nat) (N : Act → World → Prop) : Nat → Act → World → Prop := fun i => match Nat.beq i id with | true => N | false => E i
theorem cl_block {id : Nat} (hs : C = .block id B) (h : CL P B n df l w N R (upd E id N)) : CL P C n df l w N R E := by
  subst hs
  intro a ha
  refine wp_block (wp_mono (h a ha) ?_)
  intro e a w hq
  cases e with
  | exit i =>
    simp only [kq, upd] at hq
    simp only [Exit.inBlock]
    by_cases hi : i = id
    · rw [if_pos hi]; subst hi; simpa [kq] using hq
    · rw [if_neg hi]
      have : Nat.beq i id = false := by
        cases hb : Nat.beq i id with
        | false => rfl
        | true => exact absurd (Nat.eq_of_beq_eq_true hb) hi
      rw [this] at hq; exact hq
  | _ => exact hq
/-- A loop: a state, what holds of it and of the world at a round's head, a measure. -/
theorem cl_loop {σ : Type} (env : σ → Env) (J : σ → World → Prop) (μ : σ → Nat) (s0 : σ) (hs : C = .loop B) (hsub : Sub (env s0) l) (h0 : J s0 w)
    (round : ∀ s w, J s w → CL P B n df (env s) w (fun a' w' => ∃ s', μ s' < μ s ∧ Ag a' n df (env s') ∧ J s' w') R E) : CL P C n df l w N R E := by
  subst hs
  intro a ha
  refine wp_loop_ghost (fun m a w => ∃ s, μ s = m ∧ Ag a n df (env s) ∧ J s w) (μ s0) ⟨s0, rfl, ha.sub hsub, h0⟩ ?_
  rintro m a w ⟨s, rfl, hA, hJ⟩
  refine wp_mono (round s w hJ a hA) ?_
  intro e a' w' hq
  cases e with
  | normal => obtain ⟨s', hlt, hA', hJ'⟩ := hq; exact ⟨_, hlt, s', rfl, hA', hJ'⟩
  | _ => exact hq
theorem again {σ : Type} {env : σ → Env} {J : σ → World → Prop} {μ : σ → Nat} {m : Nat} (s' : σ) (hlt : μ s' < m) (hs : Sub (env s') l) (hJ : J s' w) :
    AL n df l w (fun a' w' => ∃ s', μ s' < m ∧ Ag a' n df (env s') ∧ J s' w') := fun a ha => ⟨s', hlt, ha.sub hs, hJ⟩
/-- The function's own frame. -/
def argE : Nat → List Value → Env
  | _, [] => []
  | i, v :: r => (i, v) :: argE (i + 1) r
theorem find_argE (vs : List Value) : ∀ i t v, find (argE i vs) t = some v → i ≤ t ∧ vs[t - i]? = some v := by
  induction vs with
  | nil => intro i t v h; simp [argE, find] at h
  | cons u r ih =>
    intro i t v h
    unfold argE at h
    by_cases e : i = t
    · subst e; rw [find_self] at h; simpa using h
    · rw [find_ne u _ e] at h
      obtain ⟨h1, h2⟩ := ih _ _ _ h
      exact ⟨by omega, by rw [show t - i = (t - (i + 1)) + 1 by omega]; simpa using h2⟩
theorem enter {f : FuncId} {fn : Func} {args : List Value} {RR : Value → World → Prop} (hf : P.funcs[f]? = some fn) (hb : fn.body = some C) (hn : fn.ntmps = n) (hl0 : Nat.ble args.length n = true)
    (h : CL P C n [] (argE 0 args) w (fun a w => bodyPost P fn (fun e w' => ∃ v, e = .returned v ∧ RR v w') .normal a w) (fun a w => bodyPost P fn (fun e w' => ∃ v, e = .returned v ∧ RR v w') .ret a w) (fun _ _ _ => False)) : Cl P f args w RR := by
  have hl := Nat.le_of_ble_eq_true hl0
  refine calls_of_wp hf hb ?_
  refine wp_mono (h _ ⟨by simp [hn]; omega, rfl, ?_⟩) ?_
  · intro t v ht
    obtain ⟨_, h2⟩ := find_argE args 0 t v ht
    have hlt : t < args.length := by
      rcases Nat.lt_or_ge t args.length with h' | h'
      · exact h'
      · simp [List.getElem?_eq_none h'] at h2
    simp only [Nat.sub_zero] at h2
    have h3 := (List.getElem?_eq_some_iff.1 h2).2
    simp [Array.getElem?_append, hlt, h3]
  · intro e a' w' hq
    cases e <;> first | exact hq | exact hq.elim
theorem fin0 {fn : Func} {RR : Value → World → Prop} (hr : fn.results = #[]) (h : RR (.tuple #[]) w) :
    AL n [] l w (fun a w => bodyPost P fn (fun e w' => ∃ v, e = .returned v ∧ RR v w') .ret a w) :=
  fun a ha => ⟨ha.defs, _, results_none hr _ _ _, _, rfl, h⟩
theorem fin0n {fn : Func} {RR : Value → World → Prop} (hr : fn.results = #[]) (h : RR (.tuple #[]) w) :
    AL n [] l w (fun a w => bodyPost P fn (fun e w' => ∃ v, e = .returned v ∧ RR v w') .normal a w) :=
  fun a ha => ⟨ha.defs, _, results_none hr _ _ _, _, rfl, h⟩
theorem fin1 {fn : Func} {RR : Value → World → Prop} {t : Nat} {v : Value} (hr : fn.results = #[.tmp t]) (hv : find l t = some v) (h : RR v w) :
    AL n [] l w (fun a w => bodyPost P fn (fun e w' => ∃ v, e = .returned v ∧ RR v w') .ret a w) :=
  fun a ha => ⟨ha.defs, v, by rw [results_tmp hr, ha.look t v hv], _, rfl, h⟩
theorem fin2 {fn : Func} {RR : Value → World → Prop} {t u : Nat} {v x : Value} (hr : fn.results = #[.tmp t, .tmp u]) (hv : find l t = some v) (hx : find l u = some x) (h : RR (.tuple #[v, x]) w) :
    AL n [] l w (fun a w => bodyPost P fn (fun e w' => ∃ v, e = .returned v ∧ RR v w') .ret a w) :=
  fun a ha => ⟨ha.defs, _, by rw [results_tmp2 hr, ha.look t v hv, ha.look u x hx], _, rfl, h⟩
theorem fin3 {fn : Func} {RR : Value → World → Prop} {t u s : Nat} {v x y : Value} (hr : fn.results = #[.tmp t, .tmp u, .tmp s]) (hv : find l t = some v) (hx : find l u = some x) (hy : find l s = some y) (h : RR (.tuple #[v, x, y]) w) :
    AL n [] l w (fun a w => bodyPost P fn (fun e w' => ∃ v, e = .returned v ∧ RR v w') .ret a w) :=
  fun a ha => ⟨ha.defs, .tuple #[v, x, y], by
    have h1 := ha.look t v hv
    have h2 := ha.look u x hx
    have h3 := ha.look s y hy
    rw [Array.getD_eq_getD_getElem?] at h1 h2 h3
    simp [results, hr, h1, h2, h3], _, rfl, h⟩

/-! ### a region in the text's order -/
def RL (P : Program) (C : Code) (i : Nat) (n : Nat) (df : List Deferred) (l : Env) (w : World) (N R : Act → World → Prop) (E : Nat → Act → World → Prop) : Prop :=
  ∀ a, Ag a n df l → wpList P (opsL C).toArray (kq N R E) ((opsL C).drop i) a w
theorem cl_reg {id : Nat} {ops : Array Oper} (hs : C = .region id ops false) (h : RL P C 0 n df l w N R E) : CL P C n df l w N R E := by
  subst hs
  intro a ha
  exact wp_region_list (by simpa [RL, opsL] using h a ha)
theorem drop_of_nth {L : List Oper} {i : Nat} {o : Oper} (h : nth L i = some o) : L.drop i = o :: L.drop (i + 1) := by
  rw [nth_eq] at h
  obtain ⟨hlt, he⟩ := List.getElem?_eq_some_iff.1 h
  rw [List.drop_eq_getElem_cons hlt, he]
theorem rl_end {i : Nat} (he : nth (opsL C) i = none) (h : AL n df l w N) : RL P C i n df l w N R E := by
  intro a ha
  rw [nth_eq] at he
  rw [List.drop_eq_nil_of_le (List.getElem?_eq_none_iff.1 he)]
  exact h a ha
/-- Is an operation carried out? -/
def Want (C : Code) (l : Env) (o : Oper) : Option Bool :=
  match o.guard with
  | none => some true
  | some (j, b) => match (nth (opsL C) j).bind (·.dst) with
    | none => none
    | some e => match find l e with
      | some (.bool c) => some (c == b)
      | some _ => some false
      | none => none
theorem want_spec {a : Act} {o : Oper} {c : Bool} (ha : Ag a n df l) (h : Want C l o = some c) : Region.wanted o (yielded (opsL C).toArray a.tmps) = c := by
  unfold Want at h
  unfold Region.wanted
  split at h
  · rename_i hg; rw [hg]; simpa using h
  · rename_i j b hg
    rw [hg]
    split at h
    · cases h
    · rename_i e he
      split at h
      · rename_i cc hf
        obtain rfl := Option.some.inj h
        rw [nth_eq] at he
        have h1 := ha.look e _ hf
        have h2 : a.tmps[e]? = some (.bool cc) := by
          rw [Array.getD_eq_getD_getElem?] at h1
          cases hx : a.tmps[e]? with
          | none => rw [hx] at h1; simp [undef] at h1
          | some u => rw [hx] at h1; simp at h1; rw [h1]
        simp only [yielded, List.getElem?_toArray, he, Option.bind_some, h2]
        cases cc <;> cases b <;> rfl
      · rename_i u hnb hf
        obtain rfl := Option.some.inj h
        have h1 := ha.look e _ hf
        rw [Array.getD_eq_getD_getElem?] at h1
        cases hx : a.tmps[e]? with
        | none => simp only [yielded, List.getElem?_toArray, ← nth_eq, he, Option.bind_some, hx]; rfl
        | some v =>
          rw [hx] at h1
          simp at h1
          subst h1
          simp only [yielded, List.getElem?_toArray, ← nth_eq, he, Option.bind_some, hx]
          split
          · rename_i b2 h2
            exact absurd (Option.some.inj h2) (by intro e2; exact hnb b2 e2)
          · rfl
      · cases h
theorem st {i d : Nat} {o : Oper} {v : Value} (ho : nth (opsL C) i = some o) (hw : Want C l o = some true) (hd : o.dst = some d) (hn : Nat.blt d n = true) (h : Ex P o l w v w')
    (k : RL P C (i + 1) n df ((d, v) :: l) w' N R E) : RL P C i n df l w N R E := by
  intro a ha
  rw [drop_of_nth ho]
  unfold wpList
  rw [if_pos (want_spec ha hw)]
  refine .inl ?_
  unfold Oper.wp
  rw [h _ ha.fits]
  simp only [Oper.upon, hd]
  exact k _ (ha.put (by simpa using hn) v)
theorem so {i d : Nat} {o : Oper} (ho : nth (opsL C) i = some o) (hw : Want C l o = some false) (hd : o.dst = some d) (hn : Nat.blt d n = true)
    (k : RL P C (i + 1) n df ((d, undef) :: l) w N R E) : RL P C i n df l w N R E := by
  intro a ha
  rw [drop_of_nth ho]
  unfold wpList
  rw [if_neg (by rw [want_spec ha hw]; simp)]
  rw [hd]
  exact k _ (ha.put (by simpa using hn) undef)
theorem ss {i : Nat} {o : Oper} (ho : nth (opsL C) i = some o) (hw : Want C l o = some true) (hd : o.dst = none) (h : Es P o l w w')
    (k : RL P C (i + 1) n df l w' N R E) : RL P C i n df l w N R E := by
  intro a ha
  rw [drop_of_nth ho]
  unfold wpList
  rw [if_pos (want_spec ha hw)]
  refine .inl ?_
  unfold Oper.wp
  rw [h _ ha.fits]
  simp only [Oper.upon, hd]
  exact k _ ha
theorem sc {i d : Nat} {o : Oper} {RR : Value → World → Prop} (ho : nth (opsL C) i = some o) (hw : Want C l o = some true) (hd : o.dst = some d) (hn : Nat.blt d n = true) (h : Cx P o l w RR)
    (k : ∀ v w', RR v w' → RL P C (i + 1) n df ((d, v) :: l) w' N R E) : RL P C i n df l w N R E := by
  intro a ha
  rw [drop_of_nth ho]
  unfold wpList
  rw [if_pos (want_spec ha hw)]
  refine .inl ?_
  obtain ⟨f, args, he, hc⟩ := h _ ha.fits
  unfold Oper.wp
  rw [he]
  simp only [Oper.upon]
  refine Calls.mono hc ?_
  rintro e w' ⟨v, rfl, hr⟩
  rw [hd]
  exact k v w' hr _ (ha.put (by simpa using hn) v)

/-! ### a region that draws its order -/
/-- Whatever order is picked, and T of what is listed holds behind every operation. -/
def XA (P : Program) (ops : Array Oper) (Q : Exit → Act → World → Prop) (T : Array Bool → World → Prop) : Nat → Array Bool → Act → World → Prop
  | 0, L, a, w => Region.ready .any ops L = [] ∧ Q .normal a w
  | f + 1, L, a, w => (Region.ready .any ops L = [] → Q .normal a w) ∧
    ∀ i ∈ Region.ready .any ops L, wpOp P ops Q i (fun a' w' => T (L.setIfInBounds i true) w' ∧ XA P ops Q T f (L.setIfInBounds i true) a' w') a w
theorem wpAny_of_XA {ops : Array Oper} {T : Array Bool → World → Prop} : ∀ (f : Nat) (L : Array Bool) (a : Act) (w : World), XA P ops Q T f L a w → wpAny P .any ops Q f L a w
  | 0, _, _, _, h => h
  | f + 1, _, _, _, h => ⟨h.1, fun i hi => wpOp_mono (fun a' w' h' => wpAny_of_XA f _ a' w' h'.2) (h.2 i hi)⟩
theorem XA_first {ops : Array Oper} {T : Array Bool → World → Prop} {S : World → Prop} {G : Array Bool → Prop} {i : Nat} {oi : Oper} {v : Value} (hi : ops[i]? = some oi) (hsel : ∀ (j : Nat) (o : Oper) cs b, ops[j]? = some o → o.op ≠ .select cs b)
    (hQ : ∀ c a w, Q (.panic c) (a.put oi.dst v) w → Q (.panic c) a w) (hG : ∀ L j, G L → L.getD i true = false → j ∈ Region.ready .any ops L → j ≠ i → G (L.setIfInBounds j true)) (hS : ∀ L w, G L → T L w → S w)
    (hTi : ∀ L w, T (L.setIfInBounds i true) w ↔ T L w) :
    ∀ (f : Nat) (L : Array Bool) (a : Act) (w : World),
      (∀ j oj, ops[j]? = some oj → j ≠ i → L.getD j true = false → (∀ e ∈ oj.after, Region.binds .any e = true → e.on ≠ i) → oi.apart ops oj = true) →
      i ∈ Region.ready .any ops L → YieldsIf P ops S oi v a → G L → T L w → XA P ops Q T f (L.setIfInBounds i true) (a.put oi.dst v) w → XA P ops Q T (f + 1) L a w := by
  intro f
  induction f with
  | zero =>
    intro L a w _ hr hy hg ht H
    refine ⟨fun h => (by rw [h] at hr; cases hr), fun j hj => ?_⟩
    by_cases hji : j = i
    · subst hji; exact hy.wpOp hi (hS _ _ hg ht) ⟨(hTi L w).2 ht, H⟩
    · have := ready_mono hj hji
      rw [H.1] at this
      cases this
  | succ f ih =>
    intro L a w hfree hr hy hg ht H
    refine ⟨fun h => (by rw [h] at hr; cases hr), fun j hj => ?_⟩
    by_cases hji : j = i
    · subst hji; exact hy.wpOp hi (hS _ _ hg ht) ⟨(hTi L w).2 ht, H⟩
    · have h1 := H.2 j (ready_mono hj hji)
      obtain ⟨hjun, oj, hoj, hall⟩ := mem_ready.1 hj
      have hiun := (mem_ready.1 hr).1
      have hnot : ∀ e ∈ oj.after, Region.binds .any e = true → e.on ≠ i := fun e he hb heq => by
        have h1 := hall e he hb
        rw [heq] at h1
        rcases Nat.lt_or_ge i L.size with h' | h'
        · simp [h'] at hiun h1; rw [hiun] at h1; cases h1
        · simp [Array.getElem?_eq_none h'] at h1
      have h2 := wpOp_putIf hoj (hfree j oj hoj hji hjun hnot) (fun cs b => hsel i oi cs b hi) (fun cs b => hsel j oj cs b hoj) hQ hy h1
      have hfree' : ∀ k ok, ops[k]? = some ok → k ≠ i → (L.setIfInBounds j true).getD k true = false →
          (∀ e ∈ ok.after, Region.binds .any e = true → e.on ≠ i) → oi.apart ops ok = true := fun k ok hk hki hun hno => by
        refine hfree k ok hk hki ?_ hno
        by_cases hjk : j = k
        · subst hjk; exact hjun
        · rw [getD_set_ne true hjk] at hun; exact hun
      refine wpOp_mono (fun a' w' h3 => ?_) h2
      obtain ⟨hy', ht', hx'⟩ := h3
      have ht2 : T (L.setIfInBounds j true) w' := by
        rw [Array.setIfInBounds_comm _ _ (Ne.symm hji)] at ht'
        exact (hTi _ _).1 ht'
      refine ⟨ht2, ih (L.setIfInBounds j true) a' w' hfree' (ready_mono hr (Ne.symm hji)) hy' (hG L j hg hiun hj hji) ht2 ?_⟩
      rw [Array.setIfInBounds_comm _ _ hji]
      exact hx'
/-- No operation of the tail is listed. -/
def noTail (tl : List Nat) (L : Array Bool) : Bool := tl.all fun j => !(L.getD j false)
def TT (tl : List Nat) (U : World → Prop) (L : Array Bool) (w : World) : Prop := noTail tl L = true → U w
theorem noTail_set {tl : List Nat} {i : Nat} (h : tl.contains i = false) (L : Array Bool) : noTail tl (L.setIfInBounds i true) = noTail tl L := by
  unfold noTail
  induction tl with
  | nil => rfl
  | cons t r ih =>
    simp only [List.contains_cons, Bool.or_eq_false_iff] at h
    have hne : i ≠ t := by simpa using h.1
    simp only [List.all_cons]
    rw [ih h.2]
    simp [Array.getElem?_setIfInBounds_ne hne]
def mkL (n : Nat) : List Nat → Array Bool
  | [] => Array.replicate n false
  | i :: D => (mkL n D).setIfInBounds i true
/-- Every operation of the tail waits for number i. -/
def tailWaits (ops : Array Oper) (tl : List Nat) (i : Nat) : Bool := tl.all fun j => match ops[j]? with | some o => o.after.any (fun e => Region.binds .any e && e.on == i) | none => true
def DL (P : Program) (C : Code) (tl : List Nat) (U : World → Prop) (f : Nat) (D : List Nat) (n : Nat) (df : List Deferred) (l : Env) (w : World) (N R : Act → World → Prop) (E : Nat → Act → World → Prop) : Prop :=
  TT tl U (mkL (opsL C).length D) w → ∀ a, Ag a n df l → XA P (opsL C).toArray (kq N R E) (TT tl U) f (mkL (opsL C).length D) a w
def okTake (C : Code) (tl : List Nat) (D : List Nat) (i : Nat) : Bool :=
  Region.noSelect (opsL C).toArray && Region.free .any (opsL C).toArray (mkL (opsL C).length D) i && (Region.ready .any (opsL C).toArray (mkL (opsL C).length D)).contains i && !tl.contains i
def okLoad (C : Code) (tl : List Nat) (D : List Nat) (i : Nat) : Bool := noTail tl (mkL (opsL C).length D) && tailWaits (opsL C).toArray tl i
theorem kq_panic (N R : Act → World → Prop) (E : Nat → Act → World → Prop) (dst : Option Tmp) (v : Value) : ∀ c a w, kq N R E (.panic c) (Act.put a dst v) w → kq N R E (.panic c) a w := fun _ _ _ h => h
/-- An operation that yields in whatever world. -/
theorem dt {tl D : List Nat} {U : World → Prop} {f i d : Nat} {o : Oper} {v : Value} (ho : nth (opsL C) i = some o) (hw : Want C l o = some true) (hd : o.dst = some d) (hn : Nat.blt d n = true)
    (hst : okTake C tl D i = true) (h : ∀ w', Ex P o l w' v w') (k : DL P C tl U f (i :: D) n df ((d, v) :: l) w N R E) : DL P C tl U (f + 1) D n df l w N R E := by
  intro ht a ha
  unfold okTake at hst
  simp only [Bool.and_eq_true, Bool.not_eq_true'] at hst
  obtain ⟨⟨⟨h1, h2⟩, h3⟩, h4⟩ := hst
  have ho' : (opsL C).toArray[i]? = some o := by rw [List.getElem?_toArray, ← nth_eq]; exact ho
  have hTi : ∀ L w, TT tl U (L.setIfInBounds i true) w ↔ TT tl U L w := fun L w => by unfold TT; rw [noTail_set h4]
  refine XA_first (S := fun _ => True) (G := fun _ => True) (v := v) ho' (Region.noSelect_spec h1) (kq_panic N R E _ _) (fun _ _ _ _ _ _ => trivial) (fun _ _ _ _ => trivial) hTi f _ a w (Region.free_spec ho' h2) (by simpa using h3)
    (.inl ⟨want_spec ha hw, fun w' _ => h w' _ ha.fits⟩) trivial ht ?_
  have := k ((hTi _ _).2 ht) _ (ha.put (by simpa using hn) v)
  rw [hd]
  exact this
theorem dz {tl D : List Nat} {U : World → Prop} {f i d : Nat} {o : Oper} (ho : nth (opsL C) i = some o) (hw : Want C l o = some false) (hd : o.dst = some d) (hn : Nat.blt d n = true)
    (hst : okTake C tl D i = true) (k : DL P C tl U f (i :: D) n df ((d, undef) :: l) w N R E) : DL P C tl U (f + 1) D n df l w N R E := by
  intro ht a ha
  unfold okTake at hst
  simp only [Bool.and_eq_true, Bool.not_eq_true'] at hst
  obtain ⟨⟨⟨h1, h2⟩, h3⟩, h4⟩ := hst
  have ho' : (opsL C).toArray[i]? = some o := by rw [List.getElem?_toArray, ← nth_eq]; exact ho
  have hTi : ∀ L w, TT tl U (L.setIfInBounds i true) w ↔ TT tl U L w := fun L w => by unfold TT; rw [noTail_set h4]
  refine XA_first (S := fun _ => True) (G := fun _ => True) (v := undef) ho' (Region.noSelect_spec h1) (kq_panic N R E _ _) (fun _ _ _ _ _ _ => trivial) (fun _ _ _ _ => trivial) hTi f _ a w (Region.free_spec ho' h2) (by simpa using h3)
    (.inr ⟨want_spec ha hw, rfl⟩) trivial ht ?_
  have := k ((hTi _ _).2 ht) _ (ha.put (by simpa using hn) undef)
  rw [hd]
  exact this
/-- An operation that yields in every world that meets U. -/
theorem dl {tl D : List Nat} {U : World → Prop} {f i d : Nat} {o : Oper} {v : Value} (ho : nth (opsL C) i = some o) (hw : Want C l o = some true) (hd : o.dst = some d) (hn : Nat.blt d n = true)
    (hst : okTake C tl D i = true) (hld : okLoad C tl D i = true) (h : ∀ w', U w' → Ex P o l w' v w') (k : DL P C tl U f (i :: D) n df ((d, v) :: l) w N R E) : DL P C tl U (f + 1) D n df l w N R E := by
  intro ht a ha
  unfold okTake at hst
  unfold okLoad at hld
  simp only [Bool.and_eq_true, Bool.not_eq_true'] at hst hld
  obtain ⟨⟨⟨h1, h2⟩, h3⟩, h4⟩ := hst
  have ho' : (opsL C).toArray[i]? = some o := by rw [List.getElem?_toArray, ← nth_eq]; exact ho
  have hTi : ∀ L w, TT tl U (L.setIfInBounds i true) w ↔ TT tl U L w := fun L w => by unfold TT; rw [noTail_set h4]
  have hG : ∀ L j, noTail tl L = true → L.getD i true = false → j ∈ Region.ready .any (opsL C).toArray L → j ≠ i → noTail tl (L.setIfInBounds j true) = true := by
    intro L j hL hiun hj hji
    have hjt : tl.contains j = false := by
      cases hc : tl.contains j with
      | false => rfl
      | true =>
        exfalso
        obtain ⟨_, oj, hoj, hall⟩ := mem_ready.1 hj
        have h5 := hld.2
        unfold tailWaits at h5
        rw [List.all_eq_true] at h5
        have h6 := h5 j (by simpa using hc)
        rw [hoj] at h6
        obtain ⟨e, he, hb⟩ := Array.any_eq_true'.1 h6
        simp only [Bool.and_eq_true, beq_iff_eq] at hb
        have h7 := hall e he hb.1
        rw [hb.2] at h7
        rcases Nat.lt_or_ge i L.size with h' | h'
        · simp [h'] at hiun h7; rw [hiun] at h7; cases h7
        · simp [Array.getElem?_eq_none h'] at h7
    rw [noTail_set hjt]; exact hL
  refine XA_first (S := U) (G := fun L => noTail tl L = true) (v := v) ho' (Region.noSelect_spec h1) (kq_panic N R E _ _) hG (fun L w hg ht => ht hg) hTi f _ a w (Region.free_spec ho' h2) (by simpa using h3)
    (.inl ⟨want_spec ha hw, fun w' hU => h w' hU _ ha.fits⟩) hld.1 ht ?_
  have := k ((hTi _ _).2 ht) _ (ha.put (by simpa using hn) v)
  rw [hd]
  exact this
theorem XA_one {ops : Array Oper} {T : Array Bool → World → Prop} {f i : Nat} {L : Array Bool} {a : Act} (hr : Region.ready .any ops L = [i])
    (h : wpOp P ops Q i (fun a' w' => T (L.setIfInBounds i true) w' ∧ XA P ops Q T f (L.setIfInBounds i true) a' w') a w) : XA P ops Q T (f + 1) L a w :=
  ⟨fun h0 => (by rw [hr] at h0; cases h0), fun j hj => by rw [hr] at hj; simp at hj; subst hj; exact h⟩
theorem XA_two {ops : Array Oper} {T : Array Bool → World → Prop} {f i j : Nat} {L : Array Bool} {a : Act} (hr : Region.ready .any ops L = [i, j])
    (h : wpOp P ops Q i (fun a' w' => T (L.setIfInBounds i true) w' ∧ XA P ops Q T f (L.setIfInBounds i true) a' w') a w)
    (h' : wpOp P ops Q j (fun a' w' => T (L.setIfInBounds j true) w' ∧ XA P ops Q T f (L.setIfInBounds j true) a' w') a w) : XA P ops Q T (f + 1) L a w :=
  ⟨fun h0 => (by rw [hr] at h0; cases h0), fun k hk => by rw [hr] at hk; simp at hk; rcases hk with rfl | rfl; exact h; exact h'⟩
/-- What one operation that is carried out leaves: for dv, ds, dc and for a branch. -/
def OL (P : Program) (C : Code) (tl : List Nat) (U : World → Prop) (f : Nat) (D : List Nat) (i : Nat) (n : Nat) (df : List Deferred) (l : Env) (w : World) (N R : Act → World → Prop) (E : Nat → Act → World → Prop) : Prop :=
  ∀ a, Ag a n df l → wpOp P (opsL C).toArray (kq N R E) i (fun a' w' => TT tl U (mkL (opsL C).length (i :: D)) w' ∧ XA P (opsL C).toArray (kq N R E) (TT tl U) f (mkL (opsL C).length (i :: D)) a' w') a w
theorem d1 {tl D : List Nat} {U : World → Prop} {f i : Nat} (hr : Region.ready .any (opsL C).toArray (mkL (opsL C).length D) = [i]) (h : OL P C tl U f D i n df l w N R E) : DL P C tl U (f + 1) D n df l w N R E :=
  fun _ a ha => XA_one hr (h a ha)
theorem d2 {tl D : List Nat} {U : World → Prop} {f i j : Nat} (hr : Region.ready .any (opsL C).toArray (mkL (opsL C).length D) = [i, j]) (h : OL P C tl U f D i n df l w N R E) (h' : OL P C tl U f D j n df l w N R E) : DL P C tl U (f + 1) D n df l w N R E :=
  fun _ a ha => XA_two hr (h a ha) (h' a ha)
theorem ov {tl D : List Nat} {U : World → Prop} {f i d : Nat} {o : Oper} {v : Value} (ho : nth (opsL C) i = some o) (hw : Want C l o = some true) (hd : o.dst = some d) (hn : Nat.blt d n = true) (h : Ex P o l w v w')
    (hT : noTail tl (mkL (opsL C).length (i :: D)) = false ∨ U w') (k : DL P C tl U f (i :: D) n df ((d, v) :: l) w' N R E) : OL P C tl U f D i n df l w N R E := by
  intro a ha
  have ho' : (opsL C).toArray[i]? = some o := by rw [List.getElem?_toArray, ← nth_eq]; exact ho
  have hTT : TT tl U (mkL (opsL C).length (i :: D)) w' := fun hx => by rcases hT with h1 | h1; rw [h1] at hx; cases hx; exact h1
  unfold wpOp
  simp only [ho']
  rw [if_pos (want_spec ha hw)]
  refine .inl ?_
  unfold Oper.wp
  rw [h _ ha.fits]
  simp only [Oper.upon, hd]
  exact ⟨hTT, k hTT _ (ha.put (by simpa using hn) v)⟩
theorem os {tl D : List Nat} {U : World → Prop} {f i : Nat} {o : Oper} (ho : nth (opsL C) i = some o) (hw : Want C l o = some true) (hd : o.dst = none) (h : Es P o l w w')
    (hT : noTail tl (mkL (opsL C).length (i :: D)) = false ∨ U w') (k : DL P C tl U f (i :: D) n df l w' N R E) : OL P C tl U f D i n df l w N R E := by
  intro a ha
  have ho' : (opsL C).toArray[i]? = some o := by rw [List.getElem?_toArray, ← nth_eq]; exact ho
  have hTT : TT tl U (mkL (opsL C).length (i :: D)) w' := fun hx => by rcases hT with h1 | h1; rw [h1] at hx; cases hx; exact h1
  unfold wpOp
  simp only [ho']
  rw [if_pos (want_spec ha hw)]
  refine .inl ?_
  unfold Oper.wp
  rw [h _ ha.fits]
  simp only [Oper.upon, hd]
  exact ⟨hTT, k hTT _ ha⟩
theorem oc {tl D : List Nat} {U : World → Prop} {f i d : Nat} {o : Oper} {RR : Value → World → Prop} (ho : nth (opsL C) i = some o) (hw : Want C l o = some true) (hd : o.dst = some d) (hn : Nat.blt d n = true) (h : Cx P o l w RR)
    (k : ∀ v w', RR v w' → (noTail tl (mkL (opsL C).length (i :: D)) = false ∨ U w') ∧ DL P C tl U f (i :: D) n df ((d, v) :: l) w' N R E) : OL P C tl U f D i n df l w N R E := by
  intro a ha
  have ho' : (opsL C).toArray[i]? = some o := by rw [List.getElem?_toArray, ← nth_eq]; exact ho
  unfold wpOp
  simp only [ho']
  rw [if_pos (want_spec ha hw)]
  refine .inl ?_
  obtain ⟨g, args, he, hc⟩ := h _ ha.fits
  unfold Oper.wp
  rw [he]
  simp only [Oper.upon]
  refine Calls.mono hc ?_
  rintro e w' ⟨v, rfl, hr⟩
  obtain ⟨hT, k'⟩ := k v w' hr
  have hTT : TT tl U (mkL (opsL C).length (i :: D)) w' := fun hx => by rcases hT with h1 | h1; rw [h1] at hx; cases hx; exact h1
  rw [hd]
  exact ⟨hTT, k' hTT _ (ha.put (by simpa using hn) v)⟩
theorem dn {tl D : List Nat} {U : World → Prop} {f : Nat} (hr : Region.ready .any (opsL C).toArray (mkL (opsL C).length D) = []) (h : AL n df l w N) : DL P C tl U f D n df l w N R E := by
  intro _ a ha
  cases f with
  | zero => exact ⟨hr, h a ha⟩
  | succ f => exact ⟨fun _ => h a ha, fun j hj => by rw [hr] at hj; cases hj⟩
theorem cl_draw {id : Nat} {ops : Array Oper} (hm : P.follows .mixedOrders = true) (hs : C = .region id ops true) (tl : List Nat) (U : World → Prop)
    (h : ∀ w', Fr [] w w' → w'.heap = w.heap → U w' ∧ DL P C tl U (opsL C).length [] n df l w' N R E) : CL P C n df l w N R E := by
  subst hs
  intro a ha
  obtain ⟨hU, hd⟩ := h { w with drawn := w.drawn + 1 } (Fr.drew w) rfl
  refine wp_region_any hm (wpAny_of_XA (T := TT tl U) _ _ _ _ ?_)
  have := hd (fun _ => hU) a ha
  simpa [opsL, mkL] using this
end
end Go.Proofs.YtcbkpekbfkaeeaaDoor.Sx
