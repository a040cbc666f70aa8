/- What holds behind a tree; a code does what its tree says. -/
import Derived.Test.YtcbkpekbfkaeeaaDoorSxT
import Derived.Sort.LoopGhostIn
set_option linter.unusedVariables false
set_option linter.unusedSimpArgs false
namespace Go.Proofs.YtcbkpekbfkaeeaaDoor.Sx
open Go Go.RowKit
abbrev ZP := List PanicEntry → World → Prop
def Pst (R : Value → World → Prop) (Z : ZP) : Ending → World → Prop
  | .returned v, w => R v w
  | .panicked c, w => Z c w
  | .outgrown, _ => False
def CF (P : Program) (f : Nat) : Prop := ∀ a w, (callFunc f a).run P w = .ok (.enter f a) w
def Cz (P : Program) (f : Nat) (vs : List Value) (w : World) (R : Value → World → Prop) (Z : ZP) : Prop := CF P f ∧ Calls P f vs.toArray w (Pst R Z)
def Rd (w : World) (n : Nat) (ad : Addr) (cs : List Value) : Prop := cs.length = n ∧ ∀ j v, cs[j]? = some v → w.cell? (addA ad j) = some v
def Chk (w : World) (n : Option Nat) (a v : Value) : Prop := match n with
  | none => ∃ ad, a = .pointer (some ad) ∧ w.cell? ad = some v
  | some m => ∃ ad cs, a = .pointer (some ad) ∧ v = .agg cs.toArray ∧ Rd w m ad cs
/-- What holds at a function's end, ahead of its marks: the marks' blocks are whole; behind them R. -/
def RD : List Nat → (Value → World → Prop) → Value → World → Prop
  | [], R => R
  | D :: ds, R => fun v W => (D :: ds).Nodup ∧ (∀ q ∈ D :: ds, W.heap[q]? = some (.deferred (some []))) ∧ ∀ W', Fr (D :: ds) W W' → R v W'
def ZD : List Nat → ZP → ZP
  | [], Z => Z
  | D :: ds, Z => fun c W => (D :: ds).Nodup ∧ (∀ q ∈ D :: ds, W.heap[q]? = some (.deferred (some []))) ∧ ∀ W', Fr (D :: ds) W W' → Z c W'
def noZ : ZP := fun _ _ => False
/-- What speaks of blocks other than U: it stands where blocks of U change, and U may gain what is not yet. -/
def Stab (I : List Nat → World → Prop) : Prop := (∀ U W W', I U W → Fr U W W' → I U W') ∧ ∀ U W b, I U W → W.heap.size ≤ b → I (b :: U) W
/-- What a round keeps: others' blocks, and its own record. -/
def Kp (L : Nat) (o : Obj) (U : List Nat) (W W' : World) : Prop := W.heap.size ≤ W'.heap.size ∧ (∀ q ∈ U, q ≠ L → W'.heap[q]? = W.heap[q]?) ∧ W'.heap[L]? = some o
/-- What a caller of yield is told: J while rounds go on, K when one has left the loop; V: the caller's own blocks. -/
structure Rg (P : Program) (L : Nat) {σ : Type} (st : σ → List Value → σ → Prop) (J : List Nat → σ → World → Prop) (K : List Nat → World → Prop) : Prop where
  js : ∀ s, Stab fun V W => J V s W
  ks : Stab K
  yd : ∀ V s s' xs W, J V s W → (∀ q ∈ V, q < W.heap.size) → st s xs s' → Yd P L xs W fun v W' => ((v = .bool true ∧ J V s' W') ∨ (v = .bool false ∧ K V W')) ∧ W.heap.size ≤ W'.heap.size ∧ ∀ q ∈ V, W'.heap[q]? = W.heap[q]?
def u0 (cx : Option (Nat × Obj)) (L D : Nat) : List Nat := match cx with | none => [L, D] | some _ => [L]
def u1 (cx : Option (Nat × Obj)) (D : Nat) (ds : List Nat) : List Nat := match cx with | none => D :: ds | some _ => ds
def mkD (cx : Option (Nat × Obj)) (L D : Nat) (w w1 : World) : Prop := match cx with | none => w.heap.size ≤ D ∧ D ≠ L ∧ D < w1.heap.size ∧ w1.heap[D]? = some (.deferred (some [])) | some _ => True
def okD (cx : Option (Nat × Obj)) (D : Nat) (w : World) : Prop := match cx with | none => w.heap[D]? = some (.deferred (some [])) | some _ => True
def wp (P : Program) : ZP → (Value → World → Prop) → List Nat → T → World → (List Nat → List Value → World → Prop) → (List Nat → Nat → List Value → World → Prop) → Prop
  | _, R, ds, .ret v, w, _, _ => RD ds R v w
  | _, _, ds, .again vs, w, A, _ => A ds vs w
  | _, _, ds, .brk i vs, w, _, B => B ds i vs w
  | _, _, _, .bad, _, _, _ => False
  | Z, R, ds, .ld a k, w, A, B => ∃ ad v, a = .pointer (some ad) ∧ w.cell? ad = some v ∧ wp P Z R ds (k v) w A B
  | Z, R, ds, .ldn n a k, w, A, B => ∃ ad cs, a = .pointer (some ad) ∧ Rd w n ad cs ∧ wp P Z R ds (k (.agg cs.toArray)) w A B
  | Z, R, ds, .chk n a v k, w, A, B => Chk w n a v ∧ wp P Z R ds k w A B
  | Z, R, ds, .call f vs k, w, A, B => Cz P f vs w (fun v w' => wp P Z R ds (k v) w' A B) (ZD ds Z)
  | Z, R, ds, .yld L vs k, w, A, B => YieldAt Fence.wide 0 P L vs.toArray w (Pst (fun v w' => wp P Z R ds (k v) w' A B) (ZD ds Z))
  | Z, R, ds, .pu s k, w, A, B => ∃ v, (∀ w', s.run P w' = .ok v w') ∧ wp P Z R ds (k v) w A B
  | Z, R, ds, .hv s k, w, A, B => ∃ v w', s.run P w = .ok v w' ∧ wp P Z R ds (k v) w' A B
  | Z, R, ds, .ef s k, w, A, B => ∃ w', s.run P w = .ok () w' ∧ wp P Z R ds k w' A B
  | Z, R, ds, .en s k, w, A, B => ∃ f args, s.run P w = .ok (.enter f args) w ∧ Calls P f args w (Pst (fun v w' => wp P Z R ds (k v) w' A B) (ZD ds Z))
  | Z, _, ds, .pan s, w, _, _ => ∃ v, s.run P w = .halt (.panic v) w ∧ ZD ds Z [{ v, recovered := false }] w
  | Z, R, ds, .ar kd z k, w, A, B => ∃ y, kd.wrap z = y ∧ wp P Z R ds (k (.int kd y)) w A B
  | Z, R, ds, .ob p k, w, A, B => p ∧ wp P Z R ds k w A B
  | Z, R, ds, .amb a b, w, A, B => wp P Z R ds a w A B ∧ wp P Z R ds b w A B
  | Z, R, ds, .dr k, w, A, B => ∀ w', Fr [] w w' → w'.heap = w.heap → wp P Z R ds k w' A B
  | Z, R, ds, .loop vs body after, w, A, B => ∃ (σ : Type) (st : σ → List Value) (J : List Nat → σ → World → Prop) (μ : σ → Nat) (s0 : σ), st s0 = vs ∧ J ds s0 w ∧
      ∀ ds s w, J ds s w → wp P Z R ds (body (st s)) w (fun ds' vs' w' => ∃ s', st s' = vs' ∧ μ s' < μ s ∧ J ds' s' w') (fun ds' i vs' w' => wp P Z R ds' (after i vs') w' A B)
  | Z, R, ds, .rb L a b k, w, A, B => w.heap[L]? = some a ∧ ∀ w', Fr [L] w w' → w'.heap[L]? = some b → wp P Z R ds k w' A B
  | Z, R, ds, .rf cx g m body after, w, A, B => ∃ gf cap, g = .func (.func gf) #[] cap ∧ CF P gf ∧ (∀ L o, cx = some (L, o) → w.heap[L]? = some o) ∧
      ∀ L D a b w1, w.heap.size ≤ L → L < w1.heap.size → Fr [] w w1 → w1.heap[L]? = some a → mkD cx L D w w1 →
      ∃ (σ : Type) (st : σ → List Value → σ → Prop) (I : List Nat → σ → World → Prop) (X : Nat → List Nat → World → Prop) (s0 s1 : σ),
        I (u0 cx L D) s0 w1 ∧ (∀ s, Stab fun U W => I U s W) ∧ (∀ j, Stab (X j)) ∧
        (∀ U s s' xs W, L ∈ U → (∀ q ∈ u0 cx L D, q ∈ U) → (∀ q ∈ U, q < W.heap.size) → I U s W → W.heap[L]? = some a → st s xs s' → xs.length = m ∧
          wp P noZ (fun _ W' => X 1 U W' ∧ Kp L b U W W') [] (body L a b xs) W (fun _ _ W' => I U s' W' ∧ Kp L b U W W') (fun _ j _ W' => X (j + 2) U W' ∧ Kp L b U W W')) ∧
        (∀ J K, Rg P L st J K → (∀ V s W, J V s W → I (V ++ u0 cx L D) s W) → J [] s0 w1 → Cz P gf (.func (.yield L) #[] #[] :: cap.toList) w1 (fun _ W' => ∃ V, J V s1 W' ∨ K V W') (ZD (u1 cx D ds) Z)) ∧
        (∀ U W, I U s1 W → okD cx D W → wp P Z R (u1 cx D ds) (after 0) W A B) ∧
        ∀ U W j, X (j + 1) U W → okD cx D W → wp P Z R (u1 cx D ds) (after (j + 1)) W A B
section
variable {P : Program} {Z : ZP} {R : Value → World → Prop} {l : Env} {w : World} {A : List Nat → List Value → World → Prop} {B : List Nat → Nat → List Value → World → Prop} {ds : List Nat}
theorem vT_ok {x : Operand} {k : Value → T} (h : wp P Z R ds (vT l x k) w A B) : ∃ v, ev l x = some v ∧ wp P Z R ds (k v) w A B := by
  unfold vT at h
  split at h
  · exact ⟨_, by assumption, h⟩
  · exact h.elim
theorem vsT_ok {xs : List Operand} : ∀ {k : List Value → T}, wp P Z R ds (vsT l xs k) w A B → ∃ vs, evl l xs = some vs ∧ wp P Z R ds (k vs) w A B := by
  induction xs with
  | nil => intro k h; exact ⟨[], rfl, h⟩
  | cons x r ih =>
    intro k h
    obtain ⟨v, hv, h⟩ := vT_ok h
    obtain ⟨vs, hvs, h⟩ := ih h
    exact ⟨v :: vs, by simp [evl, hv, hvs], h⟩
theorem psT_ok {xs : List (Nat × Operand)} : ∀ {k : List (Nat × Value) → T}, wp P Z R ds (psT l xs k) w A B → ∃ vs, evp l xs = some vs ∧ wp P Z R ds (k vs) w A B := by
  induction xs with
  | nil => intro k h; exact ⟨[], rfl, h⟩
  | cons x r ih =>
    intro k h
    obtain ⟨i, x⟩ := x
    obtain ⟨v, hv, h⟩ := vT_ok h
    obtain ⟨vs, hvs, h⟩ := ih h
    exact ⟨(i, v) :: vs, by simp [evp, hv, hvs], h⟩
theorem voT_ok {x : Option Operand} {k : Option Value → T} (h : wp P Z R ds (voT l x k) w A B) : ∃ v, (∀ ρ, Fits l ρ → x.map ρ = v) ∧ wp P Z R ds (k v) w A B := by
  cases x with
  | none => exact ⟨none, fun _ _ => rfl, h⟩
  | some x =>
    obtain ⟨v, hv, h⟩ := vT_ok h
    exact ⟨some v, fun ρ hf => by simp [hf x v hv], h⟩
theorem iteT_ok {c : Bool} {a b : T} (h : wp P Z R ds (iteT c a b) w A B) : (c = true ∧ wp P Z R ds a w A B) ∨ (c = false ∧ wp P Z R ds b w A B) := by
  cases c with
  | true => exact .inl ⟨rfl, h⟩
  | false => exact .inr ⟨rfl, h⟩
theorem gi_ok {v : Value} {a b : T} (h : wp P Z R ds (gi v a b) w A B) : (v = .bool true ∧ wp P Z R ds a w A B) ∨ (v = .bool false ∧ wp P Z R ds b w A B) := by
  unfold gi at h
  split at h
  · rcases iteT_ok h with ⟨rfl, h⟩ | ⟨rfl, h⟩
    · exact .inl ⟨rfl, h⟩
    · exact .inr ⟨rfl, h⟩
  · exact h.elim
/-- A value, whatever the world. -/
def Lv (P : Program) (l : Env) (ty : Nat) (op : Op) (v : Value) : Prop := ∀ d pos af g ρ w', Fits l ρ → (execOp ρ ⟨d, op, ty, pos, af, g⟩).run P w' = .ok (.value v) w'
theorem Lv.of {ty : Nat} {op : Op} {v : Value} (h : ∀ d pos af g w', Ex P ⟨d, op, ty, pos, af, g⟩ l w' v w') : Lv P l ty op v := fun d pos af g ρ w' hf => h d pos af g w' ρ hf
theorem fieldOf_some {t i : Nat} {F : Field} (h : fieldOf P t i = some F) : ∃ fs, P.underlying t = some (.struct fs) ∧ fs[i]? = some F := by
  unfold fieldOf at h
  split at h
  · exact ⟨_, by assumption, h⟩
  · cases h
theorem run_add_eq {a : Addr} {n : Nat} : addA a n = a.add n := addA_eq a n
theorem ld_faT {off : Nat} {v : Value} {k : Value → T} (h : wp P Z R ds (faT off v k) w A B) : ∃ a, v = .pointer (some a) ∧ wp P Z R ds (k (.pointer (some (a.add off)))) w A B := by
  unfold faT at h
  split at h
  · rw [addA_eq] at h; exact ⟨_, rfl, h⟩
  · exact h.elim
theorem ld_adT {X : Option Addr} {m : Nat} {k : Value → T} (h : wp P Z R ds (adT X m k) w A B) : ∃ a, X = some a ∧ wp P Z R ds (k (.pointer (some (a.add m)))) w A B := by
  unfold adT at h
  split at h
  · rw [addA_eq] at h; exact ⟨_, rfl, h⟩
  · exact h.elim
theorem ld_ixT {sz : Nat} {v i : Value} {k : Value → T} (h : wp P Z R ds (ixT sz v i k) w A B) : ∃ a len cap kd j, v = .slice (some a) len cap ∧ i = .int kd j ∧ (0 ≤ j ∧ j < len) ∧ wp P Z R ds (k (.pointer (some (a.add (j.toNat * sz))))) w A B := by
  unfold ixT at h
  split at h
  · obtain ⟨hb, h⟩ := h
    obtain ⟨a, rfl, h2⟩ := ld_adT h
    exact ⟨a, _, _, _, _, rfl, rfl, hb, h2⟩
  · exact h.elim
theorem ld_ixaT {len sz : Nat} {v i : Value} {k : Value → T} (h : wp P Z R ds (ixaT len sz v i k) w A B) : ∃ a kd j, v = .pointer (some a) ∧ i = .int kd j ∧ (0 ≤ j ∧ j < len) ∧ wp P Z R ds (k (.pointer (some (a.add (j.toNat * sz))))) w A B := by
  unfold ixaT at h
  split at h
  · obtain ⟨hb, h⟩ := h
    obtain ⟨a, rfl, h2⟩ := ld_adT h
    exact ⟨a, _, _, rfl, rfl, hb, h2⟩
  · exact h.elim
theorem ld_opT {o : Option Value} {k : Value → T} (h : wp P Z R ds (opT o k) w A B) : ∃ v, o = some v ∧ wp P Z R ds (k v) w A B := by
  unfold opT at h
  split at h
  · exact ⟨_, rfl, h⟩
  · exact h.elim
theorem setl_eq (cs : List Value) : ∀ (o : Nat) (v : Value), setl cs o v = cs.set o v := by
  induction cs with
  | nil => intro o v; rfl
  | cons c r ih => intro o v; cases o with | zero => rfl | succ o => simp [setl, ih]
/-- What a struct of single cells is filled with. -/
theorem fill_one {place : Nat → Option (Nat × Nat)} (q : List (Nat × Value)) : ∀ (vs : List (Nat × Value)) (cs : List Value) (k : List Value → T),
    wp P Z R ds (bdT q cs k) w A B → q.length = vs.length → (∀ (j : Nat) o v, q[j]? = some (o, v) → ∃ i, vs[j]? = some (i, v) ∧ place i = some (o, 1) ∧ o < cs.length) →
    ∃ cs', Instr.fill place cs.toArray vs = some cs'.toArray ∧ wp P Z R ds (k cs') w A B := by
  induction q with
  | nil =>
    intro vs cs k h hl _
    have : vs = [] := List.eq_nil_of_length_eq_zero hl.symm
    subst this
    exact ⟨cs, rfl, h⟩
  | cons p r ih =>
    intro vs cs k h hl hp
    obtain ⟨o, v⟩ := p
    cases vs with
    | nil => simp at hl
    | cons u us =>
      obtain ⟨i, hi, hpl, ho⟩ := hp 0 o v rfl
      simp only [List.getElem?_cons_zero, Option.some.injEq] at hi
      subst hi
      have hv : v.cells = #[v] ∧ wp P Z R ds (bdT r (setl cs o v) k) w A B := by
        unfold bdT at h
        split at h
        · exact h.elim
        · exact h.elim
        · refine ⟨?_, h⟩
          cases v <;> first | rfl | (rename_i h1 h2; exact absurd rfl (h1 _))
      obtain ⟨hv, h⟩ := hv
      rw [setl_eq] at h
      obtain ⟨cs', h1, h2⟩ := ih us (cs.set o v) k h (by simpa using hl) (fun j o' v' hj => by
        obtain ⟨i', h1, h2, h3⟩ := hp (j + 1) o' v' hj
        exact ⟨i', h1, h2, by simpa using h3⟩)
      refine ⟨cs', ?_, h2⟩
      unfold Instr.fill
      simp only [hpl, hv]
      rw [if_neg (by simp; omega)]
      rw [← h1]
      congr 1
      simp
theorem offs_ok {pl : Array (Nat × Nat)} {n : Nat} : ∀ {vs q : List (Nat × Value)}, offs pl n vs = some q → q.length = vs.length ∧ ∀ (j : Nat) o v, q[j]? = some (o, v) → ∃ i, vs[j]? = some (i, v) ∧ pl[i]? = some (o, 1) ∧ o < n := by
  intro vs
  induction vs with
  | nil => intro q h; simp [offs] at h; subst h; exact ⟨rfl, fun j o v hj => by simp at hj⟩
  | cons p r ih =>
    intro q h
    obtain ⟨i, v⟩ := p
    unfold offs at h
    split at h
    · rename_i o q' h1 h2
      split at h
      · rename_i hlt
        injection h with h
        subst h
        obtain ⟨h3, h4⟩ := ih h2
        refine ⟨by simp [h3], fun j o' v' hj => ?_⟩
        cases j with
        | zero => simp at hj; obtain ⟨rfl, rfl⟩ := hj; exact ⟨i, rfl, h1, by simpa using hlt⟩
        | succ j => simpa using h4 j o' v' (by simpa using hj)
      · cases h
    · cases h
theorem run_buildS {t : Nat} {pl : Array (Nat × Nat)} {zs : Array Value} {vs : List (Nat × Value)} {cs : Array Value} {w : World} (hp : placesOf P t = some pl) (hz : pr P (zeroValue t) = some (.agg zs)) (hf : Instr.fill (pl[·]?) zs vs = some cs) : (Instr.build t vs.toArray).run P w = .ok (.agg cs) w := by
  unfold placesOf at hp
  split at hp
  · rename_i fs hu
    have h1 := pr_run hp w
    have h2 := pr_run hz w
    unfold Instr.build
    simp only [Sem.run_bind, h2, Result.andThen_ok, run_underlying hu, h1, Value.cells]
    simp [hf]
  · cases hp
theorem ld_biT {cmp : Bool} {op : BinOp} {x y : Value} {k : Value → T} (h : wp P Z R ds (biT cmp op x y k) w A B) : ∃ kd a b, x = .int kd a ∧ y = .int kd b ∧ ((cmp = true ∧ wp P Z R ds (cmT op a b k .bad) w A B) ∨ (cmp = false ∧ wp P Z R ds (arT op kd a b k .bad) w A B)) := by
  unfold biT at h
  split at h
  · split at h
    · rename_i hk
      obtain rfl := of_decide_eq_true hk
      refine ⟨_, _, _, rfl, rfl, ?_⟩
      cases cmp
      · exact .inr ⟨rfl, h⟩
      · exact .inl ⟨rfl, h⟩
    · exact h.elim
  · exact h.elim
section
variable {d : Option Tmp} {ty t : TypeId} {pos : String} {af : Array Edge} {g : Option (Nat × Bool)}
theorem x_mulw {x y : Operand} {k : IntKind} {a b : Int} {ty2 : TypeId} (hx : ev l x = some (.int k a)) (hy : ev l y = some (.int k b)) : Ex P ⟨d, .binOp .mul t x y ty2, ty, pos, af, g⟩ l w (.int k (k.wrap (a * b))) w := fun ρ h => by simp [execOp, h x _ hx, h y _ hy, binOp_mul, eqGuard_at_int, Op.intArith]
theorem x_binp {op : BinOp} {x y : Operand} {a b v : Value} {ty2 : TypeId} (hx : ev l x = some a) (hy : ev l y = some b) (h : (do eqGuard op t x y a b; binOp op t a b : Sem Value).run P w = .ok v w) : Ex P ⟨d, .binOp op t x y ty2, ty, pos, af, g⟩ l w v w := fun ρ hf => by
  have e : (do eqGuard op t x y (ρ x) (ρ y); binOp op t (ρ x) (ρ y) : Sem Value).run P w = .ok v w := by rw [hf x _ hx, hf y _ hy]; exact h
  simp only [execOp, Sem.run_bind] at e ⊢
  rw [e]
  rfl
theorem eqGuard_no {op : BinOp} {x y : Operand} {a b : Value} (h : isCmp op = false) : (eqGuard op t x y a b).run P w = .ok () w := by
  unfold eqGuard
  cases op <;> first | rfl | cases h
theorem x_v1 {op : Op} {v : Value} {s : Sem Value} (hs : ∀ ρ, Fits l ρ → execOp ρ ⟨d, op, ty, pos, af, g⟩ = (do pure (.value (← s)))) (h : s.run P w = .ok v w) : Ex P ⟨d, op, ty, pos, af, g⟩ l w v w := fun ρ hf => by
  rw [hs ρ hf]
  simp only [Sem.run_bind, h, Result.andThen_ok, Sem.run_pure]
end
theorem cls0 {t : Nat} (h : cls P t = 1) : P.underlying t = some .bool := by
  unfold cls at h
  split at h <;> first | assumption | cases h
theorem cls2 {t : Nat} (h : cls P t = 2) : P.underlying t = some (.pointer (P.pointee t)) := by
  unfold cls at h
  split at h <;> first | cases h | skip
  rename_i e hu
  rw [hu]
  simp [Program.pointee, hu]
theorem binT_ok {op : BinOp} {t t2 : Nat} {x y : Operand} {k : Value → T} {ty : Nat} (h : wp P Z R ds (binT P l op t x y k) w A B) : ∃ v, Lv P l ty (.binOp op t x y t2) v ∧ wp P Z R ds (k v) w A B := by
  unfold binT at h
  obtain ⟨a, ha, h⟩ := vT_ok h
  obtain ⟨b, hb, h⟩ := vT_ok h
  have pu : ∀ s : Sem Value, (∀ w' v, s.run P w' = .ok v w' → (do eqGuard op t x y a b; binOp op t a b : Sem Value).run P w' = .ok v w') → wp P Z R ds (.pu s k) w A B → ∃ v, Lv P l ty (.binOp op t x y t2) v ∧ wp P Z R ds (k v) w A B := by
    rintro s hs ⟨v, h1, h2⟩
    exact ⟨v, .of fun d pos af g w' => x_binp ha hb (hs w' v (h1 w')), h2⟩
  have nop : isCmp op = false → ∀ w' v, (binOp op t a b).run P w' = .ok v w' → (do eqGuard op t x y a b; binOp op t a b : Sem Value).run P w' = .ok v w' := by
    intro hc w' v hv
    simp only [Sem.run_bind, eqGuard_no hc, Result.andThen_ok, hv]
  split at h
  · obtain ⟨kd, m, n, rfl, rfl, ⟨_, h⟩ | ⟨hc, _⟩⟩ := ld_biT h
    · unfold cmT at h
      cases op <;> first | exact h.elim | skip
      · exact ⟨_, .of fun d pos af g w' => x_eql ha hb, h⟩
      · exact ⟨_, .of fun d pos af g w' => x_neq ha hb, h⟩
      · exact ⟨_, .of fun d pos af g w' => x_lss ha hb, h⟩
      · exact ⟨_, .of fun d pos af g w' => x_leq ha hb, h⟩
      · exact ⟨_, .of fun d pos af g w' => x_gtr ha hb, h⟩
      · exact ⟨_, .of fun d pos af g w' => x_geq ha hb, h⟩
    · cases hc
  · obtain ⟨kd, m, n, rfl, rfl, ⟨hc, _⟩ | ⟨_, h⟩⟩ := ld_biT h
    · cases hc
    · unfold arT at h
      cases op <;> first | exact h.elim | skip
      all_goals
        obtain ⟨z, rfl, h⟩ := h
        first
          | exact ⟨_, .of fun d pos af g w' => x_addw ha hb, h⟩
          | exact ⟨_, .of fun d pos af g w' => x_subw ha hb, h⟩
          | exact ⟨_, .of fun d pos af g w' => x_mulw ha hb, h⟩
  · rename_i hc _
    have hu := cls0 hc
    unfold bbT at h
    split at h
    · split at h
      · exact ⟨_, .of fun d pos af g w' => x_eqlb ha hb hu, h⟩
      · exact ⟨_, .of fun d pos af g w' => x_neqb ha hb hu, h⟩
      · exact h.elim
    · exact h.elim
  · rename_i hc _
    have hu := cls2 hc
    split at h
    · unfold bpT at h
      split at h
      · split at h
        · exact ⟨_, .of fun d pos af g w' => x_eqlp ha hb hu, h⟩
        · exact ⟨_, .of fun d pos af g w' => x_neqp ha hb hu, h⟩
        · exact h.elim
      · exact h.elim
    · exact pu _ (fun _ _ h => h) h
  · exact pu _ (fun _ _ h => h) h
  · rename_i hc _
    exact pu _ (nop hc) h
end
end Go.Proofs.YtcbkpekbfkaeeaaDoor.Sx
