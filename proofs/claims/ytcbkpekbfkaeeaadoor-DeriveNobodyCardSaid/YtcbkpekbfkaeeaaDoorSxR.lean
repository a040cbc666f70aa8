/- Ranges over functions: the steps within a round's frame, the statement, the function's end behind it. -/
import Derived.Test.YtcbkpekbfkaeeaaDoorSxC
import Derived.RangeFuncFrom
import Derived.OrdersIn
import Derived.TacticsIn
set_option linter.unusedVariables false
set_option linter.unusedSimpArgs false
namespace Go.Proofs.YtcbkpekbfkaeeaaDoor.Sx
open Go Go.RowKit
def FR (r : Option Nat) : Fence := { Fence.wide with round := r }
theorem FR_fn (r : Option Nat) (f : FuncId) : (FR r).fn f := trivial
theorem FR_depth (r : Option Nat) (n : Nat) : (FR r).depth.isSome = true → 1 ≤ n := fun h => by cases h
def nodef (o : Oper) : Bool := match o.op with | .defer _ => false | _ => true
theorem semAt_of {o : Oper} (r : Option Nat) (e : Operand → Value) (h : nodef o = true) : o.semAt (FR r).round e = execOp e o := by
  cases r with
  | none => rfl
  | some l => exact Oper.semAt_some l e o (fun c hc => by unfold nodef at h; rw [hc] at h; cases h)
theorem callsIn_FR {P : Program} {r : Option Nat} {n : Nat} {f : FuncId} {args : Array Value} {w : World} {R : Ending → World → Prop} (h : Calls P f args w R) : CallsIn (FR r) n P f args w R := by
  have h1 : CallsIn Fence.wide n P f args w R := callsIn_wide.2 h
  exact h1
def CI (P : Program) (r : Option Nat) (C : Code) (n : Nat) (df : List Deferred) (l : Env) (w : World) (N R : Act → World → Prop) (E : Nat → Act → World → Prop) : Prop := ∀ a, Ag a n df l → C.wpIn (FR r) 0 P (kq N R E) a w
def KI (P : Program) (r : Option Nat) (B : Code) (N R : Act → World → Prop) (E : Nat → Act → World → Prop) : Act → World → Prop := fun a w => B.wpIn (FR r) 0 P (kq N R E) a w
def RI (P : Program) (r : Option Nat) (C : Code) (i : Nat) (n : Nat) (df : List Deferred) (l : Env) (w : World) (N R : Act → World → Prop) (E : Nat → Act → World → Prop) : Prop :=
  ∀ a, Ag a n df l → wpListIn (FR r) 0 P (opsL C).toArray (kq N R E) ((opsL C).drop i) a w
def DI (P : Program) (r : Option Nat) (C : Code) (f : Nat) (D : List Nat) (n : Nat) (df : List Deferred) (l : Env) (w : World) (N R : Act → World → Prop) (E : Nat → Act → World → Prop) : Prop :=
  ∀ a, Ag a n df l → wpAnyIn (FR r) 0 P .any (opsL C).toArray (kq N R E) f (mkL (opsL C).length D) a w
def OI (P : Program) (r : Option Nat) (C : Code) (f : Nat) (D : List Nat) (i : Nat) (n : Nat) (df : List Deferred) (l : Env) (w : World) (N R : Act → World → Prop) (E : Nat → Act → World → Prop) : Prop :=
  ∀ a, Ag a n df l → wpOpIn (FR r) 0 P (opsL C).toArray (kq N R E) i (wpAnyIn (FR r) 0 P .any (opsL C).toArray (kq N R E) f (mkL (opsL C).length (i :: D))) a w
section
variable {P : Program} {C A B : Code} {r : Option Nat} {n : Nat} {df : List Deferred} {l : Env} {w w' : World} {N R : Act → World → Prop} {E : Nat → Act → World → Prop}
theorem icl_seq (hs : C = .seq A B) (h : CI P r A n df l w (KI P r B N R E) R E) : CI P r C n df l w N R E := by
  subst hs
  intro a ha
  refine wpIn_seq (wpIn_mono (h a ha) ?_)
  intro e a w hq
  cases e <;> first | exact hq | exact hq.elim
theorem ial_k (h : CI P r B n df l w N R E) : AL n df l w (KI P r B N R E) := h
theorem icl_skip (hs : C = .skip) (h : AL n df l w N) : CI P r C n df l w N R E := by subst hs; exact fun a ha => wpIn_skip (h a ha)
theorem icl_block {id : Nat} (hs : C = .block id B) (h : CI P r B n df l w N R (upd E id N)) : CI P r C n df l w N R E := by
  subst hs
  intro a ha
  refine wpIn_block (wpIn_mono (h a ha) ?_)
  intro e a w hq
  cases e with
  | exit i =>
    simp only [kq, upd] at hq
    simp only [Exit.inBlock]
    by_cases hi : i = id
    · rw [if_pos hi]; subst hi; simpa [kq] using hq
    · rw [if_neg hi]
      have : Nat.beq i id = false := by
        cases hb : Nat.beq i id with
        | false => rfl
        | true => exact absurd (Nat.eq_of_beq_eq_true hb) hi
      rw [this] at hq; exact hq
  | _ => exact hq
theorem icl_reg {id : Nat} {ops : Array Oper} (hs : C = .region id ops false) (h : RI P r C 0 n df l w N R E) : CI P r C n df l w N R E := by
  subst hs
  intro a ha
  exact wpIn_region_list (by simpa [RI, opsL] using h a ha)
/-- A region of a plain frame by the fenced rules: where a yield is called. -/
theorem cl_regI {id : Nat} {ops : Array Oper} (hs : C = .region id ops false) (h : RI P none C 0 n df l w N R E) : CL P C n df l w N R E :=
  fun a ha => wpIn_wide.1 (icl_reg hs h a ha)
theorem irl_end {i : Nat} (he : nth (opsL C) i = none) (h : AL n df l w N) : RI P r C i n df l w N R E := by
  intro a ha
  rw [nth_eq] at he
  rw [List.drop_eq_nil_of_le (List.getElem?_eq_none_iff.1 he)]
  exact h a ha
theorem ist {i d : Nat} {o : Oper} {v : Value} (ho : nth (opsL C) i = some o) (hw : Want C l o = some true) (hd : o.dst = some d) (hn : Nat.blt d n = true) (h : Ex P o l w v w')
    (k : RI P r C (i + 1) n df ((d, v) :: l) w' N R E) (hnd : nodef o = true := by rfl) : RI P r C i n df l w N R E := by
  intro a ha
  rw [drop_of_nth ho]
  unfold wpListIn
  rw [if_pos (want_spec ha hw)]
  refine ⟨fun _ _ => trivial, ?_⟩
  rw [semAt_of _ _ hnd, h _ ha.fits]
  simp only [Oper.uponIn, hd]
  exact k _ (ha.put (by simpa using hn) v)
theorem iso {i d : Nat} {o : Oper} (ho : nth (opsL C) i = some o) (hw : Want C l o = some false) (hd : o.dst = some d) (hn : Nat.blt d n = true)
    (k : RI P r C (i + 1) n df ((d, undef) :: l) w N R E) : RI P r C i n df l w N R E := by
  intro a ha
  rw [drop_of_nth ho]
  unfold wpListIn
  rw [if_neg (by rw [want_spec ha hw]; simp)]
  rw [hd]
  exact ⟨fun _ _ => trivial, k _ (ha.put (by simpa using hn) undef)⟩
theorem isf {i d : Nat} {o : Oper} {p : Prop} [Decidable p] (ho : nth (opsL C) i = some o) (hw : Want C l o = some true) (hd : o.dst = some d) (hn : Nat.blt d n = true) (h : Ex P o l w (.bool (decide p)) w')
    (k1 : p → RI P r C (i + 1) n df ((d, .bool true) :: l) w' N R E) (k0 : ¬ p → RI P r C (i + 1) n df ((d, .bool false) :: l) w' N R E) (hnd : nodef o = true := by rfl) : RI P r C i n df l w N R E := by
  by_cases hp : p
  · exact ist ho hw hd hn (h.b1 hp) (k1 hp) hnd
  · exact ist ho hw hd hn (h.b0 hp) (k0 hp) hnd
theorem ise {i d : Nat} {o : Oper} {RR : Value → World → Prop} (ho : nth (opsL C) i = some o) (hw : Want C l o = some true) (hd : o.dst = some d) (hn : Nat.blt d n = true) (h : Ev P o l w RR)
    (k : ∀ v w', RR v w' → RI P r C (i + 1) n df ((d, v) :: l) w' N R E) (hnd : nodef o = true := by rfl) : RI P r C i n df l w N R E := by
  intro a ha
  rw [drop_of_nth ho]
  unfold wpListIn
  rw [if_pos (want_spec ha hw)]
  refine ⟨fun _ _ => trivial, ?_⟩
  obtain ⟨v, w', he, hr⟩ := h _ ha.fits
  rw [semAt_of _ _ hnd, he]
  simp only [Oper.uponIn, hd]
  exact k v w' hr _ (ha.put (by simpa using hn) v)
theorem isv {i : Nat} {o : Oper} {RR : World → Prop} (ho : nth (opsL C) i = some o) (hw : Want C l o = some true) (hd : o.dst = none) (h : Sv P o l w RR)
    (k : ∀ w', RR w' → RI P r C (i + 1) n df l w' N R E) (hnd : nodef o = true := by rfl) : RI P r C i n df l w N R E := by
  intro a ha
  rw [drop_of_nth ho]
  unfold wpListIn
  rw [if_pos (want_spec ha hw)]
  refine ⟨fun _ _ => trivial, ?_⟩
  obtain ⟨w', he, hr⟩ := h _ ha.fits
  rw [semAt_of _ _ hnd, he]
  simp only [Oper.uponIn, hd]
  exact k w' hr _ ha
theorem isc {i d : Nat} {o : Oper} {RR : Value → World → Prop} (ho : nth (opsL C) i = some o) (hw : Want C l o = some true) (hd : o.dst = some d) (hn : Nat.blt d n = true) (h : Cx P o l w RR)
    (k : ∀ v w', RR v w' → RI P r C (i + 1) n df ((d, v) :: l) w' N R E) (hnd : nodef o = true := by rfl) : RI P r C i n df l w N R E := by
  intro a ha
  rw [drop_of_nth ho]
  unfold wpListIn
  rw [if_pos (want_spec ha hw)]
  refine ⟨fun _ _ => trivial, ?_⟩
  obtain ⟨f, args, he, hc⟩ := h _ ha.fits
  rw [semAt_of _ _ hnd, he]
  simp only [Oper.uponIn]
  refine ⟨FR_depth _ _, (callsIn_FR (Calls.mono hc ?_))⟩
  rintro e w' ⟨v, rfl, hr⟩
  rw [hd]
  exact k v w' hr _ (ha.put (by simpa using hn) v)
/-- A call of a range's yield: one round. -/
def Yd (P : Program) (L : Nat) (vs : List Value) (w : World) (RR : Value → World → Prop) : Prop := YieldAt Fence.wide 0 P L vs.toArray w (fun e w' => ∃ v, e = .returned v ∧ RR v w')
theorem iy {i d L : Nat} {q : Operand} {xs : Array Operand} {ts : Array TypeId} {vs : List Value} {ty : TypeId} {pos : String} {af : Array Edge} {g : Option (Nat × Bool)} {RR : Value → World → Prop} (ho : nth (opsL C) i = some ⟨some d, .call ⟨.value q, xs, ts⟩, ty, pos, af, g⟩) (hw : Want C l ⟨some d, .call ⟨.value q, xs, ts⟩, ty, pos, af, g⟩ = some true) (hn : Nat.blt d n = true)
    (hq : ev l q = some (.func (.yield L) #[] #[])) (hx : evl l xs.toList = some vs) (h : Yd P L vs w RR)
    (k : ∀ v w', RR v w' → RI P r C (i + 1) n df ((d, v) :: l) w' N R E) : RI P r C i n df l w N R E := by
  intro a ha
  rw [drop_of_nth ho]
  unfold wpListIn
  rw [if_pos (want_spec ha hw)]
  refine ⟨fun _ _ => trivial, ?_⟩
  obtain ⟨fn, tmps, assign, body, hy, hr⟩ := h
  have e1 : xs.map a.eval = vs.toArray := by rw [← evl_fits ha.fits hx]; apply Array.ext'; simp
  have e0 : a.eval q = .func (.yield L) #[] #[] := ha.fits q _ hq
  have e2 : (execOp a.eval ⟨some d, .call ⟨.value q, xs, ts⟩, ty, pos, af, g⟩).run P w = .ok (.round L fn tmps assign body) w := by
    simp [execOp, resolve, invoke, Deferred.ofValue, e0, e1, hy]
  rw [semAt_of _ _ rfl, e2]
  simp only [Oper.uponIn]
  refine ⟨FR_depth _ _, ?_⟩
  have h2 : RoundIn (FR r) 0 P L fn tmps assign body w (fun e w' => ∃ v, e = .returned v ∧ RR v w') := hr
  refine RoundIn.mono h2 ?_
  rintro e w' ⟨v, rfl, hR⟩
  exact k v w' hR _ (ha.put (by simpa using hn) v)
/-! a region that draws, order by order -/
theorem icl_draw {id : Nat} {ops : Array Oper} (hm : P.follows .mixedOrders = true) (hs : C = .region id ops true) (h : ∀ w', Fr [] w w' → w'.heap = w.heap → DI P r C (opsL C).length [] n df l w' N R E) : CI P r C n df l w N R E := by
  subst hs
  intro a ha
  have := h { w with drawn := w.drawn + 1 } (Fr.drew w) rfl a ha
  exact wpIn_region_any hm (by simpa [opsL, mkL] using this)
theorem di_n {f : Nat} {D : List Nat} (hr : Region.ready .any (opsL C).toArray (mkL (opsL C).length D) = []) (h : AL n df l w N) : DI P r C f D n df l w N R E := by
  intro a ha
  cases f with
  | zero => exact ⟨hr, h a ha⟩
  | succ f => exact ⟨fun _ => h a ha, fun i hi => by rw [hr] at hi; cases hi⟩
theorem di_1 {f i : Nat} {D : List Nat} (hr : Region.ready .any (opsL C).toArray (mkL (opsL C).length D) = [i]) (h : OI P r C f D i n df l w N R E) : DI P r C (f + 1) D n df l w N R E :=
  fun a ha => ⟨fun h0 => (by rw [hr] at h0; cases h0), fun k hk => by rw [hr] at hk; simp at hk; subst hk; exact h a ha⟩
theorem di_2 {f i j : Nat} {D : List Nat} (hr : Region.ready .any (opsL C).toArray (mkL (opsL C).length D) = [i, j]) (h : OI P r C f D i n df l w N R E) (h' : OI P r C f D j n df l w N R E) : DI P r C (f + 1) D n df l w N R E :=
  fun a ha => ⟨fun h0 => (by rw [hr] at h0; cases h0), fun k hk => by rw [hr] at hk; simp at hk; rcases hk with rfl | rfl; exact h a ha; exact h' a ha⟩
theorem di_3 {f i j m : Nat} {D : List Nat} (hr : Region.ready .any (opsL C).toArray (mkL (opsL C).length D) = [i, j, m]) (h : OI P r C f D i n df l w N R E) (h' : OI P r C f D j n df l w N R E) (h'' : OI P r C f D m n df l w N R E) : DI P r C (f + 1) D n df l w N R E :=
  fun a ha => ⟨fun h0 => (by rw [hr] at h0; cases h0), fun k hk => by rw [hr] at hk; simp at hk; rcases hk with rfl | rfl | rfl; exact h a ha; exact h' a ha; exact h'' a ha⟩
theorem oi_e {f i d : Nat} {D : List Nat} {o : Oper} {RR : Value → World → Prop} (ho : nth (opsL C) i = some o) (hw : Want C l o = some true) (hd : o.dst = some d) (hn : Nat.blt d n = true) (h : Ev P o l w RR)
    (k : ∀ v w', RR v w' → DI P r C f (i :: D) n df ((d, v) :: l) w' N R E) (hnd : nodef o = true := by rfl) : OI P r C f D i n df l w N R E := by
  intro a ha
  have ho' : (opsL C).toArray[i]? = some o := by rw [List.getElem?_toArray, ← nth_eq]; exact ho
  unfold wpOpIn
  simp only [ho']
  rw [if_pos (want_spec ha hw)]
  refine ⟨fun _ _ => trivial, ?_⟩
  obtain ⟨v, w', he, hr⟩ := h _ ha.fits
  rw [semAt_of _ _ hnd, he]
  simp only [Oper.uponIn, hd]
  exact k v w' hr _ (ha.put (by simpa using hn) v)
theorem oi_x {f i d : Nat} {D : List Nat} {o : Oper} {v : Value} (ho : nth (opsL C) i = some o) (hw : Want C l o = some true) (hd : o.dst = some d) (hn : Nat.blt d n = true) (h : Ex P o l w v w')
    (k : DI P r C f (i :: D) n df ((d, v) :: l) w' N R E) (hnd : nodef o = true := by rfl) : OI P r C f D i n df l w N R E :=
  oi_e ho hw hd hn h.ev (fun _ _ ⟨e1, e2⟩ => by rw [e1, e2]; exact k) hnd
theorem oi_v {f i : Nat} {D : List Nat} {o : Oper} {RR : World → Prop} (ho : nth (opsL C) i = some o) (hw : Want C l o = some true) (hd : o.dst = none) (h : Sv P o l w RR)
    (k : ∀ w', RR w' → DI P r C f (i :: D) n df l w' N R E) (hnd : nodef o = true := by rfl) : OI P r C f D i n df l w N R E := by
  intro a ha
  have ho' : (opsL C).toArray[i]? = some o := by rw [List.getElem?_toArray, ← nth_eq]; exact ho
  unfold wpOpIn
  simp only [ho']
  rw [if_pos (want_spec ha hw)]
  refine ⟨fun _ _ => trivial, ?_⟩
  obtain ⟨w', he, hr⟩ := h _ ha.fits
  rw [semAt_of _ _ hnd, he]
  simp only [Oper.uponIn, hd]
  exact k w' hr _ ha
theorem oi_c {f i d : Nat} {D : List Nat} {o : Oper} {RR : Value → World → Prop} (ho : nth (opsL C) i = some o) (hw : Want C l o = some true) (hd : o.dst = some d) (hn : Nat.blt d n = true) (h : Cx P o l w RR)
    (k : ∀ v w', RR v w' → DI P r C f (i :: D) n df ((d, v) :: l) w' N R E) (hnd : nodef o = true := by rfl) : OI P r C f D i n df l w N R E := by
  intro a ha
  have ho' : (opsL C).toArray[i]? = some o := by rw [List.getElem?_toArray, ← nth_eq]; exact ho
  unfold wpOpIn
  simp only [ho']
  rw [if_pos (want_spec ha hw)]
  refine ⟨fun _ _ => trivial, ?_⟩
  obtain ⟨g, args, he, hc⟩ := h _ ha.fits
  rw [semAt_of _ _ hnd, he]
  simp only [Oper.uponIn]
  refine ⟨FR_depth _ _, (callsIn_FR (Calls.mono hc ?_))⟩
  rintro e w' ⟨v, rfl, hr⟩
  rw [hd]
  exact k v w' hr _ (ha.put (by simpa using hn) v)
theorem Fr.putObj (w : World) (q : Nat) (o : Obj) : Fr [q] w (w.putObj q o) := ⟨rfl, rfl, rfl, by simp, fun k hk hn => World.putObj_heap_other (by simpa using hn)⟩
/-- A round's frame: yield's arguments in the parameters. -/
theorem Ag.paramsL {a : Act} : ∀ (ps : List Nat) (vs : List Value) {t : Array Value} {l : Env}, Ag { tmps := t, defers := [] } n [] l → (∀ p ∈ ps, p < n) → ps.length = vs.length →
    Ag { tmps := (ps.zip vs).foldl (fun t (p, v) => t.setIfInBounds p v) t, defers := [] } n [] ((ps.zip vs).reverse ++ l) := by
  intro ps
  induction ps with
  | nil =>
    intro vs t l h _ hl
    obtain rfl : vs = [] := List.eq_nil_of_length_eq_zero hl.symm
    simpa using h
  | cons p r ih =>
    intro vs t l h hp hl
    cases vs with
    | nil => simp at hl
    | cons v vs =>
      have h1 : Ag { tmps := t.setIfInBounds p v, defers := [] } n [] ((p, v) :: l) := h.put (hp p (by simp)) v
      have h2 := ih vs h1 (fun q hq => hp q (by simp [hq])) (by simpa using hl)
      simpa using h2
theorem Ag.params {a : Act} (ps : List Nat) (vs : List Value) {t : Array Value} {l : Env} (h : Ag { tmps := t, defers := [] } n [] l) (hp : ∀ p ∈ ps, p < n) (hl : ps.length = vs.length) :
    Ag { tmps := (ps.toArray.zip vs.toArray).foldl (fun t (p, v) => t.setIfInBounds p v) t, defers := [] } n [] ((ps.zip vs).reverse ++ l) := by
  have := Ag.paramsL (a := a) ps vs h hp hl
  rw [List.zip_toArray, List.foldl_toArray]
  exact this
def mk (D : Nat) : Deferred := { target := .collected D, args := #[] }
/-- The statement: rounds that end normally. I: what holds behind m rounds. -/
theorem cl_range {g : Operand} {ps : Array Tmp} {gf : Nat} {cap : List Value} (hs : C = .rangeFunc g ps A B) (hg : ev l g = some (.func (.func gf) #[] cap.toArray)) (hcf : ∀ a w, (callFunc gf a).run P w = .ok (.enter gf a) w)
    (len : Nat) (arg : Nat → List Value) (env : Nat → Env) (I : Nat → World → Prop) (hps : ∀ p ∈ ps.toList, p < n) (hal : ∀ m, (arg m).length = ps.size)
    (h0 : ∀ W, Fr [] w W → w.heap.size + 2 ≤ W.heap.size → I 0 W) (hI : ∀ m W W', I m W → Fr [w.heap.size + 1] W W' → I m W')
    (hcall : ∀ J : Nat → World → Prop, (∀ m W W', J m W → Fr [] W W' → J m W') → (∀ m W, J m W → I m W) →
      (∀ m W, m < len → J m W → Yd P (w.heap.size + 1) (arg m) W (fun v W' => v = .bool true ∧ J (m + 1) W')) → ∀ W, J 0 W → Cl P gf (.func (.yield (w.heap.size + 1)) #[] #[] :: cap) W (fun _ W' => J len W'))
    (hIfr : ∀ m W W', I m W → Fr [] W W' → I m W')
    (hA : ∀ m W, m < len → CI P (some (w.heap.size + 1)) A n [] ((ps.toList.zip (arg m)).reverse ++ l) W (fun a W1 => W1 = W ∧ Ag a n [] (env m)) (fun _ _ => False) (fun _ _ _ => False))
    (hB : ∀ m W, m < len → I m W → CI P (some (w.heap.size + 1)) B n [] (env m) W (fun a W' => I (m + 1) W' ∧ W.heap.size ≤ W'.heap.size ∧ ∀ q, q = w.heap.size ∨ q = w.heap.size + 1 → W'.heap[q]? = W.heap[q]?) (fun _ _ => False) (fun _ _ _ => False))
    (hN : ∀ W, I len W → W.heap[w.heap.size]? = some (.deferred (some [])) → AL n (mk w.heap.size :: df) l W N) : CL P C n df l w N R E := by
  subst hs
  intro a ha
  refine (wpIn_wide (n := 0)).1 (wpIn_rangeFunc ?_)
  intro fn hfn
  obtain ⟨rec, hrec⟩ : ∃ rec : LoopState → Option Code → Loop, rec = fun st pe => { state := st, pending := pe, fn, tmps := a.tmps, params := ps, assign := A, body := B, defers := w.heap.size } := ⟨_, rfl⟩
  obtain ⟨W1, hW1⟩ : ∃ W1, (w.alloc (.deferred (some []))).alloc (.loop (rec .ready none)) = W1 := ⟨_, rfl⟩
  have hL1 : W1.heap[w.heap.size + 1]? = some (.loop (rec .ready none)) := by
    rw [← hW1]; have := World.alloc_heap_new (w.alloc (.deferred (some []))) (.loop (rec .ready none)); rwa [World.size_alloc] at this
  have hK1 : W1.heap[w.heap.size]? = some (.deferred (some [])) := by
    rw [← hW1]; exact (Below.heap_alloc _ _ _ (by simp)).trans (World.alloc_heap_new w _)
  have hF1 : Fr [] w W1 := by rw [← hW1]; exact (Fr.alloc w _).trans (Fr.alloc _ _)
  have hgv : a.eval g = .func (.func gf) #[] cap.toArray := ha.fits g _ hg
  refine ⟨w.heap.size + 1, [mk w.heap.size], W1, { target := .fn (.func gf) cap.toArray, args := #[.func (.yield (w.heap.size + 1)) #[] #[]] }, W1, gf,
    #[.func (.yield (w.heap.size + 1)) #[] #[]] ++ cap.toArray, W1, ?_, ?_, fun _ _ => trivial, ?_, FR_depth none _, ?_⟩
  · rw [← hW1, hrec]; exact run_enterLoop_outer _ _ _ _ _
  · simp only [resolve, hgv]
    simp [go_sem]
  · simp [invoke, go_sem, hcf]
  · refine callsIn_wide.2 ?_
    have hc := hcall (fun m W => I m W ∧ W.heap[w.heap.size + 1]? = some (.loop (rec .ready none)) ∧ W.heap[w.heap.size]? = some (.deferred (some [])))
      (fun m W W' h f => ⟨hIfr m W W' h.1 f, (f.keep _ (Array.getElem?_eq_some_iff.1 h.2.1).1 (by simp)).trans h.2.1, (f.keep _ (Array.getElem?_eq_some_iff.1 h.2.2).1 (by simp)).trans h.2.2⟩)
      (fun m W h => h.1) ?_ W1 ⟨h0 W1 hF1 (by rw [← hW1]; simp), hL1, hK1⟩
    · have e : #[.func (.yield (w.heap.size + 1)) #[] #[]] ++ cap.toArray = (Value.func (.yield (w.heap.size + 1)) #[] #[] :: cap).toArray := by simp
      rw [e]
      refine Calls.mono hc ?_
      rintro e W2 ⟨v, rfl, hi, hl, hk⟩
      refine ⟨none, _, by have := run_endLoop (P := P) hl (by rw [hrec]; simp); rw [hrec] at this; exact this, ?_⟩
      have f1 := Fr.putObj W2 (w.heap.size + 1) (.loop { rec .ready none with state := .exhausted })
      have ha2 : Ag { a with defers := [mk w.heap.size] ++ a.defers } n (mk w.heap.size :: df) l := ⟨ha.size, by simp [ha.defs], ha.look⟩
      rw [hrec] at f1
      exact hN _ (hI _ _ _ hi f1) ((World.putObj_heap_other (by omega)).trans hk) _ ha2
    · rintro m W hm ⟨hi, hl, hk⟩
      have hlt : w.heap.size + 1 < W.heap.size := (Array.getElem?_eq_some_iff.1 hl).1
      have hy := run_yield (P := P) (args := (arg m).toArray) hl (by rw [hrec]; simp [hal m])
      rw [hrec] at hy
      refine ⟨fn, _, A, B, hy, roundIn_of_wpIn hfn ?_⟩
      have hp0 := Ag.params (n := n) (a := a) ps.toList (arg m) (t := a.tmps) (l := l) ⟨ha.size, rfl, ha.look⟩ hps (by simp [hal m])
      have hps2 : ps.toList.toArray = ps := by simp
      rw [hps2] at hp0
      refine wpIn_mono (hA m W hm _ hp0) ?_
      intro e a1 W2 hq
      cases e with
      | normal =>
        obtain ⟨rfl, ha1⟩ := hq
        refine ⟨_, run_beginRound hl (by rw [hrec]), ?_⟩
        have f2 := Fr.putObj W2 (w.heap.size + 1) (.loop { rec .ready none with state := .busy })
        have hl2 : (W2.putObj (w.heap.size + 1) (.loop { rec .ready none with state := .busy })).heap[w.heap.size + 1]? = some (.loop { rec .ready none with state := .busy }) := World.putObj_heap_same hlt
        have hk2 : (W2.putObj (w.heap.size + 1) (.loop { rec .ready none with state := .busy })).heap[w.heap.size]? = some (.deferred (some [])) := (World.putObj_heap_other (by omega)).trans hk
        refine wpIn_mono (hB m _ hm (hI _ _ _ hi f2) a1 ha1) ?_
        intro e a3 W3 hp
        cases e with
        | normal =>
          obtain ⟨hi3, _, hkp⟩ := hp
          have hl3 := (hkp _ (.inr rfl)).trans hl2
          have hk3 := (hkp _ (.inl rfl)).trans hk2
          have hr := run_endRound (P := P) none hl3
          rw [hrec] at hr
          refine ⟨_, _, hr, _, rfl, rfl, hI _ _ _ hi3 (Fr.putObj _ _ _), ?_, (World.putObj_heap_other (by omega)).trans hk3⟩
          rw [World.putObj_heap_same (Array.getElem?_eq_some_iff.1 hl3).1, hrec]
          rfl
        | ret => exact hp.elim
        | exit id => exact hp.elim
        | goto t => exact hp.elim
        | panic ch => exact hp.elim
        | outgrown => exact hp.elim
      | ret => exact hq.elim
      | exit id => exact hq.elim
      | goto t => exact hq.elim
      | panic ch => exact hq.elim
      | outgrown => exact hq.elim
/-- A function that holds a range over a function: its end. -/
def LM (P : Program) (fn : Func) (RR : Value → World → Prop) : Act → World → Prop := fun a w => LeavesInM Fence.wide 0 P fn a.tmps (fun e w' => ∃ v, e = .returned v ∧ RR v w') a.defers .returning w
theorem enterM {f : FuncId} {fn : Func} {args : List Value} {RR : Value → World → Prop} (hf : P.funcs[f]? = some fn) (hb : fn.body = some C) (hn : fn.ntmps = n) (hl0 : Nat.ble args.length n = true)
    (h : CL P C n [] (argE 0 args) w (LM P fn RR) (LM P fn RR) (fun _ _ _ => False)) : Cl P f args w RR := by
  have hl := Nat.le_of_ble_eq_true hl0
  refine callsIn_wide.1 (callsIn_of_wp_marks (n := 0) hf hb trivial (wpIn_wide.2 ?_))
  refine wp_mono (h _ ⟨by simp [hn]; omega, rfl, ?_⟩) ?_
  · intro t v ht
    obtain ⟨_, h2⟩ := find_argE args 0 t v ht
    have hlt : t < args.length := by
      rcases Nat.lt_or_ge t args.length with h' | h'
      · exact h'
      · simp [List.getElem?_eq_none h'] at h2
    simp only [Nat.sub_zero] at h2
    have h3 := (List.getElem?_eq_some_iff.1 h2).2
    simp [Array.getElem?_append, hlt, h3]
  · intro e a' w' hq
    cases e <;> first | exact hq | exact hq.elim
theorem finM0 {fn : Func} {RR : Value → World → Prop} (hr : fn.results = #[]) (h : RR (.tuple #[]) w) : AL n [] l w (LM P fn RR) := fun a ha => by
  unfold LM
  rw [ha.defs]
  exact ⟨_, results_none hr _ _ _, _, rfl, h⟩
theorem finMD {fn : Func} {RR : Value → World → Prop} {D : Nat} (hr : fn.results = #[]) (hD : w.heap[D]? = some (.deferred (some []))) (h : RR (.tuple #[]) (w.putObj D (.deferred none))) : AL n [mk D] l w (LM P fn RR) := fun a ha => by
  unfold LM
  rw [ha.defs]
  exact ⟨by simp, .inl ⟨D, _, rfl, run_takeDeferred hD, ⟨_, results_none hr _ _ _, _, rfl, h⟩⟩⟩
end
end Go.Proofs.YtcbkpekbfkaeeaaDoor.Sx
