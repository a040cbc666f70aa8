/- The rules of a tree's walk. -/
import Derived.Test.YtcbkpekbfkaeeaaDoorSxZ
import Derived.Test.YtcbkpekbfkaeeaaDoorSxE
set_option linter.unusedVariables false
set_option linter.unusedSimpArgs false
namespace Go.Proofs.YtcbkpekbfkaeeaaDoor.Sx
open Go Go.RowKit
section
variable {P : Program} {Z : ZP} {R : Value → World → Prop} {w : World} {A : List Nat → List Value → World → Prop} {B : List Nat → Nat → List Value → World → Prop} {ds : List Nat} {k : Value → T} {t u : T}
theorem r_ret {v : Value} (h : R v w) : wp P Z R [] (.ret v) w A B := h
/-- The end of a function with one mark. -/
theorem r_ret1 {v : Value} {D : Nat} (hD : w.heap[D]? = some (.deferred (some []))) (h : ∀ w', Fr [D] w w' → R v w') : wp P Z R [D] (.ret v) w A B := ⟨by simp, by simpa using hD, h⟩
theorem r_ld {ad : Addr} {v : Value} (hc : w.cell? ad = some v) (h : wp P Z R ds (k v) w A B) : wp P Z R ds (.ld (.pointer (some ad)) k) w A B := ⟨ad, v, rfl, hc, h⟩
theorem r_ldn {n : Nat} {ad : Addr} {cs : List Value} (hc : Rd w n ad cs) (h : wp P Z R ds (k (.agg cs.toArray)) w A B) : wp P Z R ds (.ldn n (.pointer (some ad)) k) w A B := ⟨ad, cs, rfl, hc, h⟩
theorem r_chk {ad : Addr} {v : Value} (hc : w.cell? ad = some v) (h : wp P Z R ds t w A B) : wp P Z R ds (.chk none (.pointer (some ad)) v t) w A B := ⟨⟨ad, rfl, hc⟩, h⟩
theorem r_chkn {n : Nat} {ad : Addr} {cs : List Value} (hc : Rd w n ad cs) (h : wp P Z R ds t w A B) : wp P Z R ds (.chk (some n) (.pointer (some ad)) (.agg cs.toArray) t) w A B := ⟨⟨ad, cs, rfl, rfl, hc⟩, h⟩
/-- A sum that does not wrap. -/
theorem r_ar {z : Int} (hb : -9223372036854775808 ≤ z ∧ z ≤ 9223372036854775807) (h : wp P Z R ds (k (.int .i64 z)) w A B) : wp P Z R ds (.ar .i64 z k) w A B := ⟨z, by rw [IntKind.wrap_i64]; omega, h⟩
theorem r_arw {kd : IntKind} {z : Int} (h : wp P Z R ds (k (.int kd (kd.wrap z))) w A B) : wp P Z R ds (.ar kd z k) w A B := ⟨_, rfl, h⟩
theorem r_are {kd : IntKind} {z y : Int} (hy : kd.wrap z = y) (h : wp P Z R ds (k (.int kd y)) w A B) : wp P Z R ds (.ar kd z k) w A B := ⟨_, hy, h⟩
theorem r_ob {p : Prop} (hp : p) (h : wp P Z R ds t w A B) : wp P Z R ds (.ob p t) w A B := ⟨hp, h⟩
theorem r_if {p : Prop} [Decidable p] (h1 : p → wp P Z R ds t w A B) (h2 : ¬ p → wp P Z R ds u w A B) : wp P Z R ds (gi (.bool (decide p)) t u) w A B := by
  by_cases hp : p
  · rw [decide_eq_true hp]; exact h1 hp
  · rw [decide_eq_false hp]; exact h2 hp
theorem r_ifn {p : Prop} [Decidable p] (h1 : ¬ p → wp P Z R ds t w A B) (h2 : p → wp P Z R ds u w A B) : wp P Z R ds (gi (.bool (!decide p)) t u) w A B := by
  by_cases hp : p
  · rw [decide_eq_true hp]; exact h2 hp
  · rw [decide_eq_false hp]; exact h1 hp
theorem r_ifb {b : Bool} (h1 : b = true → wp P Z R ds t w A B) (h2 : b = false → wp P Z R ds u w A B) : wp P Z R ds (gi (.bool b) t u) w A B := by
  cases b with
  | true => exact h1 rfl
  | false => exact h2 rfl
theorem r_ifbn {b : Bool} (h1 : b = false → wp P Z R ds t w A B) (h2 : b = true → wp P Z R ds u w A B) : wp P Z R ds (gi (.bool (!b)) t u) w A B := by
  cases b with
  | true => exact h2 rfl
  | false => exact h1 rfl
theorem r_dr (h : ∀ w', Fr [] w w' → wp P Z R ds t w' A B) : wp P Z R ds (.dr t) w A B := fun w' f _ => h w' f
theorem Cz.mono {f : Nat} {vs : List Value} {Q Q' : Value → World → Prop} (h : Cz P f vs w Q Z) (hk : ∀ v w', Q v w' → Q' v w') : Cz P f vs w Q' Z :=
  ⟨h.1, Calls.mono h.2 (fun e w' he => by cases e with | returned v => exact hk v w' he | panicked c => exact he | outgrown => exact he)⟩
theorem r_call {f : Nat} {vs : List Value} {Q : Value → World → Prop} (h : Cz P f vs w Q (ZD ds Z)) (hk : ∀ v w', Q v w' → wp P Z R ds (k v) w' A B) : wp P Z R ds (.call f vs k) w A B := h.mono hk
theorem Cz.of {f : Nat} {vs : List Value} {Q : Value → World → Prop} (hcf : CF P f) (h : Cl P f vs w Q) : Cz P f vs w Q Z := ⟨hcf, Calls.mono h (fun e w' ⟨v, he, hq⟩ => by subst he; exact hq)⟩
theorem Cz.cl {f : Nat} {vs : List Value} {Q : Value → World → Prop} (h : Cz P f vs w Q (fun _ _ => False)) : Cl P f vs w Q := Calls.mono h.2 (fun e w' he => by cases e with | returned v => exact ⟨v, rfl, he⟩ | panicked c => exact he.elim | outgrown => exact he.elim)
theorem r_loop {vs : List Value} {body : List Value → T} {after : Nat → List Value → T} {σ : Type} (st : σ → List Value) (J : σ → World → Prop) (μ : σ → Nat) (s0 : σ) (h0 : J s0 w) (hs : st s0 = vs)
    (h : ∀ s w, J s w → wp P Z R ds (body (st s)) w (fun ds' vs' w' => ∃ s', st s' = vs' ∧ μ s' < μ s ∧ ds' = ds ∧ J s' w') (fun ds' i vs' w' => wp P Z R ds' (after i vs') w' A B)) : wp P Z R ds (.loop vs body after) w A B :=
  ⟨σ, st, fun d s w => d = ds ∧ J s w, μ, s0, hs, ⟨rfl, h0⟩, fun d s w hJ => by obtain ⟨rfl, hJ⟩ := hJ; exact h s w hJ⟩
theorem r_ag {σ : Type} {st : σ → List Value} {J : σ → World → Prop} {μ : σ → Nat} {s : σ} {vs : List Value} (s' : σ) (hJ : J s' w) (hlt : μ s' < μ s) (hs : st s' = vs) : wp P Z R ds (.again vs) w (fun ds' vs' w' => ∃ s', st s' = vs' ∧ μ s' < μ s ∧ ds' = ds ∧ J s' w') B := ⟨s', hs, hlt, rfl, hJ⟩
/-- A call of yield. -/
theorem r_yld {L : Nat} {vs : List Value} {Q : Value → World → Prop} (h : Yd P L vs w Q) (hk : ∀ v w', Q v w' → wp P Z R ds (k v) w' A B) : wp P Z R ds (.yld L vs k) w A B := by
  obtain ⟨fn, tmps, asg, body, h1, h2⟩ := h
  exact ⟨fn, tmps, asg, body, h1, RoundIn.mono h2 (fun e w' he => by obtain ⟨v, rfl, hq⟩ := he; exact hk v w' hq)⟩
theorem r_rb {L : Nat} {a b : Obj} (h1 : w.heap[L]? = some a) (h : ∀ w', Fr [L] w w' → w'.heap[L]? = some b → wp P Z R ds t w' A B) : wp P Z R ds (.rb L a b t) w A B := ⟨h1, h⟩
theorem Kp.of {L : Nat} {o : Obj} {U bs : List Nat} {W Wb W' : World} (f : Fr [L] W Wb) (g : Fr bs Wb W') (hL : W'.heap[L]? = some o) (hd : ∀ q ∈ U, q ∉ bs) (hU : ∀ q ∈ U, q < W.heap.size) : Kp L o U W W' :=
  ⟨Nat.le_trans f.size g.size, fun q hq hne => (g.keep q (Nat.lt_of_lt_of_le (hU q hq) f.size) (hd q hq)).trans (f.keep q (hU q hq) (by simpa using hne)), hL⟩
/-! what makes memory, or writes -/
theorem run_inv {s : Sem Value} {v : Value} {w' : World} (h : (do pure (Next.value (← s)) : Sem Next).run P w = .ok (.value v) w') : s.run P w = .ok v w' := by
  simp only [Sem.run_bind] at h
  cases hs : s.run P w with
  | ok a w1 =>
    rw [hs] at h
    simp only [Result.andThen_ok, Sem.run_pure] at h
    injection h with h1 h2
    injection h1 with h1
    rw [h1, h2]
  | halt x w1 => rw [hs] at h; cases h
theorem run_invu {s : Sem Unit} {w' : World} (h : (do s; pure Next.skip : Sem Next).run P w = .ok .skip w') : s.run P w = .ok () w' := by
  simp only [Sem.run_bind] at h
  cases hs : s.run P w with
  | ok a w1 =>
    rw [hs] at h
    simp only [Result.andThen_ok, Sem.run_pure] at h
    injection h with h1 h2
    rw [h2]
  | halt x w1 => rw [hs] at h; cases h
def r0 : Operand → Value
  | .const v => v
  | .global g => .pointer (some ⟨g, 0, none⟩)
  | .func f => .func (.func f) #[] #[]
  | .tmp _ => undef
theorem fits0 : Fits [] r0 := fun x v hx => by
  cases x with
  | tmp t => cases hx
  | const c => injection hx
  | global g => injection hx
  | func f => injection hx
theorem r_hv {s : Sem Value} {o : Oper} {Q : Value → World → Prop} (h : Ev P o [] w Q) (hk : ∀ v w', Q v w' → wp P Z R ds (k v) w' A B) (he : execOp r0 o = (do pure (.value (← s))) := by rfl) : wp P Z R ds (.hv s k) w A B := by
  obtain ⟨v, w', h1, h2⟩ := h r0 fits0
  rw [he] at h1
  exact ⟨v, w', run_inv h1, hk v w' h2⟩
theorem r_pu {s : Sem Value} {v : Value} {o : Oper} (h : ∀ w', Ex P o [] w' v w') (hk : wp P Z R ds (k v) w A B) (he : execOp r0 o = (do pure (.value (← s))) := by rfl) : wp P Z R ds (.pu s k) w A B :=
  ⟨v, fun w' => by have h1 := h w' r0 fits0; rw [he] at h1; exact run_inv h1, hk⟩
theorem r_ef {s : Sem Unit} {o : Oper} {Q : World → Prop} (h : Sv P o [] w Q) (hk : ∀ w', Q w' → wp P Z R ds t w' A B) (he : execOp r0 o = (do s; pure .skip) := by rfl) : wp P Z R ds (.ef s t) w A B := by
  obtain ⟨w', h1, h2⟩ := h r0 fits0
  rw [he] at h1
  exact ⟨w', run_invu h1, hk w' h2⟩
end
end Go.Proofs.YtcbkpekbfkaeeaaDoor.Sx
