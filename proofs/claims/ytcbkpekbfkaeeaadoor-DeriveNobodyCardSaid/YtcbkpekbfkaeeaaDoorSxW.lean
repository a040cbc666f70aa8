/- Regions in any order: what is light is done ahead, what was read stays as it was read. -/
import Derived.Test.YtcbkpekbfkaeeaaDoorSxV
set_option linter.unusedVariables false
set_option linter.unusedSimpArgs false
namespace Go.Proofs.YtcbkpekbfkaeeaaDoor.Sx
open Go Go.RowKit
theorem tb_or (A i j : Nat) : (A ||| 2 ^ i).testBit j = (A.testBit j || decide (i = j)) := by rw [Nat.testBit_or, Nat.testBit_two_pow]
theorem sub_iff {a b : Nat} : sub a b = true ↔ ∀ i, a.testBit i = true → b.testBit i = true := by
  unfold sub
  constructor
  · intro h i hi
    have h1 := Nat.eq_of_beq_eq_true h
    rw [← h1, Nat.testBit_and] at hi
    simp at hi
    exact hi.2
  · intro h
    have : a &&& b = a := by
      apply Nat.eq_of_testBit_eq
      intro i
      rw [Nat.testBit_and]
      cases ha : a.testBit i with
      | false => rfl
      | true => rw [h i ha]; rfl
    rw [this]
    exact Nat.beq_refl a
theorem pm_iff {o : Oper} {i : Nat} : (pm o).testBit i = true ↔ ∃ e ∈ o.after.toList, Region.binds .any e = true ∧ e.on = i := by
  have gen : ∀ (es : List Edge) (s : Nat), (es.foldl (fun s e => match Region.binds .any e with | true => s ||| 2 ^ e.on | false => s) s).testBit i = true ↔ s.testBit i = true ∨ ∃ e ∈ es, Region.binds .any e = true ∧ e.on = i := by
    intro es
    induction es with
    | nil => intro s; simp
    | cons e r ih =>
      intro s
      rw [List.foldl_cons, ih]
      cases hb : Region.binds .any e with
      | false =>
        simp [hb]
      | true =>
        simp only [tb_or, Bool.or_eq_true, decide_eq_true_eq, List.mem_cons, exists_eq_or_imp, hb, true_and]
        constructor
        · rintro ((h | h) | h)
          · exact .inl h
          · exact .inr (.inl h)
          · exact .inr (.inr h)
        · rintro (h | h | h)
          · exact .inl (.inl h)
          · exact .inl (.inr h)
          · exact .inr h
  have h := gen o.after.toList 0
  exact h.trans (by simp)
theorem mem_rdy {A : Nat} {o : Oper} {i : Nat} : ∀ {rs : List Oper} {k : Nat}, (i, o) ∈ rdy A k rs ↔ ∃ j, i = k + j ∧ rs[j]? = some o ∧ A.testBit i = false ∧ sub (pm o) A = true := by
  intro rs
  induction rs with
  | nil => intro k; simp [rdy]
  | cons q r ih =>
    intro k
    have key : (i, o) ∈ rdy A k (q :: r) ↔ (i = k ∧ o = q ∧ A.testBit k = false ∧ sub (pm q) A = true) ∨ (i, o) ∈ rdy A (k + 1) r := by
      rw [show rdy A k (q :: r) = (match A.testBit k, sub (pm q) A with | false, true => (k, q) :: rdy A (k + 1) r | _, _ => rdy A (k + 1) r) from rfl]
      split
      · rename_i h1 h2
        rw [List.mem_cons]
        constructor
        · rintro (h | h)
          · injection h with e1 e2; subst e1; subst e2; exact .inl ⟨rfl, rfl, h1, h2⟩
          · exact .inr h
        · rintro (⟨rfl, rfl, _, _⟩ | h)
          · exact .inl rfl
          · exact .inr h
      · rename_i h
        constructor
        · exact .inr
        · rintro (⟨rfl, rfl, h1, h2⟩ | h')
          · exact (h h1 h2).elim
          · exact h'
    rw [key, ih]
    constructor
    · rintro (⟨rfl, rfl, h1, h2⟩ | ⟨j, h1, h2, h3, h4⟩)
      · exact ⟨0, rfl, rfl, h1, h2⟩
      · exact ⟨j + 1, by omega, by simpa using h2, h3, h4⟩
    · rintro ⟨j, h1, h2, h3, h4⟩
      cases j with
      | zero =>
        obtain rfl : i = k := by omega
        simp at h2
        subst h2
        exact .inl ⟨rfl, rfl, h3, h4⟩
      | succ j => exact .inr ⟨j, by omega, by simpa using h2, h3, h4⟩
theorem ams_ok {P : Program} {Z : ZP} {R : Value → World → Prop} {w : World} {A : List Nat → List Value → World → Prop} {B : List Nat → Nat → List Value → World → Prop} {ds : List Nat} : ∀ {ts : List T}, wp P Z R ds (ams ts) w A B → ∀ t ∈ ts, wp P Z R ds t w A B := by
  intro ts
  induction ts with
  | nil => intro h; exact h.elim
  | cons t r ih =>
    intro h u hu
    cases r with
    | nil => simp at hu; subst hu; exact h
    | cons t2 r =>
      obtain ⟨h1, h2⟩ := h
      rcases List.mem_cons.1 hu with rfl | hu
      · exact h1
      · exact ih h2 u hu
/-! ### what stands ahead -/
theorem ancs_pre : ∀ (r : List Oper) (acc : List Nat) (i : Nat), i < acc.length → (ancs r acc).getD i 0 = acc.getD i 0 := by
  intro r
  induction r with
  | nil => intro acc i _; rfl
  | cons o r ih =>
    intro acc i hi
    unfold ancs
    rw [ih _ _ (by simp; omega)]
    simp [List.getElem?_append_left hi]
theorem fold_bit {p : Nat} {f : Nat → Nat} {i : Nat} : ∀ (ms : List Nat) (s : Nat), (ms.foldl (fun s m => match p.testBit m with | true => s ||| f m | false => s) s).testBit i = true → s.testBit i = true ∨ ∃ m ∈ ms, p.testBit m = true ∧ (f m).testBit i = true := by
  intro ms
  induction ms with
  | nil => intro s h; exact .inl h
  | cons m r ih =>
    intro s h
    rw [List.foldl_cons] at h
    rcases ih _ h with h | ⟨m', h1, h2, h3⟩
    · cases hb : p.testBit m with
      | false => rw [hb] at h; exact .inl h
      | true =>
        rw [hb] at h
        simp only [Nat.testBit_or, Bool.or_eq_true] at h
        rcases h with h | h
        · exact .inl h
        · exact .inr ⟨m, by simp, hb, h⟩
    · exact .inr ⟨m', by simp [h1], h2, h3⟩
theorem ancs_at : ∀ (r : List Oper) (acc : List Nat) (j : Nat) (o : Oper), r[j]? = some o → ∀ i, ((ancs r acc).getD (acc.length + j) 0).testBit i = true →
    (pm o).testBit i = true ∨ ∃ m, m < acc.length + j ∧ (pm o).testBit m = true ∧ ((ancs r acc).getD m 0).testBit i = true := by
  intro r
  induction r with
  | nil => intro acc j o h; simp at h
  | cons q r ih =>
    intro acc j o h i hi
    cases j with
    | zero =>
      simp at h
      subst h
      have e : (ancs (q :: r) acc).getD acc.length 0 = (List.range acc.length).foldl (fun s i => match (pm q).testBit i with | true => s ||| (acc.getD i 0) | false => s) (pm q) := by
        refine (ancs_pre r _ _ (by simp)).trans ?_
        rw [List.getD_eq_getElem?_getD, List.getElem?_append_right (Nat.le_refl _)]
        simp only [Nat.sub_self, List.getElem?_cons_zero, Option.getD_some]
        rfl
      rw [Nat.add_zero, e] at hi
      rcases fold_bit _ _ hi with h1 | ⟨m, h1, h2, h3⟩
      · exact .inl h1
      · have hm := List.mem_range.1 h1
        refine .inr ⟨m, by omega, h2, ?_⟩
        show ((ancs r _).getD m 0).testBit i = true
        rw [ancs_pre _ _ _ (by simp; omega)]
        simp only [List.getD_eq_getElem?_getD] at h3 ⊢
        rw [List.getElem?_append_left hm]
        exact h3
    | succ j =>
      have h2 : r[j]? = some o := by simpa using h
      have := ih (acc ++ [(List.range acc.length).foldl (fun s i => match (pm q).testBit i with | true => s ||| (acc.getD i 0) | false => s) (pm q)]) j o h2 i (by
        have e : acc.length + (j + 1) = (acc ++ [(List.range acc.length).foldl (fun s i => match (pm q).testBit i with | true => s ||| (acc.getD i 0) | false => s) (pm q)]).length + j := by simp; omega
        rw [e] at hi
        exact hi)
      rcases this with h1 | ⟨m, h3, h4, h5⟩
      · exact .inl h1
      · exact .inr ⟨m, by simp at h3; omega, h4, h5⟩
/-- What stands ahead of what is listed is listed. -/
theorem anc_in {ops : List Oper} {C : Nat → Prop} (hC : ∀ i o, ops[i]? = some o → C i → ∀ m, (pm o).testBit m = true → C m) : ∀ (j : Nat) (o : Oper), ops[j]? = some o → (∀ m, (pm o).testBit m = true → C m) → ∀ i, ((ancs ops []).getD j 0).testBit i = true → C i := by
  intro j
  induction j using Nat.strongRecOn with
  | _ j ih =>
    intro o ho hp i hi
    have h := ancs_at ops [] j o ho i (by simpa using hi)
    rcases h with h | ⟨m, h1, h2, h3⟩
    · exact hp i h
    · have hm := hp m h2
      simp only [List.length_nil, Nat.zero_add] at h1
      cases hq : ops[m]? with
      | none =>
        have := List.getElem?_eq_none_iff.1 hq
        have := (List.getElem?_eq_some_iff.1 ho).1
        omega
      | some q => exact ih m h1 q hq (fun x hx => hC m q hq hm x hx) i h3
theorem noWar {all : List Oper} {an : List Nat} {j d : Nat} : ∀ {rs : List Oper} {k : Nat}, warB all an j d k rs = false → ∀ (i : Nat) (o : Oper), rs[i]? = some o → d ∈ readsOf all o → (an.getD (k + i) 0).testBit j = true := by
  intro rs
  induction rs with
  | nil => intro k _ i o h; simp at h
  | cons q r ih =>
    intro k h i o ho hd
    unfold warB at h
    simp only [Bool.or_eq_false_iff, Bool.and_eq_false_iff] at h
    cases i with
    | zero =>
      simp at ho
      subst ho
      rcases h.1 with h1 | h1
      · have : (readsOf all q).contains d = true := by simpa using hd
        rw [this] at h1; cases h1
      · simpa using h1
    | succ i =>
      have := ih h.2 i o (by simpa using ho) hd
      rw [show k + (i + 1) = k + 1 + i by omega]
      exact this
theorem rwOk_at {an : List Nat} {i t : Nat} : ∀ {rs : List Oper} {k : Nat}, rwOk an i t k rs = true → ∀ (j : Nat) (o : Oper), rs[j]? = some o → o.dst = some t → (an.getD i 0).testBit (k + j) = true ∨ (an.getD (k + j) 0).testBit i = true ∨ i = k + j := by
  intro rs
  induction rs with
  | nil => intro k _ j o h; simp at h
  | cons q r ih =>
    intro k h j o ho hd
    unfold rwOk at h
    rw [Bool.and_eq_true] at h
    cases j with
    | zero =>
      simp at ho
      subst ho
      have h1 := h.1
      rw [hd] at h1
      simp only [Bool.or_eq_true, Nat.beq_refl, Bool.not_true, Bool.false_eq_true, false_or] at h1
      rcases h1 with (h1 | h1) | h1
      · exact .inl h1
      · exact .inr (.inl h1)
      · exact .inr (.inr (Nat.eq_of_beq_eq_true h1))
    | succ j =>
      have := ih h.2 j o (by simpa using ho) hd
      rw [show k + (j + 1) = k + 1 + j by omega]
      exact this
theorem readsOk_at {all : List Oper} {an : List Nat} : ∀ {rs : List Oper} {k : Nat}, readsOk all an k rs = true → ∀ (i : Nat) (o : Oper), rs[i]? = some o → ∀ t ∈ readsOf all o, rwOk an (k + i) t 0 all = true := by
  intro rs
  induction rs with
  | nil => intro k _ i o h; simp at h
  | cons q r ih =>
    intro k h i o ho t ht
    unfold readsOk at h
    rw [Bool.and_eq_true] at h
    cases i with
    | zero => simp at ho; subst ho; exact (List.all_eq_true.1 h.1) t ht
    | succ i =>
      have := ih h.2 i o (by simpa using ho) t ht
      rw [show k + (i + 1) = k + 1 + i by omega]
      exact this
theorem lowB_at : ∀ {rs : List Oper} {k : Nat}, lowB k rs = true → ∀ (i : Nat) (o : Oper), rs[i]? = some o → ∀ m, (pm o).testBit m = true → m < k + i := by
  intro rs
  induction rs with
  | nil => intro k _ i o h; simp at h
  | cons q r ih =>
    intro k h i o ho m hm
    unfold lowB at h
    rw [Bool.and_eq_true] at h
    cases i with
    | zero =>
      simp at ho
      subst ho
      have h1 : pm q < 2 ^ k := by simpa using h.1
      rcases Nat.lt_or_ge m (k + 0) with h2 | h2
      · exact h2
      · have h4 : pm q < 2 ^ m := Nat.lt_of_lt_of_le h1 (Nat.pow_le_pow_right (by decide) h2)
        rw [Nat.testBit_lt_two_pow h4] at hm
        cases hm
    | succ i =>
      have := ih h.2 i o (by simpa using ho) m hm
      omega
theorem mem_dsts {rs : List Oper} {d : Nat} : d ∈ dsts rs ↔ ∃ (i : Nat) (o : Oper), rs[i]? = some o ∧ o.dst = some d := by
  induction rs with
  | nil => simp [dsts]
  | cons q r ih =>
    unfold dsts
    rw [List.mem_append, ih]
    constructor
    · rintro (h | ⟨i, o, h1, h2⟩)
      · unfold skips at h
        cases hq : q.dst with
        | none => rw [hq] at h; simp at h
        | some e => rw [hq] at h; simp at h; subst h; exact ⟨0, q, rfl, hq⟩
      · exact ⟨i + 1, o, by simpa using h1, h2⟩
    · rintro ⟨i, o, h1, h2⟩
      cases i with
      | zero => simp at h1; subst h1; exact .inl (by simp [skips, h2])
      | succ i => exact .inr ⟨i, o, by simpa using h1, h2⟩
theorem dst_inj : ∀ {rs : List Oper}, nodupB (dsts rs) = true → ∀ (i j : Nat) (o q : Oper) (d : Nat), rs[i]? = some o → rs[j]? = some q → o.dst = some d → q.dst = some d → i = j := by
  intro rs
  induction rs with
  | nil => intro _ i j o q d h; simp at h
  | cons p r ih =>
    intro h i j o q d hi hj ho hq
    have h1 : ∀ e, p.dst = some e → e ∉ dsts r := by
      intro e he
      unfold dsts skips at h
      rw [he] at h
      simp only [List.singleton_append, nodupB, Bool.and_eq_true, Bool.not_eq_true'] at h
      have := h.1
      intro hm
      rw [List.contains_iff_mem.2 hm] at this
      cases this
    have h2 : nodupB (dsts r) = true := by
      unfold dsts skips at h
      cases hp : p.dst with
      | none => rw [hp] at h; simpa using h
      | some e => rw [hp] at h; simp only [List.singleton_append, nodupB, Bool.and_eq_true] at h; exact h.2
    cases i with
    | zero =>
      cases j with
      | zero => rfl
      | succ j =>
        simp at hi
        subst hi
        exact absurd (mem_dsts.2 ⟨j, q, by simpa using hj, hq⟩) (h1 d ho)
    | succ i =>
      cases j with
      | zero =>
        simp at hj
        subst hj
        exact absurd (mem_dsts.2 ⟨i, o, by simpa using hi, ho⟩) (h1 d hq)
      | succ j => rw [ih h2 i j o q d (by simpa using hi) (by simpa using hj) ho hq]
/-! ### acts with what is still to be done filled in -/
abbrev PS := List (Nat × Nat × Value)
def patch (S : PS) (a : Act) : Act := S.foldl (fun b p => b.put (some p.2.1) p.2.2) a
def keysS (S : PS) : List Nat := S.map (·.2.1)
theorem put_comm (a : Act) {d e : Nat} (v u : Value) (h : d ≠ e) : (a.put (some d) v).put (some e) u = (a.put (some e) u).put (some d) v := by
  simp only [Act.put]
  congr 1
  exact Array.setIfInBounds_comm _ _ h
theorem patch_put : ∀ (S : PS) (a : Act) (d : Nat) (v : Value), d ∉ keysS S → patch S (a.put (some d) v) = (patch S a).put (some d) v := by
  intro S
  induction S with
  | nil => intro a d v _; rfl
  | cons p r ih =>
    intro a d v h
    simp only [keysS, List.map_cons, List.mem_cons, not_or] at h
    show patch r ((a.put (some d) v).put (some p.2.1) p.2.2) = (patch r (a.put (some p.2.1) p.2.2)).put (some d) v
    rw [put_comm _ _ _ h.1]
    exact ih _ _ _ h.2
theorem patch_put' (S : PS) (a : Act) (d : Option Nat) (v : Value) (h : ∀ e, d = some e → e ∉ keysS S) : patch S (a.put d v) = (patch S a).put d v := by
  cases d with
  | none => rfl
  | some d => exact patch_put S a d v (h d rfl)
theorem patch_defs (S : PS) : ∀ (a : Act) (D : List Deferred), patch S { a with defers := D } = { patch S a with defers := D } := by
  induction S with
  | nil => intro a D; rfl
  | cons p r ih => intro a D; exact ih (a.put (some p.2.1) p.2.2) D
theorem patch_defers (S : PS) : ∀ (a : Act), (patch S a).defers = a.defers := by
  induction S with
  | nil => intro a; rfl
  | cons p r ih => intro a; exact ih _
theorem patch_size (S : PS) : ∀ (a : Act), (patch S a).tmps.size = a.tmps.size := by
  induction S with
  | nil => intro a; rfl
  | cons p r ih => intro a; show (patch r _).tmps.size = _; rw [ih]; simp [Act.put]
theorem patch_get (S : PS) : ∀ (a : Act) (t : Nat), t ∉ keysS S → (patch S a).tmps[t]? = a.tmps[t]? := by
  induction S with
  | nil => intro a t _; rfl
  | cons p r ih =>
    intro a t h
    simp only [keysS, List.map_cons, List.mem_cons, not_or] at h
    show (patch r _).tmps[t]? = _
    rw [ih _ t h.2]
    simp only [Act.put]
    exact Array.getElem?_setIfInBounds_ne (fun e => h.1 e.symm)
theorem patch_rm : ∀ (S : PS) (a : Act) (i d : Nat) (v : Value), (i, d, v) ∈ S → (keysS S).Nodup → (S.map (·.1)).Nodup → patch (S.filter (fun p => !(Nat.beq p.1 i))) (a.put (some d) v) = patch S a := by
  intro S
  induction S with
  | nil => intro a i d v h; simp at h
  | cons p r ih =>
    intro a i d v h hk hi
    obtain ⟨j, e, u⟩ := p
    simp only [keysS, List.map_cons, List.nodup_cons] at hk hi
    rcases List.mem_cons.1 h with h1 | h1
    · injection h1 with e1 e2
      injection e2 with e2 e3
      subst e1; subst e2; subst e3
      have hr : r.filter (fun p => !(Nat.beq p.1 i)) = r := by
        rw [List.filter_eq_self]
        intro q hq
        have : q.1 ≠ i := fun hh => hi.1 (hh ▸ List.mem_map_of_mem hq)
        cases hb : Nat.beq q.1 i with
        | false => rfl
        | true => exact absurd (Nat.eq_of_beq_eq_true hb) this
      rw [List.filter_cons_of_neg (by simp [Nat.beq_refl]), hr]
      rfl
    · have hji : j ≠ i := fun hh => hi.1 (by rw [hh]; exact List.mem_map.2 ⟨(i, d, v), h1, rfl⟩)
      have hde : d ≠ e := fun hh => hk.1 (by rw [← hh]; exact List.mem_map.2 ⟨(i, d, v), h1, rfl⟩)
      have hb : Nat.beq j i = false := by
        cases hb : Nat.beq j i with
        | false => rfl
        | true => exact absurd (Nat.eq_of_beq_eq_true hb) hji
      rw [List.filter_cons_of_pos (by simp [hb])]
      show patch _ ((a.put (some d) v).put (some e) u) = patch r (a.put (some e) u)
      rw [put_comm _ _ _ hde]
      exact ih _ i d v h1 hk.2 hi.2
theorem wpIn_patch {F : Fence} {m : Nat} {P : Program} {S : PS} {o : Oper} {a : Act} {w : World} {K : Act → World → Prop} {Q : Exit → Act → World → Prop} (hnd : noDef o = true) (hx : ∀ x ∈ o.op.operands, a.eval x = (patch S a).eval x) (hd : ∀ d, o.dst = some d → d ∉ keysS S) (hO : ∀ b u, ¬ Q .outgrown b u) (hQ : ∀ c b w', Q (.panic c) (patch S b) w' → Q (.panic c) b w')
    (h : o.wpIn F m P (patch S a) w K Q) : o.wpIn F m P a w (fun b w' => K (patch S b) w') Q := by
  obtain ⟨h1, h2⟩ := h
  have hs : ∀ cs b, o.op ≠ .select cs b := fun cs b e => by unfold noDef at hnd; rw [e] at hnd; cases hnd
  have e1 : o.semAt F.round a.eval = o.semAt F.round (patch S a).eval := by
    have n1 := nodef_of hnd
    cases hr : F.round with
    | none => exact execOp_congr o hs hx
    | some q =>
      rw [show o.semAt (some q) a.eval = execOp a.eval o from semAt_of (some q) a.eval n1, show o.semAt (some q) (patch S a).eval = execOp (patch S a).eval o from semAt_of (some q) _ n1]
      exact execOp_congr o hs hx
  refine ⟨fun f hf => h1 f (by rw [← about_congr o w hx]; exact hf), ?_⟩
  rw [e1]
  generalize (o.semAt F.round (patch S a).eval).run P w = res at h2 ⊢
  have pp : ∀ v, patch S (a.put o.dst v) = (patch S a).put o.dst v := fun v => patch_put' S a o.dst v hd
  cases res with
  | ok x w' =>
    cases x with
    | value v => show K (patch S (a.put o.dst v)) w'; rw [pp]; exact h2
    | skip => show K (patch S (a.put o.dst undef)) w'; rw [pp]; exact h2
    | defer dd =>
      show K (patch S (({ a with defers := dd :: a.defers } : Act).put o.dst undef)) w'
      rw [patch_put' S _ o.dst _ hd, patch_defs, ← patch_defers S a]
      exact h2
    | enter f args =>
      refine ⟨h2.1, CallsIn.mono h2.2 (fun e w'' he => ?_)⟩
      cases e with
      | returned v => show K (patch S (a.put o.dst v)) w''; rw [pp]; exact he
      | panicked c => exact hQ _ _ _ he
      | outgrown => obtain ⟨b, u, hq⟩ := (show LetsOut Q from he); exact (hO b u hq).elim
    | row rr args => exact ⟨h2.1, RowsIn.mono h2.2 (fun v w'' he => by show K (patch S (a.put o.dst v)) w''; rw [pp]; exact he)⟩
    | round l f tmps assign body =>
      refine ⟨h2.1, RoundIn.mono h2.2 (fun e w'' he => ?_)⟩
      cases e with
      | returned v => show K (patch S (a.put o.dst v)) w''; rw [pp]; exact he
      | panicked c => exact hQ _ _ _ he
      | outgrown => obtain ⟨b, u, hq⟩ := (show LetsOut Q from he); exact (hO b u hq).elim
    | _ => exact h2
  | halt h w' => cases h <;> first | exact h2 | exact hQ _ _ _ h2
end Go.Proofs.YtcbkpekbfkaeeaaDoor.Sx
