/- A code does what its tree says. -/
import Derived.Test.YtcbkpekbfkaeeaaDoorSxY
set_option linter.unusedVariables false
set_option linter.unusedSimpArgs false
namespace Go.Proofs.YtcbkpekbfkaeeaaDoor.Sx
open Go Go.RowKit
section
variable {P : Program} {Z : ZP} {R : Value → World → Prop} {r : Option Nat} {n : Nat} {df : List Deferred} {A' : List Nat → List Value → World → Prop} {B' : List Nat → Nat → List Value → World → Prop} {ds : List Nat}
section
variable {ops : List Oper} {listed : Array Bool} {A : Nat} {u : List Nat} {l : Env} {S : PS} {a : Act} {w : World}
/-- An operation that is not light is carried out. -/
theorem Iv.heavy (H : Iv P n df ops listed A u l S a w) (hwf : wfR ops (ancs ops []) = true) {i f : Nat} {o : Oper} {k : Env → T} (ho : ops[i]? = some o) (hno : listed.getD i false = false) (hp : ∀ m, (pm o).testBit m = true → listed.getD m false = true) (hA : A.testBit i = false)
    {K : Act → World → Prop} {Q : Exit → Act → World → Prop} (hO : ∀ b u, ¬ Q .outgrown b u) (hQ : ∀ c b w', Q (.panic c) (patch S b) w' → Q (.panic c) b w') (hZ : ∀ c b w', b.defers = df → ZD ds Z c w' → Q (.panic c) b w')
    (hw : wp P Z R ds (dgo P n ops u l o fun u' l' => chks P l' u' ((ancs ops []).getD i 0) A 0 ops (dreg P n ops (ancs ops []) f (A ||| 2 ^ i) u' l' k)) w A' B')
    (hK : ∀ a' w' u' l', Iv P n df ops (listed.setIfInBounds i true) (A ||| 2 ^ i) u' l' S a' w' → (∀ e, o.dst ≠ some e → find l' e = find l e) → wp P Z R ds (dreg P n ops (ancs ops []) f (A ||| 2 ^ i) u' l' k) w' A' B' → K a' w') : Wn P r ops.toArray o a w K Q := by
  obtain ⟨hnd, hrd, hdef, hlow⟩ := wf_nd hwf
  have hd0 := hdef o (List.mem_of_getElem? ho)
  have hi : i < listed.size := by rw [H.sz]; exact (List.getElem?_eq_some_iff.1 ho).1
  have hreads : ∀ t ∈ readsOf ops o, t ∉ keysS S := fun t ht => H.reads ho hp ht
  have hpA : ∀ m, (pm o).testBit m = true → A.testBit m = true := fun m hm => H.a1 m (hp m hm)
  have hdst : ∀ d, o.dst = some d → d ∉ keysS S := by
    intro d hd hm
    obtain ⟨p, hpS, he⟩ := List.mem_map.1 hm
    obtain ⟨q, h1, h2, h3, h4, _⟩ := H.s1 p hpS
    have := dst_inj hnd p.1 i q o d h1 ho (by rw [h4, he]) hd
    rw [this, hA] at h3
    cases h3
  have hbit : ∀ j, (A ||| 2 ^ i).testBit j = true ↔ A.testBit j = true ∨ i = j := fun j => by rw [tb_or, Bool.or_eq_true, decide_eq_true_eq]
  -- what the frame filled in does, the frame does
  have key : ∀ (b : Act) (w' : World) (u' : List Nat) (l' : Env), Ag (patch S b) n df l' → Us u' l' → (∀ e, o.dst ≠ some e → find l' e = find l e) → (u' = dropU o u ∨ u' = skips o ++ u) →
      wp P Z R ds (chks P l' u' ((ancs ops []).getD i 0) A 0 ops (dreg P n ops (ancs ops []) f (A ||| 2 ^ i) u' l' k)) w' A' B' → K b w' := by
    intro b w' u' l' hag hus hl hu hw'
    obtain ⟨hw2, hch⟩ := chks_ok hw'
    refine hK b w' u' l' ⟨by simpa using H.sz, fun j hj => ?_, fun j hj => ?_, fun j q hq hj m hm => ?_, fun j q hq hj m hm => ?_, fun j q hq hAj hj => ?_, hag, hus, fun p hpS => ?_, fun j hj hjn => ?_, H.s3⟩ hl hw2
    · rw [getD_set hi, Bool.or_eq_true, decide_eq_true_eq] at hj
      rcases hj with hj | rfl
      · exact (hbit j).2 (.inl (H.a1 j hj))
      · exact (hbit _).2 (.inr rfl)
    · rcases (hbit j).1 hj with h | rfl
      · exact H.aN j h
      · exact (List.getElem?_eq_some_iff.1 ho).1
    · rcases (hbit j).1 hj with h | rfl
      · exact (hbit m).2 (.inl (H.a2 j q hq h m hm))
      · rw [ho] at hq; obtain rfl := Option.some.inj hq; exact (hbit m).2 (.inl (hpA m hm))
    · rw [getD_set hi, Bool.or_eq_true, decide_eq_true_eq] at hj ⊢
      rcases hj with hj | rfl
      · exact .inl (H.lc j q hq hj m hm)
      · rw [ho] at hq; obtain rfl := Option.some.inj hq; exact .inl (hp m hm)
    · rw [getD_set hi, Bool.or_eq_false_iff, decide_eq_false_iff_not] at hj
      rcases (hbit j).1 hAj with h | h
      · exact H.a3 j q hq h hj.1
      · exact absurd h hj.2
    · obtain ⟨q, h1, h2, h3, h4, h5, h6⟩ := H.s1 p hpS
      have hpi : p.1 ≠ i := fun e => by rw [e, hA] at h3; cases h3
      have hdq : o.dst ≠ some p.2.1 := fun e => hdst _ e (List.mem_map_of_mem (f := fun p : Nat × Nat × Value => p.2.1) hpS)
      have hr : ∀ t ∈ readsOf ops q, find l' t = find l t := by
        intro t ht
        refine hl t (fun e => ?_)
        have h7 := readsOk_at hrd p.1 q h1 t ht
        rw [Nat.zero_add] at h7
        have h8 := rwOk_at h7 i o ho e
        rw [Nat.zero_add] at h8
        rcases h8 with h8 | h8 | h8
        · have := anc_in (C := fun m => A.testBit m = true) H.a2 p.1 q h1 (H.a2 p.1 q h1 h3) i h8
          rw [hA] at this; cases this
        · have := anc_in (C := fun m => listed.getD m false = true) H.lc i o ho hp p.1 h8
          rw [h2] at this; cases this
        · exact hpi h8
      have hu9 : p.2.1 ∉ u → p.2.1 ∉ u' := by
        intro h
        rcases hu with rfl | rfl
        · exact Us.drop_nd (e := 0) h
        · intro hm
          rcases List.mem_append.1 hm with hm | hm
          · unfold skips at hm
            cases hd : o.dst with
            | none => rw [hd] at hm; simp at hm
            | some d => rw [hd] at hm; simp at hm; exact hdq (by rw [hd, hm])
          · exact h hm
      have P1 := h6.fr hr (hl _ hdq) hu9
      have P2 : Pend P n ops l' u' w' q p.2.1 p.2.2 := by
        refine ⟨P1.fd, ?_⟩
        rcases P1.way with ⟨h7, h8, h9⟩ | h7
        · refine .inl ⟨h7, h8, ?_⟩
          by_cases hld : isLd q.op = true
          · refine hch p.1 q h1 hld (hdef q (List.mem_of_getElem? h1)) (by rw [Nat.zero_add]; exact h3) ?_ p.2.1 h4 h7 _ P1.fd
            rw [Nat.zero_add]
            cases hc : ((ancs ops []).getD i 0).testBit p.1 with
            | false => rfl
            | true =>
              have := anc_in (C := fun m => listed.getD m false = true) H.lc i o ho hp p.1 hc
              rw [h2] at this; cases this
          · exact fun ρ w'' hf _ => h9 ρ w'' hf (fun h => absurd h hld)
        · exact .inr h7
      exact ⟨q, h1, by rw [getD_set hi, h2, Bool.false_or, decide_eq_false (fun e => hpi e.symm)], (hbit _).2 (.inl h3), h4, h5, P2⟩
    · rw [getD_set hi, Bool.or_eq_false_iff, decide_eq_false_iff_not] at hjn
      rcases (hbit j).1 hj with h | h
      · exact H.s2 j h hjn.1
      · exact absurd h hjn.2
  have big := dgo_ok (r := r) (K := fun c w' => ∃ u' l', Ag c n df l' ∧ Us u' l' ∧ (∀ e, o.dst ≠ some e → find l' e = find l e) ∧ (u' = dropU o u ∨ u' = skips o ++ u) ∧
      wp P Z R ds (chks P l' u' ((ancs ops []).getD i 0) A 0 ops (dreg P n ops (ancs ops []) f (A ||| 2 ^ i) u' l' k)) w' A' B') (Q := Q) hd0 hw H.ag H.us (fun a' u' l' w' h1 h2 h3 h4 h5 => ⟨u', l', h1, h2, h3, h4, h5⟩) (fun c w' hz => hZ c _ w' H.ag.defs hz)
  unfold Wn at big ⊢
  rw [wanted_patch S a hreads]
  split at big
  · rename_i hwn
    rw [if_pos hwn]
    have h1 := wpIn_patch hd0 (fun x hx => eval_patch S a (fun t e => hreads t (op_read (e ▸ hx)))) hdst hO hQ big
    exact Oper.wpIn_mono (fun b w' ⟨u', l', h1, h2, h3, h4, h5⟩ => key b w' u' l' h1 h2 h3 h4 h5) h1
  · rename_i hwn
    rw [if_neg hwn]
    refine ⟨fun _ _ => trivial, ?_⟩
    obtain ⟨_, u', l', h1, h2, h3, h4, h5⟩ := big
    rw [← patch_put' S a o.dst undef hdst] at h1
    exact key _ w u' l' h1 h2 h3 h4 h5
theorem dreg_any (hwf : wfR ops (ancs ops []) = true) {k : Env → T} {l0 : Env} {Q : Exit → Act → World → Prop} (hN : ∀ a l w, Ag a n df l → (∀ t, t ∉ dsts ops → find l t = find l0 t) → wp P Z R ds (k l) w A' B' → Q .normal a w) (hO : ∀ b u, ¬ Q .outgrown b u) (hQ : ∀ S c b w', Q (.panic c) (patch S b) w' → Q (.panic c) b w')
    (hZ : ∀ c b w', b.defers = df → ZD ds Z c w' → Q (.panic c) b w') : ∀ (fu : Nat) (listed : Array Bool) (a : Act) (w : World), (∃ f A u l S, Iv P n df ops listed A u l S a w ∧ wp P Z R ds (dreg P n ops (ancs ops []) f A u l k) w A' B' ∧ ∀ t, t ∉ dsts ops → find l t = find l0 t) → cnt listed ≤ fu →
    wpAnyIn (FR r) 0 P .any ops.toArray Q fu listed a w := by
  have fin : ∀ (listed : Array Bool) (a : Act) (w : World), (∃ f A u l S, Iv P n df ops listed A u l S a w ∧ wp P Z R ds (dreg P n ops (ancs ops []) f A u l k) w A' B' ∧ ∀ t, t ∉ dsts ops → find l t = find l0 t) → Region.ready .any ops.toArray listed = [] → Q .normal a w := by
    rintro listed a w ⟨f, A, u, l, S, H, hw, h0⟩ hr
    obtain ⟨f, A, u, l, S, H, hw, h0, hf⟩ := Iv.sat hwf f A u l S H hw h0
    have hlow := (wf_nd hwf).2.2.2
    have hall : ∀ i, A.testBit i = true → listed.getD i false = true := by
      intro i
      induction i using Nat.strongRecOn with
      | _ i ih =>
        intro hA
        cases hc : listed.getD i false with
        | true => rfl
        | false =>
          obtain ⟨p, hpS, rfl⟩ := H.s2 i hA hc
          obtain ⟨q, h1, h2, h3, _⟩ := H.s1 p hpS
          have : p.1 ∈ Region.ready .any ops.toArray listed := (ready_iff H.sz).2 ⟨q, h1, h2, fun m hm => by
            have := lowB_at hlow p.1 q h1 m hm
            exact ih m (by omega) (H.a2 p.1 q h1 h3 m hm)⟩
          rw [hr] at this
          cases this
    have hS : S = [] := by
      cases S with
      | nil => rfl
      | cons p r =>
        obtain ⟨q, h1, h2, h3, _⟩ := H.s1 p (by simp)
        rw [hall p.1 h3] at h2
        cases h2
    subst hS
    have hrd : rdy A 0 ops = [] := by
      rw [List.eq_nil_iff_forall_not_mem]
      rintro ⟨i, o⟩ hm
      obtain ⟨j, h1, h2, h3, h4⟩ := mem_rdy.1 hm
      rw [Nat.zero_add] at h1
      subst h1
      have : i ∈ Region.ready .any ops.toArray listed := (ready_iff H.sz).2 ⟨o, h2, (by
        cases hc : listed.getD i false with
        | false => rfl
        | true => rw [H.a1 i hc] at h3; cases h3), fun m hm => hall m (sub_iff.1 h4 m hm)⟩
      rw [hr] at this
      cases this
    cases f with
    | zero => exact hw.elim
    | succ f =>
      unfold dreg at hw
      rw [hf, hrd] at hw
      exact hN a l w H.ag h0 hw
  intro fu
  induction fu with
  | zero =>
    intro listed a w h hc
    have hr : Region.ready .any ops.toArray listed = [] := by
      rw [List.eq_nil_iff_forall_not_mem]
      intro i hi
      obtain ⟨f, A, u, l, S, H, _⟩ := h
      obtain ⟨o, h1, h2, _⟩ := (ready_iff H.sz).1 hi
      have hlt : i < listed.size := by rw [H.sz]; exact (List.getElem?_eq_some_iff.1 h1).1
      have := cnt_zero (Nat.le_zero.1 hc) hlt
      rw [Array.getD_eq_getD_getElem?, Array.getElem?_eq_getElem hlt] at this h2
      simp at this h2
      rw [this] at h2
      cases h2
    exact ⟨hr, fin listed a w h hr⟩
  | succ fu ih =>
    intro listed a w h hc
    refine ⟨fin listed a w h, fun i hi => ?_⟩
    obtain ⟨f, A, u, l, S, H, hw, h0⟩ := h
    obtain ⟨f, A, u, l, S, H, hw, h0, hf⟩ := Iv.sat hwf f A u l S H hw h0
    obtain ⟨o, ho, hno, hp⟩ := (ready_iff H.sz).1 hi
    have hlt : i < listed.size := by rw [H.sz]; exact (List.getElem?_eq_some_iff.1 ho).1
    have hcn := cnt_set hlt hno
    have goal : Wn P r ops.toArray o a w (wpAnyIn (FR r) 0 P .any ops.toArray Q fu (listed.setIfInBounds i true)) Q := by
      by_cases hA : A.testBit i = true
      · exact H.pend hwf ho hno hp hA (fun a' S' H' => ih _ a' w ⟨f, A, u, l, S', H', hw, h0⟩ (by omega))
      · have hA : A.testBit i = false := by simpa using hA
        have hm : (i, o) ∈ rdy A 0 ops := mem_rdy.2 ⟨i, by omega, ho, hA, sub_iff.2 (fun m hm => H.a1 m (hp m hm))⟩
        cases f with
        | zero => exact hw.elim
        | succ f =>
          have hw2 : wp P Z R ds (dgo P n ops u l o fun u' l' => chks P l' u' ((ancs ops []).getD i 0) A 0 ops (dreg P n ops (ancs ops []) f (A ||| 2 ^ i) u' l' k)) w A' B' := by
            unfold dreg at hw
            rw [hf] at hw
            cases hr : rdy A 0 ops with
            | nil => rw [hr] at hm; cases hm
            | cons q rs =>
              rw [hr] at hw hm
              exact ams_ok hw _ (List.mem_map.2 ⟨(i, o), hm, rfl⟩)
          exact H.heavy hwf ho hno hp hA hO (hQ S) hZ hw2 (fun a' w' u' l' H' hl hw' => ih _ a' w' ⟨f, _, u', l', S, H', hw', fun t ht => (hl t (fun e => ht (mem_dsts.2 ⟨i, o, ho, e⟩))).trans (h0 t ht)⟩ (by omega))
    unfold Wn at goal
    unfold wpOpIn
    rw [show ops.toArray[i]? = some o by simpa using ho]
    exact goal
end
/-! ### the whole code -/
theorem find_keep {W : List Nat} : ∀ {l : Env} {t : Nat}, t ∉ W → find (keep l W) t = find l t := by
  intro l
  induction l with
  | nil => intro t _; rfl
  | cons p rest ih =>
    intro t ht
    obtain ⟨k, v⟩ := p
    unfold keep
    by_cases hk : W.contains k = true
    · rw [List.filter_cons_of_neg (by simpa using hk)]
      have hne : k ≠ t := by rintro rfl; exact ht (by simpa using hk)
      rw [find_ne v rest hne]
      exact ih ht
    · rw [List.filter_cons_of_pos (by simpa using hk)]
      by_cases hkt : k = t
      · subst hkt; rw [find_self, find_self]
      · rw [find_ne v _ hkt, find_ne v rest hkt]; exact ih ht
theorem find_keep_no {W : List Nat} : ∀ {l : Env} {t : Nat}, t ∈ W → find (keep l W) t = none := by
  intro l
  induction l with
  | nil => intro t _; rfl
  | cons p rest ih =>
    intro t ht
    obtain ⟨k, v⟩ := p
    unfold keep
    by_cases hk : W.contains k = true
    · rw [List.filter_cons_of_neg (by simpa using hk)]; exact ih ht
    · rw [List.filter_cons_of_pos (by simpa using hk)]
      have hne : k ≠ t := by rintro rfl; exact hk (by simpa using ht)
      rw [find_ne v _ hne]; exact ih ht
theorem find_pairs {e : Env} : ∀ {ks : List Nat} {i : Nat} {vs : List Value} {t : Nat} {v : Value}, find (pairs ks i vs ++ e) t = some v → (∃ j, ks[j]? = some t ∧ v = nv vs (i + j)) ∨ (t ∉ ks ∧ find e t = some v) := by
  intro ks
  induction ks with
  | nil => intro i vs t v h; exact .inr ⟨by simp, h⟩
  | cons k ks ih =>
    intro i vs t v h
    have h : find ((k, nv vs i) :: (pairs ks (i + 1) vs ++ e)) t = some v := h
    by_cases hk : k = t
    · subst hk
      rw [find_self] at h
      exact .inl ⟨0, rfl, by injection h with h; rw [Nat.add_zero, h]⟩
    · rw [find_ne _ _ hk] at h
      rcases ih h with ⟨j, h1, h2⟩ | ⟨h1, h2⟩
      · exact .inl ⟨j + 1, by simpa using h1, by rw [h2]; congr 1; omega⟩
      · exact .inr ⟨by simp only [List.mem_cons, not_or]; exact ⟨fun e => hk e.symm, h1⟩, h2⟩
theorem nv_get : ∀ {vs : List Value} {i : Nat} {v : Value}, vs[i]? = some v → nv vs i = v := by
  intro vs
  induction vs with
  | nil => intro i v h; simp at h
  | cons c rest ih => intro i v h; cases i with | zero => simpa [nv] using h | succ i => exact ih (by simpa using h)
theorem evl_get {l : Env} : ∀ {ks : List Nat} {vs : List Value}, evl l (ks.map .tmp) = some vs → ∀ (j t : Nat), ks[j]? = some t → ∃ v, vs[j]? = some v ∧ find l t = some v := by
  intro ks
  induction ks with
  | nil => intro vs _ j t h; simp at h
  | cons k ks ih =>
    intro vs h j t hj
    simp only [List.map_cons, evl] at h
    split at h
    · rename_i v vs' h1 h2
      injection h with h
      subst h
      cases j with
      | zero => simp at hj; subst hj; exact ⟨v, rfl, h1⟩
      | succ j => simpa using ih h2 j t (by simpa using hj)
    · cases h
theorem keysOf_sub {l : Env} {W : List Nat} : ∀ t ∈ keysOf l W, t ∈ W := fun t ht => by
  unfold keysOf at ht
  simpa using (List.mem_filter.1 ht).2
/-- A frame at a loop's head: the slots by their values, the rest as it was. -/
theorem find_head {l0 : Env} {ks W : List Nat} (hk : ∀ t ∈ ks, t ∈ W) {vs : List Value} {t : Nat} (ht : t ∉ W) : find (pairs ks 0 vs ++ keep l0 W) t = find (keep l0 W) t := by
  cases h : find (pairs ks 0 vs ++ keep l0 W) t with
  | some v =>
    rcases find_pairs h with ⟨j, h1, _⟩ | ⟨_, h2⟩
    · exact absurd (hk t (List.mem_of_getElem? h1)) ht
    · exact h2.symm
  | none =>
    have gen : ∀ (ks : List Nat) (i : Nat) (e : Env), find (pairs ks i vs ++ e) t = none → find e t = none := by
      intro ks
      induction ks with
      | nil => intro i e h; exact h
      | cons k ks ih =>
        intro i e h
        have h : find ((k, nv vs i) :: (pairs ks (i + 1) vs ++ e)) t = none := h
        by_cases hk : k = t
        · subst hk; rw [find_self] at h; cases h
        · rw [find_ne _ _ hk] at h; exact ih _ _ h
    exact (gen ks 0 _ h).symm
theorem Ag.head {l0 l : Env} {a : Act} {ks W : List Nat} {vs : List Value} (ha : Ag a n df l) (hv : evl l (ks.map .tmp) = some vs) (hk : ∀ t, t ∉ W → find l t = find (keep l0 W) t) : Ag a n df (pairs ks 0 vs ++ keep l0 W) := by
  refine ⟨ha.size, ha.defs, fun t v ht => ?_⟩
  rcases find_pairs ht with ⟨j, h1, h2⟩ | ⟨_, h2⟩
  · obtain ⟨u, h3, h4⟩ := evl_get hv j t h1
    rw [Nat.zero_add, nv_get h3] at h2
    subst h2
    exact ha.look t _ h4
  · by_cases hW : t ∈ W
    · rw [find_keep_no hW] at h2; cases h2
    · exact ha.look t v (by rw [hk t hW]; exact h2)
def Lk (cx : Option (Nat × Obj)) (n : Nat) (df : List Deferred) (ds : List Nat) (C : Code) (l : Env) (N : List Nat → Env → World → Prop) : Act → World → Prop := fun a w => ∃ ds' l', (cx.isSome = true → ds' = ds) ∧ Ag a n (ds'.map mk ++ df) l' ∧ (∀ t, t ∉ wr C → find l' t = find l t) ∧ N ds' l' w
def Lr (cx : Option (Nat × Obj)) (n : Nat) (df : List Deferred) (ds : List Nat) (N : List Nat → Env → World → Prop) : Act → World → Prop := fun a w => ∃ ds' l', (cx.isSome = true → ds' = ds) ∧ Ag a n (ds'.map mk ++ df) l' ∧ N ds' l' w
def ky (Z : ZP) (cx : Option (Nat × Obj)) (df : List Deferred) (ds : List Nat) (N R : Act → World → Prop) (E : Nat → Act → World → Prop) : Exit → Act → World → Prop
  | .normal, a, w => N a w
  | .ret, a, w => R a w
  | .exit i, a, w => E i a w
  | .panic c, a, w => ∃ ds', (cx.isSome = true → ds' = ds) ∧ a.defers = ds'.map mk ++ df ∧ ZD ds' Z c w
  | _, _, _ => False
theorem ky_mono {cx : Option (Nat × Obj)} {ds ds2 : List Nat} (hd : cx.isSome = true → ds2 = ds) {N N' R R' : Act → World → Prop} {E E' : Nat → Act → World → Prop} (h1 : ∀ a w, N a w → N' a w) (h2 : ∀ a w, R a w → R' a w) (h3 : ∀ i a w, E i a w → E' i a w) : ∀ e a w, ky Z cx df ds2 N R E e a w → ky Z cx df ds N' R' E' e a w := by
  intro e a w h
  cases e with
  | normal => exact h1 a w h
  | ret => exact h2 a w h
  | exit i => exact h3 i a w h
  | panic c => obtain ⟨d, g1, g2, g3⟩ := h; exact ⟨d, fun e => (g1 e).trans (hd e), g2, g3⟩
  | goto l => exact h
  | outgrown => exact h
theorem Lk.mono {cx : Option (Nat × Obj)} {ds ds2 : List Nat} {C C' : Code} {l l2 : Env} {N N' : List Nat → Env → World → Prop} {a : Act} {w : World} (h : Lk cx n df ds2 C l2 N a w) (hd : cx.isSome = true → ds2 = ds) (hw : ∀ t, t ∉ wr C' → t ∉ wr C ∧ find l2 t = find l t) (hN : ∀ ds l w, N ds l w → N' ds l w) : Lk cx n df ds C' l N' a w := by
  obtain ⟨d, l', g1, g2, g3, g4⟩ := h
  exact ⟨d, l', fun e => (g1 e).trans (hd e), g2, fun t ht => (g3 t (hw t ht).1).trans (hw t ht).2, hN _ _ _ g4⟩
theorem Lr.mono {cx : Option (Nat × Obj)} {ds ds2 : List Nat} {N : List Nat → Env → World → Prop} {a : Act} {w : World} (h : Lr cx n df ds2 N a w) (hd : cx.isSome = true → ds2 = ds) : Lr cx n df ds N a w := by
  obtain ⟨d, l', g1, g2, g4⟩ := h
  exact ⟨d, l', fun e => (g1 e).trans (hd e), g2, g4⟩
/-- The frames of what is stable. -/
theorem Stab.fr {I : List Nat → World → Prop} (h : Stab I) {U V : List Nat} {W W' : World} (hI : I U W) (f : Fr V W W') (hs : ∀ q ∈ V, q ∈ U) : I U W' := h.1 U W W' hI (f.mono hs)
def m0 (cx : Option (Nat × Obj)) (D : Nat) : List Deferred := match cx with | none => [mk D] | some _ => []
theorem u1_some {cx : Option (Nat × Obj)} {D : Nat} {ds : List Nat} (h : cx.isSome = true) : u1 cx D ds = ds := by
  cases cx <;> first | rfl | cases h
theorem mem_u0 {cx : Option (Nat × Obj)} {L D : Nat} : L ∈ u0 cx L D := by cases cx <;> simp [u0]
theorem nodupB_iff : ∀ {ps : List Nat}, nodupB ps = true → ps.Nodup := by
  intro ps
  induction ps with
  | nil => intro _; exact List.nodup_nil
  | cons p r ih =>
    intro h
    simp only [nodupB, Bool.and_eq_true, Bool.not_eq_true', List.contains_eq_mem, decide_eq_false_iff_not] at h
    exact List.nodup_cons.2 ⟨h.1, ih h.2⟩
theorem find_zip_no {t : Nat} : ∀ {ps : List Nat} {xs : List Value} {l : Env}, t ∉ ps → find ((ps.zip xs).reverse ++ l) t = find l t := by
  intro ps
  induction ps with
  | nil => intro xs l _; rfl
  | cons p r ih =>
    intro xs l h
    cases xs with
    | nil => rfl
    | cons x xs =>
      rw [List.zip_cons_cons, List.reverse_cons, List.append_assoc, ih (fun hr => h (by simp [hr]))]
      exact find_ne x l (fun e => h (by simp [e]))
theorem find_zip {t : Nat} {v : Value} : ∀ {ps : List Nat} {xs : List Value} {l : Env} {j : Nat}, ps.Nodup → ps[j]? = some t → xs[j]? = some v → find ((ps.zip xs).reverse ++ l) t = some v := by
  intro ps
  induction ps with
  | nil => intro xs l j _ h; simp at h
  | cons p r ih =>
    intro xs l j hn h hx
    obtain ⟨hn1, hn2⟩ := List.nodup_cons.1 hn
    cases xs with
    | nil => simp at hx
    | cons x xs =>
      rw [List.zip_cons_cons, List.reverse_cons, List.append_assoc]
      cases j with
      | zero =>
        simp at h hx
        subst h hx
        rw [find_zip_no hn1]
        exact find_self _ _ _
      | succ j => exact ih hn2 (by simpa using h) (by simpa using hx)
theorem Ag.zip_pairs {a : Act} {ps : List Nat} {xs : List Value} {l : Env} (h : Ag a n [] ((ps.zip xs).reverse ++ l)) (hn : nodupB ps = true) (hl : xs.length = ps.length) : Ag a n [] (pairs ps 0 xs ++ l) := by
  refine ⟨h.size, h.defs, fun t v ht => ?_⟩
  rcases find_pairs ht with ⟨j, h1, rfl⟩ | ⟨h1, h2⟩
  · have hj : j < xs.length := by have := (List.getElem?_eq_some_iff.1 h1).1; omega
    have hx : xs[j]? = some xs[j] := List.getElem?_eq_getElem hj
    rw [Nat.zero_add, nv_get hx]
    exact h.look t _ (find_zip (nodupB_iff hn) h1 hx)
  · exact h.look t v (by rw [find_zip_no h1]; exact h2)
theorem run_enterI {P : Program} {w : World} {L : Nat} {q : Loop} (h : w.heap[L]? = some (.loop q)) (fn : FuncId) (tmps : Array Value) (ps : Array Tmp) (x y : Code) : (Instr.enterLoop fn tmps ps x y (some L)).run P w = .ok (w.heap.size, []) (w.alloc (.loop { state := .ready, pending := none, fn, tmps, params := ps, assign := x, body := y, defers := q.defers })) := by
  unfold Instr.enterLoop
  simp only [Sem.run_bind, run_getLoop h, run_newObj_alloc, Result.andThen, Sem.run_pure]
theorem okD_fr {cx : Option (Nat × Obj)} {L D : Nat} {w w1 W W' : World} (hD : mkD cx L D w w1) (h : okD cx D W) (f : Fr [L] W W') : okD cx D W' := by
  cases cx with
  | none => exact (f.keep D (Array.getElem?_eq_some_iff.1 h).1 (by simp; exact hD.2.1)).trans h
  | some _ => trivial
def jmp : Nat → Code
  | 0 => .ret
  | i + 1 => .exit i
theorem D_ok (hm : P.follows .mixedOrders = true) : ∀ (C : Code) (cx : Option (Nat × Obj)) (Z : ZP) (R : Value → World → Prop) (r : Option Nat) (df : List Deferred) (ds : List Nat) (l : Env) (kN : Env → T) (kE : Nat → Env → T) (kR : Env → T) (A' : List Nat → List Value → World → Prop) (B' : List Nat → Nat → List Value → World → Prop) (w : World) (a : Act),
    wp P Z R ds (D P n cx C l kN kE kR) w A' B' → Ag a n (ds.map mk ++ df) l → (∀ ds l w A B A2 B2, wp P Z R ds (kR l) w A B → wp P Z R ds (kR l) w A2 B2) → r = cx.map (·.1) → (∀ L o, cx = some (L, o) → ∃ q, o = .loop q) →
    C.wpIn (FR r) 0 P (ky Z cx df ds (Lk cx n df ds C l fun ds l' w => wp P Z R ds (kN l') w A' B') (Lr cx n df ds fun ds l' w => wp P Z R ds (kR l') w A' B') (fun i => Lk cx n df ds C l fun ds l' w => wp P Z R ds (kE i l') w A' B')) a w := by
  intro C
  induction C with
  | skip => intro cx Z R r df ds l kN kE kR A' B' w a hw ha _ _ _; exact wpIn_skip ⟨ds, l, fun _ => rfl, ha, fun _ _ => rfl, hw⟩
  | region id ops draw =>
    intro cx Z R r df ds l kN kE kR A' B' w a hw ha hR _ _
    cases draw with
    | false =>
      unfold D at hw
      split at hw
      · rename_i hnd
        refine wpIn_region_list ?_
        have := dlist_ok (r := r) (n := n) (df := ds.map mk ++ df) (ops := ops.toList) (l0 := l) (k := kN) (Q := ky Z cx df ds (Lk cx n df ds (.region id ops false) l fun ds l' w => wp P Z R ds (kN l') w A' B') (Lr cx n df ds fun ds l' w => wp P Z R ds (kR l') w A' B') (fun i => Lk cx n df ds (.region id ops false) l fun ds l' w => wp P Z R ds (kE i l') w A' B'))
          (fun a l' w h1 h2 h3 => ⟨ds, l', fun _ => rfl, h1, h2, h3⟩) (fun c a w h1 h2 => ⟨ds, fun _ => rfl, h1, h2⟩) ops.toList (List.all_eq_true.1 hnd) (fun o ho => ho) [] l w a hw ha (fun e he => by cases he) (fun _ _ => rfl)
        simpa using this
      · exact hw.elim
    | true =>
      unfold D at hw
      split at hw
      · rename_i hwf
        refine wpIn_region_any hm ?_
        have hw := hw { w with drawn := w.drawn + 1 } (Fr.drew w) rfl
        have h0 : ∀ i, (Array.replicate ops.toList.length false).getD i false = false := fun i => by
          simp only [Array.getD_eq_getD_getElem?, Array.getElem?_replicate]
          split <;> rfl
        have hz : ∀ i, (0 : Nat).testBit i = false := fun i => Nat.zero_testBit i
        have := dreg_any (r := r) (n := n) (df := ds.map mk ++ df) (ops := ops.toList) (l0 := l) (k := kN) (Q := ky Z cx df ds (Lk cx n df ds (.region id ops true) l fun ds l' w => wp P Z R ds (kN l') w A' B') (Lr cx n df ds fun ds l' w => wp P Z R ds (kR l') w A' B') (fun i => Lk cx n df ds (.region id ops true) l fun ds l' w => wp P Z R ds (kE i l') w A' B'))
          hwf (fun a l' w h1 h2 h3 => ⟨ds, l', fun _ => rfl, h1, h2, h3⟩) (fun b u h => h) (fun S c b w' h => by obtain ⟨d, g1, g2, g3⟩ := h; exact ⟨d, g1, by rw [← patch_defers S b]; exact g2, g3⟩) (fun c b w' h1 h2 => ⟨ds, fun _ => rfl, h1, h2⟩) ops.toList.length (Array.replicate ops.toList.length false) a { w with drawn := w.drawn + 1 }
          ⟨_, 0, [], l, [], ⟨by simp, fun i h => absurd h (by rw [h0]; simp), fun i h => absurd h (by rw [hz]; simp), fun i o _ h => absurd h (by rw [hz]; simp), fun i o _ h => absurd h (by rw [h0]; simp), fun i o _ h => absurd h (by rw [hz]; simp), ha, (fun e he => nomatch he), (fun p hp => nomatch hp), fun i h => absurd h (by rw [hz]; simp), by simp⟩, hw, fun _ _ => rfl⟩
          (by unfold cnt; exact Nat.le_trans (List.countP_le_length) (by simp))
        simpa using this
      · exact hw.elim
  | seq x y ihx ihy =>
    intro cx Z R r df ds l kN kE kR A' B' w a hw ha hR hr hcx
    refine wpIn_seq (wpIn_mono (ihx cx Z R r df ds l _ kE kR A' B' w a hw ha hR hr hcx) ?_)
    intro e a1 w1 hq
    have up : ∀ t, t ∉ wr (.seq x y) → t ∉ wr x ∧ t ∉ wr y := fun t ht => by
      simp only [wr, List.mem_append, not_or] at ht; exact ht
    cases e with
    | normal =>
      obtain ⟨d1, l1, h0, h1, h2, h3⟩ := hq
      refine wpIn_mono (ihy cx Z R r df d1 l1 kN kE kR A' B' w1 a1 h3 h1 hR hr hcx) (ky_mono h0 ?_ (fun _ _ h => h.mono h0) ?_)
      · intro a2 w2 h
        exact h.mono h0 (fun t ht => ⟨(up t ht).2, h2 t (up t ht).1⟩) (fun _ _ _ h => h)
      · intro i a2 w2 h
        exact h.mono h0 (fun t ht => ⟨(up t ht).2, h2 t (up t ht).1⟩) (fun _ _ _ h => h)
    | ret => exact hq
    | exit i => obtain ⟨d, l2, g0, g1, g2, g3⟩ := hq; exact ⟨d, l2, g0, g1, fun t ht => g2 t (up t ht).1, g3⟩
    | panic c => exact hq
    | goto g => exact hq
    | outgrown => exact hq
  | cond c x y ihx ihy =>
    intro cx Z R r df ds l kN kE kR A' B' w a hw ha hR hr hcx
    unfold D at hw
    obtain ⟨v, hv, hw⟩ := vT_ok hw
    have up : ∀ t, t ∉ wr (.cond c x y) → t ∉ wr x ∧ t ∉ wr y := fun t ht => by
      simp only [wr, List.mem_append, not_or] at ht; exact ht
    rcases gi_ok hw with ⟨rfl, h⟩ | ⟨rfl, h⟩
    · refine wpIn_cond_true (ha.fits c _ hv) (wpIn_mono (ihx cx Z R r df ds l kN kE kR A' B' w a h ha hR hr hcx) (ky_mono (fun _ => rfl) ?_ (fun _ _ h => h) ?_))
      · intro a2 w2 h; exact h.mono (fun _ => rfl) (fun t ht => ⟨(up t ht).1, rfl⟩) (fun _ _ _ h => h)
      · intro i a2 w2 h; exact h.mono (fun _ => rfl) (fun t ht => ⟨(up t ht).1, rfl⟩) (fun _ _ _ h => h)
    · refine wpIn_cond_false (ha.fits c _ hv) (wpIn_mono (ihy cx Z R r df ds l kN kE kR A' B' w a h ha hR hr hcx) (ky_mono (fun _ => rfl) ?_ (fun _ _ h => h) ?_))
      · intro a2 w2 h; exact h.mono (fun _ => rfl) (fun t ht => ⟨(up t ht).2, rfl⟩) (fun _ _ _ h => h)
      · intro i a2 w2 h; exact h.mono (fun _ => rfl) (fun t ht => ⟨(up t ht).2, rfl⟩) (fun _ _ _ h => h)
  | block id x ih =>
    intro cx Z R r df ds l kN kE kR A' B' w a hw ha hR hr hcx
    refine wpIn_block (wpIn_mono (ih cx Z R r df ds l kN _ kR A' B' w a hw ha hR hr hcx) ?_)
    intro e a1 w1 hq
    cases e with
    | exit i =>
      obtain ⟨d, l2, g0, g1, g2, g3⟩ := hq
      simp only [Exit.inBlock]
      by_cases hi : i = id
      · rw [if_pos hi]
        subst hi
        refine ⟨d, l2, g0, g1, g2, ?_⟩
        unfold bq at g3
        rw [Nat.beq_refl] at g3
        exact g3
      · rw [if_neg hi]
        refine ⟨d, l2, g0, g1, g2, ?_⟩
        unfold bq at g3
        have : Nat.beq i id = false := by
          cases hb : Nat.beq i id with
          | false => rfl
          | true => exact absurd (Nat.eq_of_beq_eq_true hb) hi
        rw [this] at g3
        exact g3
    | normal => exact hq
    | ret => exact hq
    | panic c => exact hq
    | goto g => exact hq
    | outgrown => exact hq
  | loop x ih =>
    intro cx Z R r df ds l kN kE kR A' B' w a hw ha hR hr hcx
    unfold D at hw
    obtain ⟨vs0, hv0, σ, st, J, μ, s0, hs0, hJ0, hround⟩ := vsT_ok hw
    subst hs0
    refine wpIn_loop_ghost (fun m a w => ∃ d s, μ s = m ∧ (cx.isSome = true → d = ds) ∧ Ag a n (d.map mk ++ df) (pairs (keysOf l (wr x)) 0 (st s) ++ keep l (wr x)) ∧ J d s w) (μ s0) ⟨ds, s0, rfl, fun _ => rfl, ha.head hv0 (fun t ht => (find_keep ht).symm), hJ0⟩ ?_
    rintro m a w ⟨d, s, rfl, hd0, hA, hJ⟩
    refine wpIn_mono (ih cx Z R r df d _ _ _ kR _ _ w a (hround d s w hJ) hA hR hr hcx) ?_
    have hd : ∀ {l' : Env}, (∀ t, t ∉ wr x → find l' t = find (pairs (keysOf l (wr x)) 0 (st s) ++ keep l (wr x)) t) → ∀ t, t ∉ wr x → find l' t = find (keep l (wr x)) t := fun h t ht => (h t ht).trans (find_head keysOf_sub ht)
    intro e a1 w1 hq
    cases e with
    | normal =>
      obtain ⟨d', l', g0, g1, g2, g3⟩ := hq
      obtain ⟨vs', hv', s', hs', hlt, hJ'⟩ := vsT_ok g3
      subst hs'
      exact ⟨_, hlt, d', s', rfl, fun e => (g0 e).trans (hd0 e), g1.head hv' (hd g2), hJ'⟩
    | exit i =>
      obtain ⟨d', l', g0, g1, g2, g3⟩ := hq
      obtain ⟨vs', hv', g4⟩ := vsT_ok g3
      exact ⟨d', _, fun e => (g0 e).trans (hd0 e), g1.head hv' (hd g2), fun t ht => (find_head keysOf_sub ht).trans (find_keep ht), g4⟩
    | ret => obtain ⟨d', l', g0, g1, g2⟩ := hq; exact ⟨d', l', fun e => (g0 e).trans (hd0 e), g1, hR _ _ _ _ _ _ _ g2⟩
    | panic c => obtain ⟨d', g0, g1, g2⟩ := hq; exact ⟨d', fun e => (g0 e).trans (hd0 e), g1, g2⟩
    | goto g => exact hq
    | outgrown => exact hq
  | exit i => intro cx Z R r df ds l kN kE kR A' B' w a hw ha _ _ _; exact wpIn_exit ⟨ds, l, fun _ => rfl, ha, fun _ _ => rfl, hw⟩
  | ret => intro cx Z R r df ds l kN kE kR A' B' w a hw ha _ _ _; exact wpIn_ret ⟨ds, l, fun _ => rfl, ha, hw⟩
  | rangeFunc g ps x y ihx ihy =>
    intro cx Z R r df ds l kN kE kR A' B' w a hw ha hR hr hcx
    unfold D at hw
    split at hw
    · rename_i hps0
      obtain ⟨hps, hpn⟩ := Bool.and_eq_true_iff.1 hps0
      obtain ⟨v, hv, gf, cap, rfl, hcf, hc0, hw⟩ := vT_ok hw
      refine wpIn_rangeFunc ?_
      intro fn hfn
      have ent : ∃ L D W1 dfr, (Instr.enterLoop fn a.tmps ps x y r).run P w = .ok (L, m0 cx D) W1 ∧ w.heap.size ≤ L ∧ L < W1.heap.size ∧ Fr [] w W1 ∧ mkD cx L D w W1 ∧
          W1.heap[L]? = some (.loop { state := .ready, pending := none, fn, tmps := a.tmps, params := ps, assign := x, body := y, defers := dfr }) := by
        cases cx with
        | none =>
          subst hr
          refine ⟨w.heap.size + 1, w.heap.size, _, w.heap.size, run_enterLoop_outer _ _ _ _ _, by omega, by simp, (Fr.alloc w _).trans (Fr.alloc _ _), ⟨Nat.le_refl _, by omega, by simp; omega, (Below.heap_alloc _ _ _ (by simp)).trans (World.alloc_heap_new w _)⟩, ?_⟩
          have := World.alloc_heap_new (w.alloc (.deferred (some []))) (.loop { state := .ready, pending := none, fn, tmps := a.tmps, params := ps, assign := x, body := y, defers := w.heap.size })
          rwa [World.size_alloc] at this
        | some q =>
          obtain ⟨L0, o0⟩ := q
          subst hr
          obtain ⟨q, rfl⟩ := hcx L0 o0 rfl
          exact ⟨w.heap.size, 0, _, _, run_enterI (hc0 L0 _ rfl) _ _ _ _ _, by omega, by simp, Fr.alloc w _, trivial, World.alloc_heap_new w _⟩
      obtain ⟨L, D, W1, dfr, hent, hL0, hL1, hF1, hD1, hl1⟩ := ent
      obtain ⟨rec, hrec⟩ : ∃ rec : LoopState → Option Code → Loop, rec = fun st pe => { state := st, pending := pe, fn, tmps := a.tmps, params := ps, assign := x, body := y, defers := dfr } := ⟨_, rfl⟩
      have hl1 : W1.heap[L]? = some (.loop (rec .ready none)) := by rw [hrec]; exact hl1
      obtain ⟨σ, st, I, X, s0, s1, hI0, hIs, hXs, hround, hcall, hN, hX⟩ := hw L D (.loop (rec .ready none)) (.loop (rec .busy none)) W1 hL0 hL1 hF1 hl1 hD1
      have hgv : a.eval g = .func (.func gf) #[] cap := ha.fits g _ hv
      refine ⟨L, _, W1, { target := .fn (.func gf) cap, args := #[.func (.yield L) #[] #[]] }, W1, gf, #[.func (.yield L) #[] #[]] ++ cap, W1, by rw [hr] at hent ⊢; exact hent, ?_, fun _ _ => trivial, ?_, FR_depth r _, ?_⟩
      · simp only [resolve, hgv]
        simp [go_sem]
      · simp [invoke, go_sem, hcf _ W1]
      · refine callsIn_FR ?_
        have hc := hcall (fun V s W => I (V ++ u0 cx L D) s W ∧ W.heap[L]? = some (.loop (rec .ready none)) ∧ okD cx D W ∧ L ∉ V ∧ (∀ q ∈ u0 cx L D, q ∉ V ∧ q < W.heap.size))
          (fun V W => ∃ j, X (j + 1) (V ++ u0 cx L D) W ∧ W.heap[L]? = some (.loop (rec .done (some (jmp j)))) ∧ okD cx D W ∧ L ∉ V ∧ (∀ q ∈ u0 cx L D, q ∉ V ∧ q < W.heap.size)) ?_ (fun V s W h => h.1) ⟨hI0, hl1, ?_, by simp, ?_⟩
        · have e : #[.func (.yield L) #[] #[]] ++ cap = (Value.func (.yield L) #[] #[] :: cap.toList).toArray := by simp
          rw [e]
          have hdd : Nat → Ag { a with defers := m0 cx D ++ a.defers } n ((u1 cx D ds).map mk ++ df) l := fun _ => ⟨ha.size, by cases cx <;> simp [ha.defs, u1, m0], ha.look⟩
          refine Calls.mono hc.2 ?_
          intro e W2 he
          cases e with
          | returned v =>
            obtain ⟨V, ⟨hi, hl, hk, hv, hu⟩ | ⟨j, hi, hl, hk, hv, hu⟩⟩ := he
            · refine ⟨none, _, by have := run_endLoop (P := P) hl (by rw [hrec]; simp); rw [hrec] at this; exact this, ?_⟩
              have f1 := Fr.putObj W2 L (.loop { rec .ready none with state := .exhausted })
              rw [hrec] at f1
              exact ⟨u1 cx D ds, l, u1_some, hdd 0, fun _ _ => rfl, hN _ _ ((hIs s1).fr hi f1 (fun q hq => by simp at hq; subst hq; exact List.mem_append_right _ mem_u0)) (okD_fr hD1 hk f1)⟩
            · refine ⟨some (jmp j), _, by have := run_endLoop (P := P) hl (by rw [hrec]; simp); rw [hrec] at this; exact this, ?_⟩
              have f1 := Fr.putObj W2 L (.loop { rec .done (some (jmp j)) with state := .exhausted })
              rw [hrec] at f1
              have hx := hX _ _ j ((hXs (j + 1)).fr hi f1 (fun q hq => by simp at hq; subst hq; exact List.mem_append_right _ mem_u0)) (okD_fr hD1 hk f1)
              cases j with
              | zero => exact wpIn_ret ⟨u1 cx D ds, l, u1_some, hdd 0, hx⟩
              | succ i => exact wpIn_exit ⟨u1 cx D ds, l, u1_some, hdd 0, fun _ _ => rfl, hx⟩
          | panicked c => exact ⟨u1 cx D ds, u1_some, (hdd 0).defs, he⟩
          | outgrown => exact he.elim
        · refine ⟨fun s => ⟨?_, ?_⟩, ⟨?_, ?_⟩, ?_⟩
          · rintro V W W' ⟨h1, h2, h3, h4, h5⟩ f
            refine ⟨(hIs s).fr h1 f (fun q hq => by simp [hq]), (f.keep L (Array.getElem?_eq_some_iff.1 h2).1 h4).trans h2, ?_, h4, fun q hq => ⟨(h5 q hq).1, Nat.lt_of_lt_of_le (h5 q hq).2 f.size⟩⟩
            cases cx with
            | none => exact (f.keep D (h5 D (by simp [u0])).2 (h5 D (by simp [u0])).1).trans h3
            | some _ => trivial
          · rintro V W b ⟨h1, h2, h3, h4, h5⟩ hb
            have hlt := (Array.getElem?_eq_some_iff.1 h2).1
            refine ⟨(hIs s).2 _ _ _ h1 hb, h2, h3, by simp [h4]; omega, fun q hq => ⟨?_, (h5 q hq).2⟩⟩
            have := h5 q hq
            simp [this.1]; omega
          · rintro V W W' ⟨j, h1, h2, h3, h4, h5⟩ f
            refine ⟨j, (hXs (j + 1)).fr h1 f (fun q hq => by simp [hq]), (f.keep L (Array.getElem?_eq_some_iff.1 h2).1 h4).trans h2, ?_, h4, fun q hq => ⟨(h5 q hq).1, Nat.lt_of_lt_of_le (h5 q hq).2 f.size⟩⟩
            cases cx with
            | none => exact (f.keep D (h5 D (by simp [u0])).2 (h5 D (by simp [u0])).1).trans h3
            | some _ => trivial
          · rintro V W b ⟨j, h1, h2, h3, h4, h5⟩ hb
            have hlt := (Array.getElem?_eq_some_iff.1 h2).1
            refine ⟨j, (hXs (j + 1)).2 _ _ _ h1 hb, h2, h3, by simp [h4]; omega, fun q hq => ⟨?_, (h5 q hq).2⟩⟩
            have := h5 q hq
            simp [this.1]; omega
          · rintro V s s' xs W ⟨hi, hl, hk, hv, hu⟩ hVs hst
            have hlt : L < W.heap.size := (Array.getElem?_eq_some_iff.1 hl).1
            obtain ⟨hm, hb⟩ := hround (V ++ u0 cx L D) s s' xs W (List.mem_append_right _ mem_u0) (fun q hq => by simp [hq]) (fun q hq => by
              rcases List.mem_append.1 hq with h | h
              · exact hVs q h
              · exact (hu q h).2) hi hl hst
            have hy := run_yield (P := P) (args := xs.toArray) hl (by rw [hrec]; simp [hm])
            rw [hrec] at hy
            refine ⟨fn, _, x, y, hy, roundIn_of_wpIn hfn ?_⟩
            have hp0 := Ag.params (n := n) (a := a) ps.toList xs (t := a.tmps) (l := l) ⟨ha.size, rfl, ha.look⟩ (fun t ht => by have := List.all_eq_true.1 hps t ht; simpa using this) (by simp [hm])
            have hps2 : ps.toList.toArray = ps := by simp
            rw [hps2] at hp0
            replace hp0 := hp0.zip_pairs hpn (by simp [hm])
            have hcx' : ∀ L' o', some (L, Obj.loop (rec .busy none)) = some (L', o') → ∃ q, o' = .loop q := fun L' o' h => by cases h; exact ⟨_, rfl⟩
            have hX1 := ihx (some (L, .loop (rec .busy none))) noZ _ (some L) [] [] _ _ _ _ _ _ W _ hb hp0 (fun _ _ _ _ _ _ _ h => h.elim) rfl hcx'
            have hKp : ∀ W', Kp L (.loop (rec .busy none)) (V ++ u0 cx L D) W W' → ∀ o, okD cx D (W'.putObj L o) ∧ (∀ q ∈ u0 cx L D, q ∉ V ∧ q < (W'.putObj L o).heap.size) ∧ W.heap.size ≤ (W'.putObj L o).heap.size ∧ (∀ q ∈ V, (W'.putObj L o).heap[q]? = W.heap[q]?) ∧ (W'.putObj L o).heap[L]? = some o := by
              rintro W' ⟨h1, h2, h3⟩ o
              have hlt' := (Array.getElem?_eq_some_iff.1 h3).1
              refine ⟨?_, fun q hq => ⟨(hu q hq).1, by simp; exact Nat.lt_of_lt_of_le (hu q hq).2 h1⟩, by simpa using h1, fun q hq => ?_, World.putObj_heap_same hlt'⟩
              · cases cx with
                | none => exact (World.putObj_heap_other hD1.2.1).trans ((h2 D (by simp [u0]) hD1.2.1).trans hk)
                | some _ => trivial
              · have hne : q ≠ L := fun e => hv (e ▸ hq)
                exact (World.putObj_heap_other hne).trans (h2 q (by simp [hq]) hne)
            have hIf : ∀ (I : List Nat → World → Prop) W' o, Stab I → I (V ++ u0 cx L D) W' → I (V ++ u0 cx L D) (W'.putObj L o) := fun I W' o h1 h2 => h1.fr h2 (Fr.putObj W' L o) (fun q hq => by simp at hq; subst hq; exact List.mem_append_right _ mem_u0)
            refine wpIn_mono hX1 ?_
            intro e a1 W2 hq
            cases e with
            | normal =>
              obtain ⟨d1, l1, hd1, ha1, _, hl2, hq⟩ := hq
              obtain rfl := hd1 rfl
              refine ⟨_, run_beginRound hl2 (by rw [hrec]), ?_⟩
              have hlt2 := (Array.getElem?_eq_some_iff.1 hl2).1
              have hq := hq (W2.putObj L (.loop (rec .busy none))) (Fr.putObj _ _ _) (World.putObj_heap_same hlt2)
              have eb : ({ rec .ready none with state := .busy } : Loop) = rec .busy none := by rw [hrec]
              rw [eb]
              refine wpIn_mono (ihy (some (L, .loop (rec .busy none))) noZ _ (some L) [] [] _ _ _ _ _ _ _ _ hq ha1 (fun _ _ _ _ _ _ _ h => h) rfl hcx') ?_
              intro e a3 W3 hp
              cases e with
              | normal =>
                obtain ⟨d3, l3, hd3, ha3, _, hi3, hk3⟩ := hp
                obtain ⟨g1, g2, g3, g4, g5⟩ := hKp _ hk3 (.loop (rec .ready none))
                have hr := run_endRound (P := P) none hk3.2.2
                rw [hrec] at hr g1 g2 g3 g4 g5
                refine ⟨_, _, hr, _, rfl, .inl ⟨rfl, hIf _ _ _ (hIs s') hi3, ?_, g1, hv, g2⟩, g3, g4⟩
                rw [hrec]; exact g5
              | ret =>
                obtain ⟨d3, l3, hd3, ha3, hp⟩ := hp
                obtain rfl := hd3 rfl
                obtain ⟨hi3, hk3⟩ := hp
                obtain ⟨g1, g2, g3, g4, g5⟩ := hKp _ hk3 (.loop (rec .done (some .ret)))
                have hr := run_endRound (P := P) (some .ret) hk3.2.2
                rw [hrec] at hr g1 g2 g3 g4 g5
                refine ⟨_, _, hr, _, rfl, .inr ⟨rfl, 0, hIf _ _ _ (hXs 1) hi3, ?_, g1, hv, g2⟩, g3, g4⟩
                rw [hrec]; exact g5
              | exit i =>
                obtain ⟨d3, l3, hd3, ha3, _, hi3, hk3⟩ := hp
                obtain ⟨g1, g2, g3, g4, g5⟩ := hKp _ hk3 (.loop (rec .done (some (.exit i))))
                have hr := run_endRound (P := P) (some (.exit i)) hk3.2.2
                rw [hrec] at hr g1 g2 g3 g4 g5
                refine ⟨_, _, hr, _, rfl, .inr ⟨rfl, i + 1, hIf _ _ _ (hXs (i + 2)) hi3, ?_, g1, hv, g2⟩, g3, g4⟩
                rw [hrec]; exact g5
              | panic c => obtain ⟨d, h1, h2, h3⟩ := hp; obtain rfl := h1 rfl; exact h3
              | goto t => exact False.elim hp
              | outgrown => exact False.elim hp
            | ret => obtain ⟨_, _, _, _, h⟩ := hq; exact h
            | exit i => obtain ⟨_, _, _, _, _, h⟩ := hq; exact h
            | panic c => obtain ⟨d, h1, h2, h3⟩ := hq; obtain rfl := h1 rfl; exact h3
            | goto t => exact False.elim hq
            | outgrown => exact False.elim hq
        · cases cx with
          | none => exact hD1.2.2.2
          | some _ => trivial
        · intro q hq
          refine ⟨by simp, ?_⟩
          cases cx with
          | none => simp [u0] at hq; rcases hq with rfl | rfl; exact hL1; exact hD1.2.2.1
          | some _ => simp [u0] at hq; subst hq; exact hL1
    · exact hw.elim
  | _ => intros; rename_i hw _ _ _ _; exact hw.elim
/-! ### a function's results, and the function -/
theorem sem_assoc {α β γ : Type} (s : Sem α) (f : α → Sem β) (g : β → Sem γ) : (s.bind f).bind g = s.bind fun a => (f a).bind g := by
  induction s with
  | pure a => rfl
  | load m a k ih => show Sem.load m a _ = Sem.load m a _; congr 1; funext v; exact ih v
  | store m a v k ih => show Sem.store m a v _ = Sem.store m a v _; congr 1
  | new o k ih => show Sem.new o _ = Sem.new o _; congr 1; funext v; exact ih v
  | shape r k ih => show Sem.shape r _ = Sem.shape r _; congr 1; funext v; exact ih v
  | freeze a n k ih => show Sem.freeze a n _ = Sem.freeze a n _; congr 1
  | frozen a k ih => show Sem.frozen a _ = Sem.frozen a _; congr 1; funext v; exact ih v
  | getObj r k ih => show Sem.getObj r _ = Sem.getObj r _; congr 1; funext v; exact ih v
  | setObj r o k ih => show Sem.setObj r o _ = Sem.setObj r o _; congr 1
  | choose q k ih => show Sem.choose q _ = Sem.choose q _; congr 1; funext v; exact ih v
  | sys c k ih => show Sem.sys c _ = Sem.sys c _; congr 1; funext v; exact ih v
  | program k ih => show Sem.program _ = Sem.program _; congr 1; funext v; exact ih v
  | mark m k ih => show Sem.mark m _ = Sem.mark m _; congr 1
  | halt h => rfl
theorem sem_pure {α : Type} (s : Sem α) : s.bind Sem.pure = s := by
  induction s with
  | pure a => rfl
  | load m a k ih => show Sem.load m a _ = Sem.load m a _; congr 1; funext v; exact ih v
  | store m a v k ih => show Sem.store m a v _ = Sem.store m a v _; congr 1
  | new o k ih => show Sem.new o _ = Sem.new o _; congr 1; funext v; exact ih v
  | shape r k ih => show Sem.shape r _ = Sem.shape r _; congr 1; funext v; exact ih v
  | freeze a n k ih => show Sem.freeze a n _ = Sem.freeze a n _; congr 1
  | frozen a k ih => show Sem.frozen a _ = Sem.frozen a _; congr 1; funext v; exact ih v
  | getObj r k ih => show Sem.getObj r _ = Sem.getObj r _; congr 1; funext v; exact ih v
  | setObj r o k ih => show Sem.setObj r o _ = Sem.setObj r o _; congr 1
  | choose q k ih => show Sem.choose q _ = Sem.choose q _; congr 1; funext v; exact ih v
  | sys c k ih => show Sem.sys c _ = Sem.sys c _; congr 1; funext v; exact ih v
  | program k ih => show Sem.program _ = Sem.program _; congr 1; funext v; exact ih v
  | mark m k ih => show Sem.mark m _ = Sem.mark m _; congr 1
  | halt h => rfl
instance : LawfulMonad Sem := LawfulMonad.mk' Sem (id_map := fun s => sem_pure s) (pure_bind := fun _ _ => rfl) (bind_assoc := fun s f g => sem_assoc s f g)
def resF (a : Act) : ResultVar → Sem Value
  | .tmp t => pure (a.tmps.getD t undef)
  | .cell p t => do loadVar t (← asAddr (a.tmps.getD p undef))
/-- What is read in w reads so in w'. -/
def Cs (w w' : World) : Prop := ∀ ad v, w.cell? ad = some v → w'.cell? ad = some v
theorem resT_ok {l : Env} {a : Act} {df : List Deferred} (ha : Ag a n df l) : ∀ {rs : List ResultVar} {k : List Value → T} {w : World}, wp P Z R ds (resT P l rs k) w A' B' → ∃ vs, (∀ w', Cs w w' → (rs.mapM (resF a)).run P w' = .ok vs w') ∧ wp P Z R ds (k vs) w A' B' := by
  intro rs
  induction rs with
  | nil => intro k w h; exact ⟨[], fun _ _ => rfl, h⟩
  | cons x rs ih =>
    intro k w h
    have step : ∀ {v : Value}, (∀ w', Cs w w' → (resF a x).run P w' = .ok v w') → wp P Z R ds (resT P l rs fun vs => k (v :: vs)) w A' B' → ∃ vs, (∀ w', Cs w w' → ((x :: rs).mapM (resF a)).run P w' = .ok vs w') ∧ wp P Z R ds (k vs) w A' B' := by
      intro v h1 h2
      obtain ⟨vs, h3, h4⟩ := ih h2
      refine ⟨v :: vs, fun w' hc => ?_, h4⟩
      rw [List.mapM_cons]
      simp only [Sem.run_bind, h1 w' hc, h3 w' hc, Result.andThen_ok, Sem.run_pure]
    cases x with
    | tmp t =>
      obtain ⟨v, hv, h⟩ := vT_ok h
      refine step (v := v) (fun w' _ => ?_) h
      show (pure (a.tmps.getD t undef) : Sem Value).run P w' = _
      rw [ha.look t v hv]
      rfl
    | cell p t =>
      unfold resT at h
      split at h
      · rename_i hg
        obtain ⟨q, hq, ad, v, rfl, hc, h⟩ := vT_ok h
        refine step (v := v) (fun w' hw' => ?_) h
        unfold resF
        simp only [ha.look p _ hq, asAddr]
        have := loadVar1 (P := P) hg (hw' _ _ hc)
        simpa [Instr.loadAt, Instr.sureAddr] using this
      · rename_i m hg hs
        obtain ⟨q, hq, ad, cs, rfl, hr, h⟩ := vT_ok h
        refine step (fun w' hw' => ?_) h
        unfold resF
        simp only [ha.look p _ hq, asAddr]
        have := loadVarn (P := P) hg hs (⟨hr.1, fun j v hj => hw' _ _ (hr.2 j v hj)⟩ : Rd w' m ad cs)
        simpa [Instr.loadAt, Instr.sureAddr] using this
      · exact h.elim
theorem outT_ok {l : Env} {a : Act} {fn : Func} {w : World} {df : List Deferred} (ha : Ag a n df l) (h : wp P Z R ds (outT P fn.results.toList l) w A' B') : ∃ v, (∀ w', Cs w w' → (results fn a.tmps).run P w' = .ok v w') ∧ RD ds R v w := by
  unfold outT at h
  obtain ⟨vs, h1, h2⟩ := resT_ok ha h
  have e : results fn a.tmps = (do let vs ← fn.results.mapM (resF a); pure (if h : vs.size = 1 then vs[0] else .tuple vs)) := by
    unfold results
    congr 1
  rw [e, Array.mapM_eq_mapM_toList]
  match vs, h1, h2 with
  | [v], h1, h2 => exact ⟨v, fun w' hc => by simp [bind_map_left, Sem.run_bind, h1 w' hc, Result.andThen_ok, Sem.run_pure], h2⟩
  | [], h1, h2 => exact ⟨_, fun w' hc => by simp only [bind_map_left, Sem.run_bind, h1 w' hc, Result.andThen_ok, Sem.run_pure]; rfl, h2⟩
  | a :: b :: r, h1, h2 => exact ⟨_, fun w' hc => by simp only [bind_map_left, Sem.run_bind, h1 w' hc, Result.andThen_ok, Sem.run_pure]; simp, h2⟩
theorem outT_any {rs : List ResultVar} {l : Env} : ∀ (w : World) (A : List Nat → List Value → World → Prop) (B : List Nat → Nat → List Value → World → Prop) (A2 : List Nat → List Value → World → Prop) (B2 : List Nat → Nat → List Value → World → Prop), wp P Z R ds (outT P rs l) w A B → wp P Z R ds (outT P rs l) w A2 B2 := by
  intro w A B A2 B2 h
  unfold outT at h ⊢
  have gen : ∀ (rs : List ResultVar) (k : List Value → T), (∀ vs, wp P Z R ds (k vs) w A B → wp P Z R ds (k vs) w A2 B2) → wp P Z R ds (resT P l rs k) w A B → wp P Z R ds (resT P l rs k) w A2 B2 := by
    intro rs
    induction rs with
    | nil => intro k hk h; exact hk [] h
    | cons x rs ih =>
      intro k hk h
      cases x with
      | tmp t =>
        obtain ⟨v, hv, h⟩ := vT_ok h
        have hv : find l t = some v := hv
        unfold resT vT
        simp only [ev, hv]
        exact ih _ (fun vs hvs => hk _ hvs) h
      | cell p t =>
        unfold resT at h ⊢
        split at h
        · obtain ⟨q, hq, ad, v, h1, h2, h3⟩ := vT_ok h
          have hq : find l p = some q := hq
          unfold vT
          simp only [ev, hq]
          exact ⟨ad, v, h1, h2, ih _ (fun vs hvs => hk _ hvs) h3⟩
        · obtain ⟨q, hq, ad, v, h1, h2, h3⟩ := vT_ok h
          have hq : find l p = some q := hq
          unfold vT
          simp only [ev, hq]
          exact ⟨ad, v, h1, h2, ih _ (fun vs hvs => hk _ hvs) h3⟩
        · exact h.elim
  refine gen rs _ (fun vs h => ?_) h
  match vs, h with
  | [], h => exact h
  | [v], h => exact h
  | a :: b :: r, h => exact h
abbrev nA : List Nat → List Value → World → Prop := fun _ _ _ => False
abbrev nB : List Nat → Nat → List Value → World → Prop := fun _ _ _ _ => False
theorem Cs.put {w : World} {D : Nat} {o : Obj} {x : Option (List Deferred)} (h : w.heap[D]? = some (.deferred x)) : Cs w (w.putObj D o) := by
  intro ad v hc
  have hne : ad.block ≠ D := by
    intro e
    unfold World.cell? at hc
    rw [e, h] at hc
    cases hc
  rw [← hc]
  unfold World.cell?
  rw [World.putObj_heap_other hne]
/-- A function's marks, come to one by one. -/
theorem marks {fn : Func} {tmps : Array Value} {Q : Ending → World → Prop} {u : FrameMode} (hu : u ≠ .run) : ∀ (ds : List Nat) (w : World), ds.Nodup → (∀ q ∈ ds, w.heap[q]? = some (.deferred (some []))) →
    (∀ w', Fr ds w w' → Cs w w' → LeavesInM Fence.wide 0 P fn tmps Q [] u w') → LeavesInM Fence.wide 0 P fn tmps Q (ds.map mk) u w := by
  intro ds
  induction ds with
  | nil => intro w _ _ h; exact h w (Fr.refl [] w) (fun _ _ h => h)
  | cons D ds ih =>
    intro w hn hd h
    have h0 := hd D (by simp)
    refine ⟨hu, .inl ⟨D, _, rfl, run_takeDeferred h0, ih _ (List.nodup_cons.1 hn).2 (fun q hq => ?_) (fun w' f c => h w' ?_ ?_)⟩⟩
    · have : q ≠ D := fun e => (List.nodup_cons.1 hn).1 (e ▸ hq)
      exact (World.putObj_heap_other this).trans (hd q (by simp [hq]))
    · exact ((Fr.putObj w D _).mono (fun q hq => by simp at hq; simp [hq])).trans (f.mono (fun q hq => by simp [hq]))
    · intro ad v hc
      exact c _ _ (Cs.put h0 _ _ hc)
theorem go {f : Nat} {fn : Func} {args : List Value} {t : T} {w : World} (hm : P.follows .mixedOrders = true) (hf : P.funcs[f]? = some fn) (hcf : CF P f) (hl : Nat.ble args.length fn.ntmps = true) (ht : DF P fn args = t) (h : wp P Z R [] t w nA nB) : Cz P f args w R Z := by
  refine ⟨hcf, ?_⟩
  subst ht
  unfold DF at h
  split at h
  · rename_i C hb
    have hl := Nat.le_of_ble_eq_true hl
    refine callsIn_wide.1 (callsIn_of_wp_marks (n := 0) hf hb trivial ?_)
    have ha : Ag { tmps := args.toArray ++ Array.replicate (fn.ntmps - args.toArray.size) undef, defers := [] } fn.ntmps [] (argE 0 args) := by
      refine ⟨by simp; omega, rfl, ?_⟩
      intro t v ht
      obtain ⟨_, h2⟩ := find_argE args 0 t v ht
      have hlt : t < args.length := by
        rcases Nat.lt_or_ge t args.length with h' | h'
        · exact h'
        · simp [List.getElem?_eq_none h'] at h2
      simp only [Nat.sub_zero] at h2
      have h3 := (List.getElem?_eq_some_iff.1 h2).2
      simp [Array.getElem?_append, hlt, h3]
    have big := D_ok (n := fn.ntmps) hm C none Z R none [] [] (argE 0 args) (outT P fn.results.toList) (fun _ _ => .bad) (outT P fn.results.toList) nA nB w _ h ha (fun ds l w A B A2 B2 => outT_any w A B A2 B2) rfl (fun _ _ h => by cases h)
    refine wpIn_mono big ?_
    have fin : ∀ (a' : Act) (w' : World) (ds' : List Nat) (l' : Env), Ag a' fn.ntmps (ds'.map mk ++ []) l' → wp P Z R ds' (outT P fn.results.toList l') w' nA nB → LeavesInM Fence.wide 0 P fn a'.tmps (Pst R Z) a'.defers .returning w' := by
      intro a' w' ds' l' g1 g3
      obtain ⟨v, h1, h2⟩ := outT_ok g1 g3
      rw [g1.defs, List.append_nil]
      cases ds' with
      | nil => exact ⟨v, h1 w' (fun _ _ h => h), h2⟩
      | cons D ds' => exact marks (by simp) _ _ h2.1 h2.2.1 (fun w'' f c => ⟨v, h1 w'' c, h2.2.2 w'' f⟩)
    intro e a' w' hq
    cases e with
    | normal => obtain ⟨ds', l', _, g1, _, g3⟩ := hq; exact fin a' w' ds' l' g1 g3
    | ret => obtain ⟨ds', l', _, g1, g3⟩ := hq; exact fin a' w' ds' l' g1 g3
    | exit i => obtain ⟨_, l', _, _, _, g3⟩ := hq; exact g3
    | panic c =>
      obtain ⟨ds', _, g1, g2⟩ := hq
      show LeavesInM Fence.wide 0 P fn a'.tmps (Pst R Z) a'.defers (.panicking c) w'
      rw [g1, List.append_nil]
      cases ds' with
      | nil => exact g2
      | cons D ds' => exact marks (by simp) _ _ g2.1 g2.2.1 (fun w'' f _ => g2.2.2 w'' f)
    | goto g => exact hq
    | outgrown => exact hq
  · exact h.elim
end
end Go.Proofs.YtcbkpekbfkaeeaaDoor.Sx
