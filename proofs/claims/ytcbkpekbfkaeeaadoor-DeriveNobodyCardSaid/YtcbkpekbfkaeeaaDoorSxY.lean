/- Regions in any order: the steps, all orders at once; the whole code. -/
import Derived.Test.YtcbkpekbfkaeeaaDoorSxX
set_option linter.unusedVariables false
set_option linter.unusedSimpArgs false
namespace Go.Proofs.YtcbkpekbfkaeeaaDoor.Sx
open Go Go.RowKit
section
variable {P : Program} {Z : ZP} {R : Value → World → Prop} {r : Option Nat} {n : Nat} {df : List Deferred} {A' : List Nat → List Value → World → Prop} {B' : List Nat → Nat → List Value → World → Prop} {ds : List Nat}
variable {ops : List Oper} {listed : Array Bool} {A : Nat} {u : List Nat} {l : Env} {S : PS} {a : Act} {w : World}
theorem wf_nd (h : wfR ops (ancs ops []) = true) : nodupB (dsts ops) = true ∧ readsOk ops (ancs ops []) 0 ops = true ∧ (∀ o ∈ ops, noDef o = true) ∧ lowB 0 ops = true := by
  unfold wfR at h
  simp only [Bool.and_eq_true] at h
  exact ⟨h.1.1.1, h.1.1.2, List.all_eq_true.1 h.1.2, h.2⟩
theorem Us.drop_nd {o : Oper} {d e : Nat} (h : d ∉ u) : d ∉ dropU o u := by
  unfold dropU
  split
  · exact fun hm => h (List.mem_filter.1 hm).1
  · exact h
/-- A light operation is done ahead. -/
theorem Iv.ahead (H : Iv P n df ops listed A u l S a w) (hwf : wfR ops (ancs ops []) = true) {i : Nat} {o : Oper} (ho : ops[i]? = some o) (hA : A.testBit i = false) (hp : ∀ m, (pm o).testBit m = true → A.testBit m = true) (hlt : isLt P ops (ancs ops []) i o = true)
    {k : List Nat → Env → T} (hw : wp P Z R ds (dgo P n ops u l o k) w A' B') : ∃ u' l' S', Iv P n df ops listed (A ||| 2 ^ i) u' l' S' a w ∧ wp P Z R ds (k u' l') w A' B' ∧ (∀ e, o.dst ≠ some e → find l' e = find l e) := by
  obtain ⟨hnd, hrd, hdef, hlow⟩ := wf_nd hwf
  obtain ⟨d, v, u', l', hd, hdn, hk, hl, hway⟩ := light (hdef o (List.mem_of_getElem? ho)) hlt H.us hw
  have hne : ∀ e, o.dst ≠ some e → find l' e = find l e := fun e he => by rw [hl, if_neg (fun h => he (by rw [hd, h]))]
  have hdd : find l' d = some v := by rw [hl, if_pos rfl]
  have hlo : listed.getD i false = false := by
    cases hc : listed.getD i false with
    | false => rfl
    | true => rw [H.a1 i hc] at hA; cases hA
  have hself : d ∉ readsOf ops o := by
    intro hm
    have h1 := noWar (lt_war hlt hd) i o ho hm
    rw [Nat.zero_add] at h1
    have := anc_in (C := fun m => A.testBit m = true) H.a2 i o ho hp i h1
    rw [hA] at this
    cases this
  have hbit : ∀ j, (A ||| 2 ^ i).testBit j = true ↔ A.testBit j = true ∨ i = j := fun j => by rw [tb_or, Bool.or_eq_true, decide_eq_true_eq]
  refine ⟨u', l', S ++ [(i, d, v)], ⟨H.sz, fun j hj => (hbit j).2 (.inl (H.a1 j hj)), ?_, ?_, H.lc, ?_, ?_, ?_, ?_, ?_, ?_⟩, hk, hne⟩
  · intro j hj
    rcases (hbit j).1 hj with h | rfl
    · exact H.aN j h
    · exact (List.getElem?_eq_some_iff.1 ho).1
  · intro j q hq hj m hm
    rcases (hbit j).1 hj with h | rfl
    · exact (hbit m).2 (.inl (H.a2 j q hq h m hm))
    · rw [ho] at hq; obtain rfl := Option.some.inj hq; exact (hbit m).2 (.inl (hp m hm))
  · intro j q hq hj hno
    rcases (hbit j).1 hj with h | rfl
    · exact H.a3 j q hq h hno
    · rw [ho] at hq; obtain rfl := Option.some.inj hq; exact hlt
  · -- the frame
    have e : patch (S ++ [(i, d, v)]) a = (patch S a).put (some d) v := by unfold patch; rw [List.foldl_append]; rfl
    rw [e]
    refine ⟨by simpa [Act.put] using H.ag.size, H.ag.defs, fun t x ht => ?_⟩
    rw [hl] at ht
    by_cases h : d = t
    · subst h
      rw [if_pos rfl] at ht
      obtain rfl := Option.some.inj ht
      have : d < (patch S a).tmps.size := by rw [H.ag.size]; exact hdn
      simp [Act.put, this]
    · rw [if_neg h] at ht
      have := H.ag.look t x ht
      simpa [Act.put, Array.getElem?_setIfInBounds_ne h] using this
  · rcases hway with ⟨rfl, _⟩ | ⟨rfl, rfl, _⟩
    · exact H.us.drop hne
    · exact H.us.skip hne (fun e he => by rw [hd] at he; injection he with he; subst he; exact hdd)
  · intro p hp'
    rcases List.mem_append.1 hp' with h | h
    · obtain ⟨q, h1, h2, h3, h4, h5, h6⟩ := H.s1 p h
      have hnd' : d ∉ readsOf ops q := by
        intro hm
        have e1 := noWar (lt_war hlt hd) p.1 q h1 hm
        rw [Nat.zero_add] at e1
        have := anc_in (C := fun m => A.testBit m = true) H.a2 p.1 q h1 (H.a2 p.1 q h1 h3) i e1
        rw [hA] at this
        cases this
      have hdp : p.2.1 ≠ d := by
        intro e
        have := dst_inj hnd p.1 i q o d h1 ho (by rw [h4, e]) hd
        rw [this, hA] at h3
        cases h3
      refine ⟨q, h1, h2, (hbit _).2 (.inl h3), h4, h5, h6.fr (fun t ht => hne t (fun e => ?_)) (hne _ (fun e => ?_)) (fun hu => ?_)⟩
      · rw [hd] at e; injection e with e; subst e; exact hnd' ht
      · rw [hd] at e; injection e with e; exact hdp e.symm
      · rcases hway with ⟨rfl, _⟩ | ⟨rfl, _, _⟩
        · exact Us.drop_nd (e := 0) hu
        · unfold skips
          rw [hd]
          simp only [List.singleton_append, List.mem_cons, not_or]
          exact ⟨hdp, hu⟩
    · obtain rfl := List.mem_singleton.1 h
      refine ⟨o, ho, hlo, (hbit _).2 (.inr rfl), hd, hdn, ?_⟩
      have base : Pend P n ops l' u' w o d v := by
        refine ⟨hdd, ?_⟩
        have hr : ∀ t ∈ readsOf ops o, find l' t = find l t := fun t ht => hne t (fun e => by rw [hd] at e; injection e with e; subst e; exact hself ht)
        have hx : ∀ x ∈ o.op.operands, ev l' x = ev l x := fun x hx => by
          cases x with
          | tmp t => exact hr t (op_read hx)
          | _ => rfl
        rcases hway with ⟨rfl, hg, hv⟩ | ⟨rfl, rfl, j, b, e, g, h1, h2, h3, h4, h5⟩
        · refine .inl ⟨?_, ?_, fun ρ w' hf hl => hv ρ w' (fun x hx' y hy => hf x hx' y (by rw [hx x hx']; exact hy)) hl⟩
          · unfold dropU
            rw [hd]
            intro hm
            have := (List.mem_filter.1 hm).2
            simp [Nat.beq_refl] at this
          · rcases hg with hg | ⟨j, b, e, h1, h2, h3, h4⟩
            · exact .inl hg
            · exact .inr ⟨j, b, e, h1, h2, h3, by rw [hr e (g_read h1 h2)]; exact h4⟩
        · exact .inr ⟨rfl, j, b, e, g, h1, h2, h3, by rw [hr e (g_read h1 h2)]; exact h4, h5⟩
      exact base
  · intro j hj hno
    rcases (hbit j).1 hj with h | rfl
    · obtain ⟨p, hp', he⟩ := H.s2 j h hno
      exact ⟨p, List.mem_append_left _ hp', he⟩
    · exact ⟨(i, d, v), by simp, rfl⟩
  · rw [List.map_append, List.nodup_append]
    refine ⟨H.s3, by simp, fun x hx y hy e => ?_⟩
    simp at hy
    subst hy
    subst e
    obtain ⟨p, hp', he⟩ := List.mem_map.1 hx
    obtain ⟨q, _, _, h3, _⟩ := H.s1 p hp'
    rw [he, hA] at h3
    cases h3
/-- All that is light and ready is done ahead. -/
theorem Iv.sat (hwf : wfR ops (ancs ops []) = true) {k : Env → T} {l0 : Env} : ∀ (f A : Nat) (u : List Nat) (l : Env) (S : PS), Iv P n df ops listed A u l S a w → wp P Z R ds (dreg P n ops (ancs ops []) f A u l k) w A' B' → (∀ t, t ∉ dsts ops → find l t = find l0 t) →
    ∃ f A u l S, Iv P n df ops listed A u l S a w ∧ wp P Z R ds (dreg P n ops (ancs ops []) f A u l k) w A' B' ∧ (∀ t, t ∉ dsts ops → find l t = find l0 t) ∧ (rdy A 0 ops).find? (fun p => isLt P ops (ancs ops []) p.1 p.2) = none := by
  intro f
  induction f with
  | zero => intro A u l S _ hw; exact hw.elim
  | succ f ih =>
    intro A u l S H hw h0
    cases hf : (rdy A 0 ops).find? (fun p => isLt P ops (ancs ops []) p.1 p.2) with
    | none => exact ⟨f + 1, A, u, l, S, H, hw, h0, hf⟩
    | some p =>
      obtain ⟨i, o⟩ := p
      have h1 := List.find?_some hf
      obtain ⟨j, h2, h3, h4, h5⟩ := mem_rdy.1 (List.mem_of_find?_eq_some hf)
      rw [Nat.zero_add] at h2
      subst h2
      have hw2 : wp P Z R ds (dgo P n ops u l o fun u' l' => dreg P n ops (ancs ops []) f (A ||| 2 ^ i) u' l' k) w A' B' := by
        unfold dreg at hw
        rw [hf] at hw
        exact hw
      obtain ⟨u', l', S', H', hw3, hl⟩ := H.ahead hwf h3 h4 (sub_iff.1 h5) h1 hw2
      exact ih _ _ _ _ H' hw3 (fun t ht => (hl t (fun e => ht (mem_dsts.2 ⟨i, o, h3, e⟩))).trans (h0 t ht))
theorem eval_patch (S : PS) (a : Act) {x : Operand} (h : ∀ t, x = .tmp t → t ∉ keysS S) : a.eval x = (patch S a).eval x := by
  cases x with
  | tmp t =>
    have := patch_get S a t (h t rfl)
    simp only [Act.eval, Array.getD_eq_getD_getElem?, this]
  | _ => rfl
theorem wanted_patch {o : Oper} (S : PS) (a : Act) (h : ∀ t ∈ readsOf ops o, t ∉ keysS S) : Region.wanted o (yielded ops.toArray a.tmps) = Region.wanted o (yielded ops.toArray (patch S a).tmps) := by
  unfold Region.wanted
  cases hg : o.guard with
  | none => rfl
  | some p =>
    obtain ⟨j, b⟩ := p
    simp only [yielded]
    have h1 : ops.toArray[j]? = nth ops j := by rw [List.getElem?_toArray, ← nth_eq]
    rw [h1]
    cases he : (nth ops j).bind (·.dst) with
    | none => rfl
    | some e => simp only [Option.bind_some, patch_get S a e (h e (g_read hg he))]
/-- What was read again. -/
theorem chks_ok {anc : Nat} {t : T} : ∀ {rs : List Oper} {k : Nat}, wp P Z R ds (chks P l u anc A k rs t) w A' B' → wp P Z R ds t w A' B' ∧
    ∀ (i : Nat) (q : Oper), rs[i]? = some q → isLd q.op = true → noDef q = true → A.testBit (k + i) = true → anc.testBit (k + i) = false → ∀ d, q.dst = some d → d ∉ u → ∀ v, find l d = some v → VR P l q v w := by
  intro rs
  induction rs with
  | nil => intro k h; exact ⟨h, fun i q hq => by simp at hq⟩
  | cons q r ih =>
    intro k h
    have next : wp P Z R ds (chks P l u anc A (k + 1) r t) w A' B' → (isLd q.op = true → noDef q = true → A.testBit k = true → anc.testBit k = false → ∀ d, q.dst = some d → d ∉ u → ∀ v, find l d = some v → VR P l q v w) →
        wp P Z R ds t w A' B' ∧ ∀ (i : Nat) (q' : Oper), (q :: r)[i]? = some q' → isLd q'.op = true → noDef q' = true → A.testBit (k + i) = true → anc.testBit (k + i) = false → ∀ d, q'.dst = some d → d ∉ u → ∀ v, find l d = some v → VR P l q' v w := by
      intro h0 h1
      obtain ⟨h2, h3⟩ := ih h0
      refine ⟨h2, fun i q' hq => ?_⟩
      cases i with
      | zero => simp at hq; subst hq; simpa using h1
      | succ i => rw [show k + (i + 1) = k + 1 + i by omega]; exact h3 i q' (by simpa using hq)
    obtain ⟨dst, op, ty, pos, af, g⟩ := q
    by_cases hl : isLd op = true
    · obtain ⟨t0, x, rfl⟩ := isLd_some hl
      cases dst with
      | none => exact next h (fun _ _ _ _ d hd => by cases hd)
      | some d =>
        unfold chks at h
        simp only at h
        split at h
        · split at h
          · rename_i ha
            obtain ⟨p, hp, h⟩ := vT_ok h
            obtain ⟨v, hv, ⟨ad, e1, e2⟩, h9⟩ := vT_ok h
            subst e1
            refine next h9 (fun _ hnd _ _ d' hd' _ v' hv' => ?_)
            injection hd' with hd'
            subst hd'
            have hv : find l d = some v := hv
            rw [hv] at hv'
            obtain rfl := Option.some.inj hv'
            refine VR.of hnd (fun ρ w' hf hl => ?_)
            rw [hl rfl]
            simp only [execOp, hf x _ hp]
            exact run_v (loadVar1 ha e2)
          · rename_i m ha hs
            obtain ⟨p, hp, h⟩ := vT_ok h
            obtain ⟨v, hv, ⟨ad, cs, e1, e2, e3⟩, h9⟩ := vT_ok h
            subst e1
            refine next h9 (fun _ hnd _ _ d' hd' _ v' hv' => ?_)
            injection hd' with hd'
            subst hd'
            have hv : find l d = some v := hv
            rw [hv] at hv'
            obtain rfl := Option.some.inj hv'
            subst e2
            refine VR.of hnd (fun ρ w' hf hl => ?_)
            rw [hl rfl]
            simp only [execOp, hf x _ hp]
            exact run_v (loadVarn ha hs e3)
          · exact h.elim
        · rename_i hne
          refine next h (fun _ _ hA hB d' hd' hu v' _ => ?_)
          injection hd' with hd'
          subst hd'
          exact (hne hA hB (by simpa using hu)).elim
    · refine next ?_ (fun h2 => absurd h2 hl)
      unfold chks at h
      cases op <;> first | exact h | exact absurd rfl hl
def cnt (x : Array Bool) : Nat := x.toList.countP (fun b => !b)
theorem cnt_set {x : Array Bool} {i : Nat} (hi : i < x.size) (hf : x.getD i false = false) : cnt (x.setIfInBounds i true) + 1 = cnt x := by
  unfold cnt
  have h1 : x.toList[i]'(by simpa using hi) = false := by
    rw [Array.getD_eq_getD_getElem?, Array.getElem?_eq_getElem hi] at hf
    simpa using hf
  have h2 : 0 < x.toList.countP (fun b => !b) := List.countP_pos_iff.2 ⟨false, by rw [← h1]; exact List.getElem_mem _, rfl⟩
  rw [Array.toList_setIfInBounds, List.countP_set (by simpa using hi), h1]
  simp only [Bool.not_false, Bool.not_true, if_true, Bool.false_eq_true, if_false]
  omega
theorem cnt_zero {x : Array Bool} (h : cnt x = 0) {i : Nat} (hi : i < x.size) : x.getD i true = true := by
  unfold cnt at h
  have := List.countP_eq_zero.1 h (x.toList[i]'(by simpa using hi)) (List.getElem_mem _)
  rw [Array.getD_eq_getD_getElem?, Array.getElem?_eq_getElem hi]
  simpa using this
theorem ready_iff (hs : listed.size = ops.length) {i : Nat} : i ∈ Region.ready .any ops.toArray listed ↔ ∃ o, ops[i]? = some o ∧ listed.getD i false = false ∧ ∀ m, (pm o).testBit m = true → listed.getD m false = true := by
  rw [mem_ready]
  constructor
  · rintro ⟨h1, o, h2, h3⟩
    have h2 : ops[i]? = some o := by simpa using h2
    have hi := (List.getElem?_eq_some_iff.1 h2).1
    refine ⟨o, h2, ?_, fun m hm => ?_⟩
    · simp only [Array.getD_eq_getD_getElem?] at h1 ⊢
      rw [Array.getElem?_eq_getElem (by omega)] at h1 ⊢
      exact h1
    · obtain ⟨e, he, hb, rfl⟩ := pm_iff.1 hm
      exact h3 e (by simpa using he) hb
  · rintro ⟨o, h2, h1, h3⟩
    have hi := (List.getElem?_eq_some_iff.1 h2).1
    refine ⟨?_, o, by simpa using h2, fun e he hb => h3 e.on (pm_iff.2 ⟨e, by simpa using he, hb, rfl⟩)⟩
    simp only [Array.getD_eq_getD_getElem?] at h1 ⊢
    rw [Array.getElem?_eq_getElem (by omega)] at h1 ⊢
    exact h1
/-- What is still to be done is done. -/
theorem Iv.pend (H : Iv P n df ops listed A u l S a w) (hwf : wfR ops (ancs ops []) = true) {i : Nat} {o : Oper} (ho : ops[i]? = some o) (hno : listed.getD i false = false) (hp : ∀ m, (pm o).testBit m = true → listed.getD m false = true) (hA : A.testBit i = true)
    {K : Act → World → Prop} {Q : Exit → Act → World → Prop} (hK : ∀ a' S', Iv P n df ops (listed.setIfInBounds i true) A u l S' a' w → K a' w) : Wn P r ops.toArray o a w K Q := by
  obtain ⟨p, hpS, he⟩ := H.s2 i hA hno
  obtain ⟨q, h1, h2, h3, h4, h5, h6⟩ := H.s1 p hpS
  subst he
  rw [ho] at h1
  obtain rfl := Option.some.inj h1
  obtain ⟨i, d, v⟩ := p
  simp only at ho hno hp hA h2 h3 h4 h5 h6 ⊢
  have hi : i < listed.size := by rw [H.sz]; exact (List.getElem?_eq_some_iff.1 ho).1
  have hrd : ∀ t ∈ readsOf ops o, t ∉ keysS S := fun t ht => H.reads ho hp ht
  have I' : Iv P n df ops (listed.setIfInBounds i true) A u l (S.filter (fun p => !(Nat.beq p.1 i))) (a.put (some d) v) w := by
    refine ⟨by simpa using H.sz, fun j hj => ?_, H.aN, H.a2, fun j q hq hj m hm => ?_, fun j q hq hAj hj => ?_, ?_, H.us, fun p' hp' => ?_, fun j hj hjn => ?_, ?_⟩
    · rw [getD_set hi, Bool.or_eq_true, decide_eq_true_eq] at hj
      rcases hj with hj | rfl
      · exact H.a1 j hj
      · exact hA
    · rw [getD_set hi, Bool.or_eq_true, decide_eq_true_eq] at hj ⊢
      rcases hj with hj | rfl
      · exact .inl (H.lc j q hq hj m hm)
      · rw [ho] at hq; obtain rfl := Option.some.inj hq; exact .inl (hp m hm)
    · rw [getD_set hi, Bool.or_eq_false_iff] at hj
      exact H.a3 j q hq hAj hj.1
    · rw [patch_rm S a i d v hpS (H.keys hwf) H.s3]; exact H.ag
    · obtain ⟨h7, h8⟩ := List.mem_filter.1 hp'
      have hne : p'.1 ≠ i := by intro e; rw [e] at h8; simp [Nat.beq_refl] at h8
      obtain ⟨q, e1, e2, e3, e4⟩ := H.s1 p' h7
      exact ⟨q, e1, by rw [getD_set hi, e2, Bool.false_or, decide_eq_false (fun e => hne e.symm)], e3, e4⟩
    · rw [getD_set hi, Bool.or_eq_false_iff, decide_eq_false_iff_not] at hjn
      obtain ⟨p', e1, e2⟩ := H.s2 j hj hjn.1
      refine ⟨p', List.mem_filter.2 ⟨e1, ?_⟩, e2⟩
      rw [e2]
      cases hb : Nat.beq j i with
      | false => rfl
      | true => exact absurd (Nat.eq_of_beq_eq_true hb).symm hjn.2
    · exact List.Sublist.nodup (List.Sublist.map _ List.filter_sublist) H.s3
  have fin := hK _ _ I'
  have hd := (wf_nd hwf).2.2.1 o (List.mem_of_getElem? ho)
  unfold Wn
  rw [wanted_patch S a hrd]
  rcases h6.way with ⟨_, hg, hv⟩ | ⟨rfl, j, b, e, g, e1, e2, e3, e4, e5⟩
  · have hwn : Region.wanted o (yielded ops.toArray (patch S a).tmps) = true := by
      rcases hg with hg | ⟨j, b, e, e1, e2, e3, e4⟩
      · exact wanted_none hg
      · rw [wanted_some e1 e2 e3 H.ag e4]; exact beq_self_eq_true b
    rw [if_pos hwn]
    obtain ⟨dst, op, ty, pos, af, g⟩ := o
    simp only at h4
    subst h4
    exact in_val hd (hv a.eval w (fun x hx y hy => by rw [eval_patch S a (fun t e => hrd t (op_read (e ▸ hx)))]; exact H.ag.fits x y hy) (fun _ => rfl)) fin
  · have hwn : Region.wanted o (yielded ops.toArray (patch S a).tmps) = false := by rw [wanted_some e1 e2 e3 H.ag e4, e5]
    rw [if_neg (by rw [hwn]; simp)]
    refine ⟨fun _ _ => trivial, ?_⟩
    rw [h4]
    exact fin
end
end Go.Proofs.YtcbkpekbfkaeeaaDoor.Sx
