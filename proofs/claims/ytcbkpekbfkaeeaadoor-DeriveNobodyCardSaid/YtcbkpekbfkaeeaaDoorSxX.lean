/- Regions in any order: the walk over all orders. -/
import Derived.Test.YtcbkpekbfkaeeaaDoorSxW
set_option linter.unusedVariables false
set_option linter.unusedSimpArgs false
namespace Go.Proofs.YtcbkpekbfkaeeaaDoor.Sx
open Go Go.RowKit
section
variable {P : Program} {Z : ZP} {R : Value → World → Prop} {r : Option Nat} {n : Nat} {df : List Deferred} {A' : List Nat → List Value → World → Prop} {B' : List Nat → Nat → List Value → World → Prop} {ds : List Nat}
def OpFits (l : Env) (o : Oper) (ρ : Operand → Value) : Prop := ∀ x ∈ o.op.operands, ∀ y, ev l x = some y → ρ x = y
def VR (P : Program) (l : Env) (o : Oper) (v : Value) (w : World) : Prop := ∀ ρ w', OpFits l o ρ → (isLd o.op = true → w' = w) → (execOp ρ o).run P w' = .ok (.value v) w'
theorem VR.of {l : Env} {o : Oper} {v : Value} {w : World} (hnd : noDef o = true) (h : ∀ ρ w', Fits l ρ → (isLd o.op = true → w' = w) → (execOp ρ o).run P w' = .ok (.value v) w') : VR P l o v w := by
  intro ρ w' hf hl
  have e : execOp ρ o = execOp (fun x => match ev l x with | some y => y | none => ρ x) o := by
    refine execOp_congr o (fun cs b e => by unfold noDef at hnd; rw [e] at hnd; cases hnd) (fun x hx => ?_)
    cases hv : ev l x with
    | none => rfl
    | some y => exact hf x hx y hv
  rw [e]
  exact h _ w' (fun x y hy => by simp only [hy]) hl
def gYes (n : Nat) (l : Env) (ops : List Oper) (o : Oper) : Prop := o.guard = none ∨ ∃ j b e, o.guard = some (j, b) ∧ (nth ops j).bind (·.dst) = some e ∧ e < n ∧ find l e = some (.bool b)
def gNo (n : Nat) (l : Env) (ops : List Oper) (o : Oper) : Prop := ∃ j b e g, o.guard = some (j, b) ∧ (nth ops j).bind (·.dst) = some e ∧ e < n ∧ find l e = some g ∧ isB b g = false
structure Pend (P : Program) (n : Nat) (ops : List Oper) (l : Env) (u : List Nat) (w : World) (o : Oper) (d : Nat) (v : Value) : Prop where
  fd : find l d = some v
  way : (d ∉ u ∧ gYes n l ops o ∧ VR P l o v w) ∨ (v = undef ∧ gNo n l ops o)
theorem isLd_some {op : Op} (h : isLd op = true) : ∃ t x, op = .load t x := by
  cases op <;> first | exact ⟨_, _, rfl⟩ | (unfold isLd at h; cases h)
/-- A light operation, done ahead. -/
theorem light {ops : List Oper} {an : List Nat} {i : Nat} {o : Oper} {u : List Nat} {l : Env} {w : World} {k : List Nat → Env → T} (hnd : noDef o = true) (hlt : isLt P ops an i o = true) (hu : Us u l) (hw : wp P Z R ds (dgo P n ops u l o k) w A' B') :
    ∃ d v u' l', o.dst = some d ∧ d < n ∧ wp P Z R ds (k u' l') w A' B' ∧ (∀ t, find l' t = if d = t then some v else find l t) ∧
      ((u' = dropU o u ∧ gYes n l ops o ∧ VR P l o v w) ∨ (u' = skips o ++ u ∧ v = undef ∧ gNo n l ops o)) := by
  obtain ⟨dst, op, ty, pos, af, g⟩ := o
  cases dst with
  | none => cases hlt
  | some d =>
    have hl1 : (lop P [] ty op (fun _ => .bad)).isSome = true ∨ isLd op = true := by
      unfold isLt at hlt
      simp only [Bool.and_eq_true, Bool.or_eq_true] at hlt
      exact hlt.1
    have same : ∀ {l1 : Env}, (∀ t, find l1 t = find l t) → ∀ v t, find ((d, v) :: l1) t = if d = t then some v else find l t := by
      intro l1 h1 v t
      by_cases h : d = t
      · subst h; rw [find_self, if_pos rfl]
      · rw [find_ne v l1 h, if_neg h, h1]
    have fits : ∀ {l1 : Env}, (∀ t, find l1 t = find l t) → ∀ ρ, Fits l ρ → Fits l1 ρ := by
      intro l1 h1 ρ hf x v hx
      refine hf x v ?_
      cases x with
      | tmp t => exact (h1 t).symm.trans hx
      | const c => exact hx
      | global q => exact hx
      | func q => exact hx
    have yes : ∀ {l1 : Env}, (∀ t, find l1 t = find l t) → gYes n l ops ⟨some d, op, ty, pos, af, g⟩ → wp P Z R ds (dop P n l1 ⟨some d, op, ty, pos, af, g⟩ (k (dropU ⟨some d, op, ty, pos, af, g⟩ u))) w A' B' →
        ∃ d' v u' l', (some d : Option Nat) = some d' ∧ d' < n ∧ wp P Z R ds (k u' l') w A' B' ∧ (∀ t, find l' t = if d' = t then some v else find l t) ∧
      ((u' = dropU ⟨some d, op, ty, pos, af, g⟩ u ∧ gYes n l ops ⟨some d, op, ty, pos, af, g⟩ ∧ VR P l ⟨some d, op, ty, pos, af, g⟩ v w) ∨ (u' = skips ⟨some d, op, ty, pos, af, g⟩ ++ u ∧ v = undef ∧ gNo n l ops ⟨some d, op, ty, pos, af, g⟩)) := by
      intro l1 h1 hg hw
      unfold dop at hw
      simp only at hw
      split at hw
      · rename_i hd
        have hd : d < n := by simpa using hd
        split at hw
        · rename_i t ht
          obtain ⟨v, hv, h⟩ := lop_ok ht hw
          exact ⟨d, v, _, _, rfl, hd, h, same h1 v, .inl ⟨rfl, hg, VR.of hnd (fun ρ w' hf _ => hv _ _ _ _ _ _ (fits h1 ρ hf))⟩⟩
        · rename_i hno
          have hld : isLd op = true := by
            rcases hl1 with h | h
            · exfalso
              have gen : ∀ (op : Op) (ka kb : Value → T) (la lb : Env), lop P la ty op ka = none → (lop P lb ty op kb).isSome = true → False := by
                intro op ka kb la lb h1 h2
                cases op with
                | unOp q t x => cases q <;> cases h1
                | call c =>
                  obtain ⟨cal, xs, ts⟩ := c
                  cases cal with
                  | value f => cases h2
                  | invoke r m => cases h2
                  | builtin b =>
                    cases b <;> try cases h2
                    simp only [lop] at h1 h2
                    (repeat' split at h1) <;> simp_all
                | _ =>
                  simp only [lop] at h1 h2
                  first
                    | (cases h2; done)
                    | (cases h1; done)
                    | ((repeat' split at h1) <;> simp_all)
              exact gen op _ _ _ _ hno h
            · exact h
          obtain ⟨t, x, rfl⟩ := isLd_some hld
          simp only [hop] at hw
          split at hw
          · rename_i ha
            obtain ⟨p, hp, ad, v, rfl, hc, h⟩ := vT_ok hw
            refine ⟨d, v, _, _, rfl, hd, h, same h1 v, .inl ⟨rfl, hg, VR.of hnd (fun ρ w' hf hl => ?_)⟩⟩
            rw [hl rfl]
            simp only [execOp, fits h1 ρ hf x _ hp]
            exact run_v (loadVar1 ha hc)
          · rename_i m ha hs
            obtain ⟨p, hp, ad, cs, rfl, hr, h⟩ := vT_ok hw
            refine ⟨d, _, _, _, rfl, hd, h, same h1 _, .inl ⟨rfl, hg, VR.of hnd (fun ρ w' hf hl => ?_)⟩⟩
            rw [hl rfl]
            simp only [execOp, fits h1 ρ hf x _ hp]
            exact run_v (loadVarn ha hs hr)
          · exact hw.elim
      · exact hw.elim
    have no : ∀ {l1 : Env}, (∀ t, find l1 t = find l t) → gNo n l ops ⟨some d, op, ty, pos, af, g⟩ → wp P Z R ds (dskip n l1 ⟨some d, op, ty, pos, af, g⟩ (k (skips ⟨some d, op, ty, pos, af, g⟩ ++ u))) w A' B' →
        ∃ d' v u' l', (some d : Option Nat) = some d' ∧ d' < n ∧ wp P Z R ds (k u' l') w A' B' ∧ (∀ t, find l' t = if d' = t then some v else find l t) ∧
      ((u' = dropU ⟨some d, op, ty, pos, af, g⟩ u ∧ gYes n l ops ⟨some d, op, ty, pos, af, g⟩ ∧ VR P l ⟨some d, op, ty, pos, af, g⟩ v w) ∨ (u' = skips ⟨some d, op, ty, pos, af, g⟩ ++ u ∧ v = undef ∧ gNo n l ops ⟨some d, op, ty, pos, af, g⟩)) := by
      intro l1 h1 hg hw
      unfold dskip at hw
      simp only at hw
      split at hw
      · rename_i hd
        exact ⟨d, undef, _, _, rfl, by simpa using hd, hw, same h1 undef, .inr ⟨rfl, rfl, hg⟩⟩
      · exact hw.elim
    unfold dgo at hw
    split at hw
    · rename_i hg
      exact yes (fun _ => rfl) (.inl hg) hw
    · rename_i j b hg
      split at hw
      · rename_i e he
        split at hw
        · rename_i hn
          have hn : e < n := by simpa using hn
          split at hw
          · rename_i hc
            exact no (fun _ => rfl) ⟨j, b, e, undef, hg, he, hn, hu e (by simpa using hc), rfl⟩ hw
          · obtain ⟨v, hv, hw⟩ := vT_ok hw
            have hv : find l e = some v := hv
            cases b with
            | true =>
              rcases gi_ok hw with ⟨rfl, h⟩ | ⟨rfl, h⟩
              · exact yes (fun t => find_dup hv) (.inr ⟨j, true, e, hg, he, hn, hv⟩) h
              · exact no (fun t => find_dup hv) ⟨j, true, e, _, hg, he, hn, hv, rfl⟩ h
            | false =>
              rcases gi_ok hw with ⟨rfl, h⟩ | ⟨rfl, h⟩
              · exact no (fun t => find_dup hv) ⟨j, false, e, _, hg, he, hn, hv, rfl⟩ h
              · exact yes (fun t => find_dup hv) (.inr ⟨j, false, e, hg, he, hn, hv⟩) h
        · exact hw.elim
      · exact hw.elim
/-! ### what holds of a part of the region -/
theorem mem_tmpsOf {xs : List Operand} {t : Nat} : t ∈ tmpsOf xs ↔ Operand.tmp t ∈ xs := by
  induction xs with
  | nil => simp [tmpsOf]
  | cons x r ih => cases x <;> simp [tmpsOf, ih]
theorem op_read {ops : List Oper} {o : Oper} {t : Nat} (h : Operand.tmp t ∈ o.op.operands) : t ∈ readsOf ops o := List.mem_append_left _ (mem_tmpsOf.2 (by simpa using h))
theorem g_read {ops : List Oper} {o : Oper} {j e : Nat} {b : Bool} (hg : o.guard = some (j, b)) (he : (nth ops j).bind (·.dst) = some e) : e ∈ readsOf ops o := by
  refine List.mem_append_right _ ?_
  rw [hg]
  simp only [he]
  simp
theorem Pend.fr {ops : List Oper} {l l' : Env} {u u' : List Nat} {w : World} {o : Oper} {d : Nat} {v : Value} (h : Pend P n ops l u w o d v) (hr : ∀ t ∈ readsOf ops o, find l' t = find l t) (hd : find l' d = find l d) (hu : d ∉ u → d ∉ u') : Pend P n ops l' u' w o d v := by
  refine ⟨hd.trans h.fd, ?_⟩
  have ho : ∀ x ∈ o.op.operands, ev l' x = ev l x := fun x hx => by
    cases x with
    | tmp t => exact hr t (op_read hx)
    | _ => rfl
  rcases h.way with ⟨h1, h2, h3⟩ | ⟨h1, j, b, e, g, h2, h3, h4, h5, h6⟩
  · refine .inl ⟨hu h1, ?_, fun ρ w' hf hl => h3 ρ w' (fun x hx y hy => hf x hx y (by rw [ho x hx]; exact hy)) hl⟩
    rcases h2 with h2 | ⟨j, b, e, h2, h3, h4, h5⟩
    · exact .inl h2
    · exact .inr ⟨j, b, e, h2, h3, h4, by rw [hr e (g_read h2 h3)]; exact h5⟩
  · exact .inr ⟨h1, j, b, e, g, h2, h3, h4, by rw [hr e (g_read h2 h3)]; exact h5, h6⟩
structure Iv (P : Program) (n : Nat) (df : List Deferred) (ops : List Oper) (listed : Array Bool) (A : Nat) (u : List Nat) (l : Env) (S : PS) (a : Act) (w : World) : Prop where
  sz : listed.size = ops.length
  a1 : ∀ i, listed.getD i false = true → A.testBit i = true
  aN : ∀ i, A.testBit i = true → i < ops.length
  a2 : ∀ i o, ops[i]? = some o → A.testBit i = true → ∀ m, (pm o).testBit m = true → A.testBit m = true
  lc : ∀ i o, ops[i]? = some o → listed.getD i false = true → ∀ m, (pm o).testBit m = true → listed.getD m false = true
  a3 : ∀ i o, ops[i]? = some o → A.testBit i = true → listed.getD i false = false → isLt P ops (ancs ops []) i o = true
  ag : Ag (patch S a) n df l
  us : Us u l
  s1 : ∀ p ∈ S, ∃ o, ops[p.1]? = some o ∧ listed.getD p.1 false = false ∧ A.testBit p.1 = true ∧ o.dst = some p.2.1 ∧ p.2.1 < n ∧ Pend P n ops l u w o p.2.1 p.2.2
  s2 : ∀ i, A.testBit i = true → listed.getD i false = false → ∃ p ∈ S, p.1 = i
  s3 : (S.map (·.1)).Nodup
theorem lt_war {ops : List Oper} {an : List Nat} {i d : Nat} {o : Oper} (h : isLt P ops an i o = true) (hd : o.dst = some d) : warB ops an i d 0 ops = false := by
  unfold isLt at h
  rw [hd] at h
  simp only [Bool.and_eq_true, Bool.not_eq_true'] at h
  exact h.2
section
variable {ops : List Oper} {listed : Array Bool} {A : Nat} {u : List Nat} {l : Env} {S : PS} {a : Act} {w : World}
theorem Iv.keys (H : Iv P n df ops listed A u l S a w) (hwf : wfR ops (ancs ops []) = true) : (keysS S).Nodup := by
  have hnd : nodupB (dsts ops) = true := by unfold wfR at hwf; simp only [Bool.and_eq_true] at hwf; exact hwf.1.1.1
  have h1 := H.s1
  have h3 := H.s3
  clear H
  induction S with
  | nil => exact List.nodup_nil
  | cons p r ih =>
    simp only [keysS, List.map_cons, List.nodup_cons] at h3 ⊢
    refine ⟨fun hm => ?_, ih (fun q hq => h1 q (by simp [hq])) h3.2⟩
    obtain ⟨q, hq, he⟩ := List.mem_map.1 hm
    obtain ⟨o1, e1, _, _, e2, _⟩ := h1 p (by simp)
    obtain ⟨o2, e3, _, _, e4, _⟩ := h1 q (by simp [hq])
    have := dst_inj hnd q.1 p.1 o2 o1 p.2.1 e3 e1 (by rw [e4, he]) e2
    exact h3.1 (this ▸ List.mem_map_of_mem hq)
/-- What a ready operation reads is not still to be done. -/
theorem Iv.reads (H : Iv P n df ops listed A u l S a w) {j : Nat} {o : Oper} (hj : ops[j]? = some o) (hr : ∀ m, (pm o).testBit m = true → listed.getD m false = true) {t : Nat} (ht : t ∈ readsOf ops o) : t ∉ keysS S := by
  intro hm
  obtain ⟨p, hp, he⟩ := List.mem_map.1 hm
  obtain ⟨q, h1, h2, h3, h4, _⟩ := H.s1 p hp
  have hlt := H.a3 p.1 q h1 h3 h2
  have hw := noWar (lt_war hlt h4) j o hj (by rw [he]; exact ht)
  rw [Nat.zero_add] at hw
  have := anc_in (C := fun i => listed.getD i false = true) H.lc j o hj hr p.1 hw
  rw [h2] at this
  cases this
theorem getD_set {x : Array Bool} {i j : Nat} (hi : i < x.size) : (x.setIfInBounds i true).getD j false = (x.getD j false || decide (i = j)) := by
  simp only [Array.getD_eq_getD_getElem?]
  by_cases h : i = j
  · subst h; simp [hi]
  · simp [Array.getElem?_setIfInBounds_ne h, h]
end
end
end Go.Proofs.YtcbkpekbfkaeeaaDoor.Sx
