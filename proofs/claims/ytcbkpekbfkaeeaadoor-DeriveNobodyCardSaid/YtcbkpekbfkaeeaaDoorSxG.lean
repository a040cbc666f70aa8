/- Loads in a drawn region: what the tail waits for, by however many steps. -/
import Derived.Test.YtcbkpekbfkaeeaaDoorSxC
set_option linter.unusedVariables false
set_option linter.unusedSimpArgs false
namespace Go.Proofs.YtcbkpekbfkaeeaaDoor.Sx
open Go Go.RowKit
def Closed (ops : Array Oper) (L : Array Bool) : Prop := ∀ (j : Nat) o, ops[j]? = some o → L.getD j false = true → ∀ e ∈ o.after, Region.binds .any e = true → L.getD e.on false = true
def closedB (ops : Array Oper) (L : Array Bool) : Bool := (List.range ops.size).all fun j => !(L.getD j false) || (match ops[j]? with | some o => o.after.all (fun e => !(Region.binds .any e) || L.getD e.on false) | none => true)
theorem closedB_spec {ops : Array Oper} {L : Array Bool} (h : closedB ops L = true) : Closed ops L := by
  intro j o ho hl e he hb
  unfold closedB at h
  rw [List.all_eq_true] at h
  have h1 := h j (List.mem_range.2 (Array.getElem?_eq_some_iff.1 ho).1)
  rw [hl, ho] at h1
  simp only [Bool.not_true, Bool.false_or] at h1
  have h2 := (Array.all_eq_true'.1 h1) e he
  rw [hb] at h2
  simpa using h2
theorem Closed.set {ops : Array Oper} {L : Array Bool} (h : Closed ops L) {j : Nat} (hj : j ∈ Region.ready .any ops L) : Closed ops (L.setIfInBounds j true) := by
  intro k o ho hl e he hb
  obtain ⟨hun, oj, hoj, hall⟩ := mem_ready.1 hj
  by_cases hk : j = k
  · subst hk
    rw [ho] at hoj
    obtain rfl := Option.some.inj hoj
    exact getD_set_true (hall e he hb)
  · rw [getD_set_ne false hk] at hl
    exact getD_set_true (h k o ho hl e he hb)
def waitsT (ops : Array Oper) (i : Nat) : Nat → Nat → Bool
  | 0, _ => false
  | f + 1, j => match ops[j]? with
    | some o => o.after.any (fun e => Region.binds .any e && (e.on == i || waitsT ops i f e.on))
    | none => false
theorem listed_of_waits {ops : Array Oper} {L : Array Bool} {i : Nat} (h : Closed ops L) : ∀ (f j : Nat), (∀ o, ops[j]? = some o → ∀ e ∈ o.after, Region.binds .any e = true → L.getD e.on false = true) → waitsT ops i f j = true → L.getD i false = true := by
  intro f
  induction f with
  | zero => intro j _ hw; cases hw
  | succ f ih =>
    intro j hj hw
    unfold waitsT at hw
    cases ho : ops[j]? with
    | none => rw [ho] at hw; cases hw
    | some o =>
      rw [ho] at hw
      obtain ⟨e, he, hb⟩ := Array.any_eq_true'.1 hw
      simp only [Bool.and_eq_true, Bool.or_eq_true, beq_iff_eq] at hb
      have hl := hj o ho e he hb.1
      rcases hb.2 with h1 | h1
      · rw [← h1]; exact hl
      · exact ih e.on (fun o' ho' e' he' hb' => h e.on o' ho' hl e' he' hb') h1
section
variable {P : Program} {C : Code} {n : Nat} {df : List Deferred} {l : Env} {w w' : World} {N R : Act → World → Prop} {E : Nat → Act → World → Prop}
def okLoadT (C : Code) (tl : List Nat) (D : List Nat) (i : Nat) : Bool := noTail tl (mkL (opsL C).length D) && (closedB (opsL C).toArray (mkL (opsL C).length D) && tl.all fun j => waitsT (opsL C).toArray i (opsL C).length j)
/-- An operation that yields in every world that meets U; every operation of the tail waits for it, in however many steps. -/
theorem dlt {tl D : List Nat} {U : World → Prop} {f i d : Nat} {o : Oper} {v : Value} (ho : nth (opsL C) i = some o) (hw : Want C l o = some true) (hd : o.dst = some d) (hn : Nat.blt d n = true)
    (hst : okTake C tl D i = true) (hld : okLoadT C tl D i = true) (h : ∀ w', U w' → Ex P o l w' v w') (k : DL P C tl U f (i :: D) n df ((d, v) :: l) w N R E) : DL P C tl U (f + 1) D n df l w N R E := by
  intro ht a ha
  unfold okTake at hst
  unfold okLoadT at hld
  simp only [Bool.and_eq_true, Bool.not_eq_true'] at hst hld
  obtain ⟨⟨⟨h1, h2⟩, h3⟩, h4⟩ := hst
  have ho' : (opsL C).toArray[i]? = some o := by rw [List.getElem?_toArray, ← nth_eq]; exact ho
  have hTi : ∀ L w, TT tl U (L.setIfInBounds i true) w ↔ TT tl U L w := fun L w => by unfold TT; rw [noTail_set h4]
  have hG : ∀ L j, (noTail tl L = true ∧ Closed (opsL C).toArray L) → L.getD i true = false → j ∈ Region.ready .any (opsL C).toArray L → j ≠ i → (noTail tl (L.setIfInBounds j true) = true ∧ Closed (opsL C).toArray (L.setIfInBounds j true)) := by
    intro L j hL hiun hj hji
    refine ⟨?_, hL.2.set hj⟩
    have hjt : tl.contains j = false := by
      cases hc : tl.contains j with
      | false => rfl
      | true =>
        exfalso
        obtain ⟨_, oj, hoj, hall⟩ := mem_ready.1 hj
        have h5 := hld.2.2
        rw [List.all_eq_true] at h5
        have h6 := h5 j (by simpa using hc)
        have h7 := listed_of_waits hL.2 _ j (fun o2 ho2 e he hb => by rw [hoj] at ho2; obtain rfl := Option.some.inj ho2; exact hall e he hb) h6
        rcases Nat.lt_or_ge i L.size with h' | h'
        · simp [h'] at hiun h7; rw [hiun] at h7; cases h7
        · simp [Array.getElem?_eq_none h'] at h7
    rw [noTail_set hjt]; exact hL.1
  refine XA_first (S := U) (G := fun L => noTail tl L = true ∧ Closed (opsL C).toArray L) (v := v) ho' (Region.noSelect_spec h1) (kq_panic N R E _ _) hG (fun L w hg ht => ht hg.1) hTi f _ a w (Region.free_spec ho' h2) (by simpa using h3)
    (.inl ⟨want_spec ha hw, fun w' hU => h w' hU _ ha.fits⟩) ⟨hld.1, closedB_spec hld.2.1⟩ ht ?_
  have := k ((hTi _ _).2 ht) _ (ha.put (by simpa using hn) v)
  rw [hd]
  exact this
end
end Go.Proofs.YtcbkpekbfkaeeaaDoor.Sx
