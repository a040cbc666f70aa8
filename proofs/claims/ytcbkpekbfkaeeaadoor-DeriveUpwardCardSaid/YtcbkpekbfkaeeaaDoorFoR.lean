/- Forests as plain data: each below just one root; what is below is deeper. No program here. -/
import Derived.Test.YtcbkpekbfkaeeaaDoorFoB
set_option linter.unusedVariables false
set_option linter.unusedSimpArgs false
namespace Go.Proofs.YtcbkpekbfkaeeaaDoor.Fo
theorem nd_le {α : Type} [DecidableEq α] : ∀ {l m : List α}, l.Nodup → (∀ x ∈ l, x ∈ m) → l.length ≤ m.length := by
  intro l
  induction l with
  | nil => intro m _ _; simp
  | cons x r ih =>
    intro m hn hs
    obtain ⟨h1, h2⟩ := List.nodup_cons.1 hn
    have hx := hs x (by simp)
    have := ih (m := m.erase x) h2 (fun y hy => (List.mem_erase_of_ne (fun e => by subst e; exact h1 hy)).2 (hs y (by simp [hy])))
    rw [List.length_erase_of_mem hx] at this
    have hp := List.length_pos_of_mem hx
    simp only [List.length_cons]
    omega
def nF (p : Nat → Bool) (k : Nat) : Nat := ((List.range k).filter p).length
theorem nF_zero (p : Nat → Bool) : nF p 0 = 0 := rfl
theorem nF_succ (p : Nat → Bool) (k : Nat) : nF p (k + 1) = nF p k + if p k = true then 1 else 0 := by
  unfold nF
  rw [List.range_succ, List.filter_append, List.length_append]
  congr 1
  by_cases h : p k = true <;> simp [h]
theorem nF_le (p : Nat → Bool) (k : Nat) : nF p k ≤ k := by
  induction k with
  | zero => exact Nat.le_refl _
  | succ k ih => rw [nF_succ]; split <;> omega
theorem nF_one {p : Nat → Bool} {r k : Nat} (hr : r < k) (hp : p r = true) (hu : ∀ b, b < k → p b = true → b = r) : nF p k = 1 := by
  unfold nF
  have h1 : ((List.range k).filter p).length ≤ [r].length := nd_le (List.Sublist.nodup List.filter_sublist List.nodup_range) (fun x hx => by
    obtain ⟨h1, h2⟩ := List.mem_filter.1 hx
    simp [hu x (List.mem_range.1 h1) h2])
  have h2 : 0 < ((List.range k).filter p).length := List.length_pos_of_mem (List.mem_filter.2 ⟨List.mem_range.2 hr, hp⟩)
  simp at h1
  omega
theorem nF_has {N : Nat} {L : En} (I : Inv N L) : nF (fun b : Nat => has L (b : Int)) N = L.length := by
  unfold nF
  refine Nat.le_antisymm ?_ ?_
  · have := nd_le (l := ((List.range N).filter (fun b : Nat => has L (b : Int))).map (fun b : Nat => (b : Int))) (m := L.map (·.1))
      (List.Pairwise.map _ (fun a b h => by omega) (List.Sublist.nodup List.filter_sublist List.nodup_range)) (fun x hx => by
        obtain ⟨b, hb, rfl⟩ := List.mem_map.1 hx
        obtain ⟨p, hp⟩ := has_iff.1 (List.mem_filter.1 hb).2
        exact List.mem_map.2 ⟨_, hp, rfl⟩)
    simpa using this
  · have := nd_le (l := L.map (·.1)) (m := ((List.range N).filter (fun b : Nat => has L (b : Int))).map (fun b : Nat => (b : Int))) I.nd (fun x hx => by
        obtain ⟨e, he, rfl⟩ := List.mem_map.1 hx
        have hr := I.rg e he
        refine List.mem_map.2 ⟨e.1.toNat, List.mem_filter.2 ⟨List.mem_range.2 (by omega), ?_⟩, by omega⟩
        rw [Int.toNat_of_nonneg hr.1]
        exact has_iff.2 ⟨e.2, he⟩)
    simpa using this
def isRoot (L : En) (b : Int) : Bool := has L b && !(fPar L b).2
theorem root_of {N : Nat} {L : En} (I : Inv N L) : ∀ (m : Nat) (n : Int), has L n = true → idx L n ≤ m → ∃ r, isRoot L r = true ∧ undP L n r := by
  intro m
  induction m with
  | zero =>
    intro n hn hi
    refine ⟨n, ?_, .inl rfl⟩
    unfold isRoot
    rw [hn]
    cases hp : fPar L n with
    | mk p b =>
      cases b with
      | false => rfl
      | true =>
        obtain ⟨h0, hm⟩ := fPar_true hp
        have := (I.up hm (by omega)).2
        omega
  | succ m ih =>
    intro n hn hi
    cases hp : fPar L n with
    | mk p b =>
      cases b with
      | false => exact ⟨n, by unfold isRoot; rw [hn, hp]; rfl, .inl rfl⟩
      | true =>
        obtain ⟨h0, hm⟩ := fPar_true hp
        obtain ⟨h1, h2⟩ := I.up hm (by omega)
        obtain ⟨r, hr, hu⟩ := ih p h1 (by omega)
        refine ⟨r, hr, ?_⟩
        rcases hu with rfl | hu
        · exact .inr (.one h0 hm)
        · exact .inr (.up h0 hm hu)
theorem root_uniq {N : Nat} {L : En} (I : Inv N L) : ∀ (m : Nat) (n r s : Int), has L n = true → idx L n ≤ m → isRoot L r = true → isRoot L s = true → undP L n r → undP L n s → r = s := by
  intro m
  induction m with
  | zero =>
    intro n r s hn hi hr hs h1 h2
    have key : ∀ x, undP L n x → x = n := fun x h => by
      rcases h with h | h
      · exact h.symm
      · have := h.idx I; omega
    rw [key r h1, key s h2]
  | succ m ih =>
    intro n r s hn hi hr hs h1 h2
    have stop : ∀ x, isRoot L x = true → (fPar L x).2 = false := fun x h => by
      unfold isRoot at h
      cases hp : (fPar L x).2 with
      | false => rfl
      | true => rw [hp] at h; simp at h
    cases hp : fPar L n with
    | mk p b =>
      cases b with
      | false =>
        have key : ∀ x, undP L n x → x = n := fun x h => by
          by_cases e : n = x
          · exact e.symm
          · exact absurd h (und_stop I e hp)
        rw [key r h1, key s h2]
      | true =>
        obtain ⟨h0, hm⟩ := fPar_true hp
        obtain ⟨h3, h4⟩ := I.up hm (by omega)
        have ne : ∀ x, isRoot L x = true → ¬ n = x := fun x hx e => by
          have := stop x hx
          rw [← e, hp] at this
          cases this
        exact ih p r s h3 (by omega) hr hs ((und_step I (ne r hr) hp).1 h1) ((und_step I (ne s hs) hp).1 h2)
theorem one_root {N : Nat} {L : En} (I : Inv N L) {a : Int} (ha : has L a = true) : nF (fun b : Nat => isRoot L (b : Int) && fUnd L a (b : Int)) N = 1 := by
  obtain ⟨r, hr, hu⟩ := root_of I (idx L a) a ha (Nat.le_refl _)
  have hrh : has L r = true := by unfold isRoot at hr; exact (Bool.and_eq_true_iff.1 hr).1
  have h0 := I.h0 hrh
  obtain ⟨q, rfl⟩ : ∃ q : Nat, r = q := ⟨r.toNat, by omega⟩
  refine nF_one (r := q) (by omega) ?_ (fun b hb hp => ?_)
  · rw [hr, Bool.true_and]
    exact (fUnd_iff I ha hrh).2 hu
  · obtain ⟨h1, h2⟩ := Bool.and_eq_true_iff.1 hp
    have hbh : has L (b : Int) = true := by unfold isRoot at h1; exact (Bool.and_eq_true_iff.1 h1).1
    have := root_uniq I (idx L a) a b q ha (Nat.le_refl _) h1 hr ((fUnd_iff I ha hbh).1 h2) hu
    omega
theorem dep_anc {N : Nat} {L : En} (I : Inv N L) {x a : Int} (h : Anc L x a) : fDep L a < fDep L x := by
  have one : ∀ c n, 0 ≤ n → (c, n) ∈ L → fDep L c = fDep L n + 1 := by
    intro c n h0 hm
    have hc : has L c = true := has_iff.2 ⟨n, hm⟩
    have hn := (I.up hm (by omega)).1
    unfold fDep
    rw [if_pos hc, if_pos hn, dF_eq I hc, I.fPar hm, if_neg (by omega)]
  induction h with
  | one h0 h => have := one _ _ h0 h; omega
  | up h0 h _ ih => have := one _ _ h0 h; omega
theorem bel_facts {N : Nat} {L : En} (I : Inv N L) {a x : Int} (ha : has L a = true) (hx : x ∈ below L a) : ¬ x = a ∧ fUnd L x a = true ∧ fDep L a < fDep L x := by
  have hA := (mem_below I (I.h0 ha).1).1 hx
  have hi := hA.idx I
  exact ⟨fun e => by rw [e] at hi; omega, (fUnd_iff I hi.2.1 ha).2 (.inr hA), dep_anc I hA⟩
end Go.Proofs.YtcbkpekbfkaeeaaDoor.Fo
