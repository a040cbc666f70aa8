/- Forests as plain data: what a cut takes, and what it leaves. No program here. -/
import Derived.Test.YtcbkpekbfkaeeaaDoorFoC
import Derived.Test.YtcbkpekbfkaeeaaDoorFoR
set_option linter.unusedVariables false
set_option linter.unusedSimpArgs false
namespace Go.Proofs.YtcbkpekbfkaeeaaDoor.Fo
theorem minus_par {L : En} {out : List Int} {a : Int} (h : a ∉ out) : fPar (minus L out) a = fPar L a := by
  have : par (minus L out) a = par L a := by
    unfold par minus
    congr 1
    induction L with
    | nil => rfl
    | cons e r ih =>
      rw [List.filter_cons]
      by_cases h1 : out.contains e.1 = true
      · rw [h1]
        simp only [Bool.not_true, Bool.false_eq_true, if_false]
        rw [ih, List.find?_cons]
        have : ¬ e.1 = a := fun e' => h (by rw [← e']; simpa [List.contains_eq_mem] using h1)
        have h2 : (e.1 == a) = false := by simpa using this
        rw [h2]
      · have h1 : out.contains e.1 = false := by simpa using h1
        rw [h1]
        simp only [Bool.not_false, if_true]
        rw [List.find?_cons, List.find?_cons, ih]
  unfold fPar
  rw [this]
theorem minus_dep {N : Nat} {L : En} (I : Inv N L) {out : List Int} (hc : Closed L out) : ∀ (m : Nat) (a : Int), has L a = true → idx L a ≤ m → a ∉ out → fDep (minus L out) a = fDep L a := by
  have I' := minus_inv I hc
  have hh : ∀ a, has L a = true → a ∉ out → has (minus L out) a = true := fun a h1 h2 => by
    rw [minus_has, h1]; simpa [List.contains_eq_mem] using h2
  intro m
  induction m with
  | zero =>
    intro a ha hi ho
    unfold fDep
    rw [if_pos (hh a ha ho), if_pos ha, dF_eq I ha, dF_eq I' (hh a ha ho), minus_par ho]
    cases hp : fPar L a with
    | mk p b =>
      cases b with
      | false => rfl
      | true =>
        obtain ⟨h0, hm⟩ := fPar_true hp
        have := (I.up hm (by omega)).2
        omega
  | succ m ih =>
    intro a ha hi ho
    unfold fDep
    rw [if_pos (hh a ha ho), if_pos ha, dF_eq I ha, dF_eq I' (hh a ha ho), minus_par ho]
    cases hp : fPar L a with
    | mk p b =>
      cases b with
      | false => rfl
      | true =>
        obtain ⟨h0, hm⟩ := fPar_true hp
        obtain ⟨h1, h2⟩ := I.up hm (by omega)
        have hpo : p ∉ out := fun h => ho (hc a p hm h)
        have := ih p h1 (by omega) hpo
        unfold fDep at this
        rw [if_pos (hh p h1 hpo), if_pos h1] at this
        show dF (minus L out) (minus L out).length p + 1 = dF L L.length p + 1
        rw [this]
/-- What is left as it was. -/
theorem cut_keeps {N : Nat} {L : En} (I : Inv N L) {n a : Int} (hn : has L n = true) (own : Bool) (ha : a ∉ outOf L n own) : has (minus L (outOf L n own)) a = has L a ∧ fPar (minus L (outOf L n own)) a = fPar L a ∧ fDep (minus L (outOf L n own)) a = fDep L a := by
  obtain ⟨c1, c2, c3⟩ := out_ok I hn own
  have h1 : has (minus L (outOf L n own)) a = has L a := by
    rw [minus_has]
    have : (outOf L n own).contains a = false := by simpa [List.contains_eq_mem] using ha
    rw [this]; simp
  refine ⟨h1, minus_par ha, ?_⟩
  cases hh : has L a with
  | true => exact minus_dep I c1 (idx L a) a hh (Nat.le_refl _) ha
  | false =>
    unfold fDep
    rw [h1, hh]; rfl
theorem cut_gone {L : En} {n a : Int} (own : Bool) (ha : a ∈ outOf L n own) : has (minus L (outOf L n own)) a = false := by
  rw [minus_has]
  have : (outOf L n own).contains a = true := by simpa [List.contains_eq_mem] using ha
  rw [this]; simp
theorem out_mem {N : Nat} {L : En} (I : Inv N L) {n a : Int} (hn : has L n = true) (own : Bool) : a ∈ outOf L n own ↔ (fUnd L a n = true ∧ (own = true ∨ ¬ a = n)) := by
  have h0 := (I.h0 hn).1
  unfold outOf
  rw [List.mem_append, mem_below I h0]
  constructor
  · rintro (h | h)
    · cases own with
      | false => simp at h
      | true =>
        simp at h
        subst h
        exact ⟨(fUnd_iff I hn hn).2 (.inl rfl), .inl rfl⟩
    · have hi := h.idx I
      exact ⟨(fUnd_iff I hi.2.1 hn).2 (.inr h), .inr (fun e => by rw [e] at hi; omega)⟩
  · rintro ⟨h1, h2⟩
    have ha : has L a = true := by
      unfold fUnd at h1
      simp only [Bool.and_eq_true] at h1
      exact h1.1.1
    rcases (fUnd_iff I ha hn).1 h1 with h | h
    · subst h
      rcases h2 with h2 | h2
      · subst h2; left; simp
      · exact absurd rfl h2
    · exact .inr h
theorem count_one {l : List Int} {a : Int} (hn : l.Nodup) (h : a ∈ l) : l.count a = 1 := by
  refine Nat.le_antisymm (List.nodup_iff_count.1 hn a) ?_
  exact List.count_pos_iff.2 h
end Go.Proofs.YtcbkpekbfkaeeaaDoor.Fo
