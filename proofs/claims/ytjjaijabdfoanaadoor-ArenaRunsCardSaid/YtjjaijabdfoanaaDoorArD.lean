/- Names that were freed stay dead. No program here. -/
import Derived.Test.YtjjaijabdfoanaaDoorArJ
set_option linter.unusedVariables false
namespace Go.Proofs.YtjjaijabdfoanaaDoor.Arn
open Go Go.RowKit Go.Proofs.YtjjaijabdfoanaaDoor.Sx Go.Proofs.YtjjaijabdfoanaaDoor.Ls
structure Names (x : Ar) (t : Nat) (al de : List (Int × Int)) : Prop where
  I : Inv x
  ha : ∀ a ∈ al, 0 ≤ a.1 ∧ ∃ s, x.slots[a.1.toNat]? = some s ∧ s.held = true ∧ s.gen = a.2
  dj : al.Pairwise fun a b => a.1 ≠ b.1
  hd : ∀ a ∈ de, 0 ≤ a.1 ∧ ∃ s, x.slots[a.1.toNat]? = some s ∧ a.2 < s.gen
  gn : ∀ (i : Nat) s, x.slots[i]? = some s → 0 ≤ s.gen ∧ s.gen ≤ t
theorem Names.mono {x : Ar} {t t' : Nat} {al de : List (Int × Int)} (h : Names x t al de) (ht : t ≤ t') : Names x t' al de :=
  ⟨h.I, h.ha, h.dj, h.hd, fun i s hs => by have := h.gn i s hs; omega⟩
theorem Names.new {qs : List Int} (hok : okQ qs) : Names (Ar.new qs) 0 [] [] :=
  ⟨Inv.new hok, by simp, List.Pairwise.nil, by simp, fun i s h => by
    obtain ⟨p, _, rfl⟩ := mkS_part (show (mkS qs qs.length)[i]? = some s from h)
    simp⟩
/-- A dead name is told so. -/
theorem Names.dead {x : Ar} {t : Nat} {al de : List (Int × Int)} (h : Names x t al de) {a : Int × Int} (ha : a ∈ de) : (x.read a.1 a.2).2 = 62 := by
  obtain ⟨h0, s, hs, hg⟩ := h.hd a ha
  have : x.find a.1 a.2 = none := by
    unfold Ar.find
    rw [if_pos h0, hs]
    dsimp only
    rw [if_neg (fun h => by omega)]
  unfold Ar.read
  rw [this]
/-- A new name has a number that no name alive has. -/
theorem Names.alloc {x : Ar} {t : Nat} {al de : List (Int × Int)} (h : Names x t al de) (part : Int) :
    Names (x.alloc part).1 t (if (x.alloc part).2.2.2 = 0 then al ++ [((x.alloc part).2.1, (x.alloc part).2.2.1)] else al) de ∧ ((x.alloc part).2.2.2 = 0 → ∀ a ∈ al, a.1 ≠ (x.alloc part).2.1) := by
  have hI := h.I.alloc part
  by_cases hok : 0 ≤ part ∧ part < x.parts
  · have hrow : x.free[part.toNat]? = some (Ls.rowAt x.free part) := rowAt_some ⟨hok.1, by rw [h.I.fl]; exact hok.2⟩
    cases hr : Ls.rowAt x.free part with
    | nil =>
      have e : x.alloc part = (x, 0, 0, 61) := by unfold Ar.alloc; rw [if_pos hok, hr]
      rw [e]
      exact ⟨by simpa using h, by simp⟩
    | cons n r =>
      rw [hr] at hrow
      obtain ⟨hn, s, hs, hp, hf⟩ := (h.I.fr _ _ n hrow).1 (by simp)
      have e : x.alloc part = ({ x with slots := x.slots.set n.toNat { s with held := true }, hs := x.hs.set part.toNat ((x.hs[part.toNat]?).getD 0 + 1), free := x.free.set part.toNat r }, n, s.gen, 0) := by
        unfold Ar.alloc
        rw [if_pos hok, hr]
        dsimp only
        rw [hs]
      rw [e] at hI ⊢
      dsimp only at hI ⊢
      have hne : ∀ a ∈ al, a.1 ≠ n := fun a ha e => by
        obtain ⟨_, u, hu, hh, _⟩ := h.ha a ha
        rw [e, hs] at hu
        obtain rfl := Option.some.inj hu
        rw [hf] at hh
        cases hh
      refine ⟨?_, fun _ => hne⟩
      rw [if_pos rfl]
      refine ⟨hI, ?_, ?_, ?_, ?_⟩
      · intro a ha
        rcases List.mem_append.1 ha with ha | ha
        · obtain ⟨h0, u, hu, hh, hg⟩ := h.ha a ha
          refine ⟨h0, u, ?_, hh, hg⟩
          rw [set_ne hs (fun e => hne a ha (by omega))]
          exact hu
        · obtain rfl := List.mem_singleton.1 ha
          exact ⟨hn, _, set_at hs, rfl, rfl⟩
      · rw [List.pairwise_append]
        exact ⟨h.dj, List.pairwise_singleton _ _, fun a ha b hb => by obtain rfl := List.mem_singleton.1 hb; exact hne a ha⟩
      · intro a ha
        obtain ⟨h0, u, hu, hg⟩ := h.hd a ha
        by_cases e : n.toNat = a.1.toNat
        · refine ⟨h0, _, by rw [← e]; exact set_at hs, ?_⟩
          rw [← e, hs] at hu
          obtain rfl := Option.some.inj hu
          exact hg
        · exact ⟨h0, u, by rw [set_ne hs e]; exact hu, hg⟩
      · intro i u hu
        rcases at_set hs hu with ⟨_, rfl⟩ | ⟨_, hu⟩
        · exact h.gn _ s hs
        · exact h.gn _ _ hu
  · have e : x.alloc part = (x, 0, 0, 5) := by unfold Ar.alloc; rw [if_neg hok]
    rw [e]
    exact ⟨by simpa using h, by simp⟩
theorem Names.drop {x : Ar} {t : Nat} {al de : List (Int × Int)} (h : Names x t al de) (ht : t ≤ 1000000) {j : Nat} {a : Int × Int} (ha : al[j]? = some a) :
    (x.drop a.1 a.2).2 = 0 ∧ Names (x.drop a.1 a.2).1 (t + 1) (al.take j ++ al.drop (j + 1)) (de ++ [a]) := by
  obtain ⟨h0, s, hs, hh, hg⟩ := h.ha a (List.mem_of_getElem? ha)
  have hgn := h.gn _ _ hs
  have hfd : x.find a.1 a.2 = some s := by
    unfold Ar.find
    rw [if_pos h0, hs]
    dsimp only
    rw [if_pos ⟨hh, hg⟩]
  have hw : IntKind.u64.wrap (s.gen + 1) = s.gen + 1 := by
    have e : IntKind.u64.wrap (s.gen + 1) = (s.gen + 1) % 18446744073709551616 := by simp [IntKind.wrap, IntKind.bits, IntKind.signed]
    rw [e]
    omega
  have hI := h.I.drop a.1 a.2
  revert hI
  unfold Ar.drop
  rw [hfd]
  dsimp only
  intro hI
  have hpush : (aPush x.slots.length x.free s.part a.1 false).2 = 0 := by
    obtain ⟨p0, p1⟩ := h.I.pt _ _ hs
    have hnone : isIn x.free a.1 = none := by
      unfold isIn
      rw [List.findIdx?_eq_none_iff]
      intro l hl
      obtain ⟨q, hq⟩ := List.getElem?_of_mem hl
      have : a.1 ∉ l := fun hm => by
        obtain ⟨_, u, hu, _, hf⟩ := (h.I.fr q l a.1 hq).1 hm
        rw [hs] at hu
        obtain rfl := Option.some.inj hu
        rw [hh] at hf
        cases hf
      simp [this]
    unfold aPush
    rw [if_pos ⟨⟨p0, by rw [h.I.fl]; exact p1⟩, ⟨h0, by have := (List.getElem?_eq_some_iff.1 hs).1; omega⟩⟩, hnone]
    rfl
  have hal : al = al.take j ++ a :: al.drop (j + 1) := by
    have hj := (List.getElem?_eq_some_iff.1 ha).1
    have e := (List.getElem?_eq_some_iff.1 ha).2
    rw [← e, List.getElem_cons_drop, List.take_append_drop]
  have hdj := h.dj
  rw [hal, List.pairwise_append, List.pairwise_cons] at hdj
  have hne : ∀ b ∈ al.take j ++ al.drop (j + 1), b.1 ≠ a.1 := fun b hb => by
    rcases List.mem_append.1 hb with hb | hb
    · exact hdj.2.2 b hb a (by simp)
    · exact fun e => hdj.2.1.1 b hb e.symm
  have hin : ∀ b ∈ al.take j ++ al.drop (j + 1), b ∈ al := fun b hb => by
    rw [hal]
    rcases List.mem_append.1 hb with hb | hb
    · exact List.mem_append.2 (.inl hb)
    · exact List.mem_append.2 (.inr (by simp [hb]))
  refine ⟨hpush, hI, ?_, ?_, ?_, ?_⟩
  · intro b hb
    obtain ⟨b0, u, hu, hh2, hg2⟩ := h.ha b (hin b hb)
    refine ⟨b0, u, ?_, hh2, hg2⟩
    dsimp only
    rw [set_ne hs (fun e => hne b hb (by omega))]
    exact hu
  · rw [List.pairwise_append]
    exact ⟨hdj.1, hdj.2.1.2, fun b hb c hc => hdj.2.2 b hb c (by simp [hc])⟩
  · intro b hb
    have key : 0 ≤ b.1 ∧ ∃ u, x.slots[b.1.toNat]? = some u ∧ (b.2 < u.gen ∨ b = a) := by
      rcases List.mem_append.1 hb with hb | hb
      · obtain ⟨b0, u, hu, hg2⟩ := h.hd b hb
        exact ⟨b0, u, hu, .inl hg2⟩
      · obtain rfl := List.mem_singleton.1 hb
        exact ⟨h0, s, hs, .inr rfl⟩
    obtain ⟨b0, u, hu, hg2⟩ := key
    by_cases e : a.1.toNat = b.1.toNat
    · refine ⟨b0, _, by rw [← e]; exact set_at hs, ?_⟩
      rw [← e, hs] at hu
      obtain rfl := Option.some.inj hu
      dsimp only
      rw [hw]
      rcases hg2 with h2 | rfl <;> omega
    · refine ⟨b0, u, by dsimp only; rw [set_ne hs e]; exact hu, ?_⟩
      rcases hg2 with h2 | rfl
      · exact h2
      · exact absurd rfl e
  · intro i u hu
    rcases at_set hs hu with ⟨_, rfl⟩ | ⟨_, hu⟩
    · dsimp only
      rw [hw]
      omega
    · have := h.gn _ _ hu
      omega
end Go.Proofs.YtjjaijabdfoanaaDoor.Arn
