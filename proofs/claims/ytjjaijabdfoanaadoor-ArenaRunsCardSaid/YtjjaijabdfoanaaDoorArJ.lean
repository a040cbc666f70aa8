/- What holds of any arena goes on to hold. No program here. -/
import Derived.Test.YtjjaijabdfoanaaDoorArI
set_option linter.unusedVariables false
namespace Go.Proofs.YtjjaijabdfoanaaDoor.Arn
open Go Go.RowKit Go.Proofs.YtjjaijabdfoanaaDoor.Sx Go.Proofs.YtjjaijabdfoanaaDoor.Ls
theorem cnt_set {α : Type} (f : α → Bool) (s' : α) : ∀ (l : List α) (i : Nat) (s : α), l[i]? = some s → (l.set i s').countP f + (if f s then 1 else 0) = l.countP f + (if f s' then 1 else 0) := by
  intro l
  induction l with
  | nil => intro i s h; simp at h
  | cons a r ih =>
    intro i s h
    cases i with
    | zero =>
      obtain rfl : a = s := by simpa using h
      simp only [List.set_cons_zero, List.countP_cons]
      omega
    | succ i =>
      have := ih i s (by simpa using h)
      simp only [List.set_cons_succ, List.countP_cons]
      omega
theorem at_set {α : Type} {l : List α} {i j : Nat} {s s' u : α} (h : l[i]? = some s) (hu : (l.set i s')[j]? = some u) : (i = j ∧ u = s') ∨ (i ≠ j ∧ l[j]? = some u) := by
  have hi := (List.getElem?_eq_some_iff.1 h).1
  rw [set_get _ _ _ _ hi] at hu
  by_cases e : i = j
  · rw [if_pos e] at hu; exact .inl ⟨e, (Option.some.inj hu).symm⟩
  · rw [if_neg e] at hu; exact .inr ⟨e, hu⟩
theorem set_at {α : Type} {l : List α} {i : Nat} {s s' : α} (h : l[i]? = some s) : (l.set i s')[i]? = some s' := by
  rw [set_get _ _ _ _ (List.getElem?_eq_some_iff.1 h).1, if_pos rfl]
theorem set_ne {α : Type} {l : List α} {i j : Nat} {s s' : α} (h : l[i]? = some s) (hn : i ≠ j) : (l.set i s')[j]? = l[j]? := by
  rw [set_get _ _ _ _ (List.getElem?_eq_some_iff.1 h).1, if_neg hn]
theorem Inv.write {x : Ar} (I : Inv x) (n g v : Int) : Inv (x.write n g v).1 := by
  unfold Ar.write
  cases h : x.find n g with
  | none => exact I
  | some s =>
    obtain ⟨h0, hs, hh, _⟩ := find_some h
    refine ⟨?_, I.pp, I.fl, I.hl, ?_, I.nd, ?_, ?_, by simpa using I.sl⟩
    · intro i u hu
      rcases at_set hs hu with ⟨_, rfl⟩ | ⟨_, hu⟩
      · exact I.pt _ s hs
      · exact I.pt _ _ hu
    · intro p l m hl
      rw [I.fr p l m hl]
      refine and_congr_right fun hm => ?_
      dsimp only
      by_cases e : n.toNat = m.toNat
      · rw [← e, set_at hs, hs]
        constructor
        · rintro ⟨u, hu, hp, hf⟩
          obtain rfl := Option.some.inj hu
          rw [hh] at hf; cases hf
        · rintro ⟨u, hu, hp, hf⟩
          obtain rfl := Option.some.inj hu
          rw [show ({ s with pay := v } : Sl).held = s.held from rfl, hh] at hf; cases hf
      · rw [set_ne hs e]
    · intro p hp
      have := cnt_set (fun s : Sl => s.held && s.part == (p : Int)) { s with pay := v } _ _ _ hs
      dsimp only at this ⊢
      rw [I.hs p hp]
      unfold cntH
      congr 2
      omega
    · intro i u hu hf
      rcases at_set hs hu with ⟨_, rfl⟩ | ⟨_, hu⟩
      · rw [show ({ s with pay := v } : Sl).held = s.held from rfl, hh] at hf; cases hf
      · exact I.pay _ _ hu hf
theorem Inv.alloc {x : Ar} (I : Inv x) (part : Int) : Inv (x.alloc part).1 := by
  unfold Ar.alloc
  by_cases hok : 0 ≤ part ∧ part < x.parts
  · rw [if_pos hok]
    obtain ⟨h0, h1⟩ := hok
    have hrow : x.free[part.toNat]? = some (Ls.rowAt x.free part) := rowAt_some ⟨h0, by rw [I.fl]; exact h1⟩
    cases hr : Ls.rowAt x.free part with
    | nil => exact I
    | cons n r =>
      rw [hr] at hrow
      obtain ⟨hn, s, hs, hp, hf⟩ := (I.fr _ _ n hrow).1 (by simp)
      obtain ⟨hh, _⟩ := I.cnt h0 h1
      have hnd := List.nodup_cons.1 (I.nd _ _ hrow)
      have hpt : ((part.toNat : Nat) : Int) = part := Int.toNat_of_nonneg h0
      dsimp only
      rw [hs]
      dsimp only
      rw [hh]
      refine ⟨?_, I.pp, by simpa using I.fl, by simpa using I.hl, ?_, ?_, ?_, ?_, by simpa using I.sl⟩
      · intro i u hu
        rcases at_set hs hu with ⟨_, rfl⟩ | ⟨_, hu⟩
        · exact I.pt _ s hs
        · exact I.pt _ _ hu
      · intro p l m hl
        dsimp only at hl ⊢
        rcases at_set hrow hl with ⟨rfl, rfl⟩ | ⟨hne, hl⟩
        · have hm := I.fr _ _ m hrow
          constructor
          · intro hmr
            obtain ⟨hm0, u, hu, hup, huf⟩ := hm.1 (by simp [hmr])
            refine ⟨hm0, u, ?_, hup, huf⟩
            rw [set_ne hs (fun e => hnd.1 (by rw [show n = m by omega]; exact hmr))]
            exact hu
          · rintro ⟨hm0, u, hu, hup, huf⟩
            rcases at_set hs hu with ⟨e, rfl⟩ | ⟨e, hu⟩
            · cases huf
            · have := hm.2 ⟨hm0, u, hu, hup, huf⟩
              rcases List.mem_cons.1 this with e2 | e2
              · exact absurd (by rw [e2]) e
              · exact e2
        · rw [I.fr p l m hl]
          refine and_congr_right fun hm => ?_
          by_cases e : n.toNat = m.toNat
          · rw [← e, set_at hs, hs]
            constructor
            · rintro ⟨u, hu, hup, _⟩
              obtain rfl := Option.some.inj hu
              omega
            · rintro ⟨u, hu, hup, _⟩
              obtain rfl := Option.some.inj hu
              dsimp only at hup
              omega
          · rw [set_ne hs e]
      · intro p l hl
        rcases at_set hrow hl with ⟨rfl, rfl⟩ | ⟨_, hl⟩
        · exact hnd.2
        · exact I.nd p l hl
      · intro p hp2
        have hc := cnt_set (fun s : Sl => s.held && s.part == (p : Int)) { s with held := true } _ _ _ hs
        have hq := I.hs p hp2
        dsimp only at hc ⊢
        rw [hf] at hc
        by_cases e : part.toNat = p
        · rw [← e, set_at hh, e]
          rw [show (s.part == (p : Int)) = true by simp; omega] at hc
          simp only [Bool.false_and, Bool.true_and, if_true, Bool.false_eq_true, if_false] at hc
          unfold cntH
          simp only [Option.getD_some, Option.some.injEq]
          omega
        · rw [set_ne hh e, hq]
          rw [show (s.part == (p : Int)) = false by simp; omega] at hc
          simp only [Bool.and_false, Bool.false_eq_true, if_false] at hc
          unfold cntH
          simp only [Option.some.injEq]
          omega
      · intro i u hu hf2
        rcases at_set hs hu with ⟨_, rfl⟩ | ⟨_, hu⟩
        · cases hf2
        · exact I.pay _ _ hu hf2
  · rw [if_neg hok]
    exact I
theorem Inv.drop {x : Ar} (I : Inv x) (n g : Int) : Inv (x.drop n g).1 := by
  unfold Ar.drop
  cases h : x.find n g with
  | none => exact I
  | some s =>
    obtain ⟨h0, hs, hhd, _⟩ := find_some h
    obtain ⟨p0, p1⟩ := I.pt _ _ hs
    obtain ⟨hh, _⟩ := I.cnt p0 p1
    have hpt : ((s.part.toNat : Nat) : Int) = s.part := Int.toNat_of_nonneg p0
    have hrow : x.free[s.part.toNat]? = some (Ls.rowAt x.free s.part) := rowAt_some ⟨p0, by rw [I.fl]; exact p1⟩
    have hno : ∀ (p : Nat) l, x.free[p]? = some l → n ∉ l := fun p l hl hm => by
      obtain ⟨_, u, hu, _, hf⟩ := (I.fr p l n hl).1 hm
      rw [hs] at hu
      obtain rfl := Option.some.inj hu
      rw [hhd] at hf
      cases hf
    have hnone : isIn x.free n = none := by
      unfold isIn
      rw [List.findIdx?_eq_none_iff]
      intro l hl
      obtain ⟨j, hj⟩ := List.getElem?_of_mem hl
      have := hno j l hj
      simp [this]
    have hpush : (aPush x.slots.length x.free s.part n false).1 = x.free.set s.part.toNat (Ls.rowAt x.free s.part ++ [n]) := by
      unfold aPush
      rw [if_pos ⟨⟨p0, by rw [I.fl]; exact p1⟩, ⟨h0, by have := (List.getElem?_eq_some_iff.1 hs).1; omega⟩⟩, hnone]
      rfl
    dsimp only
    rw [hh, hpush]
    refine ⟨?_, I.pp, by simpa using I.fl, by simpa using I.hl, ?_, ?_, ?_, ?_, by simpa using I.sl⟩
    · intro i u hu
      rcases at_set hs hu with ⟨_, rfl⟩ | ⟨_, hu⟩
      · exact I.pt _ s hs
      · exact I.pt _ _ hu
    · intro p l m hl
      dsimp only at hl ⊢
      rcases at_set hrow hl with ⟨rfl, rfl⟩ | ⟨hne, hl⟩
      · have hm := I.fr _ _ m hrow
        rw [List.mem_append, List.mem_singleton, hm]
        constructor
        · rintro (⟨hm0, u, hu, hup, huf⟩ | rfl)
          · refine ⟨hm0, u, ?_, hup, huf⟩
            rw [set_ne hs (fun e => by
              rw [← e, hs] at hu
              obtain rfl := Option.some.inj hu
              rw [hhd] at huf
              cases huf)]
            exact hu
          · exact ⟨h0, _, set_at hs, hpt.symm, rfl⟩
        · rintro ⟨hm0, u, hu, hup, huf⟩
          rcases at_set hs hu with ⟨e, rfl⟩ | ⟨e, hu⟩
          · exact .inr (by omega)
          · exact .inl ⟨hm0, u, hu, hup, huf⟩
      · rw [I.fr p l m hl]
        refine and_congr_right fun hm => ?_
        by_cases e : n.toNat = m.toNat
        · rw [← e, set_at hs, hs]
          constructor
          · rintro ⟨u, hu, hup, huf⟩
            obtain rfl := Option.some.inj hu
            rw [hhd] at huf
            cases huf
          · rintro ⟨u, hu, hup, _⟩
            obtain rfl := Option.some.inj hu
            dsimp only at hup
            omega
        · rw [set_ne hs e]
    · intro p l hl
      dsimp only at hl
      rcases at_set hrow hl with ⟨rfl, rfl⟩ | ⟨_, hl⟩
      · rw [List.nodup_append]
        refine ⟨I.nd _ _ hrow, by simp, fun a ha b hb e => ?_⟩
        simp only [List.mem_singleton] at hb
        subst hb
        subst e
        exact hno _ _ hrow ha
      · exact I.nd p l hl
    · intro p hp2
      have hc := cnt_set (fun s : Sl => s.held && s.part == (p : Int)) { s with held := false, pay := 0, gen := IntKind.u64.wrap (s.gen + 1) } _ _ _ hs
      have hq := I.hs p hp2
      dsimp only at hc ⊢
      rw [hhd] at hc
      by_cases e : s.part.toNat = p
      · rw [← e, set_at hh, e]
        rw [show (s.part == (p : Int)) = true by simp; omega] at hc
        simp only [Bool.false_and, Bool.true_and, if_true, Bool.false_eq_true, if_false] at hc
        unfold cntH
        simp only [Option.getD_some, Option.some.injEq]
        omega
      · rw [set_ne hh e, hq]
        rw [show (s.part == (p : Int)) = false by simp; omega] at hc
        simp only [Bool.and_false, Bool.false_eq_true, if_false] at hc
        unfold cntH
        simp only [Option.some.injEq]
        omega
    · intro i u hu hf2
      rcases at_set hs hu with ⟨_, rfl⟩ | ⟨_, hu⟩
      · rfl
      · exact I.pay _ _ hu hf2
theorem Inv.new {qs : List Int} (hok : okQ qs) : Inv (Ar.new qs) := by
  have hS : ∀ (i : Nat) s, (mkS qs qs.length)[i]? = some s → ∃ p : Nat, p < qs.length ∧ s = ⟨p, 0, 0, false⟩ := fun i s h => mkS_part h
  have hlen := mkS_len qs.length (fun i q _ h => (hok.2 i q h).2)
  have hq := hok.1
  refine ⟨?_, hok.1, by simp [Ar.new, rowsU], by simp [Ar.new], ?_, ?_, ?_, ?_, ?_⟩
  · intro i s h
    obtain ⟨p, hp, rfl⟩ := hS i s h
    exact ⟨by dsimp only; omega, by dsimp only [Ar.new]; omega⟩
  · intro p l n hl
    have hp : p < qs.length := by have := (List.getElem?_eq_some_iff.1 hl).1; simpa [Ar.new, rowsU] using this
    have e : l = rowU (mkS qs qs.length) (mkS qs qs.length).length p := by
      have := (rowsU_get (S := mkS qs qs.length) (i := (mkS qs qs.length).length) hp).symm.trans hl
      exact (Option.some.inj this).symm
    subst e
    unfold rowU
    constructor
    · intro hm
      obtain ⟨j, hj, rfl⟩ := List.mem_map.1 hm
      have h1 := (List.mem_filter.1 hj).2
      unfold isPart at h1
      cases hs : (mkS qs qs.length)[j]? with
      | none => rw [hs] at h1; cases h1
      | some s =>
        rw [hs] at h1
        obtain ⟨p', _, rfl⟩ := hS j s hs
        exact ⟨by omega, _, by simpa [Ar.new] using hs, by simpa using h1, rfl⟩
    · rintro ⟨h0, s, hs, hp2, _⟩
      have hs' : (mkS qs qs.length)[n.toNat]? = some s := hs
      refine List.mem_map.2 ⟨n.toNat, List.mem_filter.2 ⟨List.mem_range.2 (List.getElem?_eq_some_iff.1 hs').1, ?_⟩, by omega⟩
      unfold isPart
      rw [hs']
      simpa using hp2
  · intro p l hl
    have hp : p < qs.length := by have := (List.getElem?_eq_some_iff.1 hl).1; simpa [Ar.new, rowsU] using this
    have e : l = rowU (mkS qs qs.length) (mkS qs qs.length).length p := by
      have := (rowsU_get (S := mkS qs qs.length) (i := (mkS qs qs.length).length) hp).symm.trans hl
      exact (Option.some.inj this).symm
    subst e
    unfold rowU List.Nodup
    rw [List.pairwise_map]
    exact (List.nodup_range.filter _).imp (fun h e => h (by omega))
  · intro p hp
    have hz : cntH (mkS qs qs.length) p = 0 := by
      unfold cntH
      rw [List.countP_eq_zero]
      intro s hs
      obtain ⟨i, hi⟩ := List.getElem?_of_mem hs
      obtain ⟨p', _, rfl⟩ := hS i s hi
      simp
    have h16 : p < 16 := by have : p < qs.length := hp; omega
    show (List.replicate 16 (0 : Int))[p]? = some ((cntH (mkS qs qs.length) p : Nat) : Int)
    rw [hz, List.getElem?_replicate, if_pos h16]
    rfl
  · intro i s h _
    obtain ⟨p, hp, rfl⟩ := hS i s h
    rfl
  · show (mkS qs qs.length).length ≤ 65536
    omega
end Go.Proofs.YtjjaijabdfoanaaDoor.Arn
