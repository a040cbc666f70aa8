/- The sizes of partitions, as plain data. -/
import Derived.Test.YtjjaijabdfoanaaDoorArF
import Derived.Test.YtjjaijabdfoanaaDoorArH
import Derived.Test.YtjjaijabdfoanaaDoorArW3
set_option linter.unusedVariables false
namespace Go.Proofs.YtjjaijabdfoanaaDoor.Arn
open Go Go.RowKit Go.Proofs.YtjjaijabdfoanaaDoor.Sx Go.Proofs.YtjjaijabdfoanaaDoor.Ls
theorem filter_len {α : Type} (Q : α → Bool) (l : List α) : ∀ n, n ≤ l.length → ((List.range n).filter (fun i => match l[i]? with | some s => Q s | none => false)).length = (l.take n).countP Q := by
  intro n
  induction n with
  | zero => intro _; simp
  | succ n ih =>
    intro h
    have hn : l[n]? = some (l[n]'(by omega)) := List.getElem?_eq_getElem (by omega)
    rw [List.range_succ, List.filter_append, List.length_append, ih (by omega), List.take_add_one, List.countP_append, hn]
    cases hq : Q (l[n]'(by omega)) <;> simp [hn, hq]
theorem heldN_cnt (x : Ar) (p : Nat) : (heldN x (p : Int)).length = cntH x.slots p := by
  unfold heldN heldTo cntH
  have := filter_len (fun s : Sl => s.held && s.part == (p : Int)) x.slots x.slots.length (Nat.le_refl _)
  rw [List.take_length] at this
  rw [← this]
  refine congrArg List.length (congrArg (fun f => List.filter f _) (funext fun i => ?_))
  unfold isH
  cases x.slots[i]? <;> rfl
theorem free_cnt {x : Ar} (I : Inv x) {p : Nat} (hp : p < x.parts) : (Ls.rowAt x.free (p : Int)).length = x.slots.countP (fun s => !s.held && s.part == (p : Int)) := by
  have hrow : x.free[p]? = some (Ls.rowAt x.free (p : Int)) := by
    have := rowAt_some (ls := x.free) (i := (p : Int)) ⟨by omega, by rw [I.fl]; omega⟩
    simpa using this
  have h2 := filter_len (fun s : Sl => !s.held && s.part == (p : Int)) x.slots x.slots.length (Nat.le_refl _)
  rw [List.take_length] at h2
  rw [← h2]
  have hperm : (Ls.rowAt x.free (p : Int)).Perm (((List.range x.slots.length).filter (fun i => match x.slots[i]? with | some s => (!s.held && s.part == (p : Int)) | none => false)).map (fun j : Nat => (j : Int))) := by
    refine (List.perm_ext_iff_of_nodup (I.nd _ _ hrow) ?_).2 ?_
    · unfold List.Nodup
      rw [List.pairwise_map]
      exact (List.nodup_range.filter _).imp (fun h e => h (by omega))
    · intro n
      rw [I.fr _ _ n hrow]
      constructor
      · rintro ⟨h0, s, hs, hp2, hf⟩
        refine List.mem_map.2 ⟨n.toNat, List.mem_filter.2 ⟨List.mem_range.2 (List.getElem?_eq_some_iff.1 hs).1, ?_⟩, by omega⟩
        rw [hs]
        simp [hf, hp2]
      · intro hm
        obtain ⟨j, hj, rfl⟩ := List.mem_map.1 hm
        have h3 := (List.mem_filter.1 hj).2
        cases hs : x.slots[j]? with
        | none => rw [hs] at h3; cases h3
        | some s =>
          rw [hs] at h3
          simp only [Bool.and_eq_true, Bool.not_eq_true', beq_iff_eq] at h3
          exact ⟨by omega, s, by simpa using hs, h3.2, h3.1⟩
  rw [hperm.length_eq, List.length_map]
  refine congrArg List.length (congrArg (fun f => List.filter f _) (funext fun i => ?_))
  cases x.slots[i]? <;> rfl
theorem cnt_split (A : Sl → Bool) : ∀ l : List Sl, l.countP (fun s => s.held && A s) + l.countP (fun s => !s.held && A s) = l.countP A := by
  intro l
  induction l with
  | nil => rfl
  | cons a r ih =>
    simp only [List.countP_cons]
    cases a.held <;> cases A a <;> simp <;> omega
structure Sz (qs : List Int) (x : Ar) : Prop where
  I : Inv x
  pq : x.parts = qs.length
  lay : x.slots.map (·.part) = (mkS qs qs.length).map (·.part)
theorem lay_set {xs : List Sl} {i : Nat} {s s' : Sl} (h : xs[i]? = some s) (hp : s'.part = s.part) : (xs.set i s').map (·.part) = xs.map (·.part) := by
  apply List.ext_getElem?
  intro j
  rw [List.getElem?_map, List.getElem?_map]
  by_cases e : i = j
  · subst e; rw [set_at h, h]; simp [hp]
  · rw [set_ne h e]
section
variable {qs : List Int} {x : Ar}
theorem Sz.new (h : okQ qs) : Sz qs (Ar.new qs) := ⟨Inv.new h, rfl, rfl⟩
theorem Sz.write (h : Sz qs x) (n g v : Int) : Sz qs (x.write n g v).1 := by
  have h1 := h.I.write n g v
  revert h1
  unfold Ar.write
  cases hf : x.find n g with
  | none => exact fun _ => h
  | some s => exact fun h1 => ⟨h1, h.pq, (lay_set (s' := { s with pay := v }) (find_some hf).2.1 rfl).trans h.lay⟩
theorem Sz.drop (h : Sz qs x) (n g : Int) : Sz qs (x.drop n g).1 := by
  have h1 := h.I.drop n g
  cases hf : x.find n g with
  | none =>
    have e1 : x.drop n g = (x, 62) := by unfold Ar.drop; rw [hf]
    rw [e1]; exact h
  | some s =>
    rw [h.I.drop_eq hf] at h1 ⊢
    exact ⟨h1, h.pq, (lay_set (s' := { s with held := false, pay := 0, gen := IntKind.u64.wrap (s.gen + 1) }) (find_some hf).2.1 rfl).trans h.lay⟩
theorem Sz.alloc (h : Sz qs x) (p : Int) : Sz qs (x.alloc p).1 := by
  have h1 := h.I.alloc p
  by_cases hp : 0 ≤ p ∧ p < x.parts
  · rcases h.I.alloc_eq hp with ⟨_, e⟩ | ⟨n, r, s, _, _, hs, _, _, e⟩
    · rw [e]; exact h
    · rw [e] at h1 ⊢
      exact ⟨h1, h.pq, (lay_set (s' := { s with held := true }) hs rfl).trans h.lay⟩
  · rw [alloc_out_eq hp]; exact h
theorem Inv.alloc_read (I : Inv x) (p : Int) (h0 : (x.alloc p).2.2.2 = 0) : (x.alloc p).1.read (x.alloc p).2.1 (x.alloc p).2.2.1 = (0, 0) := by
  by_cases hp : 0 ≤ p ∧ p < x.parts
  · rcases I.alloc_eq hp with ⟨_, e⟩ | ⟨n, r, s, _, hn, hs, _, hf, e⟩
    · rw [e] at h0; cases h0
    · rw [e]
      have hfd : ({ x with slots := x.slots.set n.toNat { s with held := true }, hs := x.hs.set p.toNat ((x.hs[p.toNat]?).getD 0 + 1), free := x.free.set p.toNat r } : Ar).find n s.gen = some { s with held := true } := by
        unfold Ar.find
        rw [if_pos hn]
        dsimp only
        rw [set_at hs]
        dsimp only
        rw [if_pos ⟨rfl, rfl⟩]
      unfold Ar.read
      dsimp only
      rw [hfd]
      have := I.pay _ _ hs hf
      dsimp only
      rw [this]
  · rw [alloc_out_eq hp] at h0; cases h0
theorem mkS_add (qs : List Int) (a : Nat) : ∀ d, ∃ r, mkS qs (a + d) = mkS qs a ++ r := by
  intro d
  induction d with
  | zero => exact ⟨[], by simp⟩
  | succ d ih =>
    obtain ⟨r, e⟩ := ih
    refine ⟨r ++ List.replicate ((qs[a + d]?).getD 0).toNat ⟨((a + d : Nat) : Int), 0, 0, false⟩, ?_⟩
    rw [← List.append_assoc, ← e]
    show mkS qs (a + d + 1) = _
    unfold mkS
    rw [List.range_succ, List.flatMap_append]
    simp
theorem mkS_at {p k : Nat} {q : Int} (hq : qs[p]? = some q) (hk : (k : Int) < q) : (mkS qs qs.length)[(mkS qs p).length + k]? = some ⟨p, 0, 0, false⟩ := by
  have hp := (List.getElem?_eq_some_iff.1 hq).1
  obtain ⟨r, e⟩ := mkS_add qs (p + 1) (qs.length - (p + 1))
  rw [show p + 1 + (qs.length - (p + 1)) = qs.length by omega, mkS_succ hq, List.append_assoc] at e
  rw [e, List.getElem?_append_right (by omega), show (mkS qs p).length + k - (mkS qs p).length = k by omega, List.getElem?_append_left (by rw [List.length_replicate]; omega)]
  rw [List.getElem?_replicate, if_pos (by omega)]
theorem mkS_cnt {p : Nat} {q : Int} (hq : qs[p]? = some q) : ∀ m, m ≤ qs.length → (mkS qs m).countP (fun s => s.part == (p : Int)) = if p < m then q.toNat else 0 := by
  intro m
  induction m with
  | zero => intro _; simp [mkS]
  | succ m ih =>
    intro hm
    obtain ⟨q', hq'⟩ : ∃ q', qs[m]? = some q' := ⟨_, List.getElem?_eq_getElem (by omega)⟩
    rw [mkS_succ hq', List.countP_append, ih (by omega), List.countP_replicate]
    by_cases e : m = p
    · subst e
      rw [hq] at hq'
      obtain rfl := Option.some.inj hq'
      simp
    · have hne : ¬ ((m : Int) = (p : Int)) := by omega
      by_cases h : p < m
      · have h2 : p < m + 1 := by omega
        simp [hne, h, h2]
      · have h2 : ¬ p < m + 1 := by omega
        simp [hne, h, h2]
theorem Sz.len (h : Sz qs x) : x.slots.length = (mkS qs qs.length).length := by
  have := congrArg List.length h.lay
  simpa using this
theorem Sz.at (h : Sz qs x) {p k : Nat} {q : Int} (hq : qs[p]? = some q) (hk : (k : Int) < q) : ∃ s, x.slots[(mkS qs p).length + k]? = some s ∧ s.part = p := by
  have e := congrArg (fun l => l[(mkS qs p).length + k]?) h.lay
  simp only [List.getElem?_map, mkS_at hq hk] at e
  cases hs : x.slots[(mkS qs p).length + k]? with
  | none => rw [hs] at e; cases e
  | some s =>
    rw [hs] at e
    exact ⟨s, rfl, by simpa using e⟩
theorem Sz.sum (h : Sz qs x) {p : Nat} {q : Int} (hq : qs[p]? = some q) (h0 : 0 ≤ q) : ∃ c f : Nat, (x.counts (p : Int)).1 = c ∧ (x.counts (p : Int)).2.1 = f ∧ (x.counts (p : Int)).2.2 = 0 ∧ (c : Int) + f = q ∧ (names x (p : Int)).length = c := by
  have hp := (List.getElem?_eq_some_iff.1 hq).1
  have hpp : p < x.parts := by rw [h.pq]; exact hp
  have e : x.counts (p : Int) = ((x.hs[p]?).getD 0, ((Ls.rowAt x.free (p : Int)).length : Int), 0) := by
    unfold Ar.counts
    rw [if_pos ⟨by omega, by omega⟩]
    simp
  rw [e, h.I.hs p hpp]
  refine ⟨cntH x.slots p, (Ls.rowAt x.free (p : Int)).length, rfl, rfl, rfl, ?_, ?_⟩
  · rw [free_cnt h.I hpp]
    have h1 := cnt_split (fun s => s.part == (p : Int)) x.slots
    have h2 := mkS_cnt hq qs.length (Nat.le_refl _)
    rw [if_pos hp] at h2
    have h3 := congrArg (fun l : List Int => l.countP (fun z => z == (p : Int))) h.lay
    simp only [List.countP_map] at h3
    unfold cntH
    have h4 : x.slots.countP (fun s => s.part == (p : Int)) = (mkS qs qs.length).countP (fun s => s.part == (p : Int)) := h3
    omega
  · rw [names_len, heldN_cnt]
theorem part_end (x : Ar) (n : Nat) (h : x.slots.length ≤ n) : (x.part_ (n : Int)).2 = false := by
  unfold Ar.part_
  rw [if_neg (fun hk => by have := hk.2; omega)]
theorem look_at {s : Sl} {n : Nat} (hs : x.slots[n]? = some s) : (x.look (n : Int)).1 = s.pay ∧ (x.look (n : Int)).2.1 = s.gen ∧ (x.look (n : Int)).2.2 = s.held := by
  have := (List.getElem?_eq_some_iff.1 hs).1
  have e : x.look (n : Int) = (s.pay, s.gen, s.held) := by
    unfold Ar.look
    rw [if_pos (show x.okP (n : Int) from ⟨by omega, by omega⟩)]
    simp [hs]
  rw [e]
  exact ⟨rfl, rfl, rfl⟩
end
end Go.Proofs.YtjjaijabdfoanaaDoor.Arn
