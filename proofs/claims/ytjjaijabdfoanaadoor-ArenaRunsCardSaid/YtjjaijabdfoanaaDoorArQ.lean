/- The reference's New: what it has made so far. -/
import Derived.Test.YtjjaijabdfoanaaDoorArR
set_option linter.unusedVariables false
namespace Go.Proofs.YtjjaijabdfoanaaDoor.Arn
open Go Go.RowKit Go.Proofs.YtjjaijabdfoanaaDoor.Sx Go.Proofs.YtjjaijabdfoanaaDoor.Ls
/-- A row of numbers that is done: it lies behind rp, and in no block that is still written. -/
def RowO (w : World) (rp : Nat) (vc vf v7 v : Value) (l : List Int) : Prop :=
  ∃ A c, v = .slice A l.length c ∧ ((A = none → l = []) ∧ l.length ≤ c) ∧ (l = [] ∨ ∃ b, A = some ⟨b, 0, none⟩ ∧ rp < b ∧ (vc.ownBlock ≠ some b ∧ vf.ownBlock ≠ some b ∧ v7.ownBlock ≠ some b) ∧ b < w.heap.size ∧ ∀ j u, (ints l)[j]? = some u → w.cell? ⟨b, j, none⟩ = some u)
structure NW (w0 w : World) (rp : Nat) (As : Option Addr) (cs : Nat) (qs : List Int) (vc vf v7 : Value) (S : List Sl) (vs : List Value) (ls : List (List Int)) (l7 : List Int) : Prop where
  top : Blk w rp 79 [.slice As qs.length cs, vc, vf]
  oc : w.ownsRow (rp + 1) 81 3 vc S.length (flat encC S)
  of : w.ownsRow (rp + 1) 22 1 vf vs.length vs
  o7 : w.ownsRow (rp + 1) 3 1 v7 l7.length (ints l7)
  n1 : ∀ q, vc.ownBlock = some q → vf.ownBlock ≠ some q
  n2 : ∀ q, v7.ownBlock = some q → vc.ownBlock ≠ some q ∧ vf.ownBlock ≠ some q
  vl : vs.length = ls.length
  rows : ∀ (p : Nat) v l, vs[p]? = some v → ls[p]? = some l → RowO w rp vc vf v7 v l
  F : Fr [] w0 w
  so : w.ownsRow w0.heap.size 3 1 (.slice As qs.length cs) qs.length (ints qs)
  sr : ∀ q, (Value.slice As qs.length cs).ownBlock = some q → q < rp
  r0 : w0.heap.size ≤ rp
section
variable {w0 w w1 w2 : World} {rp cs : Nat} {As : Option Addr} {qs : List Int} {vc vf v7 vc' vf' v7' : Value} {S S' : List Sl} {vs : List Value} {ls : List (List Int)} {l7 l7' : List Int}
theorem NW.fr0 (H : NW w0 w rp As cs qs vc vf v7 S vs ls l7) (f : Fr [] w w1) : NW w0 w1 rp As cs qs vc vf v7 S vs ls l7 :=
  ⟨H.top.fr0 f, own_fr0 H.oc f, own_fr0 H.of f, own_fr0 H.o7 f, H.n1, H.n2, H.vl, fun p v l h1 h2 => by
    obtain ⟨A, c, e, h0, h | ⟨b, hA, hb, hn, hs, hc⟩⟩ := H.rows p v l h1 h2
    · exact ⟨A, c, e, h0, .inl h⟩
    · exact ⟨A, c, e, h0, .inr ⟨b, hA, hb, hn, Nat.lt_of_lt_of_le hs f.size, fun j u hu => f.cell (hc j u hu) (by simp)⟩⟩, H.F.trans f, own_fr0 H.so f, H.sr, H.r0⟩
theorem at_fresh {v v' : Value} {n : Nat} {b : Nat} (hat : v'.ownBlock = v.ownBlock ∨ v'.ownBlock = some n) (h1 : v.ownBlock ≠ some b) (h2 : b < n) : v'.ownBlock ≠ some b := by
  rcases hat with h | h <;> rw [h]
  · exact h1
  · intro e; have := Option.some.inj e; omega
theorem NW.app7 (H : NW w0 w rp As cs qs vc vf v7 S vs ls l7) (hg : w.grownBy w1 v7.ownBlock) (ho : w1.ownsRow (rp + 1) 3 1 v7' l7'.length (ints l7')) (hat : v7'.ownBlock = v7.ownBlock ∨ v7'.ownBlock = some w.heap.size) : NW w0 w1 rp As cs qs vc vf v7' S vs ls l7' := by
  have hge := own_ge H.o7
  have hno : ∀ b, v7.ownBlock ≠ some b → b ∉ v7.ownBlock.toList := fun b hb hm => by
    cases hv : v7.ownBlock with
    | none => rw [hv] at hm; simp at hm
    | some q => rw [hv] at hm hb; simp at hm; subst hm; exact hb rfl
  have fg := Fr.of_grown hg
  refine ⟨H.top.fr fg (hno _ (fun e => by have := hge _ e; omega)), H.oc.kept hg ?_, H.of.kept hg ?_, ho, H.n1, ?_, H.vl, ?_, H.F.grown hg (fun q hq => by have := hge q hq; have := H.r0; omega), H.so.kept hg ?_, H.sr, H.r0⟩
  · cases hv : vc.ownBlock with
    | none => exact .inl rfl
    | some q => exact .inr (fun e => (H.n2 q e.symm).1 hv)
  · cases hv : vf.ownBlock with
    | none => exact .inl rfl
    | some q => exact .inr (fun e => (H.n2 q e.symm).2 hv)
  · intro q hq
    rcases hat with h | h
    · exact H.n2 q (by rw [← h]; exact hq)
    · rw [h] at hq
      obtain rfl := Option.some.inj hq
      exact ⟨fun e => by have := (H.oc.lt _ e).2; omega, fun e => by have := (H.of.lt _ e).2; omega⟩
  · intro p v l h1 h2
    obtain ⟨A, c, e, h0, h | ⟨b, hA, hb, hn, hs, hc⟩⟩ := H.rows p v l h1 h2
    · exact ⟨A, c, e, h0, .inl h⟩
    · exact ⟨A, c, e, h0, .inr ⟨b, hA, hb, ⟨hn.1, hn.2.1, at_fresh hat hn.2.2 hs⟩, Nat.lt_of_lt_of_le hs fg.size, fun j u hu => fg.cell (hc j u hu) (hno _ hn.2.2)⟩⟩
  · cases hv : (Value.slice As qs.length cs).ownBlock with
    | none => exact .inl rfl
    | some q => exact .inr (fun e => by have := H.sr q hv; have := hge q e.symm; omega)
theorem NW.appc (H : NW w0 w rp As cs qs vc vf v7 S vs ls l7) (hg : w.grownBy w1 vc.ownBlock) (ho : w1.ownsRow (rp + 1) 81 3 vc' S'.length (flat encC S')) (hat : vc'.ownBlock = vc.ownBlock ∨ vc'.ownBlock = some w.heap.size)
    (f : Fr [rp] w1 w2) (top : Blk w2 rp 79 [.slice As qs.length cs, vc', vf]) : NW w0 w2 rp As cs qs vc' vf v7 S' vs ls l7 := by
  have hge := own_ge H.oc
  have hno : ∀ b, vc.ownBlock ≠ some b → b ∉ vc.ownBlock.toList := fun b hb hm => by
    cases hv : vc.ownBlock with
    | none => rw [hv] at hm; simp at hm
    | some q => rw [hv] at hm hb; simp at hm; subst hm; exact hb rfl
  have fg := Fr.of_grown hg
  have hS : ∀ q ∈ [rp], q < rp + 1 := by intro q hq; simp at hq; omega
  have o7 : w1.ownsRow (rp + 1) 3 1 v7 l7.length (ints l7) := H.o7.kept hg (by
    cases hv : v7.ownBlock with
    | none => exact .inl rfl
    | some q => exact .inr (fun e => (H.n2 q hv).1 e.symm))
  have of : w1.ownsRow (rp + 1) 22 1 vf vs.length vs := H.of.kept hg (by
    cases hv : vf.ownBlock with
    | none => exact .inl rfl
    | some q => exact .inr (fun e => H.n1 q e.symm hv))
  have so : w1.ownsRow w0.heap.size 3 1 (.slice As qs.length cs) qs.length (ints qs) := H.so.kept hg (by
    cases hv : (Value.slice As qs.length cs).ownBlock with
    | none => exact .inl rfl
    | some q => exact .inr (fun e => by have := H.sr q hv; have := hge q e.symm; omega))
  refine ⟨top, own_fr ho f hS, own_fr of f hS, own_fr o7 f hS, ?_, ?_, H.vl, ?_, (H.F.grown hg (fun q hq => by have := hge q hq; have := H.r0; omega)).trans_new f (fun q hq => .inr (by simp at hq; have := H.r0; omega)), ?_, H.sr, H.r0⟩
  · intro q hq
    rcases hat with h | h
    · exact H.n1 q (by rw [← h]; exact hq)
    · rw [h] at hq
      obtain rfl := Option.some.inj hq
      exact fun e => by have := (H.of.lt _ e).2; omega
  · intro q hq
    have h2 := H.n2 q hq
    exact ⟨at_fresh hat h2.1 (H.o7.lt q hq).2, h2.2⟩
  · intro p v l h1 h2
    obtain ⟨A, c, e, h0, h | ⟨b, hA, hb, hn, hs, hc⟩⟩ := H.rows p v l h1 h2
    · exact ⟨A, c, e, h0, .inl h⟩
    · exact ⟨A, c, e, h0, .inr ⟨b, hA, hb, ⟨at_fresh hat hn.1 hs, hn.2⟩, Nat.lt_of_lt_of_le (Nat.lt_of_lt_of_le hs fg.size) f.size, fun j u hu => f.cell (fg.cell (hc j u hu) (hno _ hn.1)) (by simp; omega)⟩⟩
  · obtain ⟨hl, h | ⟨g, cap, cur, e, hg0, hh, r⟩⟩ := so
    · exact ⟨hl, .inl h⟩
    · refine ⟨hl, .inr ⟨g, cap, cur, e, hg0, ?_, r⟩⟩
      have hgr : g < rp := H.sr g (by rw [e]; rfl)
      rw [f.keep g (Array.getElem?_eq_some_iff.1 hh).1 (by simp; omega)]
      exact hh
theorem NW.appf (H : NW w0 w rp As cs qs vc vf v7 S vs ls l7) (hg : w.grownBy w1 vf.ownBlock) (ho : w1.ownsRow (rp + 1) 22 1 vf' (vs ++ [v7]).length (vs ++ [v7])) (hat : vf'.ownBlock = vf.ownBlock ∨ vf'.ownBlock = some w.heap.size)
    (f : Fr [rp] w1 w2) (top : Blk w2 rp 79 [.slice As qs.length cs, vc, vf']) : NW w0 w2 rp As cs qs vc vf' (.slice none 0 0) S (vs ++ [v7]) (ls ++ [l7]) [] := by
  have hge := own_ge H.of
  have hno : ∀ b, vf.ownBlock ≠ some b → b ∉ vf.ownBlock.toList := fun b hb hm => by
    cases hv : vf.ownBlock with
    | none => rw [hv] at hm; simp at hm
    | some q => rw [hv] at hm hb; simp at hm; subst hm; exact hb rfl
  have fg := Fr.of_grown hg
  have hS : ∀ q ∈ [rp], q < rp + 1 := by intro q hq; simp at hq; omega
  have oc : w1.ownsRow (rp + 1) 81 3 vc S.length (flat encC S) := H.oc.kept hg (by
    cases hv : vc.ownBlock with
    | none => exact .inl rfl
    | some q => exact .inr (fun e => H.n1 q hv e.symm))
  have so : w1.ownsRow w0.heap.size 3 1 (.slice As qs.length cs) qs.length (ints qs) := H.so.kept hg (by
    cases hv : (Value.slice As qs.length cs).ownBlock with
    | none => exact .inl rfl
    | some q => exact .inr (fun e => by have := H.sr q hv; have := hge q e.symm; omega))
  refine ⟨top, own_fr oc f hS, own_fr ho f hS, own_nil _ _ _, ?_, (fun q hq => by cases hq), (by simp [H.vl]), ?_, (H.F.grown hg (fun q hq => by have := hge q hq; have := H.r0; omega)).trans_new f (fun q hq => .inr (by simp at hq; have := H.r0; omega)), ?_, H.sr, H.r0⟩
  · intro q hq
    exact at_fresh hat (H.n1 q hq) (H.oc.lt q hq).2
  · intro p v l h1 h2
    rcases Nat.lt_or_ge p vs.length with hp | hp
    · rw [List.getElem?_append_left hp] at h1
      rw [List.getElem?_append_left (by rw [← H.vl]; exact hp)] at h2
      obtain ⟨A, c, e, h0, h | ⟨b, hA, hb, hn, hs, hc⟩⟩ := H.rows p v l h1 h2
      · exact ⟨A, c, e, h0, .inl h⟩
      · exact ⟨A, c, e, h0, .inr ⟨b, hA, hb, ⟨hn.1, at_fresh hat hn.2.1 hs, fun e => by cases e⟩, Nat.lt_of_lt_of_le (Nat.lt_of_lt_of_le hs fg.size) f.size, fun j u hu => f.cell (fg.cell (hc j u hu) (hno _ hn.2.1)) (by simp; omega)⟩⟩
    · have hlt := (List.getElem?_eq_some_iff.1 h1).1
      simp only [List.length_append, List.length_cons, List.length_nil] at hlt
      obtain rfl : p = vs.length := by omega
      rw [List.getElem?_append_right (Nat.le_refl _), Nat.sub_self] at h1
      rw [List.getElem?_append_right (by rw [H.vl]; exact Nat.le_refl _), H.vl, Nat.sub_self] at h2
      obtain rfl := Option.some.inj h1
      obtain rfl := Option.some.inj h2
      have h' := H.o7
      obtain ⟨A, c, e, h⟩ := own_slice h'
      have hcp := own_cap (e ▸ h')
      have hl : ints l7 = [] → l7 = [] := fun h => by simpa [ints] using h
      rcases h with h | h | ⟨b, rfl, hb, hs, hc⟩
      · exact ⟨A, c, e, ⟨fun _ => hl h, hcp⟩, .inl (hl h)⟩
      · exact ⟨A, c, e, ⟨fun _ => List.eq_nil_of_length_eq_zero h, hcp⟩, .inl (List.eq_nil_of_length_eq_zero h)⟩
      · have hq : v7.ownBlock = some b := by rw [e]; rfl
        have hn := H.n2 b hq
        exact ⟨_, c, e, ⟨fun h => (by cases h), hcp⟩, .inr ⟨b, rfl, by omega, ⟨hn.1, at_fresh hat hn.2 hs, fun e => by cases e⟩, Nat.lt_of_lt_of_le (Nat.lt_of_lt_of_le hs fg.size) f.size, fun j u hu => f.cell (fg.cell (hc j u hu) (hno _ hn.2)) (by simp; omega)⟩⟩
  · obtain ⟨hl, h | ⟨g, cap, cur, e, hg0, hh, r⟩⟩ := so
    · exact ⟨hl, .inl h⟩
    · refine ⟨hl, .inr ⟨g, cap, cur, e, hg0, ?_, r⟩⟩
      have hgr : g < rp := H.sr g (by rw [e]; rfl)
      rw [f.keep g (Array.getElem?_eq_some_iff.1 hh).1 (by simp; omega)]
      exact hh
/-- The rows as they are made. -/
def rowF (qs : List Int) (p : Nat) : List Int := (List.range ((qs[p]?).getD 0).toNat).map fun k : Nat => (((mkS qs p).length + k : Nat) : Int)
def rowsF (qs : List Int) (m : Nat) : List (List Int) := (List.range m).map (rowF qs)
theorem mkS_part_at {qs : List Int} (hok : okQ qs) {j : Nat} {s : Sl} (h : (mkS qs qs.length)[j]? = some s) {p : Nat} {q : Int} (hq : qs[p]? = some q) : s.part = (p : Int) ↔ (mkS qs p).length ≤ j ∧ (j : Int) < (mkS qs p).length + q := by
  have hp := (List.getElem?_eq_some_iff.1 hq).1
  obtain ⟨hq0, _⟩ := hok.2 p q hq
  obtain ⟨r, e⟩ := mkS_add qs (p + 1) (qs.length - (p + 1))
  rw [show p + 1 + (qs.length - (p + 1)) = qs.length by omega, mkS_succ hq, List.append_assoc] at e
  constructor
  · intro hs
    rcases Nat.lt_or_ge j (mkS qs p).length with h1 | h1
    · exfalso
      rw [e, List.getElem?_append_left h1] at h
      obtain ⟨p', hp', rfl⟩ := mkS_part h
      simp at hs
      omega
    · refine ⟨h1, ?_⟩
      by_cases h2 : (j : Int) < (mkS qs p).length + q
      · exact h2
      · exfalso
        have hlen : (mkS qs (p + 1)).length = (mkS qs p).length + q.toNat := by rw [mkS_succ hq, List.length_append, List.length_replicate]
        have key : ∀ d, p + 1 + d ≤ qs.length → ∀ i s, (mkS qs (p + 1)).length ≤ i → (mkS qs (p + 1 + d))[i]? = some s → s.part ≠ (p : Int) := by
          intro d
          induction d with
          | zero => intro _ i s hi hs; rw [List.getElem?_eq_none (by simpa using hi)] at hs; cases hs
          | succ d ih =>
            intro hd i s hi hs
            obtain ⟨q', hq'⟩ : ∃ q', qs[p + 1 + d]? = some q' := ⟨_, List.getElem?_eq_getElem (by omega)⟩
            rw [show p + 1 + (d + 1) = (p + 1 + d) + 1 by omega, mkS_succ hq'] at hs
            rcases Nat.lt_or_ge i (mkS qs (p + 1 + d)).length with h3 | h3
            · rw [List.getElem?_append_left h3] at hs
              exact ih (by omega) i s hi hs
            · rw [List.getElem?_append_right h3, List.getElem?_replicate] at hs
              split at hs
              · obtain rfl := Option.some.inj hs
                simp
                omega
              · cases hs
        exact key (qs.length - (p + 1)) (by omega) j s (by omega) (by rw [show p + 1 + (qs.length - (p + 1)) = qs.length by omega]; exact h) hs
  · rintro ⟨h1, h2⟩
    rw [e, List.getElem?_append_right h1, List.getElem?_append_left (by rw [List.length_replicate]; omega), List.getElem?_replicate, if_pos (by omega)] at h
    obtain rfl := Option.some.inj h
    rfl
theorem filter_range_iv (P : Nat → Bool) (a d : Nat) : ∀ N, a + d ≤ N → (∀ j, j < N → (P j = true ↔ a ≤ j ∧ j < a + d)) → (List.range N).filter P = (List.range d).map (a + ·) := by
  intro N hN hP
  obtain ⟨e, rfl⟩ : ∃ e, N = a + d + e := ⟨N - (a + d), by omega⟩
  rw [List.range_add, List.range_add, List.filter_append, List.filter_append]
  have h1 : (List.range a).filter P = [] := by
    rw [List.filter_eq_nil_iff]
    intro j hj hp
    have hj := List.mem_range.1 hj
    have := (hP j (by omega)).1 hp
    omega
  have h2 : ((List.range d).map (a + ·)).filter P = (List.range d).map (a + ·) := by
    rw [List.filter_eq_self]
    intro j hj
    obtain ⟨k, hk, rfl⟩ := List.mem_map.1 hj
    have hk := List.mem_range.1 hk
    exact (hP _ (by omega)).2 ⟨by omega, by omega⟩
  have h3 : ((List.range e).map (a + d + ·)).filter P = [] := by
    rw [List.filter_eq_nil_iff]
    intro j hj hp
    obtain ⟨k, hk, rfl⟩ := List.mem_map.1 hj
    have hk := List.mem_range.1 hk
    have := (hP _ (by omega)).1 hp
    omega
  rw [h1, h2, h3]
  simp
theorem rowsF_eq {qs : List Int} (hok : okQ qs) : rowsF qs qs.length = rowsU (mkS qs qs.length) qs.length (mkS qs qs.length).length := by
  unfold rowsF rowsU
  apply List.map_congr_left
  intro p hp
  have hp := List.mem_range.1 hp
  obtain ⟨q, hq⟩ : ∃ q, qs[p]? = some q := ⟨_, List.getElem?_eq_getElem hp⟩
  obtain ⟨hq0, _⟩ := hok.2 p q hq
  have hle : (mkS qs p).length + q.toNat ≤ (mkS qs qs.length).length := by
    obtain ⟨r, e⟩ := mkS_add qs (p + 1) (qs.length - (p + 1))
    rw [show p + 1 + (qs.length - (p + 1)) = qs.length by omega, mkS_succ hq] at e
    rw [e]
    simp only [List.length_append, List.length_replicate]
    omega
  unfold rowF rowU
  rw [hq, filter_range_iv (isPart (mkS qs qs.length) p) (mkS qs p).length q.toNat _ hle]
  · simp
  · intro j hj
    unfold isPart
    rw [List.getElem?_eq_getElem hj]
    have := mkS_part_at hok (List.getElem?_eq_getElem hj) hq
    simp only [beq_iff_eq]
    rw [this]
    omega
/-- All is made. -/
theorem NW.done (H : NW w0 w rp As cs qs vc vf v7 (mkS qs qs.length) vs (rowsF qs qs.length) l7) (hok : okQ qs) : ∃ r : RK, r.rp = rp ∧ RAt w w0.heap.size w.heap.size r qs (Ar.new qs) := by
  have hr0 := H.r0
  have hrl := H.top.lt
  have hvl : vs.length = qs.length := by rw [H.vl]; simp [rowsF]
  have hq := hok.1
  have hfree : (Ar.new qs).free = rowsF qs qs.length := (rowsF_eq hok).symm
  have hflen : (Ar.new qs).free.length = vs.length := by rw [hfree, H.vl]
  rcases own_blk H.of with ⟨_, h0, _⟩ | ⟨fb, cf, restf, hvf, hfb, _, bF⟩
  · omega
  have hF1 : vf.ownBlock = some fb := by rw [hvf]; rfl
  have mkr : ∀ cb, (w0.heap.size ≤ cb ∧ cb < w.heap.size) → cb ≠ fb → (∀ b, rp < b → vc.ownBlock ≠ some b → b ≠ cb) → (∀ b, b < rp → b ≠ cb) → ∀ (Ac : Option Addr) (cc : Nat), vc = .slice Ac (mkS qs qs.length).length cc →
      (mkS qs qs.length ≠ [] → Ac = some ⟨cb, 0, none⟩ ∧ ∃ rest, Blk w cb 81 (flat encC (mkS qs qs.length) ++ rest)) → ∃ r : RK, r.rp = rp ∧ RAt w w0.heap.size w.heap.size r qs (Ar.new qs) := by
    intro cb hcb hcf hrow hsz Ac cc hvc hcl
    refine ⟨⟨rp, cb, fb, cs, cc, cf, As, Ac⟩, rfl, ?_, ?_, hcl, ?_, ⟨⟨hr0, hrl⟩, hcb, ⟨by dsimp only; omega, bF.lt⟩⟩, Nat.le_refl _, hcf, hq.2⟩
    · have := H.top
      rw [hvc, hvf, ← hflen] at this
      exact this
    · intro j q hj
      obtain ⟨A, c, e, h⟩ := own_slice H.so
      have hjl := (List.getElem?_eq_some_iff.1 hj).1
      rcases h with h | h | ⟨b, rfl, hb, hs, hc⟩
      · have : qs = [] := by simpa [ints] using h
        subst this; simp at hjl
      · omega
      · injection e with e1
        subst e1
        have hbr : b < rp := H.sr b rfl
        exact ⟨b, rfl, hb, hs, ⟨hsz b hbr, by dsimp only; omega⟩, by rw [Nat.mul_one]; exact hc j _ (by simp [ints, hj])⟩
    · refine ⟨vs, restf, bF, hflen.symm, fun i v l h1 h2 => ?_⟩
      rw [hfree] at h2
      obtain ⟨A, c, e, h0, h | ⟨b, hA, hb, hn, hs, hc⟩⟩ := H.rows i v l h1 h2
      · exact ⟨A, c, e, h0, .inl h⟩
      · exact ⟨A, c, e, h0, .inr ⟨b, hA, by omega, ⟨hrow b hb hn.1, fun e => hn.2.1 (by rw [hF1, e])⟩, hs, hc⟩⟩
  rcases own_blk H.oc with ⟨hvc, h0, _⟩ | ⟨cb, cc, restc, hvc, hcb, _, bC⟩
  · refine mkr rp ⟨hr0, hrl⟩ (by omega) (fun b h _ => by omega) (fun b h => by omega) none 0 (by rw [hvc, h0]) (fun h => absurd (List.eq_nil_of_length_eq_zero h0) h)
  · have hC1 : vc.ownBlock = some cb := by rw [hvc]; rfl
    refine mkr cb ⟨by omega, bC.lt⟩ (fun e => H.n1 cb hC1 (by rw [hF1, e])) (fun b _ h e => h (by rw [hC1, e])) (fun b h => by omega) _ cc hvc (fun _ => ⟨rfl, restc, bC⟩)
theorem Sz.hlr {x : Ar} (h : Sz qs x) : ∀ (i : Nat) l, x.free[i]? = some l → l.length ≤ 65536 := by
  intro i l hl
  have hi : i < x.parts := by rw [← h.I.fl]; exact (List.getElem?_eq_some_iff.1 hl).1
  have e : Ls.rowAt x.free (i : Int) = l := rowAt_nat hl
  have := free_cnt h.I hi
  rw [e] at this
  rw [this]
  exact Nat.le_trans List.countP_le_length h.I.sl
/-- The arena and the reference's, side by side. -/
structure Bt (w0 w : World) (k : AK) (r : RK) (B0 B : Nat) (qs : List Int) (x : Ar) : Prop where
  K : ArAt w k x
  R : RAt w B0 B r qs x
  S : Sz qs x
  F : Fr [] w0 w
  zk : w0.heap.size ≤ k.ap ∧ w0.heap.size ≤ k.sb ∧ w0.heap.size ≤ k.p ∧ w0.heap.size ≤ k.nb ∧ w0.heap.size ≤ k.hb
  zb : k.ap < B0 ∧ k.sb < B0 ∧ k.p < B0 ∧ k.nb < B0 ∧ k.hb < B0
theorem Bt.fr0 {k : AK} {r : RK} {B0 B : Nat} {x : Ar} (H : Bt w0 w k r B0 B qs x) (f : Fr [] w w1) : Bt w0 w1 k r B0 B qs x := ⟨H.K.fr0 f, H.R.fr0 f, H.S, H.F.trans f, H.zk, H.zb⟩
def stepX (x : Ar) (kd pt nn gg xx : Int) : Ar := if kd = 1 then (x.alloc pt).1 else if kd = 2 then (x.write nn gg xx).1 else if kd = 4 then (x.drop nn gg).1 else x
theorem Sz.step {x : Ar} (h : Sz qs x) (kd pt nn gg xx : Int) : Sz qs (stepX x kd pt nn gg xx) := by
  unfold stepX
  split
  · exact h.alloc pt
  · split
    · exact h.write nn gg xx
    · split
      · exact h.drop nn gg
      · exact h
end
end Go.Proofs.YtjjaijabdfoanaaDoor.Arn
