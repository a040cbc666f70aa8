/- One partition knows nothing of another one: plain data; and two arenas in one memory. -/
import Derived.Test.YtjjaijabdfoanaaDoorArE
set_option linter.unusedVariables false
namespace Go.Proofs.YtjjaijabdfoanaaDoor.Arn
open Go Go.RowKit Go.Proofs.YtjjaijabdfoanaaDoor.Sx Go.Proofs.YtjjaijabdfoanaaDoor.Ls
theorem rowAt_set {ls : List (List Int)} {p : Int} {l : List Int} (h : okL ls p) : Ls.rowAt (ls.set p.toNat l) p = l := by
  unfold Ls.rowAt
  obtain ⟨h0, h1⟩ := h
  rw [List.getElem?_set, if_pos rfl, if_pos (by omega)]
  rfl
theorem rowAt_ne {ls : List (List Int)} {p q : Int} {l : List Int} (h0 : 0 ≤ p) (h1 : 0 ≤ q) (h : q ≠ p) : Ls.rowAt (ls.set q.toNat l) p = Ls.rowAt ls p := by
  unfold Ls.rowAt
  rw [List.getElem?_set, if_neg (by omega)]
theorem Inv.drop_eq {x : Ar} (I : Inv x) {n g : Int} {s : Sl} (h : x.find n g = some s) : x.drop n g = ({ x with slots := x.slots.set n.toNat { s with held := false, pay := 0, gen := IntKind.u64.wrap (s.gen + 1) }, hs := x.hs.set s.part.toNat ((x.hs[s.part.toNat]?).getD 0 - 1), free := x.free.set s.part.toNat (Ls.rowAt x.free s.part ++ [n]) }, 0) := by
  obtain ⟨h0, hs, hh, _⟩ := find_some h
  obtain ⟨p0, p1⟩ := I.pt _ _ hs
  have hnone : isIn x.free n = none := by
    unfold isIn
    rw [List.findIdx?_eq_none_iff]
    intro l hl
    obtain ⟨q, hq⟩ := List.getElem?_of_mem hl
    have : n ∉ l := fun hm => by
      obtain ⟨_, u, hu, _, hf⟩ := (I.fr q l n hq).1 hm
      rw [hs] at hu
      obtain rfl := Option.some.inj hu
      rw [hh] at hf
      cases hf
    simp [this]
  have hpush : aPush x.slots.length x.free s.part n false = (x.free.set s.part.toNat (Ls.rowAt x.free s.part ++ [n]), 0) := by
    unfold aPush
    rw [if_pos ⟨⟨p0, by rw [I.fl]; exact p1⟩, ⟨h0, by have := (List.getElem?_eq_some_iff.1 hs).1; omega⟩⟩, hnone]
    rfl
  unfold Ar.drop
  rw [h]
  dsimp only
  rw [hpush]
theorem Inv.alloc_eq {x : Ar} (I : Inv x) {p : Int} (h : 0 ≤ p ∧ p < x.parts) : (Ls.rowAt x.free p = [] ∧ x.alloc p = (x, 0, 0, 61)) ∨
    ∃ n r s, Ls.rowAt x.free p = n :: r ∧ 0 ≤ n ∧ x.slots[n.toNat]? = some s ∧ s.part = p ∧ s.held = false ∧ x.alloc p = ({ x with slots := x.slots.set n.toNat { s with held := true }, hs := x.hs.set p.toNat ((x.hs[p.toNat]?).getD 0 + 1), free := x.free.set p.toNat r }, n, s.gen, 0) := by
  have hrow : x.free[p.toNat]? = some (Ls.rowAt x.free p) := rowAt_some ⟨h.1, by rw [I.fl]; exact h.2⟩
  cases hr : Ls.rowAt x.free p with
  | nil => exact .inl ⟨rfl, by unfold Ar.alloc; rw [if_pos h, hr]⟩
  | cons n r =>
    rw [hr] at hrow
    obtain ⟨hn, s, hs, hp, hf⟩ := (I.fr _ _ n hrow).1 (by simp)
    refine .inr ⟨n, r, s, rfl, hn, hs, by omega, hf, ?_⟩
    unfold Ar.alloc
    rw [if_pos h, hr]
    dsimp only
    rw [hs]
theorem alloc_out_eq {x : Ar} {p : Int} (h : ¬ (0 ≤ p ∧ p < x.parts)) : x.alloc p = (x, 0, 0, 5) := by unfold Ar.alloc; rw [if_neg h]
structure Ap (p : Int) (a b : Ar) : Prop where
  Ia : Inv a
  Ib : Inv b
  pq : a.parts = b.parts
  ln : a.slots.length = b.slots.length
  sl : ∀ (i : Nat) s, a.slots[i]? = some s → ∃ t, b.slots[i]? = some t ∧ t.part = s.part ∧ (s.part = p → t = s)
  fr : 0 ≤ p → p < a.parts → Ls.rowAt a.free p = Ls.rowAt b.free p
theorem Ap.new {p : Int} {qs : List Int} (h : okQ qs) : Ap p (Ar.new qs) (Ar.new qs) := ⟨Inv.new h, Inv.new h, rfl, rfl, fun i s hs => ⟨s, hs, rfl, fun _ => rfl⟩, fun _ _ => rfl⟩
theorem sl_both {p : Int} {A B : List Sl} (h : ∀ (i : Nat) s, A[i]? = some s → ∃ t, B[i]? = some t ∧ t.part = s.part ∧ (s.part = p → t = s)) {i : Nat} {s s' : Sl} (hs : A[i]? = some s) :
    ∀ (j : Nat) u, (A.set i s')[j]? = some u → ∃ t, (B.set i s')[j]? = some t ∧ t.part = u.part ∧ (u.part = p → t = u) := by
  intro j u hu
  obtain ⟨t0, ht0, _⟩ := h i s hs
  rcases at_set hs hu with ⟨rfl, rfl⟩ | ⟨e, hu⟩
  · exact ⟨_, set_at ht0, rfl, fun _ => rfl⟩
  · obtain ⟨t, ht, h1, h2⟩ := h j u hu
    exact ⟨t, by rw [set_ne ht0 e]; exact ht, h1, h2⟩
theorem sl_one {p : Int} {A B : List Sl} (h : ∀ (i : Nat) s, A[i]? = some s → ∃ t, B[i]? = some t ∧ t.part = s.part ∧ (s.part = p → t = s)) {i : Nat} {s s' : Sl} (hs : A[i]? = some s) (hp : s'.part = s.part) (hne : s.part ≠ p) :
    ∀ (j : Nat) u, (A.set i s')[j]? = some u → ∃ t, B[j]? = some t ∧ t.part = u.part ∧ (u.part = p → t = u) := by
  intro j u hu
  rcases at_set hs hu with ⟨rfl, rfl⟩ | ⟨e, hu⟩
  · obtain ⟨t, ht, h1, _⟩ := h _ _ hs
    exact ⟨t, ht, by rw [h1, hp], fun e => absurd (hp.symm.trans e) hne⟩
  · exact h j u hu
theorem part_some {x : Ar} {N : Int} {s : Sl} (h0 : 0 ≤ N) (hs : x.slots[N.toNat]? = some s) : x.part_ N = (s.part, true) := by
  have := (List.getElem?_eq_some_iff.1 hs).1
  unfold Ar.part_
  rw [if_pos (show x.okP N from ⟨h0, by omega⟩), hs]
section
variable {p : Int} {a b : Ar}
theorem Ap.find (h : Ap p a b) {N : Int} (G : Int) (hN : (a.part_ N).1 = p) : a.find N G = b.find N G := by
  unfold Ar.find
  by_cases h0 : 0 ≤ N
  · rw [if_pos h0, if_pos h0]
    cases hs : a.slots[N.toNat]? with
    | none =>
      have e1 := List.getElem?_eq_none_iff.1 hs
      rw [List.getElem?_eq_none (by have := h.ln; omega)]
    | some s =>
      obtain ⟨t, ht, _, h2⟩ := h.sl _ _ hs
      rw [part_some h0 hs] at hN
      rw [ht, h2 hN]
  · rw [if_neg h0, if_neg h0]
theorem Ap.read (h : Ap p a b) {N : Int} (G : Int) (hN : (a.part_ N).1 = p) : a.read N G = b.read N G := by
  unfold Ar.read
  rw [h.find G hN]
theorem Ap.write (h : Ap p a b) {N : Int} (G v : Int) (hN : (a.part_ N).1 = p) : (a.write N G v).2 = (b.write N G v).2 ∧ Ap p (a.write N G v).1 (b.write N G v).1 := by
  have h1 := h.Ia.write N G v
  have h2 := h.Ib.write N G v
  have e := h.find G hN
  revert h1 h2
  unfold Ar.write
  rw [← e]
  cases hf : a.find N G with
  | none => exact fun _ _ => ⟨rfl, h⟩
  | some s =>
    obtain ⟨_, hs, _⟩ := find_some hf
    exact fun h1 h2 => ⟨rfl, h1, h2, h.pq, by simpa using h.ln, sl_both h.sl hs, h.fr⟩
theorem Ap.drop (h : Ap p a b) {N : Int} (G : Int) (hN : (a.part_ N).1 = p) : (a.drop N G).2 = (b.drop N G).2 ∧ Ap p (a.drop N G).1 (b.drop N G).1 := by
  have h1 := h.Ia.drop N G
  have h2 := h.Ib.drop N G
  have e := h.find G hN
  cases hf : a.find N G with
  | none =>
    have hb : b.find N G = none := by rw [← e]; exact hf
    have e1 : a.drop N G = (a, 62) := by unfold Ar.drop; rw [hf]
    have e2 : b.drop N G = (b, 62) := by unfold Ar.drop; rw [hb]
    rw [e1, e2]
    exact ⟨rfl, h⟩
  | some s =>
    have hb : b.find N G = some s := by rw [← e]; exact hf
    obtain ⟨h0, hs, _⟩ := find_some hf
    obtain ⟨p0, p1⟩ := h.Ia.pt _ _ hs
    rw [part_some h0 hs] at hN
    rw [h.Ia.drop_eq hf] at h1 ⊢
    rw [h.Ib.drop_eq hb] at h2 ⊢
    refine ⟨rfl, h1, h2, h.pq, by simpa using h.ln, sl_both h.sl hs, fun q0 q1 => ?_⟩
    dsimp only at hN q1 ⊢
    subst hN
    rw [rowAt_set ⟨p0, by rw [h.Ia.fl]; exact p1⟩, rowAt_set ⟨p0, by rw [h.Ib.fl, ← h.pq]; exact p1⟩, h.fr q0 q1]
theorem Ap.alloc (h : Ap p a b) : (a.alloc p).2 = (b.alloc p).2 ∧ Ap p (a.alloc p).1 (b.alloc p).1 := by
  have h1 := h.Ia.alloc p
  have h2 := h.Ib.alloc p
  by_cases hp : 0 ≤ p ∧ p < a.parts
  · have hp' : 0 ≤ p ∧ p < b.parts := by rw [← h.pq]; exact hp
    have e := h.fr hp.1 hp.2
    rcases h.Ia.alloc_eq hp with ⟨r1, e1⟩ | ⟨n, r, s, r1, hn, hs, hsp, hf, e1⟩
    · rcases h.Ib.alloc_eq hp' with ⟨r2, e2⟩ | ⟨n2, r2, s2, r2', _⟩
      · rw [e1, e2]; exact ⟨rfl, h⟩
      · rw [← e, r1] at r2'; cases r2'
    · rcases h.Ib.alloc_eq hp' with ⟨r2, e2⟩ | ⟨n2, r2, s2, r2', hn2, hs2, hsp2, hf2, e2⟩
      · rw [← e, r1] at r2; cases r2
      · rw [← e, r1] at r2'
        injection r2' with e3 e4
        subst e3
        subst e4
        obtain ⟨t, ht, _, ht2⟩ := h.sl _ _ hs
        rw [hs2] at ht
        obtain rfl := Option.some.inj ht
        obtain rfl := ht2 hsp
        rw [e1] at h1 ⊢
        rw [e2] at h2 ⊢
        refine ⟨rfl, h1, h2, h.pq, by simpa using h.ln, sl_both h.sl hs, fun q0 q1 => ?_⟩
        dsimp only at q1 ⊢
        rw [rowAt_set ⟨hp.1, by rw [h.Ia.fl]; exact hp.2⟩, rowAt_set ⟨hp.1, by rw [h.Ib.fl, ← h.pq]; exact hp.2⟩]
  · have hp' : ¬ (0 ≤ p ∧ p < b.parts) := by rw [← h.pq]; exact hp
    rw [alloc_out_eq hp, alloc_out_eq hp']
    exact ⟨rfl, h⟩
theorem Ap.write' (h : Ap p a b) {N : Int} (G v : Int) (hN : ¬ (a.part_ N).1 = p) : Ap p (a.write N G v).1 b := by
  have h1 := h.Ia.write N G v
  revert h1
  unfold Ar.write
  cases hf : a.find N G with
  | none => exact fun _ => h
  | some s =>
    obtain ⟨h0, hs, _⟩ := find_some hf
    rw [part_some h0 hs] at hN
    exact fun h1 => ⟨h1, h.Ib, h.pq, by simpa using h.ln, sl_one h.sl hs rfl hN, h.fr⟩
theorem Ap.drop' (h : Ap p a b) {N : Int} (G : Int) (hN : ¬ (a.part_ N).1 = p) : Ap p (a.drop N G).1 b := by
  have h1 := h.Ia.drop N G
  cases hf : a.find N G with
  | none =>
    have e1 : a.drop N G = (a, 62) := by unfold Ar.drop; rw [hf]
    rw [e1]
    exact h
  | some s =>
    obtain ⟨h0, hs, _⟩ := find_some hf
    obtain ⟨p0, p1⟩ := h.Ia.pt _ _ hs
    rw [part_some h0 hs] at hN
    rw [h.Ia.drop_eq hf] at h1 ⊢
    refine ⟨h1, h.Ib, h.pq, by simpa using h.ln, sl_one h.sl hs rfl hN, fun q0 q1 => ?_⟩
    dsimp only at q1 ⊢
    rw [rowAt_ne q0 p0 hN]
    exact h.fr q0 q1
theorem Ap.alloc' (h : Ap p a b) {q : Int} (hq : ¬ q = p) : Ap p (a.alloc q).1 b := by
  have h1 := h.Ia.alloc q
  by_cases hp : 0 ≤ q ∧ q < a.parts
  · rcases h.Ia.alloc_eq hp with ⟨_, e1⟩ | ⟨n, r, s, r1, hn, hs, hsp, hf, e1⟩
    · rw [e1]; exact h
    · rw [e1] at h1 ⊢
      refine ⟨h1, h.Ib, h.pq, by simpa using h.ln, sl_one h.sl hs rfl (by omega), fun q0 q1 => ?_⟩
      dsimp only at q1 ⊢
      rw [rowAt_ne q0 hp.1 hq]
      exact h.fr q0 q1
  · rw [alloc_out_eq hp]
    exact h
end
/-- Two arenas in one memory. -/
structure Tw (w0 w : World) (B1 B2 : Nat) (k1 k2 : AK) (a b : Ar) : Prop where
  K1 : ArAt w k1 a
  K2 : ArAt w k2 b
  F : Fr [] w0 w
  z1 : w0.heap.size ≤ k1.ap ∧ w0.heap.size ≤ k1.sb ∧ w0.heap.size ≤ k1.p ∧ w0.heap.size ≤ k1.nb ∧ w0.heap.size ≤ k1.hb
  y1 : k1.ap < B1 ∧ k1.sb < B1 ∧ k1.p < B1 ∧ k1.nb < B1 ∧ k1.hb < B1
  z2 : B1 ≤ k2.ap ∧ B1 ≤ k2.sb ∧ B1 ≤ k2.p ∧ B1 ≤ k2.nb ∧ B1 ≤ k2.hb
  y2 : k2.ap < B2 ∧ k2.sb < B2 ∧ k2.p < B2 ∧ k2.nb < B2 ∧ k2.hb < B2
  zB : B2 ≤ w.heap.size
  z0 : 0 < w0.heap.size
section
variable {w0 w w' : World} {B1 B2 : Nat} {k1 k2 : AK} {a b a' b' : Ar}
theorem Tw.fr0 (H : Tw w0 w B1 B2 k1 k2 a b) (f : Fr [] w w') : Tw w0 w' B1 B2 k1 k2 a b :=
  ⟨H.K1.fr0 f, H.K2.fr0 f, H.F.trans f, H.z1, H.y1, H.z2, H.y2, Nat.le_trans H.zB f.size, H.z0⟩
theorem Tw.own1 {q : Nat} (H : Tw w0 w B1 B2 k1 k2 a b) (f : Fr [q] w w') (h : B2 ≤ q) : Tw w0 w' B1 B2 k1 k2 a b := by
  have hy := H.y1
  have hz := H.z2
  have hy2 := H.y2
  have hz1 := H.z1
  have h0 := H.z0
  exact ⟨H.K1.fr f (by simp; omega) (fun _ => by simp; omega) (by simp; omega) (by simp; omega) (by simp; omega) (by simp; omega), H.K2.fr f (by simp; omega) (fun _ => by simp; omega) (by simp; omega) (by simp; omega) (by simp; omega) (by simp; omega),
    H.F.trans_new f (fun r hr => .inr (by obtain rfl := List.mem_singleton.1 hr; omega)), H.z1, H.y1, H.z2, H.y2, Nat.le_trans H.zB f.size, H.z0⟩
theorem Tw.ar1 (H : Tw w0 w B1 B2 k1 k2 a b) (K : ArAt w' k1 a') (f : Fr [k1.sb, k1.ap, k1.nb, k1.hb] w w') : Tw w0 w' B1 B2 k1 k2 a' b := by
  have hy := H.y1
  have hz := H.z2
  have hz1 := H.z1
  have h0 := H.z0
  exact ⟨K, H.K2.fr f (by simp; omega) (fun _ => by simp; omega) (by simp; omega) (by simp; omega) (by simp; omega) (by simp; omega), H.F.trans_new f (fun q hq => .inr (by simp only [List.mem_cons, List.not_mem_nil, or_false] at hq; omega)), H.z1, H.y1, H.z2, H.y2, Nat.le_trans H.zB f.size, H.z0⟩
theorem Tw.ar2 (H : Tw w0 w B1 B2 k1 k2 a b) (K : ArAt w' k2 b') (f : Fr [k2.sb, k2.ap, k2.nb, k2.hb] w w') : Tw w0 w' B1 B2 k1 k2 a b' := by
  have hy := H.y1
  have hz := H.z2
  have hz1 := H.z1
  have h0 := H.z0
  exact ⟨H.K1.fr f (by simp; omega) (fun _ => by simp; omega) (by simp; omega) (by simp; omega) (by simp; omega) (by simp; omega), K, H.F.trans_new f (fun q hq => .inr (by simp only [List.mem_cons, List.not_mem_nil, or_false] at hq; omega)), H.z1, H.y1, H.z2, H.y2, Nat.le_trans H.zB f.size, H.z0⟩
theorem Tw.bx1 (H : Tw w0 w B1 B2 k1 k2 a b) {q : Nat} {T : TypeId} {l : List Value} (c : Blk w q T l) (hq : B2 ≤ q) (f : Fr [k1.sb, k1.ap, k1.nb, k1.hb] w w') : Blk w' q T l := by
  have hy := H.y1
  have hz := H.z2
  have hy2 := H.y2
  exact c.fr f (by simp; omega)
theorem Tw.bx2 (H : Tw w0 w B1 B2 k1 k2 a b) {q : Nat} {T : TypeId} {l : List Value} (c : Blk w q T l) (hq : B2 ≤ q) (f : Fr [k2.sb, k2.ap, k2.nb, k2.hb] w w') : Blk w' q T l := by
  have hy2 := H.y2
  exact c.fr f (by simp; omega)
theorem blk_two {q : Nat} {T : TypeId} {c0 c1 x y : Value} {r : List Value} (h : Blk w q T (c0 :: c1 :: x :: y :: r)) : ∀ j v, [x, y][j]? = some v → w.cell? ⟨q, 2 + j, none⟩ = some v := by
  intro j v hv
  refine h.cell ?_
  match j, hv with
  | 0, hv => simpa using hv
  | 1, hv => simpa using hv
  | j + 2, hv => simp at hv
end
end Go.Proofs.YtjjaijabdfoanaaDoor.Arn
