/- The reference's arena in memory, told by the arena itself. -/
import Derived.Test.YtjjaijabdfoanaaDoorArS
import Derived.Test.YtjjaijabdfoanaaDoorSxG
import Derived.Test.YtjjaijabdfoanaaDoorLsV
set_option linter.unusedVariables false
namespace Go.Proofs.YtjjaijabdfoanaaDoor.Arn
open Go Go.RowKit Go.Proofs.YtjjaijabdfoanaaDoor.Sx Go.Proofs.YtjjaijabdfoanaaDoor.Ls
def encC (s : Sl) : List Value := [.int .u64 s.pay, .int .u64 s.gen, .bool s.held]
theorem lenC (s : Sl) : (encC s).length = 3 := rfl
theorem oneC (u : Sl) : ∀ v ∈ encC u, v.oneCell' = true := by intro v hv; simp only [encC, List.mem_cons, List.not_mem_nil, or_false] at hv; rcases hv with rfl | rfl | rfl <;> rfl
/-- A row of numbers that lies from B0 on, in neither of two blocks. -/
def RowQ (w : World) (B0 cb fb : Nat) (v : Value) (l : List Int) : Prop :=
  ∃ A c, v = .slice A l.length c ∧ ((A = none → l = []) ∧ l.length ≤ c) ∧ (l = [] ∨ ∃ b, A = some ⟨b, 0, none⟩ ∧ B0 ≤ b ∧ (b ≠ cb ∧ b ≠ fb) ∧ b < w.heap.size ∧ ∀ j u, (ints l)[j]? = some u → w.cell? ⟨b, j, none⟩ = some u)
theorem RowQ.fr {S : List Nat} {w w' : World} {B0 cb fb : Nat} {v : Value} {l : List Int} (h : RowQ w B0 cb fb v l) (k : Fr S w w') (hS : ∀ q ∈ S, q < B0 ∨ q = cb ∨ q = fb) : RowQ w' B0 cb fb v l := by
  obtain ⟨A, c, e, h0, h | ⟨b, hA, hb, hn, hs, hc⟩⟩ := h
  · exact ⟨A, c, e, h0, .inl h⟩
  · exact ⟨A, c, e, h0, .inr ⟨b, hA, hb, hn, Nat.lt_of_lt_of_le hs k.size, fun j u hu => k.cell (hc j u hu) (fun hm => by have := hS _ hm; dsimp only at this; omega)⟩⟩
theorem RowQ.own {w : World} {B0 cb fb base : Nat} {v : Value} {l : List Int} (h : w.ownsRow base 3 1 v l.length (ints l)) (hB : B0 ≤ base) (hn : ∀ b, v.ownBlock = some b → b ≠ cb ∧ b ≠ fb) : RowQ w B0 cb fb v l := by
  have h' := h
  obtain ⟨A, c, e, h⟩ := own_slice h
  have hcp := own_cap (e ▸ h')
  have hl : ∀ {l : List Int}, ints l = [] → l = [] := fun h => by simpa [ints] using h
  rcases h with h | h | ⟨b, rfl, hb, hs, hc⟩
  · exact ⟨A, c, e, ⟨fun _ => hl h, hcp⟩, .inl (hl h)⟩
  · exact ⟨A, c, e, ⟨fun _ => List.eq_nil_of_length_eq_zero h, hcp⟩, .inl (List.eq_nil_of_length_eq_zero h)⟩
  · exact ⟨_, c, e, ⟨fun h => (by cases h), hcp⟩, .inr ⟨b, rfl, by omega, hn b (by rw [e]; rfl), hs, hc⟩⟩
structure RK where
  rp : Nat
  cb : Nat
  fb : Nat
  cs : Nat
  cc : Nat
  cf : Nat
  As : Option Addr
  Ac : Option Addr
structure RAt (w : World) (B0 B : Nat) (r : RK) (qs : List Int) (x : Ar) : Prop where
  top : Blk w r.rp 79 [.slice r.As qs.length r.cs, .slice r.Ac x.slots.length r.cc, .slice (some ⟨r.fb, 0, none⟩) x.free.length r.cf]
  sz : ∀ (j : Nat) q, qs[j]? = some q → ∃ b, r.As = some ⟨b, 0, none⟩ ∧ B0 ≤ b ∧ b < B ∧ (b ≠ r.cb ∧ b ≠ r.fb) ∧ w.cell? ⟨b, j * 1, none⟩ = some (.int .i64 q)
  cl : x.slots ≠ [] → r.Ac = some ⟨r.cb, 0, none⟩ ∧ ∃ rest, Blk w r.cb 81 (flat encC x.slots ++ rest)
  fr : ∃ vs rest, Blk w r.fb 22 (vs ++ rest) ∧ vs.length = x.free.length ∧ ∀ (i : Nat) v l, vs[i]? = some v → x.free[i]? = some l → RowQ w B0 r.cb r.fb v l
  zB : (B0 ≤ r.rp ∧ r.rp < B) ∧ (B0 ≤ r.cb ∧ r.cb < B) ∧ (B0 ≤ r.fb ∧ r.fb < B)
  sB : B ≤ w.heap.size
  zn : r.cb ≠ r.fb
  ql : qs.length ≤ 16
section
variable {w w' : World} {B0 B : Nat} {r : RK} {qs : List Int} {x : Ar}
theorem RAt.frS {S : List Nat} (R : RAt w B0 B r qs x) (k : Fr S w w') (hS : ∀ q ∈ S, q < B0) : RAt w' B0 B r qs x := by
  obtain ⟨⟨a1, a2⟩, ⟨b1, b2⟩, ⟨c1, c2⟩⟩ := R.zB
  have no : ∀ q, B0 ≤ q → q ∉ S := fun q hq hm => by have := hS q hm; omega
  obtain ⟨vs, rest, hb, hl, hv⟩ := R.fr
  exact ⟨R.top.fr k (no _ a1), fun j q h => let ⟨b, e, h1, h2, h3, h4⟩ := R.sz j q h; ⟨b, e, h1, h2, h3, k.cell h4 (no _ h1)⟩, fun h => let ⟨e, rest, b⟩ := R.cl h; ⟨e, rest, b.fr k (no _ b1)⟩,
    ⟨vs, rest, hb.fr k (no _ c1), hl, fun i v l h1 h2 => (hv i v l h1 h2).fr k (fun q hq => .inl (hS q hq))⟩, R.zB, Nat.le_trans R.sB k.size, R.zn, R.ql⟩
theorem RAt.fr0 (R : RAt w B0 B r qs x) (k : Fr [] w w') : RAt w' B0 B r qs x := R.frS k (by simp)
theorem RAt.c0 (R : RAt w B0 B r qs x) : w.cell? ⟨r.rp, 0, none⟩ = some (.slice r.As qs.length r.cs) := R.top.cell rfl
theorem RAt.c1 (R : RAt w B0 B r qs x) : w.cell? ⟨r.rp, 1, none⟩ = some (.slice r.Ac x.slots.length r.cc) := R.top.cell rfl
theorem RAt.c1' (R : RAt w B0 B r qs x) (h : x.slots ≠ []) : w.cell? ⟨r.rp, 1, none⟩ = some (.slice (some ⟨r.cb, 0, none⟩) x.slots.length r.cc) := by rw [R.c1, (R.cl h).1]
theorem RAt.c2 (R : RAt w B0 B r qs x) : w.cell? ⟨r.rp, 2, none⟩ = some (.slice (some ⟨r.fb, 0, none⟩) x.free.length r.cf) := R.top.cell rfl
theorem RAt.cCl (R : RAt w B0 B r qs x) {i j : Nat} {s : Sl} {v : Value} (hi : x.slots[i]? = some s) (hj : (encC s)[j]? = some v) : w.cell? ⟨r.cb, i * 3 + j, none⟩ = some v := by
  obtain ⟨_, rest, b⟩ := R.cl (ne_of_at hi)
  have hj3 : j < 3 := by have := (List.getElem?_eq_some_iff.1 hj).1; rwa [lenC] at this
  refine b.cell ?_
  have hf := flat_get lenC hi hj3
  rw [hj] at hf
  rw [List.getElem?_append_left (List.getElem?_eq_some_iff.1 hf).1]
  exact hf
theorem RAt.row (R : RAt w B0 B r qs x) {p : Nat} {l : List Int} (h : x.free[p]? = some l) : ∃ A c, w.cell? ⟨r.fb, p * 1, none⟩ = some (.slice A l.length c) ∧ RowQ w B0 r.cb r.fb (.slice A l.length c) l := by
  obtain ⟨vs, rest, hb, hl, hv⟩ := R.fr
  have hp : p < vs.length := by rw [hl]; exact (List.getElem?_eq_some_iff.1 h).1
  have h1 : vs[p]? = some vs[p] := List.getElem?_eq_getElem hp
  have hr := hv p _ l h1 h
  obtain ⟨A, c, e, rest2⟩ := hr
  refine ⟨A, c, ?_, A, c, rfl, rest2⟩
  rw [Nat.mul_one]
  refine hb.cell ?_
  rw [List.getElem?_append_left hp, h1, e]
/-- A cell of the reference is written. -/
theorem RAt.setC (R : RAt w B0 B r qs x) {i : Nat} {s s' : Sl} (hi : x.slots[i]? = some s) {cs cs' : List Value} (b0 : Blk w r.cb 81 cs) (b : Blk w' r.cb 81 cs') (he : ∀ rest, cs = flat encC x.slots ++ rest → cs' = flat encC (x.slots.set i s') ++ rest) (f : Fr [r.cb] w w') :
    RAt w' B0 B r qs { x with slots := x.slots.set i s' } := by
  obtain ⟨⟨a1, a2⟩, ⟨d1, d2⟩, ⟨c1, c2⟩⟩ := R.zB
  obtain ⟨e, rest, b1⟩ := R.cl (ne_of_at hi)
  have hcs := b0.inj b1
  rw [he rest hcs] at b
  have n1 : r.rp ≠ r.cb := R.top.ne b1 (by decide)
  obtain ⟨vs, rest2, hb, hl, hv⟩ := R.fr
  refine ⟨?_, fun j q h => let ⟨b, e, h1, h2, h3, h4⟩ := R.sz j q h; ⟨b, e, h1, h2, h3, f.cell h4 (by simpa using h3.1)⟩, fun _ => ⟨e, rest, b⟩, ⟨vs, rest2, hb.fr f (by simpa using R.zn.symm), hl, fun j v l h1 h2 => (hv j v l h1 h2).fr f (by intro q hq; simp at hq; exact .inr (.inl hq))⟩, R.zB, Nat.le_trans R.sB f.size, R.zn, R.ql⟩
  have := R.top.fr f (by simpa using n1)
  simpa using this
/-- A free row of the reference is written. -/
theorem RAt.setF (R : RAt w B0 B r qs x) {p : Nat} (hp : p < x.free.length) {v : Value} {l : List Int} {cs : List Value} (b0 : Blk w r.fb 22 cs) (b : Blk w' r.fb 22 (cs.set (p * 1) v)) (f : Fr [r.fb] w w') (hv : RowQ w B0 r.cb r.fb v l) :
    RAt w' B0 B r qs { x with free := x.free.set p l } := by
  obtain ⟨⟨a1, a2⟩, ⟨d1, d2⟩, ⟨c1, c2⟩⟩ := R.zB
  obtain ⟨vs, rest, hb, hl, hvs⟩ := R.fr
  obtain rfl := b0.inj hb
  have n1 : r.rp ≠ r.fb := R.top.ne hb (by decide)
  rw [Nat.mul_one, List.set_append_left _ _ (by omega)] at b
  refine ⟨?_, fun j q h => let ⟨b, e, h1, h2, h3, h4⟩ := R.sz j q h; ⟨b, e, h1, h2, h3, f.cell h4 (by simpa using h3.2)⟩, fun h => let ⟨e, rest, b⟩ := R.cl h; ⟨e, rest, b.fr f (by simpa using R.zn)⟩, ⟨vs.set p v, rest, b, by simp [hl], fun i u m h1 h2 => ?_⟩, R.zB, Nat.le_trans R.sB f.size, R.zn, R.ql⟩
  · have := R.top.fr f (by simpa using n1)
    simpa using this
  · dsimp only at h2
    rw [List.getElem?_set] at h1 h2
    by_cases e : p = i
    · subst e
      rw [if_pos rfl, if_pos (by omega)] at h1
      rw [if_pos rfl, if_pos hp] at h2
      obtain rfl := Option.some.inj h1
      obtain rfl := Option.some.inj h2
      exact hv.fr f (by intro q hq; simp at hq; exact .inr (.inr hq))
    · rw [if_neg e] at h1 h2
      exact (hvs i u m h1 h2).fr f (by intro q hq; simp at hq; exact .inr (.inr hq))
theorem RAt.rowq (R : RAt w B0 B r qs x) {base : Nat} {v : Value} {l : List Int} (h : w'.ownsRow base 3 1 v l.length (ints l)) (hB : B ≤ base) : RowQ w' B0 r.cb r.fb v l := by
  have z := R.zB
  exact RowQ.own h (by omega) (fun b hb => by have := own_ge h b hb; omega)
theorem RAt.hs' (R : RAt w B0 B r qs x) (hs : List Int) : RAt w B0 B r qs { x with hs := hs } := ⟨R.top, R.sz, R.cl, R.fr, R.zB, R.sB, R.zn, R.ql⟩
theorem flatC_set {S : List Sl} {i : Nat} {s s' : Sl} {j : Nat} {v : Value} (hi : S[i]? = some s) (hj : j < 3) (he : (encC s).set j v = encC s') (rest : List Value) : (flat encC S ++ rest).set (i * 3 + j) v = flat encC (S.set i s') ++ rest := by
  have hlt : i * 3 + j < (flat encC S).length := by
    have h1 := (List.getElem?_eq_some_iff.1 hi).1
    rw [flat_length lenC]
    omega
  rw [List.set_append_left _ _ hlt, flat_set lenC hi hj he]
theorem splice_app (vs : List Value) : ∀ (a rest : List Value) (o : Nat), o + vs.length ≤ a.length → splice (a ++ rest) o vs = splice a o vs ++ rest := by
  induction vs with
  | nil => intro a rest o _; rfl
  | cons v r ih =>
    intro a rest o h
    simp only [List.length_cons] at h
    show splice ((a ++ rest).set o v) (o + 1) r = splice (a.set o v) (o + 1) r ++ rest
    rw [List.set_append_left _ _ (by omega)]
    exact ih _ _ _ (by rw [List.length_set]; omega)
theorem flatC_splice {S : List Sl} {i : Nat} (hi : i < S.length) (s' : Sl) (rest : List Value) : splice (flat encC S ++ rest) (i * 3) (encC s') = flat encC (S.set i s') ++ rest := by
  rw [splice_app _ _ _ _ (by rw [flat_length lenC, lenC]; omega), flat_splice lenC hi]
theorem RowQ.tl {cb fb : Nat} {A : Option Addr} {c : Nat} {n : Int} {l : List Int} (h : RowQ w B0 cb fb (.slice A (n :: l).length c) (n :: l)) : ∃ b, A = some ⟨b, 0, none⟩ ∧ B0 ≤ b ∧ w.cell? ⟨b, 0, none⟩ = some (.int .i64 n) ∧ 1 ≤ c ∧
    (∀ ad, (if c = 1 then A else A.map (·.add (1 * 1))) = some ad → ∀ j u, (ints l)[j]? = some u → w.cell? (ad.add j) = some u) ∧ ((if c = 1 then A else A.map (·.add (1 * 1))) = none → l.length = 0) := by
  obtain ⟨A2, c2, e, ⟨_, hlc⟩, h | ⟨b, hA, hb, _, hs, hc⟩⟩ := h
  · cases h
  · injection e with e1 _ e3
    subst e1
    subst e3
    subst hA
    simp only [List.length_cons] at hlc
    refine ⟨b, rfl, hb, hc 0 _ rfl, by omega, ?_, ?_⟩
    · intro ad had j u hu
      have hj : j < l.length := by have := (List.getElem?_eq_some_iff.1 hu).1; simpa [ints] using this
      rw [if_neg (by omega)] at had
      simp only [Option.map_some, addr_add, Nat.zero_add] at had
      obtain rfl := Option.some.inj had
      rw [addr_add]
      have := hc (j + 1) u (by simpa [ints] using hu)
      rw [show 1 * 1 + j = j + 1 by omega]
      exact this
    · intro h
      split at h <;> simp at h
theorem RowQ.all {cb fb : Nat} {A : Option Addr} {c : Nat} {l : List Int} (h : RowQ w B0 cb fb (.slice A l.length c) l) : (A = none → l.length = 0) ∧ ∀ ad, A = some ad → ∀ j u, (ints l)[j]? = some u → w.cell? (ad.add j) = some u := by
  obtain ⟨A2, c2, e, ⟨h0, hlc⟩, h⟩ := h
  injection e with e1 _ e3
  subst e1
  refine ⟨fun hA => by rw [h0 hA]; rfl, ?_⟩
  rintro ad rfl j u hu
  rcases h with h | ⟨b, hA, hb, _, hs, hc⟩
  · rw [h] at hu; simp [ints] at hu
  · obtain rfl := Option.some.inj hA
    rw [addr_add, Nat.zero_add]
    exact hc j u hu
/-- A cell and a free row are written, told from the world where all began. -/
theorem RAt.set2 (R : RAt w B0 B r qs x) {i p : Nat} {s s' : Sl} (hi : x.slots[i]? = some s) (hp : p < x.free.length) {v : Value} {l : List Int} {cs cs' fs : List Value} (c0 : Blk w r.cb 81 cs) (f0 : Blk w r.fb 22 fs)
    (c1 : Blk w' r.cb 81 cs') (he : ∀ rest, cs = flat encC x.slots ++ rest → cs' = flat encC (x.slots.set i s') ++ rest) (f1 : Blk w' r.fb 22 (fs.set (p * 1) v)) (f : Fr [r.cb, r.fb] w w') (hv : RowQ w' B0 r.cb r.fb v l) :
    RAt w' B0 B r qs { x with slots := x.slots.set i s', free := x.free.set p l } := by
  obtain ⟨⟨a1, a2⟩, ⟨d1, d2⟩, ⟨e1, e2⟩⟩ := R.zB
  obtain ⟨e, rest, b1⟩ := R.cl (ne_of_at hi)
  have hcs := c0.inj b1
  rw [he rest hcs] at c1
  obtain ⟨vs, rest2, hb, hl, hvs⟩ := R.fr
  obtain rfl := f0.inj hb
  have n1 : r.rp ≠ r.cb := R.top.ne b1 (by decide)
  have n2 : r.rp ≠ r.fb := R.top.ne hb (by decide)
  rw [Nat.mul_one, List.set_append_left _ _ (by omega)] at f1
  refine ⟨?_, fun j q h => let ⟨b, e, h1, h2, h3, h4⟩ := R.sz j q h; ⟨b, e, h1, h2, h3, f.cell h4 (by simp; exact h3)⟩, fun _ => ⟨e, rest, c1⟩, ⟨vs.set p v, rest2, f1, by simp [hl], fun j u m h1 h2 => ?_⟩, R.zB, Nat.le_trans R.sB f.size, R.zn, R.ql⟩
  · have := R.top.fr f (by simp; exact ⟨n1, n2⟩)
    simpa using this
  · dsimp only at h2
    rw [List.getElem?_set] at h1 h2
    by_cases e : p = j
    · subst e
      rw [if_pos rfl, if_pos (by omega)] at h1
      rw [if_pos rfl, if_pos hp] at h2
      obtain rfl := Option.some.inj h1
      obtain rfl := Option.some.inj h2
      exact hv
    · rw [if_neg e] at h1 h2
      exact (hvs j u m h1 h2).fr f (by intro q hq; simp at hq; exact .inr hq)
end
end Go.Proofs.YtjjaijabdfoanaaDoor.Arn
