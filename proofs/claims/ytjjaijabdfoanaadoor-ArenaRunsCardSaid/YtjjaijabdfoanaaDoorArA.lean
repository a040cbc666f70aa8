/- The arena in memory. -/
import Derived.Test.YtjjaijabdfoanaaDoorLsC
import Derived.Test.YtjjaijabdfoanaaDoorSxE
set_option linter.unusedVariables false
namespace Go.Proofs.YtjjaijabdfoanaaDoor.Arn
open Go Go.RowKit Go.Proofs.YtjjaijabdfoanaaDoor.Sx Go.Proofs.YtjjaijabdfoanaaDoor.Ls
structure Sl where
  part : Int
  gen : Int
  pay : Int
  held : Bool
  deriving DecidableEq
def encS (s : Sl) : List Value := [.int .i64 s.part, .int .u64 s.gen, .int .u64 s.pay, .bool s.held]
theorem lenS (s : Sl) : (encS s).length = 4 := rfl
theorem oneS (u : Sl) : ∀ v ∈ encS u, v.oneCell' = true := by intro v hv; simp only [encS, List.mem_cons, List.not_mem_nil, or_false] at hv; rcases hv with rfl | rfl | rfl | rfl <;> rfl
structure Ar where
  slots : List Sl
  hs : List Int
  parts : Nat
  free : List (List Int)
structure AK where
  ap : Nat
  sb : Nat
  p : Nat
  nb : Nat
  hb : Nat
  c : Nat
  A : Option Addr
def topC (sv : Value) (p : Nat) (hs : List Int) (parts : Nat) : List Value := sv :: .pointer (some ⟨p, 0, none⟩) :: (ints hs ++ [.int .i64 parts])
theorem topC_set (sv : Value) (p : Nat) (hs : List Int) (parts : Nat) (i : Nat) (h : i < hs.length) (v : Int) : (topC sv p hs parts).set (2 + i * 1) (.int .i64 v) = topC sv p (hs.set i v) parts := by
  have e : 2 + i * 1 = i + 1 + 1 := by omega
  rw [e]
  simp only [topC, List.set_cons_succ, ints]
  rw [List.set_append_left _ _ (by simpa using h), List.map_set]
structure ArAt (w : World) (k : AK) (x : Ar) : Prop where
  top : Blk w k.ap 64 (topC (.slice k.A x.slots.length k.c) k.p x.hs x.parts)
  sl : x.slots ≠ [] → k.A = some ⟨k.sb, 0, none⟩ ∧ ∃ rest, Blk w k.sb 68 (flat encS x.slots ++ rest)
  hl : x.hs.length = 16
  Q : LsR w k.p k.nb k.hb x.slots.length x.parts x.free
  pp : 1 ≤ x.parts ∧ x.parts ≤ 16
  ag : k.ap ≠ 0
  sg : k.sb ≠ 0
  sl0 : x.slots.length ≤ 65536
section
variable {w w' : World} {k : AK} {x : Ar}
theorem ArAt.fr {S : List Nat} (K : ArAt w k x) (f : Fr S w w') (h1 : k.ap ∉ S) (h2 : x.slots ≠ [] → k.sb ∉ S) (h3 : k.p ∉ S) (h4 : k.nb ∉ S) (h5 : k.hb ∉ S) (h6 : 0 ∉ S) : ArAt w' k x :=
  ⟨K.top.fr f h1, fun h => let ⟨e, r, b⟩ := K.sl h; ⟨e, r, b.fr f (h2 h)⟩, K.hl, K.Q.fr f h3 h4 h5 h6, K.pp, K.ag, K.sg, K.sl0⟩
theorem ArAt.fr0 (K : ArAt w k x) (f : Fr [] w w') : ArAt w' k x := K.fr f (by simp) (by simp) (by simp) (by simp) (by simp) (by simp)
theorem ArAt.cS (K : ArAt w k x) : w.cell? ⟨k.ap, 0, none⟩ = some (.slice k.A x.slots.length k.c) := K.top.cell rfl
theorem ArAt.cS1 (K : ArAt w k x) (h : x.slots ≠ []) : w.cell? ⟨k.ap, 0, none⟩ = some (.slice (some ⟨k.sb, 0, none⟩) x.slots.length k.c) := by rw [K.cS, (K.sl h).1]
theorem ArAt.cP (K : ArAt w k x) : w.cell? ⟨k.ap, 1, none⟩ = some (.pointer (some ⟨k.p, 0, none⟩)) := K.top.cell rfl
theorem ArAt.cH (K : ArAt w k x) {i : Nat} {h : Int} (hi : x.hs[i]? = some h) : w.cell? ⟨k.ap, 2 + i * 1, none⟩ = some (.int .i64 h) := by
  have hl := (List.getElem?_eq_some_iff.1 hi).1
  refine K.top.cell ?_
  have e : 2 + i * 1 = i + 1 + 1 := by omega
  rw [e]
  simp only [topC, List.getElem?_cons_succ]
  rw [List.getElem?_append_left (by simpa [ints] using hl)]
  simp [ints, hi]
theorem ArAt.cN (K : ArAt w k x) : w.cell? ⟨k.ap, 18, none⟩ = some (.int .i64 x.parts) := by
  refine K.top.cell ?_
  simp only [topC, List.getElem?_cons_succ]
  rw [List.getElem?_append_right (by simp [ints, K.hl])]
  simp [ints, K.hl]
theorem ne_of_at {α : Type} {xs : List α} {i : Nat} {s : α} (h : xs[i]? = some s) : xs ≠ [] := by rintro rfl; simp at h
theorem ArAt.cSl (K : ArAt w k x) {i j : Nat} {s : Sl} {v : Value} (hi : x.slots[i]? = some s) (hj : (encS s)[j]? = some v) : w.cell? ⟨k.sb, i * 4 + j, none⟩ = some v := by
  obtain ⟨_, rest, b⟩ := K.sl (ne_of_at hi)
  have hj4 : j < 4 := by have := (List.getElem?_eq_some_iff.1 hj).1; rwa [lenS] at this
  refine b.cell ?_
  have hf := flat_get lenS hi hj4
  rw [List.getElem?_append_left]
  · rw [hf]; exact hj
  · rw [hj] at hf
    exact (List.getElem?_eq_some_iff.1 hf).1
theorem ArAt.cSe (K : ArAt w k x) {i : Nat} {s : Sl} (hi : x.slots[i]? = some s) : ∀ j v, (encS s)[j]? = some v → w.cell? ⟨k.sb, i * 4 + j, none⟩ = some v := fun j v h => K.cSl hi h
theorem ArAt.hbl (K : ArAt w k x) : ∃ y, LsAt w k.p k.nb k.hb x.slots.length x.parts y := let ⟨y, L, _⟩ := K.Q.ex; ⟨y, L⟩
theorem ArAt.lts (K : ArAt w k x) : (k.ap < w.heap.size ∧ k.p < w.heap.size ∧ k.nb < w.heap.size ∧ k.hb < w.heap.size) ∧ (x.slots ≠ [] → k.sb < w.heap.size) := by
  obtain ⟨y, L⟩ := K.hbl
  exact ⟨⟨K.top.lt, L.top.lt, L.nod.lt, L.hed.lt⟩, fun h => let ⟨_, _, b⟩ := K.sl h; b.lt⟩
/-- A field of a slot is written. -/
theorem ArAt.setS (K : ArAt w k x) {i j : Nat} {s s' : Sl} {v : Value} (hi : x.slots[i]? = some s) (hj : j < 4) (he : (encS s).set j v = encS s') {cs : List Value} (b0 : Blk w k.sb 68 cs) (b : Blk w' k.sb 68 (cs.set (i * 4 + j) v)) (f : Fr [k.sb] w w') :
    ArAt w' k { x with slots := x.slots.set i s' } := by
  obtain ⟨e, rest, b1⟩ := K.sl (ne_of_at hi)
  obtain rfl := b0.inj b1
  obtain ⟨y, L⟩ := K.hbl
  have n1 : k.ap ≠ k.sb := K.top.ne b1 (by decide)
  have n2 : k.p ≠ k.sb := L.top.ne b1 (by decide)
  have n3 : k.nb ≠ k.sb := L.nod.ne b1 (by decide)
  have n4 : k.hb ≠ k.sb := L.hed.ne b1 (by decide)
  have hlt : i * 4 + j < (flat encS x.slots).length := by
    have h1 := (List.getElem?_eq_some_iff.1 hi).1
    rw [flat_length lenS]
    omega
  rw [List.set_append_left _ _ hlt, flat_set lenS hi hj he] at b
  have K' := K.Q.fr f (by simpa using n2) (by simpa using n3) (by simpa using n4) (by simpa using K.sg.symm)
  refine ⟨?_, fun _ => ⟨e, rest, b⟩, K.hl, ?_, K.pp, K.ag, K.sg, by simpa using K.sl0⟩
  · have := K.top.fr f (by simpa using n1)
    simpa using this
  · simpa using K'
/-- A count is written. -/
theorem ArAt.setH (K : ArAt w k x) {i : Nat} {h : Int} (hi : i < 16) (b : Blk w' k.ap 64 ((topC (.slice k.A x.slots.length k.c) k.p x.hs x.parts).set (2 + i * 1) (.int .i64 h))) (f : Fr [k.ap] w w') :
    ArAt w' k { x with hs := x.hs.set i h } := by
  obtain ⟨y, L⟩ := K.hbl
  have n2 : k.p ≠ k.ap := L.top.ne K.top (by decide)
  have n3 : k.nb ≠ k.ap := L.nod.ne K.top (by decide)
  have n4 : k.hb ≠ k.ap := L.hed.ne K.top (by decide)
  rw [topC_set _ _ _ _ _ (by rw [K.hl]; exact hi)] at b
  refine ⟨b, fun hne => ?_, by simpa using K.hl, K.Q.fr f (by simpa using n2) (by simpa using n3) (by simpa using n4) (by simpa using K.ag.symm), K.pp, K.ag, K.sg, K.sl0⟩
  obtain ⟨e, rest, b1⟩ := K.sl hne
  exact ⟨e, rest, b1.fr f (by have := b1.ne K.top (by decide); simpa using this)⟩
/-- The free lists are others. -/
theorem ArAt.setF (K : ArAt w k x) {fr : List (List Int)} (Q : LsR w' k.p k.nb k.hb x.slots.length x.parts fr) (f : Fr [k.nb, k.hb] w w') : ArAt w' k { x with free := fr } := by
  obtain ⟨y, L⟩ := K.hbl
  have n3 : k.ap ≠ k.nb := K.top.ne L.nod (by decide)
  have n4 : k.ap ≠ k.hb := K.top.ne L.hed (by decide)
  refine ⟨K.top.fr f (by simp [n3, n4]), fun hne => ?_, K.hl, Q, K.pp, K.ag, K.sg, K.sl0⟩
  obtain ⟨e, rest, b1⟩ := K.sl hne
  exact ⟨e, rest, b1.fr f (by have h1 := b1.ne L.nod (by decide); have h2 := b1.ne L.hed (by decide); simp [h1, h2])⟩
end
/-- A slot by a name that is alive. -/
def Ar.find (x : Ar) (N G : Int) : Option Sl := if 0 ≤ N then match x.slots[N.toNat]? with | some s => if s.held = true ∧ s.gen = G then some s else none | none => none else none
theorem find_some {x : Ar} {N G : Int} {s : Sl} (h : x.find N G = some s) : 0 ≤ N ∧ x.slots[N.toNat]? = some s ∧ s.held = true ∧ s.gen = G := by
  unfold Ar.find at h
  split at h
  · rename_i h0
    split at h
    · rename_i s' hs
      split at h
      · rename_i h1
        obtain rfl := Option.some.inj h
        exact ⟨h0, hs, h1⟩
      · cases h
    · cases h
  · cases h
def Ar.alloc (x : Ar) (part : Int) : Ar × Int × Int × Int :=
  if 0 ≤ part ∧ part < x.parts then
    match Ls.rowAt x.free part with
    | [] => (x, 0, 0, 61)
    | n :: r => match x.slots[n.toNat]? with
      | some s => ({ x with slots := x.slots.set n.toNat { s with held := true }, hs := x.hs.set part.toNat ((x.hs[part.toNat]?).getD 0 + 1), free := x.free.set part.toNat r }, n, s.gen, 0)
      | none => (x, 0, 0, 61)
  else (x, 0, 0, 5)
def Ar.write (x : Ar) (N G v : Int) : Ar × Int := match x.find N G with | none => (x, 62) | some s => ({ x with slots := x.slots.set N.toNat { s with pay := v } }, 0)
def Ar.read (x : Ar) (N G : Int) : Int × Int := match x.find N G with | none => (0, 62) | some s => (s.pay, 0)
def Ar.drop (x : Ar) (N G : Int) : Ar × Int := match x.find N G with
  | none => (x, 62)
  | some s => ({ x with slots := x.slots.set N.toNat { s with held := false, pay := 0, gen := IntKind.u64.wrap (s.gen + 1) }, hs := x.hs.set s.part.toNat ((x.hs[s.part.toNat]?).getD 0 - 1), free := (aPush x.slots.length x.free s.part N false).1 }, (aPush x.slots.length x.free s.part N false).2)
def Ar.okP (x : Ar) (n : Int) : Prop := 0 ≤ n ∧ n < x.slots.length
instance (x : Ar) (n : Int) : Decidable (x.okP n) := by unfold Ar.okP; exact inferInstance
def Ar.part_ (x : Ar) (n : Int) : Int × Bool := if x.okP n then match x.slots[n.toNat]? with | some s => (s.part, true) | none => (0, false) else (0, false)
/-- The counts of held slots are small. -/
def Ar.sm (x : Ar) : Prop := ∀ (i : Nat) h, x.hs[i]? = some h → -1000000 ≤ h ∧ h ≤ 1000000
end Go.Proofs.YtjjaijabdfoanaaDoor.Arn
