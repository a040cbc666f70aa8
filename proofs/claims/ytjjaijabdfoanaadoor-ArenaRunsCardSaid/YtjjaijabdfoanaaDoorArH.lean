/- What is held in a partition, as plain data; the state of a range over it. -/
import Derived.Test.YtjjaijabdfoanaaDoorArE
import Derived.Test.YtjjaijabdfoanaaDoorSxR
set_option linter.unusedVariables false
namespace Go.Proofs.YtjjaijabdfoanaaDoor.Arn
open Go Go.RowKit Go.Proofs.YtjjaijabdfoanaaDoor.Sx Go.Proofs.YtjjaijabdfoanaaDoor.Ls
def isH (x : Ar) (p : Int) (i : Nat) : Bool := match x.slots[i]? with | some s => s.held && decide (s.part = p) | none => false
def heldTo (x : Ar) (p : Int) (i : Nat) : List Nat := (List.range i).filter (isH x p)
def heldN (x : Ar) (p : Int) : List Nat := heldTo x p x.slots.length
def nmOf (x : Ar) (i : Nat) : Int × Int := ((i : Int), match x.slots[i]? with | some s => s.gen | none => 0)
def names (x : Ar) (p : Int) : List (Int × Int) := (heldN x p).map (nmOf x)
def argv (x : Ar) (p : Int) (m : Nat) : Value := .int .i64 ((((heldN x p)[m]?).getD 0 : Nat) : Int)
theorem isH_some {x : Ar} {p : Int} {i : Nat} {s : Sl} (h : x.slots[i]? = some s) : isH x p i = (s.held && decide (s.part = p)) := by unfold isH; rw [h]
theorem heldTo_yes {x : Ar} {p : Int} {i : Nat} (h : isH x p i = true) : heldTo x p (i + 1) = heldTo x p i ++ [i] := by
  unfold heldTo
  rw [List.range_succ, List.filter_append]
  simp [h]
theorem heldTo_no {x : Ar} {p : Int} {i : Nat} (h : isH x p i = false) : heldTo x p (i + 1) = heldTo x p i := by
  unfold heldTo
  rw [List.range_succ, List.filter_append]
  simp [h]
theorem heldTo_at {x : Ar} {p : Int} {i : Nat} (h : isH x p i = true) (hi : i < x.slots.length) : (heldN x p)[(heldTo x p i).length]? = some i := by
  have e : x.slots.length = (i + 1) + (x.slots.length - (i + 1)) := by omega
  have e2 : heldN x p = heldTo x p (i + 1) ++ ((List.range (x.slots.length - (i + 1))).map (fun j => i + 1 + j)).filter (isH x p) := by
    unfold heldN heldTo
    rw [← List.filter_append, ← List.range_add, ← e]
  rw [e2, heldTo_yes h, List.append_assoc, List.getElem?_append_right (Nat.le_refl _)]
  simp
theorem argv_of {x : Ar} {p : Int} {m i : Nat} (h : (heldN x p)[m]? = some i) : argv x p m = .int .i64 (i : Int) := by unfold argv; rw [h]; rfl
theorem heldN_slot {x : Ar} {p : Int} {m i : Nat} (h : (heldN x p)[m]? = some i) : ∃ s, x.slots[i]? = some s ∧ s.held = true ∧ s.part = p := by
  have h1 := List.mem_of_getElem? h
  unfold heldN heldTo at h1
  have h2 := (List.mem_filter.1 h1).2
  cases hs : x.slots[i]? with
  | none => unfold isH at h2; rw [hs] at h2; cases h2
  | some s =>
    rw [isH_some hs] at h2
    simp only [Bool.and_eq_true, decide_eq_true_eq] at h2
    exact ⟨s, rfl, h2.1, h2.2⟩
theorem names_succ {x : Ar} {p : Int} {m i : Nat} {s : Sl} (h : (heldN x p)[m]? = some i) (hs : x.slots[i]? = some s) : (names x p).take (m + 1) = (names x p).take m ++ [((i : Int), s.gen)] := by
  rw [List.take_add_one]
  have : (names x p)[m]? = some ((i : Int), s.gen) := by
    unfold names
    rw [List.getElem?_map, h]
    simp [nmOf, hs]
  rw [this]
  rfl
theorem names_len (x : Ar) (p : Int) : (names x p).length = (heldN x p).length := by simp [names]
theorem heldN_len (x : Ar) (p : Int) : (heldN x p).length ≤ x.slots.length := by
  unfold heldN heldTo
  refine Nat.le_trans (List.length_filter_le _ _) ?_
  simp
/-- Where a walk over a row stops. -/
def StopA {α : Type} (C : List α → Bool) (xs : List α) (k : Nat) : Prop := k ≤ xs.length ∧ (∀ j, 0 < j → j < k → C (xs.take j) = true) ∧ (k = xs.length ∨ 0 < k ∧ C (xs.take k) = false)
theorem stop_atA {α : Type} {most : Int} {xs : List α} {k : Nat} (h1 : 1 ≤ most) (h : StopA (fun d => decide ((d.length : Int) < most)) xs k) : (k : Int) = if most < (xs.length : Int) then most else xs.length := by
  obtain ⟨hk, ht, he⟩ := h
  have ht' : ∀ j, 0 < j → j < k → (j : Int) < most := fun j h0 hj => by
    have := of_decide_eq_true (ht j h0 hj)
    rw [List.length_take] at this
    omega
  have hle : (k : Int) ≤ most := by
    rcases Nat.lt_or_ge k 2 with h2 | h2
    · omega
    · have := ht' (k - 1) (by omega) (by omega)
      omega
  rcases he with he | ⟨h0, he⟩
  · split <;> omega
  · have := of_decide_eq_false he
    rw [List.length_take] at this
    split <;> omega
structure HI (w0 : World) (B b1 b3 b4 b5 : Nat) (k : AK) (x : Ar) (p : Int) (m : Nat) (W : World) : Prop where
  K : ArAt W k x
  c1 : Blk W b1 26 [.pointer (some ⟨k.ap, 0, none⟩)]
  c3 : Blk W b3 26 [.pointer (some ⟨k.ap, 0, none⟩)]
  c5 : Blk W b5 3 [.int .i64 p]
  row : ∃ v, Blk W b4 30 [v] ∧ W.ownsRow (B + 2) 33 2 v ((names x p).take m).length (flat encN ((names x p).take m))
  F : Fr [] w0 W
  zB : B + 2 ≤ W.heap.size
  zk : (k.ap < w0.heap.size ∧ k.p < w0.heap.size ∧ k.nb < w0.heap.size ∧ k.hb < w0.heap.size) ∧ (x.slots ≠ [] → k.sb < w0.heap.size)
  z0 : 0 < w0.heap.size
  zb : (b1 < w0.heap.size ∧ w0.heap.size ≤ b4 ∧ w0.heap.size ≤ b3 ∧ w0.heap.size ≤ b5) ∧ (b4 < B ∧ b3 < B ∧ b5 < B) ∧ (b3 ≠ b4 ∧ b5 ≠ b4)
section
variable {w0 W W' W'' : World} {B b1 b3 b4 b5 : Nat} {k : AK} {x : Ar} {p : Int} {m : Nat} {v v' : Value}
theorem ArAt.frA {S : List Nat} (K : ArAt W k x) (f : Fr S W W') (h : ∀ q ∈ S, w0.heap.size ≤ q) (zk : (k.ap < w0.heap.size ∧ k.p < w0.heap.size ∧ k.nb < w0.heap.size ∧ k.hb < w0.heap.size) ∧ (x.slots ≠ [] → k.sb < w0.heap.size)) (z0 : 0 < w0.heap.size) : ArAt W' k x := by
  have no : ∀ q, q < w0.heap.size → q ∉ S := fun q hq hm => by have := h q hm; omega
  exact K.fr f (no _ zk.1.1) (fun hs => no _ (zk.2 hs)) (no _ zk.1.2.1) (no _ zk.1.2.2.1) (no _ zk.1.2.2.2) (no _ (by show 0 < _; omega))
theorem HI.frS {S : List Nat} (H : HI w0 B b1 b3 b4 b5 k x p m W) (f : Fr S W W') (h : ∀ q ∈ S, B ≤ q ∧ q < B + 2) : HI w0 B b1 b3 b4 b5 k x p m W' := by
  obtain ⟨⟨y1, y2, y3, y4⟩, ⟨u1, u2, u3⟩, _⟩ := H.zb
  have no : ∀ q, q < B → q ∉ S := fun q hq hm => by have := h q hm; omega
  obtain ⟨v, hv, HO⟩ := H.row
  exact ⟨H.K.frA f (fun q hq => by have := h q hq; omega) H.zk H.z0, H.c1.fr f (no _ (by omega)), H.c3.fr f (no _ u2), H.c5.fr f (no _ u3), ⟨v, hv.fr f (no _ u1), own_fr HO f (fun q hq => (h q hq).2)⟩,
    H.F.trans_new f (fun q hq => .inr (by have := h q hq; omega)), Nat.le_trans H.zB f.size, H.zk, H.z0, H.zb⟩
theorem HI.fr0 (H : HI w0 B b1 b3 b4 b5 k x p m W) (f : Fr [] W W') : HI w0 B b1 b3 b4 b5 k x p m W' := H.frS f (by simp)
theorem HI.push (H : HI w0 B b1 b3 b4 b5 k x p m W) (hg : W.grownBy W' v.ownBlock) (hge : ∀ q, v.ownBlock = some q → B + 2 ≤ q) (f : Fr [b4] W' W'') (h4 : Blk W'' b4 30 [v'])
    (HO : W'.ownsRow (B + 2) 33 2 v' ((names x p).take (m + 1)).length (flat encN ((names x p).take (m + 1)))) : HI w0 B b1 b3 b4 b5 k x p (m + 1) W'' := by
  obtain ⟨⟨y1, y2, y3, y4⟩, ⟨u1, u2, u3⟩, ⟨n1, n2⟩⟩ := H.zb
  have g1 := Fr.of_grown hg
  have g2 : Fr (b4 :: v.ownBlock.toList) W W'' := (g1.mono (fun x hx => List.mem_cons_of_mem _ hx)).trans (f.mono (fun x hx => List.mem_cons.2 (.inl (List.mem_singleton.1 hx))))
  have hS : ∀ q ∈ (b4 :: v.ownBlock.toList), q = b4 ∨ B + 2 ≤ q := by
    intro q hq
    rcases List.mem_cons.1 hq with rfl | hq
    · exact .inl rfl
    · cases hv : v.ownBlock with
      | none => rw [hv] at hq; simp at hq
      | some r => rw [hv] at hq; simp at hq; subst hq; exact .inr (hge _ hv)
  have no : ∀ q, q ≠ b4 → q < B + 2 → q ∉ (b4 :: v.ownBlock.toList) := fun q h1 h2 hm => by rcases hS q hm with h | h; exact h1 h; omega
  exact ⟨H.K.frA g2 (fun q hq => by rcases hS q hq with h | h <;> omega) H.zk H.z0, H.c1.fr g2 (no _ (by omega) (by omega)), H.c3.fr g2 (no _ n1 (by omega)), H.c5.fr g2 (no _ n2 (by omega)), ⟨v', h4, own_fr HO f (by intro q hq; simp at hq; omega)⟩,
    H.F.trans_new g2 (fun q hq => .inr (by rcases hS q hq with h | h <;> omega)), Nat.le_trans H.zB g2.size, H.zk, H.z0, H.zb⟩
end
/-- The range's own two blocks are as they were. -/
structure KLD (B : Nat) (W W' : World) : Prop where
  size : W.heap.size ≤ W'.heap.size
  z : B + 2 ≤ W.heap.size
  kp : ∀ q, q = B ∨ q = B + 1 → W'.heap[q]? = W.heap[q]?
theorem KLD.refl {B : Nat} {W : World} (h : B + 2 ≤ W.heap.size) : KLD B W W := ⟨Nat.le_refl _, h, fun _ _ => rfl⟩
theorem KLD.frS {B : Nat} {W W1 W2 : World} {S : List Nat} (h : KLD B W W1) (f : Fr S W1 W2) (hS : ∀ q ∈ S, q ≠ B ∧ q ≠ B + 1) : KLD B W W2 :=
  ⟨Nat.le_trans h.size f.size, h.z, fun q hq => (f.keep q (by have := h.size; have := h.z; omega) (fun hm => by have := hS q hm; omega)).trans (h.kp q hq)⟩
theorem KLD.fr0 {B : Nat} {W W1 W2 : World} (h : KLD B W W1) (f : Fr [] W1 W2) : KLD B W W2 := h.frS f (by simp)
end Go.Proofs.YtjjaijabdfoanaaDoor.Arn
