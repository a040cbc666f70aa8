/- All rows together hold each number once. No program here, but for the one that tells it of lists in memory. -/
import Derived.Test.YtnnhpbjibhnhnabDoorLsG
set_option linter.unusedVariables false
namespace Go.Proofs.YtnnhpbjibhnhnabDoor.Ls
open Go Go.RowKit Go.Proofs.YtnnhpbjibhnhnabDoor.Sx
theorem nodup_le {α : Type} [DecidableEq α] (R : List α) : ∀ L : List α, L.Nodup → (∀ x ∈ L, x ∈ R) → L.length ≤ R.length := by
  induction R with
  | nil => intro L _ h; cases L with | nil => simp | cons a r => exact absurd (h a (by simp)) (by simp)
  | cons a r ih =>
    intro L hd h
    have h1 := ih (L.erase a) (hd.erase _) (fun x hx => by
      have h2 := (List.Nodup.mem_erase_iff hd).1 hx
      have h3 := h x h2.2
      simp only [List.mem_cons] at h3
      exact h3.resolve_left h2.1)
    have h2 : L.length ≤ (L.erase a).length + 1 := by
      rw [List.length_erase]
      split <;> omega
    simp only [List.length_cons]
    omega
def inOne (ls : Rows) (q : Nat) : Bool := (isIn ls (q : Int)).isSome
def cn (ls : Rows) (n : Nat) : Nat := ((List.range n).filter (inOne ls)).length
theorem cn_succ (ls : Rows) (n : Nat) : cn ls (n + 1) = cn ls n + if inOne ls n then 1 else 0 := by
  unfold cn
  rw [List.range_succ, List.filter_append, List.length_append]
  congr 1
  cases h : inOne ls n <;> simp [h]
theorem cn_le (ls : Rows) (n : Nat) : cn ls n ≤ n := by
  have := List.length_filter_le (inOne ls) (List.range n)
  simpa [cn] using this
def sm (ls : Rows) (i : Nat) : Nat := ((ls.take i).flatten).length
theorem sm_succ {ls : Rows} {i : Nat} {l : List Int} (h : ls[i]? = some l) : sm ls (i + 1) = sm ls i + l.length := by
  unfold sm
  rw [List.take_add_one, h]
  simp
theorem isIn_mem {ls : Rows} {q : Int} (h : q ∈ ls.flatten) : (isIn ls q).isSome := by
  cases e : isIn ls q with
  | some _ => rfl
  | none =>
    obtain ⟨l, hl, hq⟩ := List.mem_flatten.1 h
    obtain ⟨j, hj⟩ := List.getElem?_of_mem hl
    exact absurd hq (isIn_none e j l hj)
theorem mem_isIn {ls : Rows} {q : Int} (h : (isIn ls q).isSome) : q ∈ ls.flatten := by
  cases e : isIn ls q with
  | none => rw [e] at h; cases h
  | some i =>
    obtain ⟨l, hl, hq⟩ := isIn_some e
    exact List.mem_flatten.2 ⟨l, List.mem_of_getElem? hl, hq⟩
theorem Rep.once {N : Nat} {ls : List (List Int)} {x : LS} (R : Rep N ls x) : ls.flatten.length = cn ls N := by
  have hd : ls.flatten.Nodup := by
    unfold List.Nodup
    rw [List.pairwise_flatten]
    refine ⟨fun l hl => by obtain ⟨j, hj⟩ := List.getElem?_of_mem hl; exact R.nodup j l hj, ?_⟩
    rw [List.pairwise_iff_getElem]
    intro i j hi hj hij a ha b hb e
    subst e
    have := R.same (List.getElem?_eq_getElem hi) (List.getElem?_eq_getElem hj) ha hb
    omega
  have hr : ((List.range N).filter (inOne ls)).Nodup := List.nodup_range.filter _
  have hr2 : (((List.range N).filter (inOne ls)).map (fun q : Nat => (q : Int))).Nodup := by
    unfold List.Nodup
    rw [List.pairwise_map]
    exact hr.imp (fun h e => h (by omega))
  apply Nat.le_antisymm
  · have := nodup_le (((List.range N).filter (inOne ls)).map (fun q : Nat => (q : Int))) _ hd (fun q hq => by
      obtain ⟨l, hl, hql⟩ := List.mem_flatten.1 hq
      obtain ⟨j, hj⟩ := List.getElem?_of_mem hl
      have h1 := R.range hj hql
      refine List.mem_map.2 ⟨q.toNat, List.mem_filter.2 ⟨List.mem_range.2 (by omega), ?_⟩, by omega⟩
      unfold inOne
      rw [Int.toNat_of_nonneg h1.1]
      exact isIn_mem hq)
    simpa [cn] using this
  · have := nodup_le ls.flatten _ hr2 (fun q hq => by
      obtain ⟨a, ha, rfl⟩ := List.mem_map.1 hq
      exact mem_isIn (List.mem_filter.1 ha).2)
    simpa [cn] using this
section
variable {w : World} {p nb hb B0 B rp lb N H : Nat} {ls : Rows}
theorem Bo.once (K : Bo w p nb hb B0 B rp lb N H ls) : sm ls ls.length = cn ls N := by
  obtain ⟨x, L, r⟩ := K.Q.ex
  unfold sm
  rw [List.take_length]
  exact r.once
theorem Bo.sm_le (K : Bo w p nb hb B0 B rp lb N H ls) (i : Nat) : sm ls i ≤ N := by
  have h1 := K.once
  have h2 := cn_le ls N
  have h3 : sm ls i ≤ sm ls ls.length := by
    unfold sm
    rw [List.take_length]
    have e : ls.flatten = (ls.take i).flatten ++ (ls.drop i).flatten := by rw [← List.flatten_append, List.take_append_drop]
    rw [e, List.length_append]
    omega
  omega
/-- A number in a row is told to be there. -/
theorem Bo.of (K : Bo w p nb hb B0 B rp lb N H ls) {i : Nat} {l : List Int} {z : Int} (h : ls[i]? = some l) (hz : z ∈ l) : aOf N ls z = ((i : Int), true) ∧ 0 ≤ z ∧ z < N := by
  obtain ⟨x, L, r⟩ := K.Q.ex
  have h1 := r.range h hz
  have h2 : isIn ls z = some i := isIn_at (fun j m hj hm hzm => by have := r.same hm h hzm hz; omega) h hz
  exact ⟨by unfold aOf; rw [if_pos (show okN N z from h1), h2], h1⟩
end
theorem aOf_in {N : Nat} {ls : Rows} {q : Nat} (h : q < N) : (aOf N ls (q : Int)).2 = inOne ls q := by
  unfold aOf inOne
  rw [if_pos (show okN N (q : Int) from ⟨by omega, by omega⟩)]
  cases isIn ls (q : Int) <;> rfl
def dropAll (N : Nat) (ls : Rows) (d : List Int) : Rows := d.foldl (fun ls n => (aDrop N ls n).1) ls
theorem dropAll_snoc (N : Nat) (ls : Rows) (d : List Int) (n : Int) : dropAll N ls (d ++ [n]) = (aDrop N (dropAll N ls d) n).1 := by
  unfold dropAll
  rw [List.foldl_append]
  rfl
theorem dropAll_front {N : Nat} (d : List Int) : ∀ (ls : Rows) (r : List Int), ls[0]? = some (d ++ r) → (d ++ r).Nodup → (∀ q ∈ d, 0 ≤ q ∧ q < N) → (dropAll N ls d)[0]? = some r := by
  induction d with
  | nil => intro ls r h _ _; exact h
  | cons a d ih =>
    intro ls r h hd hr
    have h1 : isIn ls a = some 0 := isIn_at (fun j m hj => absurd hj (by omega)) h (by simp)
    have hra : rowAt ls (0 : Nat) = a :: (d ++ r) := rowAt_nat h
    have h2 : (aDrop N ls a).1 = ls.set 0 (d ++ r) := by
      unfold aDrop
      rw [if_pos (show okN N a from hr a (by simp)), h1]
      dsimp only
      rw [hra, without_head (a := a) (r := d ++ r) hd]
    have h3 : (dropAll N ls (a :: d)) = dropAll N (ls.set 0 (d ++ r)) d := by
      unfold dropAll
      rw [List.foldl_cons, h2]
    rw [h3]
    have hl := (List.getElem?_eq_some_iff.1 h).1
    exact ih _ r (by rw [set_get _ _ _ _ hl, if_pos rfl]) (List.nodup_cons.1 hd).2 (fun q hq => hr q (by simp [hq]))
theorem dropAll_len (N : Nat) (d : List Int) : ∀ ls : Rows, (dropAll N ls d).length = ls.length := by
  induction d with
  | nil => intro ls; rfl
  | cons a d ih =>
    intro ls
    refine (ih _).trans ?_
    show (aDrop N ls a).1.length = _
    unfold aDrop
    split
    · split <;> simp
    · rfl
theorem stop_at {most : Int} {xs : List Int} {k : Nat} (h1 : 1 ≤ most) (h : Stop (fun d => decide ((d.length : Int) < most)) xs k) : (k : Int) = if most < (xs.length : Int) then most else xs.length := by
  obtain ⟨hk, ht, he⟩ := h
  have ht' : ∀ j, 0 < j → j < k → (j : Int) < most := fun j h0 hj => by
    have := of_decide_eq_true (ht j h0 hj)
    rw [List.length_take] at this
    omega
  have hle : (k : Int) ≤ most := by
    rcases Nat.lt_or_ge k 2 with h2 | h2
    · omega
    · have := ht' (k - 1) (by omega) (by omega)
      omega
  rcases he with he | ⟨h0, he⟩
  · split <;> omega
  · have := of_decide_eq_false he
    rw [List.length_take] at this
    split <;> omega
def RowW (w : World) (B Z : Nat) (A : Option Addr) (l : List Int) : Prop := ∀ (k : Nat) z, l[k]? = some z → ∃ b, A = some ⟨b, 0, none⟩ ∧ B ≤ b ∧ b < Z ∧ w.cell? ⟨b, k, none⟩ = some (.int .i64 z)
theorem RowW.fr {S : List Nat} {w w' : World} {B Z : Nat} {A : Option Addr} {l : List Int} (h : RowW w B Z A l) (k : Fr S w w') (hS : ∀ q ∈ S, q < B ∨ Z ≤ q) : RowW w' B Z A l := fun i z hz => by
  obtain ⟨b, e, h1, h2, h3⟩ := h i z hz
  exact ⟨b, e, h1, h2, k.cell h3 (fun hm => by have := hS _ hm; dsimp only at this; omega)⟩
theorem RowW.fr0 {w w' : World} {B Z : Nat} {A : Option Addr} {l : List Int} (h : RowW w B Z A l) (k : Fr [] w w') : RowW w' B Z A l := h.fr k (by simp)
theorem RowW.of {w : World} {B : Nat} {A : Option Addr} {l : List Int} (h : l = [] ∨ ∃ b, A = some ⟨b, 0, none⟩ ∧ B ≤ b ∧ b < w.heap.size ∧ ∀ j u, (ints l)[j]? = some u → w.cell? ⟨b, j, none⟩ = some u) : RowW w B w.heap.size A l := fun k z hz => by
  rcases h with h | ⟨b, e, hb, hs, hc⟩
  · subst h; simp at hz
  · exact ⟨b, e, hb, hs, hc k _ (by simp [ints, hz])⟩
theorem RowW.slI {w : World} {B Z : Nat} {A : Option Addr} {l : List Int} (h : RowW w B Z A l) (c k : Nat) (hk : k ≤ l.length) (hl : l.length ≤ 1000000) : SlI w (.slice A k c) (l.take k) := by
  have e : (l.take k).length = k := by rw [List.length_take]; omega
  refine ⟨A, c, by rw [e], by omega, ?_⟩
  cases k with
  | zero => exact .inl rfl
  | succ k =>
    obtain ⟨z0, hz0⟩ : ∃ z, l[0]? = some z := ⟨_, List.getElem?_eq_getElem (by omega)⟩
    obtain ⟨b, e, _, _, _⟩ := h 0 z0 hz0
    refine .inr ⟨b, e, fun j z hz => ?_⟩
    rw [List.getElem?_take] at hz
    split at hz
    · obtain ⟨b2, e2, _, _, hc⟩ := h j z hz
      rw [e] at e2
      obtain rfl : b = b2 := congrArg Addr.block (Option.some.inj e2)
      rw [Int.toNat_natCast, Nat.mul_one]
      exact hc
    · cases hz
theorem aLen_of {ls : Rows} {l : List Int} (h : ls[0]? = some l) : aLen ls 0 = l.length := by
  have := (List.getElem?_eq_some_iff.1 h).1
  unfold aLen
  rw [if_pos (show okL ls 0 from ⟨by omega, by omega⟩)]
  exact congrArg (fun q : List Int => (q.length : Int)) (rowAt_nat (i := 0) h)
end Go.Proofs.YtnnhpbjibhnhnabDoor.Ls
