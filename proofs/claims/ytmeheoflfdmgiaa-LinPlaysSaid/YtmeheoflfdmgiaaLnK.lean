/- The search as plain data: what is free, the search with what was tried, states as keys. No program here. -/
import Derived.Test.YtmeheoflfdmgiaaLnJ
set_option linter.unusedVariables false
set_option linter.unusedSimpArgs false
namespace Go.Proofs.Ytmeheoflfdmgiaa.Lin
open Go Go.RowKit Go.Proofs.Ytmeheoflfdmgiaa.Sx
theorem takeOne {cs : List Value} {o : Nat} {c : Value} (hc : cs[o]? = some c) : (cs.drop o).take 1 = [c] := by
  rw [List.take_one]
  simp [hc]
def freeI (l : List D) (done : BitVec 64) (i : Nat) : Prop := (∀ (k : Nat) d, l[k]? = some d → done.getLsbD k = false → ¬ ahead d (atI l (i : Int))) ∧ done.getLsbD i = false
/-- How many are done. -/
def cnt : Nat → BitVec 64 → Nat
  | 0, _ => 0
  | n + 1, s => cnt n s + (if s.getLsbD n = true then 1 else 0)
theorem cnt_le : ∀ (n : Nat) (s : BitVec 64), cnt n s ≤ n := by
  intro n
  induction n with
  | zero => intro s; exact Nat.le_refl _
  | succ n ih =>
    intro s
    have := ih s
    unfold cnt
    split <;> omega
theorem cnt_congr : ∀ (n : Nat) (s t : BitVec 64), (∀ j, j < n → s.getLsbD j = t.getLsbD j) → cnt n s = cnt n t := by
  intro n
  induction n with
  | zero => intro s t _; rfl
  | succ n ih =>
    intro s t h
    unfold cnt
    rw [ih s t (fun j hj => h j (by omega)), h n (by omega)]
theorem cnt_or : ∀ (n : Nat) (s : BitVec 64) (i : Nat), n ≤ 64 → i < n → s.getLsbD i = false → cnt n (s ||| ((1#64) <<< i)) = cnt n s + 1 := by
  intro n
  induction n with
  | zero => intro s i _ h; omega
  | succ n ih =>
    intro s i hn hi hs
    unfold cnt
    rw [bit_or s (by omega)]
    by_cases e : n = i
    · subst e
      rw [cnt_congr n (s ||| ((1#64) <<< n)) s (fun j hj => by rw [bit_or s (by omega), decide_eq_false (by omega), Bool.or_false]), hs]
      simp
    · rw [decide_eq_false e, Bool.or_false, ih s i (by omega) (by omega) hs]
      omega
theorem cnt_full : ∀ (n : Nat) (s : BitVec 64), n ≤ cnt n s → ∀ j, j < n → s.getLsbD j = true := by
  intro n
  induction n with
  | zero => intro s _ j h; omega
  | succ n ih =>
    intro s h j hj
    have h1 := cnt_le n s
    unfold cnt at h
    by_cases hb : s.getLsbD n = true
    · rw [if_pos hb] at h
      by_cases e : j = n
      · subst e; exact hb
      · exact ih s (by omega) j (by omega)
    · rw [if_neg hb] at h
      omega
noncomputable def candD (l : List D) (G : BitVec 64 → List Int → Option (List Int)) (done : BitVec 64) (p : List Int) (i : Nat) : Option (List Int) :=
  if dc (freeI l done i) = true then (match pstep l p (i : Int) with | none => none | some p' => (G (done ||| ((1#64) <<< i)) p').map (fun r => (i : Int) :: r)) else none
noncomputable def stepD (l : List D) (G : BitVec 64 → List Int → Option (List Int)) (done : BitVec 64) (p : List Int) : Option (List Int) :=
  if ((((mustF l l.length) &&& ~~~done).toNat : Nat) : Int) = 0 then some [] else firstN (candD l G done p) 0 l.length
noncomputable def dfsF (l : List D) : Nat → BitVec 64 → List Int → Option (List Int)
  | 0 => fun _ _ => none
  | f + 1 => stepD l (dfsF l f)
def fails (l : List D) (t : BitVec 64 × List Int) : Prop := dfsF l (l.length + 1 - cnt l.length t.1) t.1 t.2 = none
def okT (l : List D) (t : BitVec 64 × List Int) : Prop := okRow l t.2 ∧ t.2.length ≤ 24
/-- What may have been tried where a search begins. -/
def Tried (l : List D) (T : List (BitVec 64 × List Int)) (n : Nat) : Prop := ∀ t ∈ T, okT l t ∧ (fails l t ∨ cnt l.length t.1 < n)
section
variable {l : List D} {G : BitVec 64 → List Int → Option (List Int)} {done : BitVec 64} {p p' : List Int} {i : Nat}
theorem candD_held (h : dc (freeI l done i) = false) : candD l G done p i = none := if_neg (by rw [h]; decide)
theorem candD_stuck (h : pstep l p (i : Int) = none) : candD l G done p i = none := by unfold candD; rw [h]; split <;> rfl
theorem candD_go (h1 : dc (freeI l done i) = true) (h : pstep l p (i : Int) = some p') : candD l G done p i = (G (done ||| ((1#64) <<< i)) p').map (fun r => (i : Int) :: r) := by unfold candD; rw [h, if_pos h1]
theorem stepD_all (h : ((((mustF l l.length) &&& ~~~done).toNat : Nat) : Int) = 0) : stepD l G done p = some [] := if_pos h
theorem stepD_no (h : ¬ ((((mustF l l.length) &&& ~~~done).toNat : Nat) : Int) = 0) (hn : ∀ j, j < l.length → candD l G done p j = none) : stepD l G done p = none := by unfold stepD; rw [if_neg h]; exact firstN_none _ _ (fun j _ hj => hn j (by omega))
theorem stepD_yes {a : List Int} (h : ¬ ((((mustF l l.length) &&& ~~~done).toNat : Nat) : Int) = 0) (hn : ∀ j, j < i → candD l G done p j = none) (hl : i < l.length) (ha : candD l G done p i = some a) : stepD l G done p = some a := by unfold stepD; rw [if_neg h]; exact firstN_some _ _ i (Nat.zero_le _) (by omega) (fun j _ hj => hn j hj) ha
theorem pstep_len (h : pstep l p (i : Int) = some p') : p'.length ≤ p.length + 1 := by
  have h1 := qstep_len (q := prow l p) (d := atI l (i : Int)) (q' := prow l p') (by rw [pstep_q, h]; rfl)
  simpa [prow] using h1
theorem pstep_ok (hp : okRow l p) (hi : i < l.length) (h : pstep l p (i : Int) = some p') : okRow l p' := by
  unfold pstep at h
  split at h
  · injection h with h; subst h; exact okRow_snoc hp (by omega)
  · split at h
    · cases p with
      | nil => cases h
      | cons x r =>
        dsimp only at h
        split at h
        · injection h with h; subst h; exact fun z hz => hp z (by simp [hz])
        · cases h
    · split at h
      · split at h
        · injection h with h; subst h; exact hp
        · cases h
      · injection h with h
        subst h
        exact fun z hz => hp z (List.mem_filter.1 hz).1
end
theorem tried_next {l : List D} {T T1 : List (BitVec 64 × List Int)} {done done2 : BitVec 64} {p : List Int} (hT : Tried l T (cnt l.length done)) (hok : ∀ t ∈ T1, okT l t) (hin : ∀ t ∈ T1, t ∈ T ∨ t = (done, p) ∨ fails l t) (e : cnt l.length done2 = cnt l.length done + 1) : Tried l T1 (cnt l.length done2) := by
  intro t ht
  refine ⟨hok t ht, ?_⟩
  rcases hin t ht with h | h | h
  · rcases (hT t h).2 with h | h
    · exact .inl h
    · exact .inr (by omega)
  · subst h; exact .inr (by simp only; omega)
  · exact .inl h
theorem firstN_mem {α : Type} {f : Nat → Option α} {a : α} : ∀ (c i : Nat), firstN f i c = some a → ∃ j, i ≤ j ∧ j < i + c ∧ f j = some a ∧ ∀ m, i ≤ m → m < j → f m = none := by
  intro c
  induction c with
  | zero => intro i h; cases h
  | succ c ih =>
    intro i h
    have h' : (match f i with | some a => some a | none => firstN f (i + 1) c) = some a := h
    cases hf : f i with
    | some b => rw [hf] at h'; injection h' with h'; subst h'; exact ⟨i, Nat.le_refl _, by omega, hf, fun m h1 h2 => by omega⟩
    | none =>
      rw [hf] at h'
      obtain ⟨j, h1, h2, h3, h4⟩ := ih (i + 1) h'
      refine ⟨j, by omega, by omega, h3, fun m h5 h6 => ?_⟩
      by_cases e : m = i
      · subst e; exact hf
      · exact h4 m (by omega) h6
theorem dfsF_len {l : List D} : ∀ (f : Nat) {done : BitVec 64} {p a : List Int}, dfsF l f done p = some a → a.length ≤ f := by
  intro f
  induction f with
  | zero => intro done p a h; cases h
  | succ f ih =>
    intro done p a h
    have h : stepD l (dfsF l f) done p = some a := h
    unfold stepD at h
    split at h
    · injection h with h; subst h; exact Nat.zero_le _
    · obtain ⟨j, _, _, h3, _⟩ := firstN_mem _ _ h
      unfold candD at h3
      split at h3
      · cases hp : pstep l p (j : Int) with
        | none => rw [hp] at h3; cases h3
        | some p' =>
          rw [hp] at h3
          dsimp only at h3
          obtain ⟨r, hr, rfl⟩ := Option.map_eq_some_iff.1 h3
          have := ih hr
          simp only [List.length_cons]
          omega
      · cases h3
/-- A state's cells. -/
def pad (p : List Int) (j : Nat) : Int := match p[j]? with | some x => IntKind.u8.wrap x | none => 0
def encTn (s : BitVec 64) (p : List Int) (n : Nat) : List Value := .int .u64 (s.toNat : Nat) :: ((List.range 24).map (fun j => Value.int .u8 (pad p j)) ++ [.int .i64 (n : Nat)])
def encT (t : BitVec 64 × List Int) : List Value := encTn t.1 t.2 t.2.length
def encV (t : BitVec 64 × List Int) : Value := .agg (encT t).toArray
theorem lenTn (s : BitVec 64) (p : List Int) (n : Nat) : (encTn s p n).length = 26 := by simp [encTn]
theorem oneTn (s : BitVec 64) (p : List Int) (n : Nat) : ∀ v ∈ encTn s p n, v.oneCell' = true := by
  intro v hv
  unfold encTn at hv
  simp only [List.mem_cons, List.mem_append, List.mem_map, List.not_mem_nil, or_false] at hv
  rcases hv with rfl | ⟨j, _, rfl⟩ | rfl <;> rfl
theorem encTn_set {s : BitVec 64} {p : List Int} {n j : Nat} {x : Int} (hx : p[j]? = some x) (hj : j < 24) : (encTn s (p.take j) n).set (1 + j) (.int .u8 (IntKind.u8.wrap x)) = encTn s (p.take (j + 1)) n := by
  unfold encTn
  rw [Nat.add_comm 1 j, List.set_cons_succ, List.set_append_left _ _ (by simp; omega)]
  congr 2
  apply List.ext_getElem?
  intro m
  rw [List.getElem?_set]
  have hlen : ((List.range 24).map (fun j_1 => Value.int .u8 (pad (p.take j) j_1))).length = 24 := by simp
  by_cases e : j = m
  · subst e
    rw [if_pos rfl, if_pos (by rw [hlen]; exact hj), List.getElem?_map, List.getElem?_range hj]
    show _ = some (Value.int .u8 (pad (p.take (j + 1)) j))
    unfold pad
    rw [List.getElem?_take, if_pos (by omega), hx]
  · rw [if_neg e, List.getElem?_map, List.getElem?_map]
    by_cases hm : m < 24
    · rw [List.getElem?_range hm]
      show some (Value.int .u8 (pad (p.take j) m)) = some (Value.int .u8 (pad (p.take (j + 1)) m))
      unfold pad
      rw [List.getElem?_take, List.getElem?_take]
      by_cases h1 : m < j
      · rw [if_pos h1, if_pos (by omega)]
      · rw [if_neg h1, if_neg (by omega)]
    · rw [List.getElem?_eq_none (by simp; omega)]; rfl
theorem wrap_id {x : Int} (h : 0 ≤ x ∧ x < 24) : IntKind.u8.wrap x = x := by
  have e : ∀ z : Int, IntKind.u8.wrap z = z % 256 := fun z => by simp [IntKind.wrap, IntKind.bits, IntKind.signed]
  rw [e]
  omega
theorem encV_inj {l : List D} {t u : BitVec 64 × List Int} (hl : l.length ≤ 24) (ht : okT l t) (hu : okT l u) (h : encV t = encV u) : t = u := by
  unfold encV at h
  injection h with h
  have h := congrArg Array.toList h
  simp only at h
  unfold encT encTn at h
  injection h with h1 h2
  injection h1 with _ h1
  obtain ⟨h3, h4⟩ := List.append_inj h2 (by simp)
  have hs : t.1 = u.1 := BitVec.eq_of_toNat_eq (by omega)
  have hn : t.2.length = u.2.length := by
    injection h4 with h4 _
    injection h4 with _ h4
    omega
  refine Prod.ext hs (List.ext_getElem? (fun j => ?_))
  rcases Nat.lt_or_ge j t.2.length with hj | hj
  · obtain ⟨x, hx⟩ : ∃ x, t.2[j]? = some x := ⟨_, List.getElem?_eq_getElem hj⟩
    obtain ⟨y, hy⟩ : ∃ y, u.2[j]? = some y := ⟨_, List.getElem?_eq_getElem (by omega)⟩
    have h5 := congrArg (fun q => q[j]?) h3
    have hj24 : j < 24 := by have := ht.2; omega
    simp only [List.getElem?_map, List.getElem?_range hj24, Option.map_some, Option.some.injEq] at h5
    injection h5 with _ h5
    unfold pad at h5
    rw [hx, hy] at h5
    dsimp only at h5
    have hx2 := ht.1 x (List.mem_of_getElem? hx)
    have hy2 := hu.1 y (List.mem_of_getElem? hy)
    rw [wrap_id (by omega), wrap_id (by omega)] at h5
    rw [hx, hy, h5]
  · rw [List.getElem?_eq_none hj, List.getElem?_eq_none (by omega)]
theorem enc_mem {l : List D} {t : BitVec 64 × List Int} {T : List (BitVec 64 × List Int)} (hl : l.length ≤ 24) (ht : okT l t) (hT : ∀ u ∈ T, okT l u) : encV t ∈ T.map encV ↔ t ∈ T := by
  constructor
  · intro h
    obtain ⟨u, hu, he⟩ := List.mem_map.1 h
    rw [← encV_inj hl (hT u hu) ht he]
    exact hu
  · exact fun h => List.mem_map.2 ⟨t, h, rfl⟩
noncomputable def orderP (l : List D) : Option (List Int) × Int := if Hist l then (dfsF l (l.length + 1) 0#64 [], 0) else (none, 270)
theorem lit_u64 (s : BitVec 64) : (Lit.int .u64 (s.toNat : Nat)).wf = true := by
  have := s.isLt
  simp [Lit.wf, IntKind.min, IntKind.max, IntKind.signed, IntKind.bits]
  omega
theorem lit_u8 (p : List Int) (j : Nat) : (Lit.int .u8 (pad p j)).wf = true := by
  have e : ∀ z : Int, IntKind.u8.wrap z = z % 256 := fun z => by simp [IntKind.wrap, IntKind.bits, IntKind.signed]
  unfold pad
  split
  · rw [e]
    simp [Lit.wf, IntKind.min, IntKind.max, IntKind.signed, IntKind.bits]
    omega
  · decide
theorem lit_i64 {n : Nat} (h : n ≤ 1000) : (Lit.int .i64 (n : Nat)).wf = true := by
  simp [Lit.wf, IntKind.min, IntKind.max, IntKind.signed, IntKind.bits]
  omega
end Go.Proofs.Ytmeheoflfdmgiaa.Lin
