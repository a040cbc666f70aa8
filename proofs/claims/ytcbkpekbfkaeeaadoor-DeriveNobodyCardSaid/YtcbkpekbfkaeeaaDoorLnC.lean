/- Rows, the queue behind them, what is right, the reference's search. No program here. -/
import Derived.Test.YtcbkpekbfkaeeaaDoorLnB
set_option linter.unusedVariables false
namespace Go.Proofs.YtcbkpekbfkaeeaaDoor.Lin
open Go Go.RowKit Go.Proofs.YtcbkpekbfkaeeaaDoor.Sx
def qplay : List D → List D → Option (List D)
  | q, [] => some q
  | q, d :: r => match qstep q d with | none => none | some q' => qplay q' r
theorem qplay_app (xs ys : List D) : ∀ q, qplay q (xs ++ ys) = (qplay q xs).bind (qplay · ys) := by
  induction xs with
  | nil => intro q; rfl
  | cons d r ih =>
    intro q
    show (match qstep q d with | none => none | some q' => qplay q' (r ++ ys)) = (match qstep q d with | none => none | some q' => qplay q' r).bind (qplay · ys)
    cases qstep q d with
    | none => rfl
    | some q' => exact ih q'
def prow (l : List D) (row : List Int) : List D := row.map (atI l)
theorem prow_app (l : List D) (a b : List Int) : prow l (a ++ b) = prow l a ++ prow l b := by simp [prow]
theorem qplay_one (q : List D) (d : D) : qplay q [d] = qstep q d := by
  show (match qstep q d with | none => none | some q' => some q') = _
  cases qstep q d <;> rfl
theorem take_snoc {α : Type} {row : List α} {i : Nat} {z : α} (hz : row[i]? = some z) : row.take (i + 1) = row.take i ++ [z] := by rw [List.take_add_one, hz]; rfl
theorem qplay_snoc {l : List D} {row : List Int} {i : Nat} {z : Int} {q : List D} (h : qplay [] (prow l (row.take i)) = some q) (hz : row[i]? = some z) : qplay [] (prow l (row.take (i + 1))) = qstep q (atI l z) := by
  rw [take_snoc hz, prow_app, qplay_app, h]
  exact qplay_one _ _
theorem qplay_stuck {l : List D} {row : List Int} {i : Nat} {z : Int} {q : List D} (h : qplay [] (prow l (row.take i)) = some q) (hz : row[i]? = some z) (hs : qstep q (atI l z) = none) : qplay [] (prow l row) = none := by
  have := qplay_snoc h hz
  rw [hs] at this
  rw [← List.take_append_drop (i + 1) row, prow_app, qplay_app, this]
  rfl
theorem qstep_len {q q' : List D} {d : D} (h : qstep q d = some q') : q'.length ≤ q.length + 1 := by
  unfold qstep at h
  split at h
  · injection h with h; subst h; simp
  · split at h
    · cases q with
      | nil => cases h
      | cons x r =>
        dsimp only at h
        split at h
        · injection h with h; subst h; simp; omega
        · cases h
    · split at h
      · split at h
        · injection h with h; subst h; omega
        · cases h
      · injection h with h
        subst h
        exact Nat.le_succ_of_le (List.length_filter_le _ _)
theorem qplay_len (xs : List D) : ∀ {q q' : List D}, qplay q xs = some q' → q'.length ≤ q.length + xs.length := by
  induction xs with
  | nil => intro q q' h; injection h with h; subst h; exact Nat.le_refl _
  | cons d r ih =>
    intro q q' h
    have h' : (match qstep q d with | none => none | some q2 => qplay q2 r) = some q' := h
    cases hs : qstep q d with
    | none => rw [hs] at h'; cases h'
    | some q2 =>
      rw [hs] at h'
      have h1 := ih h'
      have h2 := qstep_len hs
      rw [List.length_cons]
      omega
def playR (l : List D) (row : List Int) : Option (List D) × Int := if ¬ Hist l then (none, 270) else if okRow l row then (qplay [] (prow l row), 0) else (none, 5)
def PR (w : World) (r : Value) (p : Option (List D) × Int) : Prop := ∃ v, r = .tuple #[v, .bool p.1.isSome, .int .i64 p.2] ∧ SlG encD 6 w v (p.1.getD [])
theorem PR.no {w : World} {p : Option (List D) × Int} {e : Int} (h : p = (none, e)) : PR w (.tuple #[.slice none 0 0, .bool false, .int .i64 e]) p := by subst h; exact ⟨_, rfl, SlG.nil _⟩
theorem PR.yes {w : World} {p : Option (List D) × Int} {v : Value} {e : Int} {q : List D} (h : p = (some q, e)) (hs : SlG encD 6 w v q) : PR w (.tuple #[v, .bool true, .int .i64 e]) p := by subst h; exact ⟨_, rfl, hs⟩
/-- A row that is right. -/
def fitR (l : List D) (row : List Int) : Prop := ∀ (i : Nat) z, row[i]? = some z → fitsI l (row.take i) z
def rightI (l : List D) (row : List Int) : Prop := fitR l row ∧ (qplay [] (prow l row)).isSome = true ∧ allI l row
noncomputable def rightR (l : List D) (row : List Int) : Bool × Int := if ¬ Hist l then (false, 270) else if okRow l row then (dc (rightI l row), 0) else (false, 5)
theorem rightR_0 {l : List D} {row : List Int} (h : ¬ Hist l) : rightR l row = (false, 270) := if_pos h
theorem rightR_5 {l : List D} {row : List Int} (h : Hist l) (h2 : ¬ okRow l row) : rightR l row = (false, 5) := by unfold rightR; rw [if_neg (fun k => k h), if_neg h2]
theorem rightR_ok {l : List D} {row : List Int} (h : Hist l) (h2 : okRow l row) : rightR l row = (dc (rightI l row), 0) := by unfold rightR; rw [if_neg (fun k => k h), if_pos h2]
theorem playR_0 {l : List D} {row : List Int} (h : ¬ Hist l) : playR l row = (none, 270) := if_pos h
theorem playR_5 {l : List D} {row : List Int} (h : Hist l) (h2 : ¬ okRow l row) : playR l row = (none, 5) := by unfold playR; rw [if_neg (fun k => k h), if_neg h2]
theorem playR_ok {l : List D} {row : List Int} (h : Hist l) (h2 : okRow l row) : playR l row = (qplay [] (prow l row), 0) := by unfold playR; rw [if_neg (fun k => k h), if_pos h2]
theorem dc_congr {P Q : Prop} (h : P ↔ Q) : dc P = dc Q := by rw [propext h]
theorem dc_dec (P : Prop) [h : Decidable P] : dc P = decide P := by unfold dc; congr
/-- What asks tell. -/
theorem ask_0 {l : List D} {row : List Int} (h : (if ¬ Hist l then (270 : Int) else if okRow l row then 0 else 5) = 0) : Hist l ∧ okRow l row := by
  by_cases h1 : Hist l
  · rw [if_neg (fun k => k h1)] at h
    by_cases h2 : okRow l row
    · exact ⟨h1, h2⟩
    · rw [if_neg h2] at h; exact absurd h (by decide)
  · rw [if_pos h1] at h; exact absurd h (by decide)
theorem ask_n {l : List D} {row : List Int} (h : ¬ (if ¬ Hist l then (270 : Int) else if okRow l row then 0 else 5) = 0) : playR l row = (none, if ¬ Hist l then (270 : Int) else if okRow l row then 0 else 5) ∧ rightR l row = (false, if ¬ Hist l then (270 : Int) else if okRow l row then 0 else 5) := by
  unfold playR rightR
  by_cases h1 : Hist l
  · rw [if_neg (fun k => k h1)] at h
    by_cases h2 : okRow l row
    · rw [if_pos h2] at h; exact absurd rfl h
    · simp [h1, h2]
  · simp [h1]
/-- The first of many. -/
def firstN {α : Type} (f : Nat → Option α) : Nat → Nat → Option α
  | _, 0 => none
  | i, c + 1 => match f i with | some a => some a | none => firstN f (i + 1) c
theorem firstN_none {α : Type} {f : Nat → Option α} : ∀ (c i : Nat), (∀ j, i ≤ j → j < i + c → f j = none) → firstN f i c = none := by
  intro c
  induction c with
  | zero => intro i h; rfl
  | succ c ih =>
    intro i h
    show (match f i with | some a => some a | none => firstN f (i + 1) c) = none
    rw [h i (Nat.le_refl _) (by omega)]
    exact ih (i + 1) (fun j h1 h2 => h j (by omega) (by omega))
theorem firstN_some {α : Type} {f : Nat → Option α} {a : α} : ∀ (c i k : Nat), i ≤ k → k < i + c → (∀ j, i ≤ j → j < k → f j = none) → f k = some a → firstN f i c = some a := by
  intro c
  induction c with
  | zero => intro i k h1 h2; omega
  | succ c ih =>
    intro i k h1 h2 h3 h4
    show (match f i with | some a => some a | none => firstN f (i + 1) c) = some a
    by_cases e : i = k
    · subst e; rw [h4]
    · rw [h3 i (Nat.le_refl _) (by omega)]
      exact ih (i + 1) k (by omega) (by omega) (fun j h5 h6 => h3 j (by omega) h6) h4
/-- The reference's search. -/
noncomputable def candF (l : List D) (G : List Int → List D → Option (List Int)) (row : List Int) (q : List D) (n : Nat) : Option (List Int) :=
  if dc (fitsI l row (n : Int)) = true ∧ dc (lateI l row (n : Int)) = false then (match qstep q (atI l (n : Int)) with | none => none | some q' => G (row ++ [(n : Int)]) q') else none
noncomputable def stepF (l : List D) (G : List Int → List D → Option (List Int)) (row : List Int) (q : List D) : Option (List Int) :=
  if dc (allI l row) = true then some row else firstN (candF l G row q) 0 l.length
noncomputable def searchF (l : List D) : Nat → List Int → List D → Option (List Int)
  | 0 => fun _ _ => none
  | f + 1 => stepF l (searchF l f)
section
variable {l : List D} {G : List Int → List D → Option (List Int)} {row : List Int} {q q' : List D} {n : Nat}
theorem candF_unfit (h : dc (fitsI l row (n : Int)) = false) : candF l G row q n = none := if_neg (fun k => by rw [h] at k; cases k.1)
theorem candF_late (h : dc (lateI l row (n : Int)) = true) : candF l G row q n = none := if_neg (fun k => by rw [h] at k; cases k.2)
theorem candF_stuck (h : qstep q (atI l (n : Int)) = none) : candF l G row q n = none := by unfold candF; rw [h]; split <;> rfl
theorem candF_go (h1 : dc (fitsI l row (n : Int)) = true) (h2 : dc (lateI l row (n : Int)) = false) (h : qstep q (atI l (n : Int)) = some q') : candF l G row q n = G (row ++ [(n : Int)]) q' := by unfold candF; rw [h, if_pos ⟨h1, h2⟩]
theorem stepF_all (h : dc (allI l row) = true) : stepF l G row q = some row := if_pos h
theorem stepF_no (h : dc (allI l row) = false) (hn : ∀ j, j < l.length → candF l G row q j = none) : stepF l G row q = none := by unfold stepF; rw [h, if_neg (by decide)]; exact firstN_none _ _ (fun j _ hj => hn j (by omega))
theorem stepF_yes {a : List Int} (h : dc (allI l row) = false) (hn : ∀ j, j < n → candF l G row q j = none) (hl : n < l.length) (ha : candF l G row q n = some a) : stepF l G row q = some a := by unfold stepF; rw [h, if_neg (by decide)]; exact firstN_some _ _ n (Nat.zero_le _) (by omega) (fun j _ hj => hn j hj) ha
end
def SR (w : World) (r : Value) (o : Option (List Int)) : Prop := ∃ v, r = .tuple #[v, .bool o.isSome] ∧ SlG encI 1 w v (o.getD [])
theorem SR.no {w : World} {o : Option (List Int)} (h : o = none) : SR w (.tuple #[.slice none 0 0, .bool false]) o := by subst h; exact ⟨_, rfl, SlG.nil _⟩
theorem SR.yes {w : World} {v : Value} {o : Option (List Int)} {a : List Int} (h : o = some a) (hs : SlG encI 1 w v a) : SR w (.tuple #[v, .bool true]) o := by subst h; exact ⟨_, rfl, hs⟩
theorem nodup_snoc {row : List Int} {n : Int} (h : row.Nodup) (hn : n ∉ row) : (row ++ [n]).Nodup := by
  rw [List.nodup_append]
  exact ⟨h, by simp, fun a ha b hb e => by simp at hb; subst hb; subst e; exact hn ha⟩
theorem okRow_snoc {l : List D} {row : List Int} {n : Int} (h : okRow l row) (hn : 0 ≤ n ∧ n < l.length) : okRow l (row ++ [n]) := by
  intro z hz
  rcases List.mem_append.1 hz with h1 | h1
  · exact h z h1
  · simp at h1; subst h1; exact hn
theorem pigeon : ∀ (n : Nat) (l : List Nat), l.Nodup → (∀ x ∈ l, x < n) → l.length ≤ n := by
  intro n
  induction n with
  | zero =>
    intro l _ h
    cases l with
    | nil => exact Nat.le_refl _
    | cons x r => exact absurd (h x (by simp)) (by omega)
  | succ n ih =>
    intro l hd h
    by_cases hm : n ∈ l
    · have h1 := ih (l.erase n) (hd.erase n) (fun x hx => by
        have h2 := (hd.mem_erase_iff).1 hx
        have := h x h2.2
        omega)
      rw [List.length_erase_of_mem hm] at h1
      omega
    · exact Nat.le_succ_of_le (ih l hd (fun x hx => by
        have := h x hx
        have : x ≠ n := fun e => hm (e ▸ hx)
        omega))
theorem okRow_len {l : List D} {row : List Int} (h : okRow l row) (hd : row.Nodup) : row.length ≤ l.length := by
  have h1 : (row.map Int.toNat).Nodup := by
    refine List.Pairwise.map _ (R := fun a b => a ≠ b ∧ 0 ≤ a ∧ 0 ≤ b) (fun a b ⟨h1, h2, h3⟩ e => h1 (by omega)) ?_
    exact List.Pairwise.imp_of_mem (fun {a b} ha hb e => ⟨e, (h a ha).1, (h b hb).1⟩) hd
  have h2 := pigeon l.length _ h1 (fun x hx => by
    obtain ⟨z, hz, rfl⟩ := List.mem_map.1 hx
    have := h z hz
    omega)
  simpa using h2
theorem none_of {α : Type} {o : Option α} (h : o.isSome = false) : o = none := by cases o with | none => rfl | some a => cases h
theorem some_of {α : Type} {o : Option α} (h : o.isSome = true) : ∃ a, o = some a := by cases o with | none => cases h | some a => exact ⟨a, rfl⟩
noncomputable def orderR (l : List D) : Option (List Int) × Int := if Hist l then (searchF l (l.length + 1) [] [], 0) else (none, 270)
def OR (w : World) (r : Value) (p : Option (List Int) × Int) : Prop := ∃ v, r = .tuple #[v, .bool p.1.isSome, .int .i64 p.2] ∧ SlG encI 1 w v (p.1.getD [])
/-- One row ahead of another. -/
def lessB : List Int → List Int → Bool
  | [], [] => false
  | [], _ :: _ => true
  | _ :: _, [] => false
  | x :: a, y :: b => if x = y then lessB a b else decide (x < y)
theorem lessB_at : ∀ (i : Nat) (a b : List Int) (x y : Int), a.take i = b.take i → a[i]? = some x → b[i]? = some y → ¬ x = y → lessB a b = decide (x < y) := by
  intro i
  induction i with
  | zero =>
    intro a b x y _ hx hy hne
    cases a with
    | nil => cases hx
    | cons u a =>
      cases b with
      | nil => cases hy
      | cons v b =>
        injection hx with hx; injection hy with hy
        subst hx; subst hy
        unfold lessB
        rw [if_neg hne]
  | succ i ih =>
    intro a b x y h hx hy hne
    cases a with
    | nil => cases hx
    | cons u a =>
      cases b with
      | nil => cases hy
      | cons v b =>
        simp only [List.take_succ_cons, List.cons.injEq] at h
        obtain ⟨rfl, h⟩ := h
        unfold lessB
        rw [if_pos rfl]
        exact ih a b x y h hx hy hne
theorem lessB_end : ∀ (i : Nat) (a b : List Int), a.take i = b.take i → i ≤ a.length → i ≤ b.length → (i = a.length ∨ i = b.length) → lessB a b = decide ((a.length : Int) < b.length) := by
  intro i
  induction i with
  | zero =>
    intro a b _ _ _ h
    cases a with
    | nil => cases b with
      | nil => rfl
      | cons y b => unfold lessB; exact (decide_eq_true (by simp only [List.length_nil, List.length_cons]; omega)).symm
    | cons x a => cases b with
      | nil => unfold lessB; exact (decide_eq_false (by simp only [List.length_nil, List.length_cons]; omega)).symm
      | cons y b => simp at h
  | succ i ih =>
    intro a b h h1 h2 h3
    cases a with
    | nil => simp at h1
    | cons u a =>
      cases b with
      | nil => simp at h2
      | cons v b =>
        simp only [List.take_succ_cons, List.cons.injEq] at h
        obtain ⟨rfl, h⟩ := h
        simp only [List.length_cons] at h1 h2 h3
        unfold lessB
        rw [if_pos rfl, ih a b h (by omega) (by omega) (by omega)]
        simp only [List.length_cons]
        exact decide_eq_decide.2 (by omega)
end Go.Proofs.YtcbkpekbfkaeeaaDoor.Lin
