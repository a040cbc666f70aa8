/- The laws of rows: the search with what was tried is the reference's; what is found is right, and the least. No program here. -/
import Derived.Test.YtmeheoflfdmgiaaLnK
set_option linter.unusedVariables false
set_option linter.unusedSimpArgs false
namespace Go.Proofs.Ytmeheoflfdmgiaa.Lin
open Go Go.RowKit Go.Proofs.Ytmeheoflfdmgiaa.Sx
theorem firstN_map {α β : Type} {f : Nat → Option α} {g : Nat → Option β} {h : α → β} : ∀ (c i : Nat), (∀ j, i ≤ j → j < i + c → g j = (f j).map h) → firstN g i c = (firstN f i c).map h := by
  intro c
  induction c with
  | zero => intro i _; rfl
  | succ c ih =>
    intro i hh
    show (match g i with | some a => some a | none => firstN g (i + 1) c) = (match f i with | some a => some a | none => firstN f (i + 1) c).map h
    rw [hh i (Nat.le_refl _) (by omega)]
    cases f i with
    | none => exact ih (i + 1) (fun j h1 h2 => hh j (by omega) (by omega))
    | some a => rfl
theorem firstN_all {α : Type} {f : Nat → Option α} : ∀ (c i : Nat), firstN f i c = none → ∀ j, i ≤ j → j < i + c → f j = none := by
  intro c
  induction c with
  | zero => intro i _ j h1 h2; omega
  | succ c ih =>
    intro i h j h1 h2
    have h' : (match f i with | some a => some a | none => firstN f (i + 1) c) = none := h
    cases hf : f i with
    | some b => rw [hf] at h'; cases h'
    | none =>
      rw [hf] at h'
      by_cases e : j = i
      · subst e; exact hf
      · exact ih (i + 1) h' j (by omega) (by omega)
theorem self_ahead {l : List D} (hH : Hist l) {i : Nat} {d : D} (hd : l[i]? = some d) : ¬ ahead d d := by
  intro h
  have h1 := (hH.2 d (List.mem_of_getElem? hd)).2.2
  rcases h1 with h1 | h1
  · rw [h.1] at h1; cases h1
  · have := h.2; omega
/-- What was not in the row when one was put is not ahead of it. -/
def InvA (l : List D) (row : List Int) : Prop := ∀ z ∈ row, ∀ (i : Nat) d, l[i]? = some d → (i : Int) ∉ row → ¬ ahead d (atI l z)
theorem free_fits {l : List D} {row : List Int} {done : BitVec 64} (hH : Hist l) (hb : BitsOf done row) (hi : InvA l row) {n : Nat} (hn : n < l.length) : (fitsI l row (n : Int) ∧ ¬ lateI l row (n : Int)) ↔ freeI l done n := by
  have h64 : l.length ≤ 24 := hH.1
  obtain ⟨dn, hdn⟩ : ∃ d, l[n]? = some d := ⟨_, List.getElem?_eq_getElem hn⟩
  constructor
  · rintro ⟨h1, h2⟩
    refine ⟨fun k d hd hk ha => ?_, by rw [hb n (by omega)]; exact decide_eq_false h1.1⟩
    have hkl := (List.getElem?_eq_some_iff.1 hd).1
    rw [hb k (by omega)] at hk
    have hk := of_decide_eq_false hk
    by_cases e : k = n
    · subst e
      rw [atI_nat hd] at ha
      exact self_ahead hH hd ha
    · exact h2 ⟨k, d, hd, by omega, hk, ha⟩
  · rintro ⟨h1, h2⟩
    rw [hb n (by omega)] at h2
    have h2 := of_decide_eq_false h2
    refine ⟨⟨h2, fun z hz ha => ?_⟩, fun ⟨k, d, hd, hne, hk, ha⟩ => ?_⟩
    · rw [atI_nat hdn] at ha
      exact hi z hz n dn hdn h2 ha
    · have hkl := (List.getElem?_eq_some_iff.1 hd).1
      exact h1 k d hd (by rw [hb k (by omega)]; exact decide_eq_false hk) ha
theorem InvA.snoc {l : List D} {row : List Int} {done : BitVec 64} (hH : Hist l) (hb : BitsOf done row) (hi : InvA l row) {n : Nat} (hf : freeI l done n) : InvA l (row ++ [(n : Int)]) := by
  intro z hz i d hd hni
  have hni1 : (i : Int) ∉ row := fun h => hni (List.mem_append_left _ h)
  have h24 : l.length ≤ 24 := hH.1
  have hil := (List.getElem?_eq_some_iff.1 hd).1
  rcases List.mem_append.1 hz with h | h
  · exact hi z h i d hd hni1
  · simp at h
    subst h
    exact hf.1 i d hd (by rw [hb i (by omega)]; exact decide_eq_false hni1)
theorem search_dfs {l : List D} (hH : Hist l) : ∀ (f : Nat) (row p : List Int) (done : BitVec 64), BitsOf done row → InvA l row → searchF l f row (prow l p) = (dfsF l f done p).map (row ++ ·) := by
  intro f
  induction f with
  | zero => intro row p done _ _; rfl
  | succ f ih =>
    intro row p done hb hi
    have h24 : l.length ≤ 24 := hH.1
    show stepF l (searchF l f) row (prow l p) = (stepD l (dfsF l f) done p).map (row ++ ·)
    have hall := all_bits (l := l) (by omega) hb
    by_cases ha : allI l row
    · rw [stepF_all (dc_true ha), stepD_all (hall.2 ha)]
      simp
    · unfold stepF stepD
      rw [if_neg (by rw [dc_false ha]; decide), if_neg (fun h => ha (hall.1 h))]
      refine firstN_map _ _ (fun n _ hn => ?_)
      have hn : n < l.length := by omega
      by_cases hf : freeI l done n
      · obtain ⟨h1, h2⟩ := (free_fits hH hb hi hn).2 hf
        cases hp : pstep l p (n : Int) with
        | none => rw [candD_stuck hp, candF_stuck (by rw [pstep_q, hp]; rfl)]; rfl
        | some p' =>
          have hfn := of_decide_eq_false ((hb n (by omega)).symm.trans hf.2)
          rw [candD_go (dc_true hf) hp, candF_go (dc_true h1) (dc_false h2) (by rw [pstep_q, hp]; rfl), ih (row ++ [(n : Int)]) p' (done ||| ((1#64) <<< n)) (hb.snoc (z := (n : Int)) (by omega)) (hi.snoc hH hb hf)]
          cases dfsF l f (done ||| ((1#64) <<< n)) p' with
          | none => rfl
          | some r => simp
      · rw [candD_held (dc_false hf)]
        have : ¬ (fitsI l row (n : Int) ∧ ¬ lateI l row (n : Int)) := fun h => hf ((free_fits hH hb hi hn).1 h)
        unfold candF
        rw [if_neg (fun ⟨h1, h2⟩ => this ⟨of_dc h1, not_dc h2⟩)]
        rfl
theorem order_same (l : List D) : orderP l = orderR l := by
  unfold orderP orderR
  split
  · rename_i h
    have := search_dfs h (l.length + 1) [] [] 0#64 BitsOf.nil (fun z hz => by cases hz)
    rw [show prow l [] = [] from rfl] at this
    rw [this]
    cases dfsF l (l.length + 1) 0#64 [] <;> rfl
  · rfl
/-! ### what is found is right -/
theorem fitR_snoc {l : List D} {row : List Int} {z : Int} (h : fitR l row) (hz : fitsI l row z) : fitR l (row ++ [z]) := by
  intro i y hy
  rcases Nat.lt_or_ge i row.length with hi | hi
  · rw [List.getElem?_append_left hi] at hy
    rw [List.take_append_of_le_length (by omega)]
    exact h i y hy
  · have hl := (List.getElem?_eq_some_iff.1 hy).1
    simp only [List.length_append, List.length_cons, List.length_nil] at hl
    obtain rfl : i = row.length := by omega
    simp at hy
    subst hy
    rw [List.take_left]
    exact hz
theorem found_right {l : List D} : ∀ (f : Nat) (row : List Int) (q : List D) (a : List Int), okRow l row → fitR l row → qplay [] (prow l row) = some q → searchF l f row q = some a → rightI l a ∧ okRow l a := by
  intro f
  induction f with
  | zero => intro row q a _ _ _ h; cases h
  | succ f ih =>
    intro row q a ho hf hq h
    have h : stepF l (searchF l f) row q = some a := h
    by_cases ha : allI l row
    · rw [stepF_all (dc_true ha)] at h
      injection h with h
      subst h
      exact ⟨⟨hf, by rw [hq]; rfl, ha⟩, ho⟩
    · unfold stepF at h
      rw [if_neg (by rw [dc_false ha]; decide)] at h
      obtain ⟨n, _, hn, hc, _⟩ := firstN_mem _ _ h
      unfold candF at hc
      split at hc
      · rename_i hh
        cases hs : qstep q (atI l (n : Int)) with
        | none => rw [hs] at hc; cases hc
        | some q' =>
          rw [hs] at hc
          dsimp only at hc
          exact ih _ q' a (okRow_snoc ho (by omega)) (fitR_snoc hf (of_dc hh.1)) (by rw [prow_app, qplay_app, hq]; exact (qplay_one _ _).trans hs) hc
      · cases hc
/-! ### and the least -/
theorem lessB_app (row : List Int) : ∀ (a b : List Int), lessB (row ++ a) (row ++ b) = lessB a b := by
  induction row with
  | nil => intro a b; rfl
  | cons x r ih =>
    intro a b
    show (if x = x then lessB (r ++ a) (r ++ b) else decide (x < x)) = _
    rw [if_pos rfl, ih]
theorem lessB_nil (a : List Int) : lessB a [] = false := by cases a <;> rfl
theorem qplay_pre {l : List D} {row t : List Int} (h : (qplay [] (prow l (row ++ t))).isSome = true) : ∃ q, qplay [] (prow l row) = some q := by
  cases hq : qplay [] (prow l row) with
  | some q => exact ⟨q, rfl⟩
  | none => rw [prow_app, qplay_app, hq] at h; cases h
theorem found_ext {l : List D} : ∀ (f : Nat) (row : List Int) (q : List D) (a : List Int), searchF l f row q = some a → ∃ t, a = row ++ t := by
  intro f
  induction f with
  | zero => intro row q a h; cases h
  | succ f ih =>
    intro row q a h
    have h : stepF l (searchF l f) row q = some a := h
    unfold stepF at h
    split at h
    · injection h with h; subst h; exact ⟨[], by simp⟩
    · obtain ⟨n, _, hn, hc, _⟩ := firstN_mem _ _ h
      unfold candF at hc
      split at hc
      · cases hs : qstep q (atI l (n : Int)) with
        | none => rw [hs] at hc; cases hc
        | some q' =>
          rw [hs] at hc
          obtain ⟨t, rfl⟩ := ih _ _ _ hc
          exact ⟨(n : Int) :: t, by simp⟩
      · cases hc
theorem fit_mem {l : List D} {row : List Int} (h : fitR l row) : row.Nodup := by
  have hh : ∀ n, n ≤ row.length → (row.take n).Nodup := by
    intro n
    induction n with
    | zero => intro _; simp
    | succ n ih =>
      intro hn
      obtain ⟨z, hz⟩ : ∃ z, row[n]? = some z := ⟨_, List.getElem?_eq_getElem (by omega)⟩
      rw [take_snoc hz]
      exact nodup_snoc (ih (by omega)) (h n z hz).1
  have := hh row.length (Nat.le_refl _)
  rwa [List.take_length] at this
theorem least {l : List D} : ∀ (f : Nat) (row t : List Int) (q : List D), qplay [] (prow l row) = some q → rightI l (row ++ t) → okRow l (row ++ t) → row.length + f = l.length + 1 → ∃ a, searchF l f row q = some a ∧ lessB (row ++ t) a = false := by
  intro f
  induction f with
  | zero =>
    intro row t q hq hr ho hlen
    have := okRow_len ho (fit_mem hr.1)
    rw [List.length_append] at this
    omega
  | succ f ih =>
    intro row t q hq hr ho hlen
    show ∃ a, stepF l (searchF l f) row q = some a ∧ _
    by_cases ha : allI l row
    · refine ⟨row, stepF_all (dc_true ha), ?_⟩
      have := lessB_app row t []
      rw [List.append_nil] at this
      rw [this]
      exact lessB_nil t
    · cases t with
      | nil => rw [List.append_nil] at hr; exact absurd hr.2.2 ha
      | cons n t =>
        have hno := ho n (by simp)
        obtain ⟨m, rfl⟩ : ∃ m : Nat, n = m := ⟨n.toNat, by omega⟩
        have hfit : fitsI l row (m : Int) := by
          have := hr.1 row.length (m : Int) (by simp)
          rwa [List.take_left] at this
        have hnl : ¬ lateI l row (m : Int) := by
          rintro ⟨i, d, hd, hne, hni, hah⟩
          have hin := hr.2.2 i d hd hah.1
          obtain ⟨k, hk⟩ := List.getElem?_of_mem hin
          have hkr : row.length < k := by
            rcases Nat.lt_or_ge k row.length with h | h
            · rw [List.getElem?_append_left h] at hk
              exact absurd (List.mem_of_getElem? hk) hni
            · rcases Nat.lt_or_ge row.length k with h2 | h2
              · exact h2
              · obtain rfl : k = row.length := by omega
                simp at hk
                omega
          have hfk := (hr.1 k _ hk).2 (m : Int) (List.mem_of_getElem? (i := row.length) (by rw [List.getElem?_take, if_pos hkr]; simp))
          rw [atI_nat hd] at hfk
          exact hfk hah
        have hpre : row ++ (m : Int) :: t = (row ++ [(m : Int)]) ++ t := by simp
        obtain ⟨q', hq'⟩ := qplay_pre (by rw [← hpre]; exact hr.2.1)
        have hs : qstep q (atI l (m : Int)) = some q' := by
          rw [prow_app, qplay_app, hq] at hq'
          exact (qplay_one _ _).symm.trans hq'
        obtain ⟨a, ha2, hless⟩ := ih (row ++ [(m : Int)]) t q' hq' (by rw [← hpre]; exact hr) (by rw [← hpre]; exact ho) (by simp; omega)
        rw [← hpre] at hless
        have hcm := (candF_go (G := searchF l f) (dc_true hfit) (dc_false hnl) hs).trans ha2
        cases hfst : firstN (candF l (searchF l f) row q) 0 l.length with
        | none =>
          exfalso
          have hml : m < l.length := by omega
          rw [firstN_all _ _ hfst m (Nat.zero_le _) (by omega)] at hcm
          cases hcm
        | some b =>
          refine ⟨b, by unfold stepF; rw [if_neg (by rw [dc_false ha]; decide)]; exact hfst, ?_⟩
          obtain ⟨j, _, hj, hcj, hfirst⟩ := firstN_mem _ _ hfst
          rcases Nat.lt_trichotomy j m with h | h | h
          · unfold candF at hcj
            split at hcj
            · cases hsj : qstep q (atI l (j : Int)) with
              | none => rw [hsj] at hcj; cases hcj
              | some qj =>
                rw [hsj] at hcj
                obtain ⟨s, rfl⟩ := found_ext _ _ _ _ hcj
                rw [List.append_assoc, lessB_app]
                show (if (m : Int) = (j : Int) then _ else decide ((m : Int) < (j : Int))) = false
                rw [if_neg (by omega)]
                exact decide_eq_false (by omega)
            · cases hcj
          · subst h
            rw [hcm] at hcj
            injection hcj with hcj
            subst hcj
            exact hless
          · rw [hfirst m (Nat.zero_le _) h] at hcm
            cases hcm
theorem order_finds {l : List D} (hH : Hist l) {row : List Int} (ho : okRow l row) (hr : rightI l row) : ∃ a, (orderR l).1 = some a ∧ lessB row a = false := by
  unfold orderR
  rw [if_pos hH]
  obtain ⟨a, h1, h2⟩ := least (l.length + 1) [] row [] rfl (by simpa using hr) (by simpa using ho) (by simp)
  exact ⟨a, h1, by simpa using h2⟩
theorem order_right {l : List D} (hH : Hist l) {a : List Int} (h : (orderR l).1 = some a) : rightI l a ∧ okRow l a := by
  unfold orderR at h
  rw [if_pos hH] at h
  exact found_right (l.length + 1) [] [] a (fun z hz => by cases hz) (fun i z hz => by simp at hz) rfl h
theorem orderR_err {l : List D} : (orderR l).2 = if Hist l then 0 else 270 := by unfold orderR; split <;> rfl
theorem orderR_no {l : List D} (h : ¬ Hist l) : (orderR l).1 = none := by unfold orderR; rw [if_neg h]
/-! ### a search that can be computed -/
def freeB (l : List D) (done : BitVec 64) (i : Nat) : Bool := (List.range l.length).all (fun k => done.getLsbD k || !decide (ahead (atI l (k : Int)) (atI l (i : Int)))) && !done.getLsbD i
theorem free_dc (l : List D) (done : BitVec 64) (i : Nat) : dc (freeI l done i) = freeB l done i := by
  cases hb : freeB l done i with
  | true =>
    refine dc_true ?_
    unfold freeB at hb
    simp only [Bool.and_eq_true, List.all_eq_true, List.mem_range, Bool.or_eq_true, Bool.not_eq_true', decide_eq_false_iff_not] at hb
    refine ⟨fun k d hd hk ha => ?_, hb.2⟩
    rcases hb.1 k (List.getElem?_eq_some_iff.1 hd).1 with h | h
    · rw [hk] at h; cases h
    · rw [atI_nat hd] at h; exact h ha
  | false =>
    refine dc_false (fun h => ?_)
    have : freeB l done i = true := by
      unfold freeB
      simp only [Bool.and_eq_true, List.all_eq_true, List.mem_range, Bool.or_eq_true, Bool.not_eq_true', decide_eq_false_iff_not]
      refine ⟨fun k hk => ?_, h.2⟩
      obtain ⟨d, hd⟩ : ∃ d, l[k]? = some d := ⟨_, List.getElem?_eq_getElem hk⟩
      cases hd2 : done.getLsbD k with
      | true => exact .inl rfl
      | false => exact .inr (by rw [atI_nat hd]; exact h.1 k d hd hd2)
    rw [hb] at this
    cases this
def dfsB (l : List D) : Nat → BitVec 64 → List Int → Option (List Int)
  | 0, _, _ => none
  | f + 1, done, p => if ((((mustF l l.length) &&& ~~~done).toNat : Nat) : Int) = 0 then some [] else firstN (fun i => if freeB l done i = true then (match pstep l p (i : Int) with | none => none | some p' => (dfsB l f (done ||| ((1#64) <<< i)) p').map (fun r => (i : Int) :: r)) else none) 0 l.length
theorem dfs_B (l : List D) : ∀ (f : Nat) (done : BitVec 64) (p : List Int), dfsF l f done p = dfsB l f done p := by
  intro f
  induction f with
  | zero => intro done p; rfl
  | succ f ih =>
    intro done p
    show stepD l (dfsF l f) done p = _
    unfold stepD dfsB
    split
    · rfl
    · congr 1
      funext i
      unfold candD
      rw [free_dc]
      split
      · cases pstep l p (i : Int) with
        | none => rfl
        | some p' => simp only [ih]
      · rfl
end Go.Proofs.Ytmeheoflfdmgiaa.Lin
