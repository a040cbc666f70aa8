/- Lists by links stand for rows of numbers: what each function makes of the rows. No program here. -/
import Derived.Test.YtcbkpekbfkaeeaaDoorLsModel
namespace Go.Proofs.YtcbkpekbfkaeeaaDoor.Ls
def pv (l : List Int) (k : Nat) : Int := if k = 0 then -1 else (l[k - 1]?).getD (-1)
structure Rep (N : Nat) (ls : List (List Int)) (x : LS) : Prop where
  ln : x.nodes.length = N
  lh : x.heads.length = ls.length
  hd : ∀ (i : Nat) l, ls[i]? = some l → x.heads[i]? = some ⟨(l[0]?).getD (-1), (l.getLast?).getD (-1), l.length⟩
  nd : ∀ (i : Nat) l (k : Nat) (n : Int), ls[i]? = some l → l[k]? = some n → (0 ≤ n ∧ n < N) ∧ x.nodes[n.toNat]? = some ⟨i, pv l k, (l[k + 1]?).getD (-1)⟩
  lo : ∀ n : Int, 0 ≤ n → n < N → (∀ (i : Nat) l, ls[i]? = some l → n ∉ l) → x.nodes[n.toNat]? = some loose
  nodup : ∀ (i : Nat) l, ls[i]? = some l → l.Nodup
theorem upd_get {α : Type} (xs : List α) (i : Int) (f : α → α) (j : Nat) : (upd xs i f)[j]? = if i.toNat = j then (xs[j]?).map f else xs[j]? := by
  unfold upd
  split
  · rename_i u hu
    rw [List.getElem?_set]
    by_cases h : i.toNat = j
    · subst h
      have h1 := (List.getElem?_eq_some_iff.1 hu).1
      rw [if_pos rfl, if_pos rfl, if_pos h1, hu]
      rfl
    · simp [h]
  · rename_i hu
    by_cases h : i.toNat = j
    · subst h; simp [hu]
    · simp [h]
theorem set_get {α : Type} (xs : List α) (i : Nat) (v : α) (j : Nat) (h : i < xs.length) : (xs.set i v)[j]? = if i = j then some v else xs[j]? := by
  rw [List.getElem?_set]; simp [h]
theorem pigeon (N : Nat) : ∀ (l : List Int), l.Nodup → (∀ n ∈ l, 0 ≤ n ∧ n < N) → l.length ≤ N := by
  induction N with
  | zero =>
    intro l _ h
    cases l with
    | nil => simp
    | cons a r => have := h a (by simp); omega
  | succ N ih =>
    intro l hd h
    have h1 := ih (l.erase (N : Int)) (hd.erase _) (fun n hn => by
      have h2 := (List.Nodup.mem_erase_iff hd).1 hn
      have h3 := h n h2.2
      have h4 : n ≠ (N : Int) := h2.1
      omega)
    have h2 : l.length ≤ (l.erase (N : Int)).length + 1 := by
      rw [List.length_erase]
      split <;> omega
    omega
theorem insert_lenN (x : LS) (a b c d : Int) : (x.insert a b c d).nodes.length = x.nodes.length := by
  simp only [LS.insert]
  (repeat' split) <;> simp [upd_length]
theorem insert_lenH (x : LS) (a b c d : Int) : (x.insert a b c d).heads.length = x.heads.length := by
  simp only [LS.insert]
  (repeat' split) <;> simp [upd_length]
theorem nodup_inj {l : List Int} (hd : l.Nodup) {i j : Nat} {n : Int} (hi : l[i]? = some n) (hj : l[j]? = some n) : i = j := by
  obtain ⟨hi1, hi2⟩ := List.getElem?_eq_some_iff.1 hi
  obtain ⟨hj1, hj2⟩ := List.getElem?_eq_some_iff.1 hj
  have hp := List.pairwise_iff_getElem.1 hd
  rcases Nat.lt_trichotomy i j with h | h | h
  · exact absurd (hi2.trans hj2.symm) (hp i j hi1 hj1 h)
  · exact h
  · exact absurd (hj2.trans hi2.symm) (hp j i hj1 hi1 h)
namespace Rep
variable {N : Nat} {ls : List (List Int)} {x : LS}
theorem len (R : Rep N ls x) {i : Nat} {l : List Int} (h : ls[i]? = some l) : l.length ≤ N :=
  pigeon N l (R.nodup i l h) (fun n hn => by
    obtain ⟨k, hk⟩ := List.getElem?_of_mem hn
    exact (R.nd i l k n h hk).1)
theorem same (R : Rep N ls x) {i j : Nat} {l m : List Int} {n : Int} (h : ls[i]? = some l) (h' : ls[j]? = some m) (hn : n ∈ l) (hm : n ∈ m) : i = j := by
  obtain ⟨k, hk⟩ := List.getElem?_of_mem hn
  obtain ⟨k', hk'⟩ := List.getElem?_of_mem hm
  have h1 := (R.nd i l k n h hk).2
  rw [(R.nd j m k' n h' hk').2] at h1
  injection h1 with h1
  injection h1 with h1 _ _
  omega
theorem range (R : Rep N ls x) {i : Nat} {l : List Int} {n : Int} (h : ls[i]? = some l) (hn : n ∈ l) : 0 ≤ n ∧ n < N := by
  obtain ⟨k, hk⟩ := List.getElem?_of_mem hn
  exact (R.nd i l k n h hk).1
theorem new (N M : Nat) : Rep N (List.replicate M []) (LS.new N M) where
  ln := by simp [LS.new]
  lh := by simp [LS.new]
  hd := fun i l h => by
    simp only [List.getElem?_replicate] at h
    split at h
    · rename_i hi
      obtain rfl := Option.some.inj h
      simp [LS.new, hi]
    · cases h
  nd := fun i l k n h hk => by
    simp only [List.getElem?_replicate] at h
    split at h
    · obtain rfl := Option.some.inj h; simp at hk
    · cases h
  lo := fun n h0 h1 _ => by simp [LS.new, List.getElem?_replicate]; omega
  nodup := fun i l h => by
    simp only [List.getElem?_replicate] at h
    split at h
    · obtain rfl := Option.some.inj h; simp
    · cases h
theorem back (R : Rep N ls x) {i : Nat} {l : List Int} {n : Int} (h : ls[i]? = some l) (h0 : 0 ≤ n) (h1 : n < N) (hn : ∀ (j : Nat) m, ls[j]? = some m → n ∉ m) :
    Rep N (ls.set i (l ++ [n])) (x.insert i n ((l.getLast?).getD (-1)) (-1)) := by
  have hi : i < ls.length := (List.getElem?_eq_some_iff.1 h).1
  have hil : ((i : Nat) : Int).toNat = i := by simp
  have hnn : n.toNat < x.nodes.length := by rw [R.ln]; omega
  -- the last one
  have hlast : ∀ m, l.getLast? = some m → m ∈ l ∧ l[l.length - 1]? = some m := fun m hm => ⟨List.mem_of_getLast? hm, by rw [← List.getLast?_eq_getElem?]; exact hm⟩
  have node : ∀ m : Int, 0 ≤ m → (x.insert i n ((l.getLast?).getD (-1)) (-1)).nodes[m.toNat]? =
      if m = n then some ⟨i, (l.getLast?).getD (-1), -1⟩ else if l.getLast? = some m then (x.nodes[m.toNat]?).map (fun u => { u with nxt := n }) else x.nodes[m.toNat]? := by
    intro m hm
    simp only [LS.insert, if_true]
    cases hl : l.getLast? with
    | none =>
      simp only [Option.getD_none, if_true]
      rw [set_get _ _ _ _ hnn]
      by_cases e : m = n
      · subst e; simp
      · rw [if_neg (by omega), if_neg e, if_neg (by simp)]
    | some p =>
      have hp := R.range h (hlast p hl).1
      simp only [Option.getD_some]
      rw [if_neg (by omega), upd_get, set_get _ _ _ _ hnn]
      have hpn : p ≠ n := fun e => hn i l h (e ▸ (hlast p hl).1)
      by_cases e : m = n
      · subst e
        rw [if_neg (by omega), if_pos rfl, if_pos rfl]
      · rw [if_neg e]
        by_cases e2 : p = m
        · subst e2
          rw [if_pos rfl, if_pos rfl, if_neg (by omega)]
        · rw [if_neg (by omega), if_neg (by omega), if_neg (by simpa using e2)]
  have head : ∀ j : Nat, (x.insert i n ((l.getLast?).getD (-1)) (-1)).heads[j]? = if i = j then some ⟨((l ++ [n])[0]?).getD (-1), n, l.length + 1⟩ else x.heads[j]? := by
    intro j
    have hh := R.hd i l h
    simp only [LS.insert, if_true]
    rw [upd_get, upd_get, hil]
    by_cases e : i = j
    · subst e
      rw [if_pos rfl, if_pos rfl, if_pos rfl]
      cases l with
      | nil => simp [upd_get, hh]
      | cons a r => 
        have h3 : ((a :: r).getLast?).getD (-1) ≠ -1 := by
          have := R.range h (List.mem_of_getLast? (List.getLast?_eq_some_getLast (l := a :: r) (by simp)))
          rw [List.getLast?_eq_some_getLast (by simp)]
          simp only [Option.getD_some]
          omega
        rw [if_neg h3, hh]
        simp
    · rw [if_neg e, if_neg e, if_neg e]
      split
      · rw [upd_get, hil, if_neg e]
      · rfl
  refine ⟨?_, ?_, ?_, ?_, ?_, ?_⟩
  · rw [insert_lenN, R.ln]
  · rw [insert_lenH, R.lh, List.length_set]
  · intro j m hm
    rw [head]
    rw [set_get _ _ _ _ hi] at hm
    by_cases e : i = j
    · rw [if_pos e] at hm ⊢
      obtain rfl := Option.some.inj hm
      simp
    · rw [if_neg e] at hm ⊢
      exact R.hd j m hm
  · intro j m k q hm hk
    rw [set_get _ _ _ _ hi] at hm
    by_cases e : i = j
    · subst e
      rw [if_pos rfl] at hm
      obtain rfl := Option.some.inj hm
      rw [List.getElem?_append] at hk
      split at hk
      · rename_i hkl
        have hq := R.nd i l k q h hk
        have hqn : q ≠ n := fun e => hn i l h (e ▸ List.mem_of_getElem? hk)
        refine ⟨hq.1, ?_⟩
        rw [node q hq.1.1, if_neg hqn]
        have hpv : pv (l ++ [n]) k = pv l k := by
          unfold pv
          split
          · rfl
          · rw [List.getElem?_append_left (by omega)]
        rw [hpv]
        by_cases e3 : k + 1 = l.length
        · have hg : l.getLast? = some q := by rw [List.getLast?_eq_getElem?, show l.length - 1 = k by omega]; exact hk
          rw [if_pos hg, hq.2, List.getElem?_append_right (by omega), show k + 1 - l.length = 0 by omega]
          simp
        · have hg : ¬ l.getLast? = some q := by
            rw [List.getLast?_eq_getElem?]
            intro hg
            have h8 := nodup_inj (R.nodup i l h) hg hk
            omega
          rw [if_neg hg, hq.2, List.getElem?_append_left (by omega)]
      · rename_i hkl
        have hk0 : k - l.length = 0 := by
          rcases Nat.eq_zero_or_pos (k - l.length) with h' | h'
          · exact h'
          · rw [List.getElem?_eq_none (by simp; omega)] at hk; cases hk
        rw [hk0] at hk
        obtain rfl : n = q := by simpa using hk
        refine ⟨⟨h0, h1⟩, ?_⟩
        have hkl2 : k = l.length := by omega
        subst hkl2
        rw [node n h0, if_pos rfl, List.getElem?_eq_none (by simp)]
        have hpv : pv (l ++ [n]) l.length = l.getLast?.getD (-1) := by
          unfold pv
          split
          · rename_i hz
            have := List.eq_nil_of_length_eq_zero hz
            subst this
            rfl
          · rw [List.getElem?_append_left (by omega), List.getLast?_eq_getElem?]
        rw [hpv]
        rfl
    · rw [if_neg e] at hm
      have hq := R.nd j m k q hm hk
      have hqn : q ≠ n := fun e => hn j m hm (e ▸ List.mem_of_getElem? hk)
      refine ⟨hq.1, ?_⟩
      rw [node q hq.1.1, if_neg hqn, if_neg, hq.2]
      intro hg
      exact e (R.same h hm (hlast q hg).1 (List.mem_of_getElem? hk))
  · intro q hq0 hq1 hq
    have hqi := hq i (l ++ [n]) (by rw [set_get _ _ _ _ hi, if_pos rfl])
    simp only [List.mem_append, List.mem_singleton, not_or] at hqi
    rw [node q hq0, if_neg hqi.2, if_neg (fun hg => hqi.1 (hlast q hg).1)]
    refine R.lo q hq0 hq1 (fun j m hm => ?_)
    by_cases e : i = j
    · subst e; rw [h] at hm; obtain rfl := Option.some.inj hm; exact hqi.1
    · exact hq j m (by rw [set_get _ _ _ _ hi, if_neg e]; exact hm)
  · intro j m hm
    rw [set_get _ _ _ _ hi] at hm
    by_cases e : i = j
    · rw [if_pos e] at hm
      obtain rfl := Option.some.inj hm
      rw [List.nodup_append]
      exact ⟨R.nodup i l h, by simp, fun a ha b hb => by simp at hb; subst hb; exact fun e => hn i l h (e ▸ ha)⟩
    · rw [if_neg e] at hm
      exact R.nodup j m hm
theorem front (R : Rep N ls x) {i : Nat} {l : List Int} {n : Int} (h : ls[i]? = some l) (h0 : 0 ≤ n) (h1 : n < N) (hn : ∀ (j : Nat) m, ls[j]? = some m → n ∉ m) :
    Rep N (ls.set i (n :: l)) (x.insert i n (-1) ((l[0]?).getD (-1))) := by
  have hi : i < ls.length := (List.getElem?_eq_some_iff.1 h).1
  have hil : ((i : Nat) : Int).toNat = i := by simp
  have hnn : n.toNat < x.nodes.length := by rw [R.ln]; omega
  have node : ∀ m : Int, 0 ≤ m → (x.insert i n (-1) ((l[0]?).getD (-1))).nodes[m.toNat]? =
      if m = n then some ⟨i, -1, (l[0]?).getD (-1)⟩ else if l[0]? = some m then (x.nodes[m.toNat]?).map (fun u => { u with prv := n }) else x.nodes[m.toNat]? := by
    intro m hm
    simp only [LS.insert, if_true]
    cases hl : l[0]? with
    | none =>
      simp only [Option.getD_none, if_true]
      rw [set_get _ _ _ _ hnn]
      by_cases e : m = n
      · subst e; simp
      · rw [if_neg (by omega), if_neg e, if_neg (by simp)]
    | some p =>
      have hpl : p ∈ l := List.mem_of_getElem? hl
      have hp := R.range h hpl
      simp only [Option.getD_some]
      rw [if_neg (by omega), upd_get, set_get _ _ _ _ hnn]
      have hpn : p ≠ n := fun e => hn i l h (e ▸ hpl)
      by_cases e : m = n
      · subst e
        rw [if_neg (by omega), if_pos rfl, if_pos rfl]
      · rw [if_neg e]
        by_cases e2 : p = m
        · subst e2
          rw [if_pos rfl, if_pos rfl, if_neg (by omega)]
        · rw [if_neg (by omega), if_neg (by omega), if_neg (by simpa using e2)]
  have head : ∀ j : Nat, (x.insert i n (-1) ((l[0]?).getD (-1))).heads[j]? = if i = j then some ⟨n, ((n :: l).getLast?).getD (-1), l.length + 1⟩ else x.heads[j]? := by
    intro j
    have hh := R.hd i l h
    simp only [LS.insert, if_true]
    rw [upd_get, hil]
    by_cases e : i = j
    · subst e
      rw [if_pos rfl, if_pos rfl]
      cases l with
      | nil => simp [upd_get, hh]
      | cons a r =>
        have h3 : (((a :: r)[0]?).getD (-1) : Int) ≠ -1 := by
          have := R.range h (n := a) (by simp)
          simp
          omega
        rw [if_neg h3, upd_get, hil, if_pos rfl, hh]
        simp [List.getLast?_cons_cons]
    · rw [if_neg e, if_neg e]
      split
      · rw [upd_get, upd_get, hil, if_neg e, if_neg e]
      · rw [upd_get, hil, if_neg e]
  refine ⟨?_, ?_, ?_, ?_, ?_, ?_⟩
  · rw [insert_lenN, R.ln]
  · rw [insert_lenH, R.lh, List.length_set]
  · intro j m hm
    rw [head]
    rw [set_get _ _ _ _ hi] at hm
    by_cases e : i = j
    · rw [if_pos e] at hm ⊢
      obtain rfl := Option.some.inj hm
      simp
    · rw [if_neg e] at hm ⊢
      exact R.hd j m hm
  · intro j m k q hm hk
    rw [set_get _ _ _ _ hi] at hm
    by_cases e : i = j
    · subst e
      rw [if_pos rfl] at hm
      obtain rfl := Option.some.inj hm
      cases k with
      | zero =>
        obtain rfl : n = q := by simpa using hk
        refine ⟨⟨h0, h1⟩, ?_⟩
        rw [node n h0, if_pos rfl]
        simp [pv]
      | succ k =>
        have hk' : l[k]? = some q := by simpa using hk
        have hq := R.nd i l k q h hk'
        have hqn : q ≠ n := fun e => hn i l h (e ▸ List.mem_of_getElem? hk')
        refine ⟨hq.1, ?_⟩
        rw [node q hq.1.1, if_neg hqn, hq.2]
        cases k with
        | zero =>
          rw [if_pos hk']
          simp [pv]
        | succ k =>
          rw [if_neg (fun hg => by have := nodup_inj (R.nodup i l h) hg hk'; omega)]
          simp [pv]
    · rw [if_neg e] at hm
      have hq := R.nd j m k q hm hk
      have hqn : q ≠ n := fun e => hn j m hm (e ▸ List.mem_of_getElem? hk)
      refine ⟨hq.1, ?_⟩
      rw [node q hq.1.1, if_neg hqn, if_neg, hq.2]
      intro hg
      exact e (R.same h hm (List.mem_of_getElem? hg) (List.mem_of_getElem? hk))
  · intro q hq0 hq1 hq
    have hqi := hq i (n :: l) (by rw [set_get _ _ _ _ hi, if_pos rfl])
    simp only [List.mem_cons, not_or] at hqi
    rw [node q hq0, if_neg hqi.1, if_neg (fun hg => hqi.2 (List.mem_of_getElem? hg))]
    refine R.lo q hq0 hq1 (fun j m hm => ?_)
    by_cases e : i = j
    · subst e; rw [h] at hm; obtain rfl := Option.some.inj hm; exact hqi.2
    · exact hq j m (by rw [set_get _ _ _ _ hi, if_neg e]; exact hm)
  · intro j m hm
    rw [set_get _ _ _ _ hi] at hm
    by_cases e : i = j
    · rw [if_pos e] at hm
      obtain rfl := Option.some.inj hm
      exact List.nodup_cons.2 ⟨hn i l h, R.nodup i l h⟩
    · rw [if_neg e] at hm
      exact R.nodup j m hm
theorem rem_lenN (x : LS) (a : Int) : (x.remove a).nodes.length = x.nodes.length := by
  unfold LS.remove
  split
  · rfl
  · dsimp only; (repeat' split) <;> simp [upd_length]
theorem rem_lenH (x : LS) (a : Int) : (x.remove a).heads.length = x.heads.length := by
  unfold LS.remove
  split
  · rfl
  · dsimp only; (repeat' split) <;> simp [upd_length]
theorem eraseIdx_get {l : List Int} {k j : Nat} : (l.eraseIdx k)[j]? = if j < k then l[j]? else l[j + 1]? := by
  rw [List.getElem?_eraseIdx]
theorem remove (R : Rep N ls x) {i k : Nat} {l : List Int} {n : Int} (h : ls[i]? = some l) (hk : l[k]? = some n) : Rep N (ls.set i (l.eraseIdx k)) (x.remove n) := by
  have hi : i < ls.length := (List.getElem?_eq_some_iff.1 h).1
  have hil : ((i : Nat) : Int).toNat = i := by simp
  have hkl : k < l.length := (List.getElem?_eq_some_iff.1 hk).1
  obtain ⟨hr, hx⟩ := R.nd i l k n h hk
  have hnn : n.toNat < x.nodes.length := by rw [R.ln]; omega
  have hd := R.nodup i l h
  have hpv : pv l k = -1 ↔ k = 0 := by
    unfold pv
    constructor
    · intro e
      by_cases hk0 : k = 0
      · exact hk0
      · rw [if_neg hk0] at e
        have h2 : l[k - 1]? = some (l[k - 1]'(by omega)) := List.getElem?_eq_getElem _
        rw [h2] at e
        have := R.range h (List.mem_of_getElem? h2)
        simp only [Option.getD_some] at e
        omega
    · intro e; rw [if_pos e]
  have hnx : (l[k + 1]?).getD (-1) = -1 ↔ k + 1 = l.length := by
    constructor
    · intro e
      rcases Nat.lt_or_ge (k + 1) l.length with h2 | h2
      · have h3 : l[k + 1]? = some l[k + 1] := List.getElem?_eq_getElem _
        rw [h3] at e
        have := R.range h (List.mem_of_getElem? h3)
        simp only [Option.getD_some] at e
        omega
      · omega
    · intro e; rw [List.getElem?_eq_none (by omega)]; rfl
  have node : ∀ m : Int, 0 ≤ m → (x.remove n).nodes[m.toNat]? =
      if m = n then some loose else if k + 1 < l.length ∧ l[k + 1]? = some m then (x.nodes[m.toNat]?).map (fun u => { u with prv := pv l k })
      else if 0 < k ∧ l[k - 1]? = some m then (x.nodes[m.toNat]?).map (fun u => { u with nxt := (l[k + 1]?).getD (-1) }) else x.nodes[m.toNat]? := by
    intro m hm
    unfold LS.remove
    rw [hx]
    dsimp only
    by_cases e : m = n
    · subst e
      rw [if_pos rfl, set_get _ _ _ _ (by (repeat' split) <;> simp [upd_length, hnn])]
      simp
    rw [if_neg e, set_get _ _ _ _ (by (repeat' split) <;> simp [upd_length, hnn]), if_neg (by omega)]
    have base : (if pv l k = -1 then x.nodes else upd x.nodes (pv l k) fun u => { u with nxt := (l[k + 1]?).getD (-1) })[m.toNat]? =
        if 0 < k ∧ l[k - 1]? = some m then (x.nodes[m.toNat]?).map (fun u => { u with nxt := (l[k + 1]?).getD (-1) }) else x.nodes[m.toNat]? := by
      by_cases hk0 : k = 0
      · rw [if_pos (hpv.2 hk0), if_neg (by omega)]
      · rw [if_neg (fun h => hk0 (hpv.1 h)), upd_get]
        have h2 : l[k - 1]? = some (l[k - 1]'(by omega)) := List.getElem?_eq_getElem _
        have h3 := R.range h (List.mem_of_getElem? h2)
        have h4 : pv l k = l[k - 1]'(by omega) := by unfold pv; rw [if_neg hk0, h2]; rfl
        rw [h4]
        by_cases e3 : l[k - 1]'(by omega) = m
        · rw [if_pos (by omega), if_pos ⟨by omega, by rw [h2, e3]⟩]
        · rw [if_neg (by omega), if_neg (fun h5 => e3 (by rw [h2] at h5; exact Option.some.inj h5.2))]
    by_cases hk1 : k + 1 = l.length
    · rw [if_pos (hnx.2 hk1), if_neg (show ¬ (k + 1 < l.length ∧ l[k + 1]? = some m) from fun h5 => by omega)]
      exact base
    · rw [if_neg (fun h => hk1 (hnx.1 h)), upd_get, base]
      have h2 : l[k + 1]? = some (l[k + 1]'(by omega)) := List.getElem?_eq_getElem _
      have h3 := R.range h (List.mem_of_getElem? h2)
      by_cases e3 : l[k + 1]'(by omega) = m
      · have h6 : ¬ (0 < k ∧ l[k - 1]? = some m) := fun h5 => by
          have := nodup_inj hd h5.2 (h2.trans (by rw [e3]))
          omega
        rw [if_neg h6, if_pos (by rw [h2]; simp only [Option.getD_some]; omega), if_pos ⟨by omega, by rw [h2, e3]⟩]
      · have h7 : ¬ ((l[k + 1]?).getD (-1)).toNat = m.toNat := by rw [h2]; simp only [Option.getD_some]; omega
        have h8 : ¬ (k + 1 < l.length ∧ l[k + 1]? = some m) := fun h5 => e3 (by rw [h2] at h5; exact Option.some.inj h5.2)
        rw [if_neg h7, if_neg h8]
  have head : ∀ j : Nat, (x.remove n).heads[j]? = if i = j then some ⟨((l.eraseIdx k)[0]?).getD (-1), ((l.eraseIdx k).getLast?).getD (-1), (l.eraseIdx k).length⟩ else x.heads[j]? := by
    intro j
    have hh := R.hd i l h
    unfold LS.remove
    rw [hx]
    dsimp only
    rw [upd_get, hil]
    by_cases e : i = j
    · subst e
      rw [if_pos rfl, if_pos rfl]
      have hlen : (l.eraseIdx k).length = l.length - 1 := by rw [List.length_eraseIdx, if_pos hkl]
      have hf : ((l.eraseIdx k)[0]?).getD (-1) = if k = 0 then (l[k + 1]?).getD (-1) else (l[0]?).getD (-1) := by
        rw [eraseIdx_get]
        by_cases hk0 : k = 0
        · subst hk0; simp
        · rw [if_pos (by omega), if_neg hk0]
      have hla : ((l.eraseIdx k).getLast?).getD (-1) = if k + 1 = l.length then pv l k else (l.getLast?).getD (-1) := by
        rw [List.getLast?_eq_getElem?, hlen, eraseIdx_get]
        by_cases hk1 : k + 1 = l.length
        · rw [if_pos hk1]
          unfold pv
          by_cases hk0 : k = 0
          · rw [if_pos hk0, if_neg (by omega), List.getElem?_eq_none (by omega)]; rfl
          · rw [if_neg hk0, if_pos (by omega), show l.length - 1 - 1 = k - 1 by omega]
        · rw [if_neg hk1, if_neg (by omega), List.getLast?_eq_getElem?, show l.length - 1 - 1 + 1 = l.length - 1 by omega]
      have step1 : (if pv l k = -1 then upd x.heads i fun u => { u with fst := (l[k + 1]?).getD (-1) } else x.heads)[i]? = some ⟨((l.eraseIdx k)[0]?).getD (-1), (l.getLast?).getD (-1), l.length⟩ := by
        rw [hf]
        by_cases hk0 : k = 0
        · rw [if_pos (hpv.2 hk0), upd_get, hil, if_pos rfl, hh, if_pos hk0]; rfl
        · rw [if_neg (fun h => hk0 (hpv.1 h)), hh, if_neg hk0]
      have step2 : (if (l[k + 1]?).getD (-1) = -1 then upd (if pv l k = -1 then upd x.heads i fun u => { u with fst := (l[k + 1]?).getD (-1) } else x.heads) i fun u => { u with lst := pv l k } else (if pv l k = -1 then upd x.heads i fun u => { u with fst := (l[k + 1]?).getD (-1) } else x.heads))[i]? = some ⟨((l.eraseIdx k)[0]?).getD (-1), ((l.eraseIdx k).getLast?).getD (-1), l.length⟩ := by
        rw [hla]
        by_cases hk1 : k + 1 = l.length
        · rw [if_pos (hnx.2 hk1), upd_get, hil, if_pos rfl, step1, if_pos hk1]; rfl
        · rw [if_neg (fun h => hk1 (hnx.1 h)), step1, if_neg hk1]
      rw [step2, hlen]
      simp only [Option.map_some, Option.some.injEq, Head.mk.injEq, true_and]
      omega
    · rw [if_neg e, if_neg e]
      (repeat' split) <;> simp [upd_get, hil, e]
  refine ⟨?_, ?_, ?_, ?_, ?_, ?_⟩
  · rw [rem_lenN, R.ln]
  · rw [rem_lenH, R.lh, List.length_set]
  · intro j m hm
    rw [head]
    rw [set_get _ _ _ _ hi] at hm
    by_cases e : i = j
    · rw [if_pos e] at hm ⊢
      obtain rfl := Option.some.inj hm
      rfl
    · rw [if_neg e] at hm ⊢
      exact R.hd j m hm
  · intro j m k' q hm hk'
    rw [set_get _ _ _ _ hi] at hm
    by_cases e : i = j
    · subst e
      rw [if_pos rfl] at hm
      obtain rfl := Option.some.inj hm
      rw [eraseIdx_get] at hk'
      by_cases hlt : k' < k
      · rw [if_pos hlt] at hk'
        have hq := R.nd i l k' q h hk'
        refine ⟨hq.1, ?_⟩
        have hqn : q ≠ n := fun e => by subst e; have := nodup_inj hd hk hk'; omega
        have h2 : ¬ (k + 1 < l.length ∧ l[k + 1]? = some q) := fun h5 => by have := nodup_inj hd h5.2 hk'; omega
        rw [node q hq.1.1, if_neg hqn, if_neg h2, hq.2]
        have hp2 : pv (l.eraseIdx k) k' = pv l k' := by
          unfold pv
          by_cases hz : k' = 0
          · rw [if_pos hz, if_pos hz]
          · rw [if_neg hz, if_neg hz, eraseIdx_get, if_pos (by omega)]
        rw [hp2, eraseIdx_get]
        by_cases e4 : k' + 1 = k
        · have h6 : 0 < k ∧ l[k - 1]? = some q := ⟨by omega, by rw [show k - 1 = k' by omega]; exact hk'⟩
          rw [if_pos h6, if_neg (by omega), show k' + 1 + 1 = k + 1 by omega]
          rfl
        · have h6 : ¬ (0 < k ∧ l[k - 1]? = some q) := fun h5 => by have := nodup_inj hd h5.2 hk'; omega
          rw [if_neg h6, if_pos (by omega)]
      · rw [if_neg hlt] at hk'
        have hq := R.nd i l (k' + 1) q h hk'
        refine ⟨hq.1, ?_⟩
        have hqn : q ≠ n := fun e => by subst e; have := nodup_inj hd hk hk'; omega
        have h6 : ¬ (0 < k ∧ l[k - 1]? = some q) := fun h5 => by have := nodup_inj hd h5.2 hk'; omega
        have e1 : (l.eraseIdx k)[k' + 1]? = l[k' + 1 + 1]? := by rw [eraseIdx_get, if_neg (by omega)]
        rw [node q hq.1.1, if_neg hqn, if_neg h6, hq.2, e1]
        by_cases e4 : k' = k
        · subst e4
          have hk2 := (List.getElem?_eq_some_iff.1 hk').1
          rw [if_pos ⟨hk2, hk'⟩]
          have hp2 : pv (l.eraseIdx k') k' = pv l k' := by
            unfold pv
            by_cases hz : k' = 0
            · rw [if_pos hz, if_pos hz]
            · rw [if_neg hz, if_neg hz, eraseIdx_get, if_pos (by omega)]
          rw [hp2]
          rfl
        · have h2 : ¬ (k + 1 < l.length ∧ l[k + 1]? = some q) := fun h5 => by have := nodup_inj hd h5.2 hk'; omega
          rw [if_neg h2]
          have hp2 : pv (l.eraseIdx k) k' = pv l (k' + 1) := by
            unfold pv
            rw [if_neg (by omega), if_neg (by omega), eraseIdx_get, if_neg (by omega), show k' - 1 + 1 = k' + 1 - 1 by omega]
          rw [hp2]
    · rw [if_neg e] at hm
      have hq := R.nd j m k' q hm hk'
      refine ⟨hq.1, ?_⟩
      have hno : ∀ a, l[a]? = some q → False := fun a ha => e (R.same h hm (List.mem_of_getElem? ha) (List.mem_of_getElem? hk'))
      have g1 : ¬ q = n := fun e5 => hno k (by rw [e5]; exact hk)
      have g2 : ¬ (k + 1 < l.length ∧ l[k + 1]? = some q) := fun h5 => hno _ h5.2
      have g3 : ¬ (0 < k ∧ l[k - 1]? = some q) := fun h5 => hno _ h5.2
      rw [node q hq.1.1, if_neg g1, if_neg g2, if_neg g3, hq.2]
  · intro q hq0 hq1 hq
    rw [node q hq0]
    by_cases e : q = n
    · rw [if_pos e]
    · have hqi := hq i (l.eraseIdx k) (by rw [set_get _ _ _ _ hi, if_pos rfl])
      have hql : q ∉ l := fun hm => by
        obtain ⟨a, ha⟩ := List.getElem?_of_mem hm
        apply hqi
        rcases Nat.lt_trichotomy a k with h2 | h2 | h2
        · exact List.mem_of_getElem? (i := a) (by rw [eraseIdx_get, if_pos h2]; exact ha)
        · subst h2; rw [hk] at ha; exact absurd (Option.some.inj ha).symm e
        · exact List.mem_of_getElem? (i := a - 1) (by rw [eraseIdx_get, if_neg (by omega), show a - 1 + 1 = a by omega]; exact ha)
      rw [if_neg e, if_neg (fun h5 => hql (List.mem_of_getElem? h5.2)), if_neg (fun h5 => hql (List.mem_of_getElem? h5.2))]
      refine R.lo q hq0 hq1 (fun j m hm => ?_)
      by_cases e2 : i = j
      · subst e2; rw [h] at hm; obtain rfl := Option.some.inj hm; exact hql
      · exact hq j m (by rw [set_get _ _ _ _ hi, if_neg e2]; exact hm)
  · intro j m hm
    rw [set_get _ _ _ _ hi] at hm
    by_cases e : i = j
    · rw [if_pos e] at hm
      obtain rfl := Option.some.inj hm
      exact hd.sublist (List.eraseIdx_sublist _ _)
    · rw [if_neg e] at hm
      exact R.nodup j m hm
end Rep
end Go.Proofs.YtcbkpekbfkaeeaaDoor.Ls
