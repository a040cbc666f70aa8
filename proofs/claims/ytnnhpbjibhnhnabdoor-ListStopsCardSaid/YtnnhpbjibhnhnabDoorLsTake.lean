/- Lists by links: all of one row behind another one. No program here. -/
import Derived.Test.YtnnhpbjibhnhnabDoorLsAbs
namespace Go.Proofs.YtnnhpbjibhnhnabDoor.Ls
def relab (ns : List Link) (l : List Int) (to : Int) : List Link := l.foldl (fun ns n => upd ns n (fun u => { u with lst := to })) ns
theorem relab_len (l : List Int) (to : Int) : ∀ ns : List Link, (relab ns l to).length = ns.length := by
  induction l with
  | nil => intro ns; rfl
  | cons a r ih => intro ns; exact (ih _).trans (upd_length _ _ _)
theorem relab_snoc (ns : List Link) (l : List Int) (a : Int) (to : Int) : relab ns (l ++ [a]) to = upd (relab ns l to) a (fun u => { u with lst := to }) := by
  unfold relab
  rw [List.foldl_append]
  rfl
theorem relab_get (to : Int) (l : List Int) : ∀ (ns : List Link), (∀ n ∈ l, 0 ≤ n) → ∀ m : Int, 0 ≤ m → (relab ns l to)[m.toNat]? = if m ∈ l then (ns[m.toNat]?).map (fun u => { u with lst := to }) else ns[m.toNat]? := by
  induction l with
  | nil => intro ns _ m _; simp [relab]
  | cons a r ih =>
    intro ns h m hm
    have h1 := ih (upd ns a (fun u => { u with lst := to })) (fun n hn => h n (by simp [hn])) m hm
    have h0 := h a (by simp)
    show (relab (upd ns a (fun u => { u with lst := to })) r to)[m.toNat]? = _
    rw [h1, upd_get]
    by_cases e : a = m
    · subst e
      rw [if_pos rfl]
      by_cases hr : a ∈ r
      · rw [if_pos hr, if_pos (by simp)]
        cases ns[a.toNat]? <;> rfl
      · rw [if_neg hr, if_pos (by simp)]
    · rw [if_neg (show ¬ a.toNat = m.toNat by omega)]
      by_cases hr : m ∈ r
      · rw [if_pos hr, if_pos (by simp [hr])]
      · rw [if_neg hr, if_neg (by simp [hr]; omega)]
def LS.take (x : LS) (l : List Int) (to fr : Int) (t f : Head) : LS :=
  let n2 := upd (relab x.nodes l to) f.fst (fun u => { u with prv := t.lst })
  let n3 := if t.lst = -1 then n2 else upd n2 t.lst (fun u => { u with nxt := f.fst })
  let h1 := if t.lst = -1 then upd x.heads to (fun u => { u with fst := f.fst }) else x.heads
  let h2 := upd h1 to (fun u => { u with lst := f.lst })
  let h3 := upd h2 to (fun u => { u with cnt := t.cnt + f.cnt })
  ⟨n3, h3.set fr.toNat ⟨-1, -1, 0⟩⟩
def hdOf (l : List Int) : Head := ⟨(l[0]?).getD (-1), (l.getLast?).getD (-1), l.length⟩
theorem Rep.take {N : Nat} {ls : List (List Int)} {x : LS} (R : Rep N ls x) {i j : Nat} {lt l : List Int} (h1 : ls[i]? = some lt) (h2 : ls[j]? = some l) (hne : i ≠ j) (hl : l ≠ []) :
    Rep N ((ls.set i (lt ++ l)).set j []) (x.take l i j (hdOf lt) (hdOf l)) := by
  have hi : i < ls.length := (List.getElem?_eq_some_iff.1 h1).1
  have hj : j < ls.length := (List.getElem?_eq_some_iff.1 h2).1
  obtain ⟨a, r, rfl⟩ : ∃ a r, l = a :: r := by cases l with | nil => exact absurd rfl hl | cons a r => exact ⟨a, r, rfl⟩
  have hfst : (hdOf (a :: r)).fst = a := rfl
  have ha := R.range h2 (n := a) (by simp)
  have hpos : ∀ n ∈ a :: r, 0 ≤ n := fun n hn => (R.range h2 hn).1
  have hdis : ∀ q, q ∈ lt → q ∉ a :: r := fun q hq hq2 => hne (R.same h1 h2 hq hq2)
  have htl : (hdOf lt).lst = -1 ↔ lt = [] := by
    cases lt with
    | nil => simp [hdOf]
    | cons b s =>
      simp only [hdOf, reduceCtorEq, iff_false]
      have h3 := R.range h1 (List.mem_of_getLast? (List.getLast?_eq_some_getLast (l := b :: s) (by simp)))
      rw [List.getLast?_eq_some_getLast (l := b :: s) (by simp)]
      simp only [Option.getD_some]
      omega
  have rowAtj : ∀ k m, ((ls.set i (lt ++ a :: r)).set j [])[k]? = some m → (k = j ∧ m = []) ∨ (k = i ∧ k ≠ j ∧ m = lt ++ a :: r) ∨ (k ≠ i ∧ k ≠ j ∧ ls[k]? = some m) := by
    intro k m hk
    rw [set_get _ _ _ _ (by simpa using hj)] at hk
    by_cases e : j = k
    · rw [if_pos e] at hk; exact .inl ⟨e.symm, (Option.some.inj hk).symm⟩
    · rw [if_neg e, set_get _ _ _ _ hi] at hk
      by_cases e2 : i = k
      · rw [if_pos e2] at hk; exact .inr (.inl ⟨e2.symm, Ne.symm e, (Option.some.inj hk).symm⟩)
      · rw [if_neg e2] at hk; exact .inr (.inr ⟨Ne.symm e2, Ne.symm e, hk⟩)
  -- what a node is
  have node : ∀ m : Int, 0 ≤ m → (x.take (a :: r) i j (hdOf lt) (hdOf (a :: r))).nodes[m.toNat]? =
      if lt ≠ [] ∧ (hdOf lt).lst = m then ((if a = m then (if m ∈ a :: r then (x.nodes[m.toNat]?).map (fun u => { u with lst := (i : Int) }) else x.nodes[m.toNat]?).map (fun u => { u with prv := (hdOf lt).lst }) else
        if m ∈ a :: r then (x.nodes[m.toNat]?).map (fun u => { u with lst := (i : Int) }) else x.nodes[m.toNat]?)).map (fun u => { u with nxt := a })
      else if a = m then (if m ∈ a :: r then (x.nodes[m.toNat]?).map (fun u => { u with lst := (i : Int) }) else x.nodes[m.toNat]?).map (fun u => { u with prv := (hdOf lt).lst }) else
        if m ∈ a :: r then (x.nodes[m.toNat]?).map (fun u => { u with lst := (i : Int) }) else x.nodes[m.toNat]? := by
    intro m hm
    have e2 : (upd (relab x.nodes (a :: r) i) a (fun u => { u with prv := (hdOf lt).lst }))[m.toNat]? = if a = m then (if m ∈ a :: r then (x.nodes[m.toNat]?).map (fun u => { u with lst := (i : Int) }) else x.nodes[m.toNat]?).map (fun u => { u with prv := (hdOf lt).lst }) else
        if m ∈ a :: r then (x.nodes[m.toNat]?).map (fun u => { u with lst := (i : Int) }) else x.nodes[m.toNat]? := by
      rw [upd_get, relab_get _ _ _ hpos m hm]
      by_cases e : a = m
      · rw [if_pos (by omega), if_pos e]
      · rw [if_neg (by omega), if_neg e]
    unfold LS.take
    dsimp only
    rw [hfst]
    by_cases hlt : lt = []
    · rw [if_pos (htl.2 hlt), e2, if_neg (show ¬ (lt ≠ [] ∧ (hdOf lt).lst = m) from fun h => h.1 hlt)]
    · have hne1 := fun h => hlt (htl.1 h)
      have hr1 : 0 ≤ (hdOf lt).lst := by
        have h3 := R.range h1 (List.mem_of_getLast? (List.getLast?_eq_some_getLast hlt))
        simp only [hdOf, List.getLast?_eq_some_getLast hlt, Option.getD_some]
        exact h3.1
      rw [if_neg hne1, upd_get, e2]
      by_cases e : (hdOf lt).lst = m
      · rw [if_pos (show (hdOf lt).lst.toNat = m.toNat by rw [e]), if_pos (show lt ≠ [] ∧ (hdOf lt).lst = m from ⟨hlt, e⟩)]
      · rw [if_neg (show ¬ (hdOf lt).lst.toNat = m.toNat by omega), if_neg (show ¬ (lt ≠ [] ∧ (hdOf lt).lst = m) from fun h => e h.2)]
  have head : ∀ k : Nat, (x.take (a :: r) i j (hdOf lt) (hdOf (a :: r))).heads[k]? = if j = k then some ⟨-1, -1, 0⟩ else if i = k then some (hdOf (lt ++ a :: r)) else x.heads[k]? := by
    intro k
    have hh := R.hd i lt h1
    unfold LS.take
    dsimp only
    rw [set_get _ _ _ _ (by simp only [upd_length]; split <;> simp [upd_length, R.lh, hj])]
    simp only [Int.toNat_natCast]
    by_cases e : j = k
    · rw [if_pos e, if_pos e]
    · rw [if_neg e, if_neg e, upd_get, upd_get]
      simp only [Int.toNat_natCast]
      by_cases e2 : i = k
      · subst e2
        rw [if_pos rfl, if_pos rfl, if_pos rfl]
        by_cases hlt : lt = []
        · rw [if_pos (htl.2 hlt), upd_get, hh]
          subst hlt
          simp [hdOf]
        · rw [if_neg (fun h => hlt (htl.1 h)), hh]
          have h0 : (lt ++ a :: r)[0]? = lt[0]? := by
            rw [List.getElem?_append_left]
            exact List.length_pos_iff.2 hlt
          have h4 : (lt ++ a :: r).getLast? = (a :: r).getLast? := by
            rw [List.getLast?_append, List.getLast?_eq_some_getLast (l := a :: r) (by simp)]
            rfl
          simp only [hdOf, Option.map_some, h0, h4, List.length_append, Int.natCast_add]
      · rw [if_neg e2, if_neg e2, if_neg e2]
        by_cases hlt : (hdOf lt).lst = -1
        · rw [if_pos hlt, upd_get]
          simp only [Int.toNat_natCast]
          rw [if_neg e2]
        · rw [if_neg hlt]
  refine ⟨?_, ?_, ?_, ?_, ?_, ?_⟩
  · show (if (hdOf lt).lst = -1 then _ else _ : List Link).length = N
    split <;> simp [upd_length, relab_len, R.ln]
  · show (List.set _ _ _).length = _
    simp only [List.length_set, upd_length]
    split <;> simp [upd_length, R.lh]
  · intro k m hk
    rw [head]
    rcases rowAtj k m hk with ⟨rfl, rfl⟩ | ⟨rfl, hkj, rfl⟩ | ⟨hki, hkj, hk⟩
    · rw [if_pos rfl]; rfl
    · rw [if_neg (Ne.symm hkj), if_pos rfl]; rfl
    · rw [if_neg (Ne.symm hkj), if_neg (Ne.symm hki)]; exact R.hd k m hk
  · intro k m c q hk hq
    rcases rowAtj k m hk with ⟨rfl, rfl⟩ | ⟨rfl, hkj, rfl⟩ | ⟨hki, hkj, hk⟩
    · simp at hq
    · rcases Nat.lt_or_ge c lt.length with hc | hc
      · rw [List.getElem?_append_left hc] at hq
        have h5 := R.nd k lt c q h1 hq
        have hql := hdis q (List.mem_of_getElem? hq)
        have hqa : ¬ a = q := fun e => hql (by simp [e])
        refine ⟨h5.1, ?_⟩
        rw [node q h5.1.1, if_neg hqa, if_neg hql, h5.2]
        have hpv : pv (lt ++ a :: r) c = pv lt c := by
          unfold pv
          by_cases e : c = 0
          · rw [if_pos e, if_pos e]
          · rw [if_neg e, if_neg e, List.getElem?_append_left (by omega)]
        rw [hpv]
        have hlt : lt ≠ [] := fun e => by subst e; simp at hc
        have hlast : lt.getLast? = lt[lt.length - 1]? := List.getLast?_eq_getElem?
        by_cases e : c + 1 = lt.length
        · have e3 : (hdOf lt).lst = q := by simp only [hdOf, hlast, show lt.length - 1 = c by omega, hq, Option.getD_some]
          rw [if_pos (show lt ≠ [] ∧ (hdOf lt).lst = q from ⟨hlt, e3⟩)]
          have e4 : (lt ++ a :: r)[c + 1]? = some a := by rw [List.getElem?_append_right (by omega), e]; simp
          rw [e4]
          rfl
        · have e3 : ¬ (lt ≠ [] ∧ (hdOf lt).lst = q) := fun h => by
            have e5 : lt[lt.length - 1]? = some q := by
              have := h.2
              simp only [hdOf, hlast] at this
              have h6 : lt.length - 1 < lt.length := by omega
              rw [List.getElem?_eq_getElem h6] at this ⊢
              simpa using this
            have := nodup_inj (R.nodup k lt h1) e5 hq
            omega
          rw [if_neg e3, List.getElem?_append_left (by omega)]
      · rw [List.getElem?_append_right hc] at hq
        have h5 := R.nd j (a :: r) (c - lt.length) q h2 hq
        have hql : q ∈ a :: r := List.mem_of_getElem? hq
        refine ⟨h5.1, ?_⟩
        have e3 : ¬ (lt ≠ [] ∧ (hdOf lt).lst = q) := fun h => by
          apply hdis q ?_ hql
          rw [← h.2]
          simp only [hdOf, List.getLast?_eq_some_getLast h.1, Option.getD_some]
          exact List.getLast_mem h.1
        rw [node q h5.1.1, if_neg e3, if_pos hql, h5.2]
        have hnx : (lt ++ a :: r)[c + 1]? = (a :: r)[c - lt.length + 1]? := by rw [List.getElem?_append_right (by omega), show c + 1 - lt.length = c - lt.length + 1 by omega]
        rw [hnx]
        by_cases e : c = lt.length
        · have hqa : a = q := by rw [e, Nat.sub_self] at hq; simpa using hq
          rw [if_pos hqa]
          have hpv : pv (lt ++ a :: r) c = (hdOf lt).lst := by
            unfold pv
            by_cases e0 : c = 0
            · have : lt = [] := List.eq_nil_of_length_eq_zero (by omega)
              rw [if_pos e0, htl.2 this]
            · rw [if_neg e0, List.getElem?_append_left (by omega), e]
              simp only [hdOf, List.getLast?_eq_getElem?]
          rw [hpv]
          rfl
        · have hqa : ¬ a = q := fun e5 => by
            have := nodup_inj (R.nodup j _ h2) hq (i := c - lt.length) (j := 0) (by simp [e5])
            omega
          rw [if_neg hqa]
          have hpv : pv (lt ++ a :: r) c = pv (a :: r) (c - lt.length) := by
            unfold pv
            rw [if_neg (by omega), if_neg (by omega), List.getElem?_append_right (by omega), show c - 1 - lt.length = c - lt.length - 1 by omega]
          rw [hpv]
          rfl
    · have h5 := R.nd k m c q hk hq
      have hqm := List.mem_of_getElem? hq
      have hql : q ∉ a :: r := fun h => hkj (R.same hk h2 hqm h)
      have hqt : q ∉ lt := fun h => hki (R.same hk h1 hqm h)
      have hqa : ¬ a = q := fun e => hql (by simp [e])
      have e3 : ¬ (lt ≠ [] ∧ (hdOf lt).lst = q) := fun h => by
        apply hqt
        rw [← h.2]
        simp only [hdOf, List.getLast?_eq_some_getLast h.1, Option.getD_some]
        exact List.getLast_mem h.1
      exact ⟨h5.1, by rw [node q h5.1.1, if_neg e3, if_neg hqa, if_neg hql, h5.2]⟩
  · intro q h0 hN hq
    have hqt : q ∉ lt ++ a :: r := hq i _ (by rw [set_get _ _ _ _ (by simpa using hj), if_neg (Ne.symm hne), set_get _ _ _ _ hi, if_pos rfl])
    have hqa : ¬ a = q := fun e => hqt (by simp [e])
    have hql : q ∉ a :: r := fun h => hqt (by rw [List.mem_append]; exact .inr h)
    have e3 : ¬ (lt ≠ [] ∧ (hdOf lt).lst = q) := fun h => by
      apply hqt
      rw [List.mem_append]
      left
      rw [← h.2]
      simp only [hdOf, List.getLast?_eq_some_getLast h.1, Option.getD_some]
      exact List.getLast_mem h.1
    rw [node q h0, if_neg e3, if_neg hqa, if_neg hql]
    refine R.lo q h0 hN (fun k m hk => ?_)
    by_cases e1 : k = j
    · subst e1; rw [h2] at hk; obtain rfl := Option.some.inj hk; exact hql
    · by_cases e2 : k = i
      · subst e2; rw [h1] at hk; obtain rfl := Option.some.inj hk; exact fun h => hqt (by rw [List.mem_append]; exact .inl h)
      · exact hq k m (by rw [set_get _ _ _ _ (by simpa using hj), if_neg (Ne.symm e1), set_get _ _ _ _ hi, if_neg (Ne.symm e2)]; exact hk)
  · intro k m hk
    rcases rowAtj k m hk with ⟨rfl, rfl⟩ | ⟨rfl, hkj, rfl⟩ | ⟨hki, hkj, hk⟩
    · simp
    · rw [List.nodup_append]
      exact ⟨R.nodup k lt h1, R.nodup j _ h2, fun p hp q hq e => hdis p hp (e ▸ hq)⟩
    · exact R.nodup k m hk
def aTake (ls : Rows) (to fr : Int) : Rows × Int :=
  if okL ls to ∧ okL ls fr then (if to = fr then ls else (ls.set to.toNat (rowAt ls to ++ rowAt ls fr)).set fr.toNat [], 0) else (ls, 5)
end Go.Proofs.YtnnhpbjibhnhnabDoor.Ls
