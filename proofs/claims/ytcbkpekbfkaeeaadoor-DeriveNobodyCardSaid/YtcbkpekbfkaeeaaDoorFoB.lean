/- Forests as plain data: what is there, below, above; what each call makes of it. No program here. -/
import Derived.Test.YtcbkpekbfkaeeaaDoorLsAbs
set_option linter.unusedVariables false
set_option linter.unusedSimpArgs false
namespace Go.Proofs.YtcbkpekbfkaeeaaDoor.Fo
open Go.Proofs.YtcbkpekbfkaeeaaDoor.Ls (Rows rowAt isIn okL okN without aPush aDrop aAll isIn_none isIn_some rowAt_some rowAt_nat filter_ne_self)
abbrev En := List (Int × Int)
def has (L : En) (n : Int) : Bool := L.any (fun e => e.1 == n)
def par (L : En) (n : Int) : Option Int := (L.find? (fun e => e.1 == n)).map (·.2)
def kids (L : En) (n : Int) : List Int := (L.filter (fun e => e.2 == n)).map (·.1)
theorem has_iff {L : En} {n : Int} : has L n = true ↔ ∃ p, (n, p) ∈ L := by
  unfold has
  rw [List.any_eq_true]
  constructor
  · rintro ⟨⟨a, p⟩, h1, h2⟩
    have : a = n := by simpa using h2
    subst this
    exact ⟨p, h1⟩
  · rintro ⟨p, h⟩
    exact ⟨(n, p), h, by simp⟩
theorem kids_iff {L : En} {n c : Int} : c ∈ kids L n ↔ (c, n) ∈ L := by
  unfold kids
  rw [List.mem_map]
  constructor
  · rintro ⟨⟨a, p⟩, h1, h2⟩
    obtain ⟨h3, h4⟩ := List.mem_filter.1 h1
    have : p = n := by simpa using h4
    subst this
    simp only at h2
    subst h2
    exact h3
  · intro h
    exact ⟨(c, n), List.mem_filter.2 ⟨h, by simp⟩, rfl⟩
/-- What holds of the entries: numbers of nodes, each once, a parent ahead of what is derived from it. -/
structure Inv (N : Nat) (L : En) : Prop where
  rg : ∀ e ∈ L, 0 ≤ e.1 ∧ e.1 < N
  nd : (L.map (·.1)).Nodup
  pa : ∀ (i : Nat) e, L[i]? = some e → e.2 = -1 ∨ ∃ (j : Nat) (f : Int × Int), j < i ∧ L[j]? = some f ∧ f.1 = e.2
theorem Inv.nil (N : Nat) : Inv N [] := ⟨fun e h => absurd h (by simp), by simp, fun i e h => absurd h (by simp)⟩
theorem Inv.get_inj {N : Nat} {L : En} (I : Inv N L) {i j : Nat} {e f : Int × Int} (hi : L[i]? = some e) (hj : L[j]? = some f) (h : e.1 = f.1) : i = j := by
  have h1 : (L.map (·.1))[i]? = some e.1 := by rw [List.getElem?_map, hi]; rfl
  have h2 : (L.map (·.1))[j]? = some e.1 := by rw [List.getElem?_map, hj, h]; rfl
  exact Ls.nodup_inj I.nd h1 h2
theorem Inv.uniq {N : Nat} {L : En} (I : Inv N L) {n p q : Int} (h1 : (n, p) ∈ L) (h2 : (n, q) ∈ L) : p = q := by
  obtain ⟨i, hi⟩ := List.getElem?_of_mem h1
  obtain ⟨j, hj⟩ := List.getElem?_of_mem h2
  obtain rfl := I.get_inj hi hj rfl
  rw [hi] at hj
  injection hj with hj
  injection hj
theorem Inv.par_eq {N : Nat} {L : En} (I : Inv N L) {n p : Int} (h : (n, p) ∈ L) : par L n = some p := by
  unfold par
  cases hf : L.find? (fun e => e.1 == n) with
  | none =>
    have := List.find?_eq_none.1 hf (n, p) h
    simp at this
  | some e =>
    have h1 := List.find?_some hf
    have h2 := List.mem_of_find?_eq_some hf
    obtain ⟨a, q⟩ := e
    have : a = n := by simpa using h1
    subst this
    rw [I.uniq h h2]
    rfl
theorem par_none {L : En} {n : Int} (h : has L n = false) : par L n = none := by
  unfold par
  rw [List.find?_eq_none.2 (fun e he hn => by
    have : e.1 = n := by simpa using hn
    have : has L n = true := has_iff.2 ⟨e.2, by rw [← this]; exact he⟩
    rw [h] at this; cases this)]
  rfl
theorem par_mem {L : En} {n p : Int} (h : par L n = some p) : (n, p) ∈ L := by
  unfold par at h
  obtain ⟨e, he, h2⟩ := Option.map_eq_some_iff.1 h
  have h1 := List.find?_some he
  have h3 := List.mem_of_find?_eq_some he
  obtain ⟨a, q⟩ := e
  have : a = n := by simpa using h1
  subst this
  simp only at h2
  subst h2
  exact h3
/-- The place of a node. -/
def idx (L : En) (n : Int) : Nat := L.findIdx (fun e => e.1 == n)
theorem Inv.idx_eq {N : Nat} {L : En} (I : Inv N L) {i : Nat} {n p : Int} (h : L[i]? = some (n, p)) : idx L n = i := by
  have hm : has L n = true := has_iff.2 ⟨p, List.mem_of_getElem? h⟩
  have hlt : idx L n < L.length := List.findIdx_lt_length_of_exists (by
    obtain ⟨p, hp⟩ := has_iff.1 hm
    exact ⟨(n, p), hp, by simp⟩)
  have h1 := List.findIdx_getElem (w := hlt) (p := fun e : Int × Int => e.1 == n)
  have h2 : (L[idx L n]'hlt).1 = n := eq_of_beq h1
  exact I.get_inj (List.getElem?_eq_getElem hlt) h (by rw [h2])
theorem Inv.idx_lt {N : Nat} {L : En} (I : Inv N L) {n : Int} (h : has L n = true) : idx L n < L.length := by
  obtain ⟨p, hp⟩ := has_iff.1 h
  obtain ⟨i, hi⟩ := List.getElem?_of_mem hp
  rw [I.idx_eq hi]
  exact (List.getElem?_eq_some_iff.1 hi).1
/-- A parent stands ahead of its kid. -/
theorem Inv.up {N : Nat} {L : En} (I : Inv N L) {c n : Int} (h : (c, n) ∈ L) (hn : ¬ n = -1) : has L n = true ∧ idx L n < idx L c := by
  obtain ⟨i, hi⟩ := List.getElem?_of_mem h
  rcases I.pa i _ hi with h1 | ⟨j, f, hj, hf, h1⟩
  · exact absurd h1 hn
  · obtain ⟨a, q⟩ := f
    simp only at h1
    subst h1
    exact ⟨has_iff.2 ⟨q, List.mem_of_getElem? hf⟩, by rw [I.idx_eq hf, I.idx_eq hi]; exact hj⟩
theorem Inv.root {N : Nat} {L : En} (I : Inv N L) {c n : Int} (h : (c, n) ∈ L) : n = -1 ∨ 0 ≤ n := by
  by_cases e : n = -1
  · exact .inl e
  · obtain ⟨p, hp⟩ := has_iff.1 (I.up h e).1
    exact .inr (I.rg _ hp).1
/-! ### below -/
def belowF (L : En) : Nat → Int → List Int
  | 0, _ => []
  | f + 1, n => (kids L n).flatMap (fun c => c :: belowF L f c)
def below (L : En) (n : Int) : List Int := belowF L L.length n
theorem kid_idx {N : Nat} {L : En} (I : Inv N L) {n c : Int} (hn : 0 ≤ n) (h : c ∈ kids L n) : idx L n < idx L c ∧ has L c = true ∧ has L n = true :=
  have h1 := kids_iff.1 h
  ⟨(I.up h1 (by omega)).2, has_iff.2 ⟨n, h1⟩, (I.up h1 (by omega)).1⟩
theorem flatMap_congr' {α β : Type} {f g : α → List β} : ∀ (l : List α), (∀ x ∈ l, f x = g x) → l.flatMap f = l.flatMap g := by
  intro l
  induction l with
  | nil => intro _; rfl
  | cons x r ih => intro h; rw [List.flatMap_cons, List.flatMap_cons, h x (by simp), ih (fun y hy => h y (by simp [hy]))]
theorem below_stable {N : Nat} {L : En} (I : Inv N L) : ∀ (f g : Nat) (n : Int), has L n = true → L.length ≤ f + idx L n → L.length ≤ g + idx L n → belowF L f n = belowF L g n := by
  intro f
  induction f with
  | zero =>
    intro g n hn h1 h2
    have := I.idx_lt hn
    omega
  | succ f ih =>
    intro g n hn h1 h2
    cases g with
    | zero => have := I.idx_lt hn; omega
    | succ g =>
      obtain ⟨p, hp⟩ := has_iff.1 hn
      have h0 : 0 ≤ n := (I.rg _ hp).1
      refine flatMap_congr' _ (fun c hc => ?_)
      obtain ⟨h3, h4, _⟩ := kid_idx I h0 hc
      rw [ih g c h4 (by omega) (by omega)]
theorem below_eq {N : Nat} {L : En} (I : Inv N L) {n : Int} (hn : has L n = true) : below L n = (kids L n).flatMap (fun c => c :: below L c) := by
  obtain ⟨p, hp⟩ := has_iff.1 hn
  have h0 : 0 ≤ n := (I.rg _ hp).1
  have hlt := I.idx_lt hn
  obtain ⟨m, hm⟩ : ∃ m, L.length = m + 1 := ⟨L.length - 1, by omega⟩
  unfold below
  rw [hm]
  refine flatMap_congr' _ (fun c hc => ?_)
  obtain ⟨h3, h4, _⟩ := kid_idx I h0 hc
  rw [below_stable I m (m + 1) c h4 (by omega) (by omega)]
/-- A node's ancestor. -/
inductive Anc (L : En) : Int → Int → Prop
  | one {c n : Int} : 0 ≤ n → (c, n) ∈ L → Anc L c n
  | up {c n m : Int} : 0 ≤ n → (c, n) ∈ L → Anc L n m → Anc L c m
theorem Anc.trans {L : En} {a b c : Int} (h : Anc L a b) (k : Anc L b c) : Anc L a c := by
  induction h with
  | one h0 h => exact .up h0 h k
  | up h0 h _ ih => exact .up h0 h (ih k)
theorem Anc.idx {N : Nat} {L : En} (I : Inv N L) {a b : Int} (h : Anc L a b) : idx L b < idx L a ∧ has L a = true ∧ has L b = true := by
  induction h with
  | one h0 h => exact ⟨(I.up h (by omega)).2, has_iff.2 ⟨_, h⟩, (I.up h (by omega)).1⟩
  | up h0 h _ ih => exact ⟨Nat.lt_trans ih.1 (I.up h (by omega)).2, has_iff.2 ⟨_, h⟩, ih.2.2⟩
/-- The last step of a way up. -/
theorem Anc.top {L : En} {c m : Int} (h : Anc L c m) : (0 ≤ m ∧ (c, m) ∈ L) ∨ ∃ k, Anc L c k ∧ 0 ≤ m ∧ (k, m) ∈ L := by
  induction h with
  | one h0 h => exact .inl ⟨h0, h⟩
  | up h0 h k ih =>
    rcases ih with ⟨h1, h2⟩ | ⟨j, h1, h2, h3⟩
    · exact .inr ⟨_, .one h0 h, h1, h2⟩
    · exact .inr ⟨j, .up h0 h h1, h2, h3⟩
theorem below_anc {N : Nat} {L : En} (I : Inv N L) : ∀ (f : Nat) (n : Int), 0 ≤ n → ∀ c ∈ belowF L f n, Anc L c n := by
  intro f
  induction f with
  | zero => intro n _ c h; cases h
  | succ f ih =>
    intro n h0 c h
    obtain ⟨k, hk, hc⟩ := List.mem_flatMap.1 h
    have hkn := kids_iff.1 hk
    rcases List.mem_cons.1 hc with rfl | hc
    · exact .one h0 hkn
    · exact (ih k (I.rg _ hkn).1 c hc).trans (.one h0 hkn)
theorem anc_below {N : Nat} {L : En} (I : Inv N L) {c n : Int} (h : Anc L c n) : c ∈ below L n := by
  have gen : ∀ m, Anc L c m → ∀ x, x = c ∨ x ∈ below L c → True := fun _ _ _ _ => trivial
  -- by the way down: the kid of n that is c, or above it
  have key : ∀ (f : Nat) (n : Int), Anc L c n → L.length ≤ f + idx L n → c ∈ belowF L f n := by
    intro f
    induction f with
    | zero => intro n hA hl; have := I.idx_lt (hA.idx I).2.2; omega
    | succ f ih =>
      intro n hA hl
      refine List.mem_flatMap.2 ?_
      rcases hA.top with ⟨h0, h1⟩ | ⟨k, h1, h2, h3⟩
      · exact ⟨c, kids_iff.2 h1, by simp⟩
      · have hk := I.up h3 (by omega)
        exact ⟨k, kids_iff.2 h3, List.mem_cons_of_mem _ (ih k h1 (by omega))⟩
  exact key L.length n h (by omega)
theorem mem_below {N : Nat} {L : En} (I : Inv N L) {c n : Int} (h0 : 0 ≤ n) : c ∈ below L n ↔ Anc L c n := ⟨below_anc I _ n h0 c, anc_below I⟩
theorem below_nodup {N : Nat} {L : En} (I : Inv N L) : ∀ (f : Nat) (n : Int), 0 ≤ n → (belowF L f n).Nodup := by
  intro f
  induction f with
  | zero => intro n _; exact List.nodup_nil
  | succ f ih =>
    intro n h0
    have hk : (kids L n).Nodup := by
      unfold kids
      exact List.Sublist.nodup (List.Sublist.map _ List.filter_sublist) I.nd
    have hin : ∀ c ∈ kids L n, (c, n) ∈ L := fun c hc => kids_iff.1 hc
    show ((kids L n).flatMap (fun c => c :: belowF L f c)).Nodup
    -- two kids have nothing in common below them
    have apart : ∀ c d x, (c, n) ∈ L → (d, n) ∈ L → (x = c ∨ Anc L x c) → (x = d ∨ Anc L x d) → c = d := by
      intro c d x hc hd h1 h2
      have up1 : ∀ x c, (c, n) ∈ L → Anc L x c → ∀ y, (x, y) ∈ L → y = c ∨ Anc L y c := by
        intro x c hc hA y hy
        cases hA with
        | one h0 h => exact .inl (I.uniq hy h)
        | up h0 h k => rw [I.uniq hy h]; exact .inr k
      have step : ∀ (m : Nat) (x : Int), idx L x ≤ m → (x = c ∨ Anc L x c) → (x = d ∨ Anc L x d) → c = d := by
        intro m
        induction m with
        | zero =>
          intro x hx h1 h2
          rcases h1 with rfl | h1
          · rcases h2 with rfl | h2
            · rfl
            · have := (h2.idx I).1; omega
          · have := (h1.idx I).1; omega
        | succ m ihm =>
          intro x hx h1 h2
          rcases h1 with rfl | h1
          · rcases h2 with rfl | h2
            · rfl
            · -- x = c is below d, and d's parent n is c's parent
              rcases up1 _ _ hd h2 n hc with h | h
              · have := (I.up hd (by omega)).2; rw [h] at this; omega
              · have := (h.idx I).1; have := (I.up hd (by omega)).2; omega
          · rcases h2 with rfl | h2
            · rcases up1 _ _ hc h1 n hd with h | h
              · have := (I.up hc (by omega)).2; rw [h] at this; omega
              · have := (h.idx I).1; have := (I.up hc (by omega)).2; omega
            · obtain ⟨y, hy⟩ := has_iff.1 (h1.idx I).2.1
              have h3 := up1 _ _ hc h1 y hy
              have h4 := up1 _ _ hd h2 y hy
              have hy0 : ¬ y = -1 := by
                rcases h3 with rfl | h3
                · have := (I.rg _ hc).1; omega
                · have h5 := (h3.idx I).2.1
                  obtain ⟨q, hq⟩ := has_iff.1 h5
                  have := (I.rg _ hq).1; omega
              exact ihm y (by have := (I.up hy hy0).2; omega) h3 h4
      exact step (idx L x) x (Nat.le_refl _) h1 h2
    generalize hks : kids L n = ks at hk hin
    clear hks
    induction ks with
    | nil => exact List.nodup_nil
    | cons c r ihr =>
      rw [List.flatMap_cons, List.nodup_append]
      obtain ⟨k1, k2⟩ := List.nodup_cons.1 hk
      have hc := hin c (by simp)
      have hc0 := (I.rg _ hc).1
      refine ⟨List.nodup_cons.2 ⟨fun hm => ?_, ih c hc0⟩, ihr k2 (fun d hd => hin d (by simp [hd])), ?_⟩
      · have := ((below_anc I f c hc0 c hm).idx I).1; omega
      · intro x hx y hy e
        subst e
        obtain ⟨d, hd, hxd⟩ := List.mem_flatMap.1 hy
        have hdn := hin d (by simp [hd])
        have hd0 := (I.rg _ hdn).1
        have h1 : x = c ∨ Anc L x c := by rcases List.mem_cons.1 hx with h | h; exact .inl h; exact .inr (below_anc I f c hc0 x h)
        have h2 : x = d ∨ Anc L x d := by rcases List.mem_cons.1 hxd with h | h; exact .inl h; exact .inr (below_anc I f d hd0 x h)
        have := apart c d x hc hdn h1 h2
        subst this
        exact k1 hd
/-! ### calls -/
def okF (N : Nat) (n : Int) : Prop := 0 ≤ n ∧ n < N
instance (N : Nat) (n : Int) : Decidable (okF N n) := by unfold okF; exact inferInstance
def fRoot (N : Nat) (L : En) (n : Int) : En × Int := if ¬ okF N n then (L, 120) else if has L n = true then (L, 121) else (L ++ [(n, -1)], 0)
def fDer (N : Nat) (L : En) (p n : Int) : En × Int := if ¬ (okF N n ∧ okF N p) then (L, 120) else if has L n = true then (L, 121) else if has L p = false then (L, 122) else (L ++ [(n, p)], 0)
def minus (L : En) (out : List Int) : En := L.filter (fun e => !out.contains e.1)
def fAsk (N : Nat) (L : En) (n : Int) : Int := if ¬ okF N n then 120 else if has L n = false then 122 else 0
def outOf (L : En) (n : Int) (own : Bool) : List Int := (if own then [n] else []) ++ below L n
def fTake (N : Nat) (L : En) (n : Int) (own : Bool) : En × List Int × Int := if fAsk N L n = 0 then (minus L (outOf L n own), outOf L n own, 0) else (L, [], fAsk N L n)
def fPar (L : En) (n : Int) : Int × Bool := match par L n with | none => (0, false) | some p => if p < 0 then (0, false) else (p, true)
def dF (L : En) : Nat → Int → Int
  | 0, _ => 0
  | f + 1, n => match fPar L n with | (p, true) => dF L f p + 1 | (_, false) => 0
def fDep (L : En) (n : Int) : Int := if has L n = true then dF L L.length n else -1
def fUnd (L : En) (n r : Int) : Bool := has L n && has L r && (n == r || (below L r).contains n)
theorem fPar_true {L : En} {n p : Int} (h : fPar L n = (p, true)) : 0 ≤ p ∧ (n, p) ∈ L := by
  unfold fPar at h
  cases hp : par L n with
  | none => rw [hp] at h; cases h
  | some q =>
    rw [hp] at h
    dsimp only at h
    split at h
    · cases h
    · injection h with h; subst h; exact ⟨by omega, par_mem hp⟩
theorem Inv.fPar {N : Nat} {L : En} (I : Inv N L) {n p : Int} (h : (n, p) ∈ L) : Fo.fPar L n = if p < 0 then (0, false) else (p, true) := by unfold Fo.fPar; rw [I.par_eq h]
theorem fPar_no {L : En} {n : Int} (h : has L n = false) : fPar L n = (0, false) := by unfold fPar; rw [par_none h]
theorem dF_stable {N : Nat} {L : En} (I : Inv N L) : ∀ (f g : Nat) (n : Int), has L n = true → idx L n < f → idx L n < g → dF L f n = dF L g n := by
  intro f
  induction f with
  | zero => intro g n _ h; omega
  | succ f ih =>
    intro g n hn h1 h2
    cases g with
    | zero => omega
    | succ g =>
      show (match fPar L n with | (p, true) => dF L f p + 1 | (_, false) => 0) = (match fPar L n with | (p, true) => dF L g p + 1 | (_, false) => 0)
      rcases hp : fPar L n with ⟨p, b⟩
      cases b with
      | false => rfl
      | true =>
        obtain ⟨h3, h4⟩ := fPar_true hp
        have h5 := I.up h4 (by omega)
        show dF L f p + 1 = dF L g p + 1
        rw [ih g p h5.1 (by omega) (by omega)]
theorem dF_eq {N : Nat} {L : En} (I : Inv N L) {n : Int} (hn : has L n = true) : dF L L.length n = match fPar L n with | (p, true) => dF L L.length p + 1 | (_, false) => 0 := by
  have hlt := I.idx_lt hn
  obtain ⟨m, hm⟩ : ∃ m, L.length = m + 1 := ⟨L.length - 1, by omega⟩
  conv => lhs; rw [hm]
  show (match fPar L n with | (p, true) => dF L m p + 1 | (_, false) => 0) = _
  rcases hp : fPar L n with ⟨p, b⟩
  cases b with
  | false => rfl
  | true =>
    obtain ⟨h3, h4⟩ := fPar_true hp
    have h5 := I.up h4 (by omega)
    show dF L m p + 1 = dF L L.length p + 1
    rw [dF_stable I m L.length p h5.1 (by omega) (by omega)]
theorem dF_bound (L : En) : ∀ (f : Nat) (n : Int), 0 ≤ dF L f n ∧ dF L f n ≤ f := by
  intro f
  induction f with
  | zero => intro n; exact ⟨Int.le_refl _, Int.le_refl _⟩
  | succ f ih =>
    intro n
    show 0 ≤ (match fPar L n with | (p, true) => dF L f p + 1 | (_, false) => 0) ∧ (match fPar L n with | (p, true) => dF L f p + 1 | (_, false) => 0) ≤ _
    rcases fPar L n with ⟨p, b⟩
    cases b with
    | false => show 0 ≤ (0 : Int) ∧ (0 : Int) ≤ ((f + 1 : Nat) : Int); omega
    | true => have := ih p; show 0 ≤ dF L f p + 1 ∧ dF L f p + 1 ≤ ((f + 1 : Nat) : Int); omega
theorem Inv.len {N : Nat} {L : En} (I : Inv N L) : L.length ≤ N := by
  have := Ls.pigeon N (L.map (·.1)) I.nd (fun n hn => by obtain ⟨e, he, rfl⟩ := List.mem_map.1 hn; exact I.rg e he)
  simpa using this
theorem Inv.h0 {N : Nat} {L : En} (I : Inv N L) {n : Int} (h : has L n = true) : 0 ≤ n ∧ n < N := by obtain ⟨p, hp⟩ := has_iff.1 h; exact I.rg _ hp
def undP (L : En) (n r : Int) : Prop := n = r ∨ Anc L n r
theorem fUnd_iff {N : Nat} {L : En} (I : Inv N L) {n r : Int} (hn : has L n = true) (hr : has L r = true) : fUnd L n r = true ↔ undP L n r := by
  unfold fUnd undP
  rw [hn, hr]
  simp only [Bool.true_and, Bool.or_eq_true, beq_iff_eq, List.contains_iff_mem]
  rw [mem_below I (I.h0 hr).1]
theorem und_step {N : Nat} {L : En} (I : Inv N L) {n r p : Int} (hne : ¬ n = r) (h : fPar L n = (p, true)) : undP L n r ↔ undP L p r := by
  obtain ⟨h0, hm⟩ := fPar_true h
  constructor
  · rintro (h | h)
    · exact absurd h hne
    · cases h with
      | one _ h => exact .inl (I.uniq hm h)
      | up _ h k => rw [I.uniq hm h]; exact .inr k
  · rintro (h | h)
    · subst h; exact .inr (.one h0 hm)
    · exact .inr (.up h0 hm h)
theorem und_stop {N : Nat} {L : En} (I : Inv N L) {n r p : Int} (hne : ¬ n = r) (h : fPar L n = (p, false)) : ¬ undP L n r := by
  have key : ∀ m, 0 ≤ m → (n, m) ∉ L := fun m h0 hm => by
    rw [I.fPar hm, if_neg (by omega)] at h
    injection h with _ h
    cases h
  rintro (h1 | h1)
  · exact hne h1
  · cases h1 with
    | one h0 h => exact key _ h0 h
    | up h0 h _ => exact key _ h0 h
end Go.Proofs.YtcbkpekbfkaeeaaDoor.Fo
