/- A law's inputs as lists; deeds made wider; deeds one by one. No program here. -/
import Derived.Test.YtmeheoflfdmgiaaLnP
set_option linter.unusedVariables false
set_option linter.unusedSimpArgs false
namespace Go.Proofs.Ytmeheoflfdmgiaa.Lin
open Go Go.RowKit Go.Proofs.Ytmeheoflfdmgiaa.Sx
theorem list_of {α : Type} {P : Nat → α → Prop} : ∀ (n : Nat), (∀ j, j < n → ∃ d, P j d) → ∃ l : List α, l.length = n ∧ ∀ j d, l[j]? = some d → P j d := by
  intro n
  induction n with
  | zero => intro _; exact ⟨[], rfl, fun j d h => by simp at h⟩
  | succ n ih =>
    intro h
    obtain ⟨l, hl, hp⟩ := ih (fun j hj => h j (by omega))
    obtain ⟨d, hd⟩ := h n (by omega)
    refine ⟨l ++ [d], by simp [hl], fun j e he => ?_⟩
    rcases Nat.lt_or_ge j l.length with hj | hj
    · rw [List.getElem?_append_left hj] at he
      exact hp j e he
    · have hj2 := (List.getElem?_eq_some_iff.1 he).1
      simp only [List.length_append, List.length_cons, List.length_nil] at hj2
      obtain rfl : j = n := by omega
      rw [← hl] at he
      simp at he
      subst he
      exact hd
def wf64 (z : Int) : Prop := -9223372036854775808 ≤ z ∧ z ≤ 9223372036854775807
theorem wf64_of {z : Int} (h : (Lit.int .i64 z).wf = true) : wf64 z := by
  simp [Lit.wf, IntKind.min, IntKind.max, IntKind.signed, IntKind.bits] at h
  unfold wf64
  omega
theorem wf8_of {z : Int} (h : (Lit.int .u8 z).wf = true) : 0 ≤ z ∧ z ≤ 255 := by
  simp [Lit.wf, IntKind.min, IntKind.max, IntKind.signed, IntKind.bits] at h
  omega
def wfD (d : D) : Prop := wf64 d.frm ∧ wf64 d.til
theorem rowD_in {W : World} {a : Option Addr} {len : Nat} (hf : ∀ j : Nat, j < len → ∃ (x : Addr) (z0 : Int) (z1 : Int) (z2 : Int) (z3 : Int) (z4 : Int) (z5 : Bool), a = some x ∧ (∀ i v, [(.int .i64 z0 : Value), .int .i64 z1, .int .u64 z2, .int .i64 z3, .int .i64 z4, .bool z5][i]? = some v → W.cell? ((x.add (((j : Nat) : Int).toNat * 6)).add i) = some v) ∧ (Lit.int .i64 z0).wf = true ∧ (Lit.int .i64 z1).wf = true ∧ (Lit.int .u64 z2).wf = true ∧ (Lit.int .i64 z3).wf = true ∧ (Lit.int .i64 z4).wf = true) :
    ∃ l : List D, l.length = len ∧ RowG encD 6 W a l ∧ ∀ d ∈ l, wfD d := by
  obtain ⟨l, hl, hp⟩ := list_of (P := fun j (d : D) => (∃ x, a = some x ∧ ∀ i v, (encD d)[i]? = some v → W.cell? ((x.add (j * 6)).add i) = some v) ∧ wfD d) len (fun j hj => by
    obtain ⟨x, z0, z1, z2, z3, z4, z5, ha, hc, _, _, _, h3, h4⟩ := hf j hj
    exact ⟨⟨z0, z1, z2, z3, z4, z5⟩, ⟨x, ha, hc⟩, wf64_of h3, wf64_of h4⟩)
  refine ⟨l, hl, fun j d hd => (hp j d hd).1, fun d hd => ?_⟩
  obtain ⟨j, hj⟩ := List.getElem?_of_mem hd
  exact (hp j d hj).2
theorem rowI_in {W : World} {a : Option Addr} {len : Nat} (hf : ∀ j : Nat, j < len → ∃ (x : Addr) (z : Int), a = some x ∧ W.cell? (x.add (((j : Nat) : Int).toNat * 1)) = some (.int .i64 z) ∧ (Lit.int .i64 z).wf = true) :
    ∃ l : List Int, l.length = len ∧ RowG encI 1 W a l := by
  obtain ⟨l, hl, hp⟩ := list_of (P := fun j (z : Int) => ∃ x, a = some x ∧ W.cell? (x.add (j * 1)) = some (.int .i64 z)) len (fun j hj => by
    obtain ⟨x, z, ha, hc, _⟩ := hf j hj
    exact ⟨z, x, ha, hc⟩)
  refine ⟨l, hl, fun j d hd => ?_⟩
  obtain ⟨x, ha, hc⟩ := hp j d hd
  refine ⟨x, ha, fun i v hv => ?_⟩
  have : i = 0 := by have := (List.getElem?_eq_some_iff.1 hv).1; rw [lenI] at this; omega
  subst this
  injection hv with hv
  subst hv
  rw [add0]
  exact hc
def encB (z : Int) : List Value := [.int .u8 z]
theorem lenB (z : Int) : (encB z).length = 1 := rfl
theorem rowB_in {W : World} {a : Option Addr} {len : Nat} (hf : ∀ j : Nat, j < len → ∃ (x : Addr) (z : Int), a = some x ∧ W.cell? (x.add (((j : Nat) : Int).toNat * 1)) = some (.int .u8 z) ∧ (Lit.int .u8 z).wf = true) :
    ∃ l : List Int, l.length = len ∧ RowG encB 1 W a l ∧ ∀ z ∈ l, 0 ≤ z ∧ z ≤ 255 := by
  obtain ⟨l, hl, hp⟩ := list_of (P := fun j (z : Int) => (∃ x, a = some x ∧ W.cell? (x.add (j * 1)) = some (.int .u8 z)) ∧ 0 ≤ z ∧ z ≤ 255) len (fun j hj => by
    obtain ⟨x, z, ha, hc, hw⟩ := hf j hj
    exact ⟨z, ⟨x, ha, hc⟩, wf8_of hw⟩)
  refine ⟨l, hl, fun j d hd => ?_, fun z hz => ?_⟩
  · obtain ⟨x, ha, hc⟩ := (hp j d hd).1
    refine ⟨x, ha, fun i v hv => ?_⟩
    have : i = 0 := by have := (List.getElem?_eq_some_iff.1 hv).1; rw [lenB] at this; omega
    subst this
    injection hv with hv
    subst hv
    rw [add0]
    exact hc
  · obtain ⟨j, hj⟩ := List.getElem?_of_mem hz
    exact (hp j z hj).2
/-! ### what asks of a right row told -/
theorem right_of {l : List D} {row : List Int} (h : (rightR l row).1 = true) : Hist l ∧ okRow l row ∧ rightI l row := by
  by_cases h1 : Hist l
  · by_cases h2 : okRow l row
    · rw [rightR_ok h1 h2] at h
      exact ⟨h1, h2, of_dc h⟩
    · rw [rightR_5 h1 h2] at h; cases h
  · rw [rightR_0 h1] at h; cases h
theorem hist_take {l : List D} (h : Hist l) (n : Nat) : Hist (l.take n) := ⟨by rw [List.length_take]; have := h.1; omega, fun d hd => h.2 d (List.mem_of_mem_take hd)⟩
/-! ### wider deeds -/
def wider (a b : D) : Prop := b.kind = a.kind ∧ b.lane = a.lane ∧ b.pay = a.pay ∧ b.opn = a.opn ∧ b.frm ≤ a.frm ∧ a.til ≤ b.til
theorem wider_refl (a : D) : wider a a := ⟨rfl, rfl, rfl, rfl, Int.le_refl _, Int.le_refl _⟩
def Wider (L M : List D) : Prop := M.length = L.length ∧ ∀ (j : Nat) a b, L[j]? = some a → M[j]? = some b → wider a b
def alike (a b : D) : Prop := b.kind = a.kind ∧ b.lane = a.lane ∧ b.pay = a.pay
inductive Alike : List D → List D → Prop
  | nil : Alike [] []
  | cons {a b : D} {q r : List D} : alike a b → Alike q r → Alike (a :: q) (b :: r)
theorem Alike.app {q r s t : List D} (h : Alike q r) (k : Alike s t) : Alike (q ++ s) (r ++ t) := by
  induction h with
  | nil => exact k
  | cons e _ ih => exact .cons e ih
theorem Alike.filter {q r : List D} {x : Int} (h : Alike q r) : Alike (q.filter fun a => decide (a.lane ≠ x)) (r.filter fun a => decide (a.lane ≠ x)) := by
  induction h with
  | nil => exact .nil
  | cons e k0 ih =>
    rename_i a b q r
    rw [List.filter_cons, List.filter_cons, e.2.1]
    split
    · exact .cons e ih
    · exact ih
theorem alike_step {q r q' : List D} {a b : D} (h : Alike q r) (e : alike a b) (hs : qstep q a = some q') : ∃ r', qstep r b = some r' ∧ Alike q' r' := by
  unfold qstep at hs ⊢
  rw [e.1]
  split at hs
  · rename_i h1
    injection hs with hs; subst hs
    exact ⟨_, by rw [if_pos h1], h.app (.cons e .nil)⟩
  · rename_i h1
    rw [if_neg h1]
    split at hs
    · rename_i h2
      rw [if_pos h2]
      cases h with
      | nil => cases hs
      | cons e2 k =>
        dsimp only at hs ⊢
        rw [e2.2.2, e.2.2]
        split at hs
        · rename_i h3
          injection hs with hs; subst hs
          exact ⟨_, by rw [if_pos h3], k⟩
        · cases hs
    · rename_i h2
      rw [if_neg h2]
      split at hs
      · rename_i h3
        rw [if_pos h3]
        split at hs
        · rename_i h4
          injection hs with hs; subst hs; subst h4
          cases h
          exact ⟨[], rfl, .nil⟩
        · cases hs
      · rename_i h3
        rw [if_neg h3]
        injection hs with hs; subst hs
        rw [e.2.1]
        exact ⟨_, rfl, h.filter⟩
theorem alike_play {xs ys : List D} (h : Alike xs ys) : ∀ {q r q' : List D}, Alike q r → qplay q xs = some q' → ∃ r', qplay r ys = some r' ∧ Alike q' r' := by
  induction h with
  | nil => intro q r q' k hp; injection hp with hp; subst hp; exact ⟨r, rfl, k⟩
  | cons e k0 ih =>
    rename_i a b xs ys
    intro q r q' k hp
    have hp : (match qstep q a with | none => none | some q2 => qplay q2 xs) = some q' := hp
    cases hs : qstep q a with
    | none => rw [hs] at hp; cases hp
    | some q2 =>
      rw [hs] at hp
      obtain ⟨r2, hr, k2⟩ := alike_step k e hs
      obtain ⟨r', h1, h2⟩ := ih k2 hp
      refine ⟨r', ?_, h2⟩
      show (match qstep r b with | none => none | some q2 => qplay q2 ys) = some r'
      rw [hr]
      exact h1
theorem Wider.at_ {L M : List D} (h : Wider L M) {z : Int} (hz : 0 ≤ z ∧ z < L.length) : wider (atI L z) (atI M z) := by
  obtain ⟨a, ha⟩ : ∃ d, L[z.toNat]? = some d := ⟨_, List.getElem?_eq_getElem (by omega)⟩
  obtain ⟨b, hb⟩ : ∃ d, M[z.toNat]? = some d := ⟨_, List.getElem?_eq_getElem (by have := h.1; omega)⟩
  rw [atI_some ha, atI_some hb]
  exact h.2 _ a b ha hb
theorem Wider.ahead {L M : List D} (h : Wider L M) {y z : Int} (hy : 0 ≤ y ∧ y < L.length) (hz : 0 ≤ z ∧ z < L.length) (ha : ahead (atI M y) (atI M z)) : ahead (atI L y) (atI L z) := by
  have h1 := h.at_ hy
  have h2 := h.at_ hz
  refine ⟨by rw [← h1.2.2.2.1]; exact ha.1, ?_⟩
  have := ha.2
  have := h1.2.2.2.2.2
  have := h2.2.2.2.2.1
  omega
theorem Wider.hist {L M : List D} (h : Wider L M) (hL : Hist L) : Hist M := by
  refine ⟨by rw [h.1]; exact hL.1, fun b hb => ?_⟩
  obtain ⟨j, hj⟩ := List.getElem?_of_mem hb
  obtain ⟨a, ha⟩ : ∃ d, L[j]? = some d := ⟨_, List.getElem?_eq_getElem (by have := (List.getElem?_eq_some_iff.1 hj).1; have := h.1; omega)⟩
  have hw := h.2 j a b ha hj
  have hok := hL.2 a (List.mem_of_getElem? ha)
  obtain ⟨w1, w2, w3, w4, w5, w6⟩ := hw
  refine ⟨by rw [w1]; exact hok.1, by rw [w2]; exact hok.2.1, ?_⟩
  rcases hok.2.2 with h1 | h1
  · exact .inl (by rw [w4]; exact h1)
  · exact .inr (by omega)
theorem Wider.right {L M : List D} (h : Wider L M) {row : List Int} (ho : okRow L row) (hr : rightI L row) : rightI M row ∧ okRow M row := by
  refine ⟨⟨fun i z hz => ⟨(hr.1 i z hz).1, fun y hy ha => ?_⟩, ?_, fun i b hb hop => ?_⟩, fun z hz => by rw [h.1]; exact ho z hz⟩
  · exact (hr.1 i z hz).2 y hy (h.ahead (ho z (List.mem_of_getElem? hz)) (ho y (List.mem_of_mem_take hy)) ha)
  · obtain ⟨q, hq⟩ := some_of hr.2.1
    have hal : ∀ r : List Int, okRow L r → Alike (prow L r) (prow M r) := by
      intro r
      induction r with
      | nil => intro _; exact .nil
      | cons z r ih =>
        intro hr
        have hw := h.at_ (hr z (by simp))
        exact .cons ⟨hw.1, hw.2.1, hw.2.2.1⟩ (ih (fun y hy => hr y (by simp [hy])))
    obtain ⟨r', h1, _⟩ := alike_play (hal row ho) .nil hq
    rw [h1]
    rfl
  · obtain ⟨a, ha⟩ : ∃ d, L[i]? = some d := ⟨_, List.getElem?_eq_getElem (by have := (List.getElem?_eq_some_iff.1 hb).1; have := h.1; omega)⟩
    exact hr.2.2 i a ha (by rw [← (h.2 i a b ha hb).2.2.2.1]; exact hop)
/-! ### one by one -/
def rng (n : Nat) : List Int := (List.range n).map (fun j : Nat => (j : Int))
theorem rng_succ (n : Nat) : rng (n + 1) = rng n ++ [(n : Int)] := by simp [rng, List.range_succ]
theorem rng_len (n : Nat) : (rng n).length = n := by simp [rng]
theorem rng_get {n i : Nat} (h : i < n) : (rng n)[i]? = some (i : Int) := by simp [rng, List.getElem?_map, List.getElem?_range h]
theorem rng_mem {n : Nat} {z : Int} : z ∈ rng n ↔ 0 ≤ z ∧ z < n := by
  unfold rng
  rw [List.mem_map]
  constructor
  · rintro ⟨j, hj, rfl⟩
    have := List.mem_range.1 hj
    omega
  · rintro ⟨h1, h2⟩
    exact ⟨z.toNat, List.mem_range.2 (by omega), by omega⟩
/-- Each is ahead of the next one. -/
def Chain (M : List D) : Prop := ∀ (j : Nat) d, M[j]? = some d → d.frm = 2 * j ∧ d.til = 2 * j ∧ d.opn = false
theorem Chain.ahead {M : List D} (h : Chain M) {i j : Nat} (hi : i < M.length) (hj : j < M.length) : ahead (atI M (i : Int)) (atI M (j : Int)) ↔ i < j := by
  obtain ⟨a, ha⟩ : ∃ d, M[i]? = some d := ⟨_, List.getElem?_eq_getElem hi⟩
  obtain ⟨b, hb⟩ : ∃ d, M[j]? = some d := ⟨_, List.getElem?_eq_getElem hj⟩
  rw [atI_nat ha, atI_nat hb]
  obtain ⟨_, h2, h3⟩ := h i a ha
  obtain ⟨h4, _, _⟩ := h j b hb
  unfold Lin.ahead
  rw [h2, h3, h4]
  constructor
  · rintro ⟨_, h⟩; omega
  · intro h; exact ⟨rfl, by omega⟩
theorem sorted_eq : ∀ (a b : List Int), a.Pairwise (· < ·) → b.Pairwise (· < ·) → (∀ z, z ∈ a ↔ z ∈ b) → a = b := by
  intro a
  induction a with
  | nil =>
    intro b _ _ h
    cases b with
    | nil => rfl
    | cons y b => exact absurd ((h y).2 (by simp)) (by simp)
  | cons x a ih =>
    intro b ha hb h
    cases b with
    | nil => exact absurd ((h x).1 (by simp)) (by simp)
    | cons y b =>
      obtain ⟨a1, a2⟩ := List.pairwise_cons.1 ha
      obtain ⟨b1, b2⟩ := List.pairwise_cons.1 hb
      have e : x = y := by
        rcases List.mem_cons.1 ((h x).1 (by simp)) with h1 | h1
        · exact h1
        · rcases List.mem_cons.1 ((h y).2 (by simp)) with h2 | h2
          · exact h2.symm
          · have := b1 x h1
            have := a1 y h2
            omega
      subst e
      rw [ih b a2 b2 (fun z => by
        constructor
        · intro hz
          rcases List.mem_cons.1 ((h z).1 (by simp [hz])) with h1 | h1
          · subst h1; have := a1 z hz; omega
          · exact h1
        · intro hz
          rcases List.mem_cons.1 ((h z).2 (by simp [hz])) with h1 | h1
          · subst h1; have := b1 z hz; omega
          · exact h1)]
theorem rng_sorted (n : Nat) : (rng n).Pairwise (· < ·) := by
  rw [rng, List.pairwise_map]
  exact List.pairwise_lt_range.imp (fun h => by omega)
theorem chain_right {M : List D} (h : Chain M) {a : List Int} (ho : okRow M a) (hr : rightI M a) : a = rng M.length := by
  refine sorted_eq _ _ ?_ (rng_sorted _) (fun z => ?_)
  · rw [List.pairwise_iff_getElem]
    intro i j hi hj hij
    have hfj := hr.1 j a[j] (List.getElem?_eq_getElem hj)
    have hmem : a[i] ∈ a.take j := List.mem_of_getElem? (i := i) (by rw [List.getElem?_take, if_pos hij]; exact List.getElem?_eq_getElem hi)
    have h1 := hfj.2 _ hmem
    have hne : a[i] ≠ a[j] := fun e => hfj.1 (e ▸ hmem)
    have oi := ho a[i] (List.getElem_mem hi)
    have oj := ho a[j] (List.getElem_mem hj)
    have ei : a[i] = ((a[i].toNat : Nat) : Int) := by omega
    have ej : a[j] = ((a[j].toNat : Nat) : Int) := by omega
    rw [ei, ej, h.ahead (by omega) (by omega)] at h1
    omega
  · rw [rng_mem]
    constructor
    · exact fun hz => ho z hz
    · intro hz
      obtain ⟨d, hd⟩ : ∃ d, M[z.toNat]? = some d := ⟨_, List.getElem?_eq_getElem (by omega)⟩
      have := hr.2.2 z.toNat d hd (h _ d hd).2.2
      rwa [show ((z.toNat : Nat) : Int) = z by omega] at this
theorem rng_ok (M : List D) : okRow M (rng M.length) := fun z hz => rng_mem.1 hz
theorem chain_back {M : List D} (h : Chain M) (hp : (qplay [] (prow M (rng M.length))).isSome = true) : rightI M (rng M.length) := by
  refine ⟨fun i z hz => ?_, hp, fun i d hd _ => rng_mem.2 (by have := (List.getElem?_eq_some_iff.1 hd).1; omega)⟩
  have hi := (List.getElem?_eq_some_iff.1 hz).1
  rw [rng_len] at hi
  rw [rng_get hi] at hz
  injection hz with hz
  subst hz
  have hlt : ∀ y ∈ (rng M.length).take i, ∃ j : Nat, y = j ∧ j < i := by
    intro y hy
    obtain ⟨j, hj⟩ := List.getElem?_of_mem hy
    rw [List.getElem?_take] at hj
    split at hj
    · rename_i hji
      rw [rng_get (by omega)] at hj
      injection hj with hj
      exact ⟨j, hj.symm, hji⟩
    · cases hj
  refine ⟨fun hm => ?_, fun y hy ha => ?_⟩
  · obtain ⟨j, e, hj⟩ := hlt _ hm
    omega
  · obtain ⟨j, rfl, hj⟩ := hlt y hy
    rw [h.ahead hi (by omega)] at ha
    omega
/-- What LinSingle says. -/
theorem single {M : List D} (h : Chain M) (hH : Hist M) : (orderR M).1.isSome = (qplay [] (prow M (rng M.length))).isSome ∧ ∀ a, (orderR M).1 = some a → a = rng M.length := by
  have h2 : ∀ a, (orderR M).1 = some a → a = rng M.length := fun a ha => by
    obtain ⟨hr, ho⟩ := order_right hH ha
    exact chain_right h ho hr
  refine ⟨?_, h2⟩
  cases ha : (orderR M).1 with
  | some a =>
    obtain ⟨hr, ho⟩ := order_right hH ha
    rw [← chain_right h ho hr, hr.2.1]
    rfl
  | none =>
    cases hp : qplay [] (prow M (rng M.length)) with
    | none => rfl
    | some q =>
      obtain ⟨a, h3, _⟩ := order_finds hH (rng_ok M) (chain_back h (by rw [hp]; rfl))
      rw [ha] at h3
      cases h3
end Go.Proofs.Ytmeheoflfdmgiaa.Lin
