/- Rows of one's own that are written in place; how far the widening and the numbering have come. No program here. -/
import Derived.Test.YtmeheoflfdmgiaaLnQ
set_option linter.unusedVariables false
set_option linter.unusedSimpArgs false
namespace Go.Proofs.Ytmeheoflfdmgiaa.Sx
open Go Go.RowKit
/-- A row of one's own, in a block that lies not below B. -/
def OwnB {α : Type} (B : Nat) (T : TypeId) (enc : α → List Value) (w : World) (A : Option Addr) (xs : List α) : Prop := xs = [] ∨ ∃ b rest, A = some ⟨b, 0, none⟩ ∧ B ≤ b ∧ Blk w b T (flat enc xs ++ rest)
section
variable {α : Type} {enc : α → List Value} {k B n c : Nat} {w w' : World} {T : TypeId} {A : Option Addr} {xs : List α}
theorem OwnB.fr0 (h : OwnB B T enc w A xs) (f : Fr [] w w') : OwnB B T enc w' A xs := by
  rcases h with h | ⟨b, rest, e, hB, hb⟩
  · exact .inl h
  · exact .inr ⟨b, rest, e, hB, hb.fr0 f⟩
theorem OwnB.of (hk : ∀ x, (enc x).length = k) (h0 : 0 < k) (h : w.ownsRow B T k (.slice A n c) n (flat enc xs)) : OwnB B T enc w A xs := by
  by_cases e : xs = []
  · exact .inl e
  · obtain ⟨b, rest, h1, h2, h3, _⟩ := own_blk hk h e h0
    exact .inr ⟨b, rest, h1, h2, h3⟩
theorem OwnB.row (hk : ∀ x, (enc x).length = k) (h : OwnB B T enc w A xs) : RowG enc k w A xs := by
  rcases h with rfl | ⟨b, rest, rfl, _, hb⟩
  · exact RowG.nil _ _
  · exact RowG.blk hk hb
theorem OwnB.blk (h : OwnB B T enc w A xs) {i : Nat} {x : α} (hx : xs[i]? = some x) : ∃ b rest, A = some ⟨b, 0, none⟩ ∧ B ≤ b ∧ Blk w b T (flat enc xs ++ rest) := by
  rcases h with rfl | h
  · simp at hx
  · exact h
variable {P : Program} {l : Env} {d : Option Tmp} {ty t : TypeId} {pos : String} {af : Array Edge} {g : Option (Nat × Bool)}
/-- A field of an element, written in place. -/
theorem v_rf (hk : ∀ x, (enc x).length = k) {x y : Operand} {b i j : Nat} {v : Value} {M : List α} {rest : List Value} {u : α} (u' : α) (hx : ev l x = some (.pointer (some ⟨b, i * k + j, none⟩))) (hy : ev l y = some v) (h1 : v.cells = #[v]) (hv : v.oneCell' = true) (hs : ∀ w, (sizeOf t).run P w = .ok 1 w) (hb : Blk w b T (flat enc M ++ rest)) (hi : M[i]? = some u) (hj : j < k) (he : (enc u).set j v = enc u') :
    Sv P ⟨none, .store t x y, ty, pos, af, g⟩ l w (fun w' => Blk w' b T (flat enc (M.set i u') ++ rest) ∧ Fr [b] w w') := by
  have hil := (List.getElem?_eq_some_iff.1 hi).1
  have hle : i * k + j < (flat enc M).length := by rw [flat_length hk]; have := mul_lt (k := k) hil; omega
  have := v_1 (P := P) (ty := ty) (pos := pos) (af := af) (g := g) hx hy h1 hv hs hb (by rw [List.length_append]; omega)
  rw [List.set_append_left _ _ hle, flat_set hk hi hj he] at this
  exact this
theorem x_cvs {x : Operand} {z : Int} {s t : TypeId} {ud : TypeDesc} (hx : ev l x = some (.int .u8 z)) (hs : P.underlying s = some ud) (hu : P.underlying t = some (.int .i64)) (hz : 0 ≤ z ∧ z ≤ 255) : Ex P ⟨d, .convert s t x, ty, pos, af, g⟩ l w (.int .i64 z) w := by
  have h := x_cvi (w := w) (d := d) (ty := ty) (pos := pos) (af := af) (g := g) hx hs hu
  have e : IntKind.i64.wrap z = z := by rw [IntKind.wrap_i64]; omega
  rw [e] at h
  exact h
end
theorem set_same {α : Type} {M : List α} {i : Nat} {x : α} (h : M[i]? = some x) : M.set i x = M := by
  apply List.ext_getElem?
  intro j
  rw [List.getElem?_set]
  split
  · rename_i e
    subst e
    rw [h]
    simp [(List.getElem?_eq_some_iff.1 h).1]
  · rfl
end Go.Proofs.Ytmeheoflfdmgiaa.Sx
namespace Go.Proofs.Ytmeheoflfdmgiaa.Lin
open Go Go.RowKit Go.Proofs.Ytmeheoflfdmgiaa.Sx
theorem RowB.at_ {w : World} {A : Option Addr} {row : List Int} (h : RowG encB 1 w A row) {j : Nat} {z : Int} (hj : row[j]? = some z) : ∃ a, A = some a ∧ w.cell? (a.add (j * 1)) = some (.int .u8 z) := by
  obtain ⟨a, e, c⟩ := h j z hj
  have := c 0 _ rfl
  rw [add0] at this
  exact ⟨a, e, this⟩
/-- The first i are made wider. -/
def Wid (L M : List D) (i : Nat) : Prop := M.length = L.length ∧ (∀ (j : Nat) a b, L[j]? = some a → M[j]? = some b → wider a b) ∧ ∀ j, i ≤ j → M[j]? = L[j]?
theorem Wid.start (L : List D) : Wid L L 0 := ⟨rfl, fun j a b h1 h2 => by rw [h1] at h2; injection h2 with h2; subst h2; exact wider_refl a, fun _ _ => rfl⟩
theorem Wid.step {L M : List D} {i : Nat} {x y : D} (h : Wid L M i) (hx : L[i]? = some x) (hw : wider x y) : Wid L (M.set i y) (i + 1) := by
  refine ⟨by rw [List.length_set]; exact h.1, fun j a b h1 h2 => ?_, fun j hj => ?_⟩
  · rw [List.getElem?_set] at h2
    split at h2
    · rename_i e
      subst e
      split at h2
      · injection h2 with h2
        subst h2
        rw [hx] at h1
        injection h1 with h1
        subst h1
        exact hw
      · cases h2
    · exact h.2.1 j a b h1 h2
  · rw [List.getElem?_set_ne (by omega)]
    exact h.2.2 j (by omega)
theorem Wid.wider {L M : List D} {i : Nat} (h : Wid L M i) : Wider L M := ⟨h.1, h.2.1⟩
/-- The first i are numbered. -/
def Sing (L M : List D) (i : Nat) : Prop := M.length = L.length ∧ (∀ (j : Nat) d, j < i → M[j]? = some d → d.frm = 2 * j ∧ d.til = 2 * j ∧ d.opn = false)
theorem Sing.start (L : List D) : Sing L L 0 := ⟨rfl, fun j d h => absurd h (by omega)⟩
theorem Sing.step {L M : List D} {i : Nat} {y : D} (h : Sing L M i) (hy : y.frm = 2 * i ∧ y.til = 2 * i ∧ y.opn = false) : Sing L (M.set i y) (i + 1) := by
  refine ⟨by rw [List.length_set]; exact h.1, fun j d hj h2 => ?_⟩
  rw [List.getElem?_set] at h2
  split at h2
  · rename_i e
    subst e
    split at h2
    · injection h2 with h2
      subst h2
      exact hy
    · cases h2
  · exact h.2 j d (by omega) h2
theorem Sing.chain {L M : List D} (h : Sing L M L.length) : Chain M := fun j d hd => h.2 j d (by have := (List.getElem?_eq_some_iff.1 hd).1; have := h.1; omega) hd
theorem few_all {n : Nat} (h : n ≤ 14) : fewN n 14 = n := by unfold fewN; rw [if_neg (by omega), if_neg (by omega)]
end Go.Proofs.Ytmeheoflfdmgiaa.Lin
