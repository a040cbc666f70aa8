/- Relations between cells and plain data. -/
import Derived.Test.YtcbkpekbfkaeeaaDoorSxQ
set_option linter.unusedVariables false
set_option linter.unusedSimpArgs false
namespace Go.Proofs.YtcbkpekbfkaeeaaDoor.Sx
open Go Go.RowKit
structure Rl (α : Type) where
  n : Nat
  r : World → List Value → α → Prop
  len : ∀ {w cs x}, r w cs x → cs.length = n
  one : ∀ {w cs x}, r w cs x → ∀ v ∈ cs, v.oneCell' = true
  up : ∀ {w w' cs x}, Fr [] w w' → r w cs x → r w' cs x
/-- Elements in a row. -/
def Rw {α : Type} (e : Rl α) (w : World) (A : Option Addr) (xs : List α) : Prop := ∀ (j : Nat) x, xs[j]? = some x → ∃ a es, A = some a ∧ Rd w e.n (addA a (j * e.n)) es ∧ e.r w es x
theorem Rw.up {α : Type} {e : Rl α} {w w' : World} {A : Option Addr} {xs : List α} (h : Rw e w A xs) (f : Fr [] w w') : Rw e w' A xs := fun j x hj => let ⟨a, es, h1, h2, h3⟩ := h j x hj; ⟨a, es, h1, h2.fr f, e.up f h3⟩
theorem Rw.take {α : Type} {e : Rl α} {w : World} {A : Option Addr} {xs : List α} (h : Rw e w A xs) (m : Nat) : Rw e w A (xs.take m) := fun j x hj => h j x (by rw [List.getElem?_take] at hj; split at hj; exact hj; cases hj)
theorem Rw.nil {α : Type} {e : Rl α} {w : World} {A : Option Addr} : Rw e w A [] := fun j x hj => by simp at hj
theorem one1 {v : Value} (h : v.oneCell' = true) : ∀ u ∈ [v], u.oneCell' = true := fun u hu => by simp at hu; subst hu; exact h
/-- Plain data: the cells are told. -/
def rE {α : Type} (enc : α → List Value) (n : Nat) (hl : ∀ x, (enc x).length = n) (h1 : ∀ x, ∀ v ∈ enc x, v.oneCell' = true) : Rl α := ⟨n, fun _ cs x => cs = enc x, fun h => by rw [h, hl], fun h => by rw [h]; exact h1 _, fun _ h => h⟩
def rI (kd : IntKind) : Rl Int := rE (fun z => [.int kd z]) 1 (fun _ => rfl) (fun _ => one1 rfl)
def rB : Rl Bool := rE (fun z => [.bool z]) 1 (fun _ => rfl) (fun _ => one1 rfl)
def rS : Rl ByteArray := rE (fun z => [.string z]) 1 (fun _ => rfl) (fun _ => one1 rfl)
abbrev big : Nat := 140737488355328
def rL {α : Type} (e : Rl α) : Rl (List α) := ⟨1, fun w cs xs => ∃ A c, cs = [.slice A xs.length c] ∧ xs.length ≤ c ∧ xs.length ≤ big ∧ Rw e w A xs, fun ⟨_, _, h, _⟩ => by rw [h]; rfl, fun ⟨_, _, h, _⟩ => by rw [h]; exact one1 rfl, fun f ⟨A, c, h, h2, h3, h4⟩ => ⟨A, c, h, h2, h3, h4.up f⟩⟩
def rP {α β : Type} (a : Rl α) (b : Rl β) : Rl (α × β) := ⟨a.n + b.n, fun w cs p => ∃ c1 c2, cs = c1 ++ c2 ∧ a.r w c1 p.1 ∧ b.r w c2 p.2,
  fun ⟨_, _, h, h1, h2⟩ => by rw [h, List.length_append, a.len h1, b.len h2], fun ⟨_, _, h, h1, h2⟩ v hv => by rw [h] at hv; rcases List.mem_append.1 hv with hv | hv; exact a.one h1 v hv; exact b.one h2 v hv,
  fun f ⟨c1, c2, h, h1, h2⟩ => ⟨c1, c2, h, a.up f h1, b.up f h2⟩⟩
def Rl.via {α β : Type} (a : Rl α) (f : β → α) : Rl β := ⟨a.n, fun w cs x => a.r w cs (f x), fun h => a.len h, fun h => a.one h, fun f h => a.up f h⟩
/-- A slice as a value. -/
def Sl {α : Type} (e : Rl α) (w : World) (v : Value) (xs : List α) : Prop := ∃ A c, v = .slice A xs.length c ∧ xs.length ≤ c ∧ xs.length ≤ big ∧ Rw e w A xs
theorem Sl.r {α : Type} {e : Rl α} {w : World} {v : Value} {xs : List α} (h : Sl e w v xs) : (rL e).r w [v] xs := let ⟨A, c, h1, h2⟩ := h; ⟨A, c, by rw [h1], h2⟩
theorem Sl.of {α : Type} {e : Rl α} {w : World} {v : Value} {xs : List α} (h : (rL e).r w [v] xs) : Sl e w v xs := let ⟨A, c, h1, h2⟩ := h; ⟨A, c, by injection h1, h2⟩
theorem Sl.up {α : Type} {e : Rl α} {w w' : World} {v : Value} {xs : List α} (h : Sl e w v xs) (f : Fr [] w w') : Sl e w' v xs := let ⟨A, c, h1, h2, h3, h4⟩ := h; ⟨A, c, h1, h2, h3, h4.up f⟩
theorem Sl.nil {α : Type} {e : Rl α} {w : World} : Sl e w (.slice none 0 0) [] := ⟨none, 0, rfl, Nat.le_refl _, Nat.zero_le _, Rw.nil⟩
/-- A place in a row. -/
theorem gt {α : Type} {xs : List α} {j : Nat} (h : j < xs.length) : ∃ x, xs[j]? = some x := ⟨_, List.getElem?_eq_getElem h⟩
/-! ### rows of one's own, of plain data -/
section
variable {α : Type} {enc : α → List Value} {n : Nat}
def Ow (enc : α → List Value) (n ty base : Nat) (w : World) (v : Value) (xs : List α) : Prop := w.ownsRow base ty n v xs.length (flat enc xs)
theorem Ow.nil {ty base : Nat} {w : World} : Ow enc n ty base w (.slice none 0 0) ([] : List α) := own_nil base ty n
theorem Ow.up {ty base : Nat} {w w' : World} {v : Value} {xs : List α} (h : Ow enc n ty base w v xs) (f : Fr [] w w') : Ow enc n ty base w' v xs := own_fr0 h f
theorem Ow.st {ty base b : Nat} {w w' : World} {v : Value} {xs : List α} (h : Ow enc n ty base w v xs) (f : Fr [b] w w') (hb : b < base) : Ow enc n ty base w' v xs := own_fr h f (fun x hx => by simp at hx; omega)
theorem Ow.row {ty base : Nat} {w : World} {v : Value} {xs : List α} {hl : ∀ x, (enc x).length = n} {h1 : ∀ x, ∀ v ∈ enc x, v.oneCell' = true} (h : Ow enc n ty base w v xs) (h0 : 0 < n) (hb : xs.length ≤ big) : Sl (rE enc n hl h1) w v xs := by
  obtain ⟨A, c, hv, _⟩ := own_slice h
  subst hv
  refine ⟨A, c, rfl, ?_, hb, fun j x hj => ?_⟩
  · exact own_cap h
  · obtain ⟨_, ⟨e1, e2⟩ | ⟨g, cap, cur, e1, hg, hh, hn, hm, hs, ht⟩⟩ := h
    · have := (List.getElem?_eq_some_iff.1 hj).1
      injection e1 with _ e3
      omega
    · injection e1 with e3
      subst e3
      refine ⟨_, enc x, rfl, ⟨hl x, fun i v hv => ?_⟩, rfl⟩
      have hi : i < n := by have := (List.getElem?_eq_some_iff.1 hv).1; rwa [hl] at this
      have hb : Blk w g ty (flat enc xs ++ cur.toList.drop (xs.length * n)) := by
        unfold Blk
        rw [hh, ← ht, List.take_append_drop]
      have hf := flat_get hl hj hi
      rw [hv] at hf
      show w.cell? ⟨g, 0 + j * n + i, none⟩ = some v
      rw [Nat.zero_add]
      exact hb.cell (by rw [List.getElem?_append_left (List.getElem?_eq_some_iff.1 hf).1]; exact hf)
end
section
variable {P : Program} {Z : ZP} {R : Value → World → Prop} {w w' : World} {A : List Nat → List Value → World → Prop} {B : List Nat → Nat → List Value → World → Prop} {ds : List Nat} {k : Value → T} {t u : T}
/-- What a struct's or a number's type tells of it. -/
structure El (P : Program) (T e n bytes : Nat) (z : Value) : Prop where
  u : P.underlying T = some (.slice e)
  i : (P.info? e).map (fun i => (i.zero, i.size, i.bytes)) = some (some z, n, bytes)
  s : ∀ w, (sizeOf e).run P w = .ok n w
  zv : ∀ w, (zeroValue e).run P w = .ok z w
  c : z.cells.size = n
/-- append(s, x), x of a literal. -/
theorem r_app {α : Type} {enc : α → List Value} {T e n bytes base ty m c : Nat} {z v : Value} {xs : List α} {x : α} {ad : Addr} (E : El P T e n bytes z) (HO : Ow enc n e base w v xs) (hr : Rd w n ad (enc x)) (h1 : ∀ v ∈ enc x, v.oneCell' = true) (hlen : ∀ x, (enc x).length = n) (hb : (xs.length + 1) * bytes ≤ big) (hbase : base ≤ w.heap.size)
    (hk : ∀ v' w', Ow enc n e base w' v' (xs ++ [x]) → Below base w w' → wp P Z R ds (k v') w' A B) (h0 : Nat.blt 0 n = true := by rfl) (hby : Nat.blt 0 bytes = true := by rfl) : wp P Z R ds (.hv (Builtin.append_ #[T, T] ty [v, .slice (some ad) 1 c].toArray) k) w A B := by
  have h0 : 0 < n := by simpa using h0
  have hby : 0 < bytes := by simpa using hby
  have hbig : xs.length + 1 ≤ 140737488355328 := Nat.le_trans (Nat.le_mul_of_pos_right _ hby) hb
  obtain ⟨i, hi, hz, hsize, hby'⟩ := info_parts E.i
  obtain ⟨v', w', hrun, g1, g2, _, _⟩ := run_append_own_at (P := P) w base T ty e i z n bytes E.u hi hz hsize hby' E.c h0 v xs.length (flat enc xs) HO ad 1 c (enc x) (by rw [hlen]; omega) (fun j u hj => by rw [← addA_eq]; exact hr.2 j u hj) h1 (by simp only [maxLen]; omega) hb hbase
  refine ⟨v', w', hrun, hk v' w' ?_ ?_⟩
  rotate_left
  · exact ⟨g2.os, g2.tape, g2.output, g2.size, fun q hq => g2.block q (by omega) (fun e => by have := own_ge HO q e.symm; omega)⟩
  unfold Ow
  rw [List.length_append]
  have : flat enc (xs ++ [x]) = flat enc xs ++ enc x := by simp [flat]
  rw [this]
  exact g1
/-- A slice literal of one element. -/
theorem r_bs1 {T e n bytes : Nat} {z v : Value} {cs : List Value} (E : El P T e n bytes z) (hk : ∀ b w', b = w.heap.size → Blk w' b e cs → Fr [] w w' → wp P Z R ds (k (.slice (some ⟨b, 0, none⟩) 1 1)) w' A B) (hv : v.cells = cs.toArray := by rfl) (hl : cs.length = n := by rfl) (h0 : Nat.blt 0 n = true := by rfl) (hn : Nat.ble n 1000 = true := by rfl) : wp P Z R ds (.hv (Instr.buildSlice T 1 [(0, v)].toArray) k) w A B :=
  ⟨_, _, run_bs1 (zs := z.cells.toList) E.u E.s E.zv (by simp) (by simpa using E.c) hv hl h0 hn, hk _ _ rfl (Blk.alloc w e cs) (Fr.alloc w _)⟩
end
end Go.Proofs.YtcbkpekbfkaeeaaDoor.Sx
