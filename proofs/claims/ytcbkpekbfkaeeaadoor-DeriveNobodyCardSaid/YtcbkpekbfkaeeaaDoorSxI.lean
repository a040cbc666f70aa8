/- Ranges over functions in trees: rows of one's own, block by block; iterators that tell a row. -/
import Derived.Test.YtcbkpekbfkaeeaaDoorSxN
set_option linter.unusedVariables false
set_option linter.unusedSimpArgs false
namespace Go.Proofs.YtcbkpekbfkaeeaaDoor.Sx
open Go Go.RowKit
section
variable {w w' : World} {base e n size : Nat} {v : Value} {xs : List Value}
theorem own_keep (h : w.ownsRow base e size v n xs) (k : ∀ q, v.ownBlock = some q → w'.heap[q]? = w.heap[q]?) : w'.ownsRow base e size v n xs := by
  obtain ⟨hl, h | ⟨g, cap, cur, rfl, hg, hh, r⟩⟩ := h
  · exact ⟨hl, .inl h⟩
  · exact ⟨hl, .inr ⟨g, cap, cur, rfl, hg, (k g rfl).trans hh, r⟩⟩
theorem own_lt (h : w.ownsRow base e size v n xs) : ∀ q ∈ v.ownBlock.toList, base ≤ q ∧ q < w.heap.size := by
  intro q hq
  cases hv : v.ownBlock with
  | none => rw [hv] at hq; simp at hq
  | some g => rw [hv] at hq; simp at hq; subst hq; exact h.lt _ hv
theorem own_f {S : List Nat} (h : w.ownsRow base e size v n xs) (f : Fr S w w') (hS : ∀ q ∈ v.ownBlock.toList, q ∉ S) : w'.ownsRow base e size v n xs :=
  own_keep h (fun q hq => f.keep q (h.lt q hq).2 (hS q (by simp [hq])))
/-- A row of ints reads so. -/
theorem own_int {ys : List Int} (h : w.ownsRow base e 1 v ys.length (ints ys)) : ∃ A c, v = .slice A ys.length c ∧ ∀ (k : Nat) z, ys[k]? = some z → ∃ ad, A = some ad ∧ w.cell? (addA ad (((k : Nat) : Int).toNat * 1)) = some (I z) := by
  obtain ⟨A, c, e1, h2⟩ := own_slice h
  refine ⟨A, c, e1, fun k z hz => ?_⟩
  have hlt := (List.getElem?_eq_some_iff.1 hz).1
  rcases h2 with h2 | h2 | ⟨b, rfl, _, _, h2⟩
  · rw [ints, List.map_eq_nil_iff] at h2; subst h2; simp at hlt
  · omega
  · refine ⟨_, rfl, ?_⟩
    have := h2 k (I z) (by rw [ints, List.getElem?_map, hz]; rfl)
    rw [addA_eq, addr_add]
    simpa using this
end
section
variable {P : Program} {Z : ZP} {R : Value → World → Prop} {w w' : World} {A : List Nat → List Value → World → Prop} {B : List Nat → Nat → List Value → World → Prop} {ds : List Nat} {k : Value → T} {t u : T}
/-- append of m elements to a row of one's own. -/
theorem r_appO {T e n bytes base ty m len c : Nat} {z v : Value} {xs news : List Value} {X : Option Addr} (E : El P T e n bytes z) (HO : w.ownsRow base e n v len xs) (hl : news.length = m * n) (hX : X = none → m = 0) (hnews : ∀ ad, X = some ad → ∀ j u, news[j]? = some u → w.cell? (addA ad j) = some u) (h1 : ∀ v ∈ news, v.oneCell' = true) (hb : (len + m) * bytes ≤ big) (hbase : base ≤ w.heap.size)
    (hk : ∀ v' w', w'.ownsRow base e n v' (len + m) (xs ++ news) → Fr v.ownBlock.toList w w' → (v'.ownBlock = v.ownBlock ∨ v'.ownBlock = some w.heap.size) → wp P Z R ds (k v') w' A B) (h0 : Nat.blt 0 n = true := by rfl) (hby : Nat.blt 0 bytes = true := by rfl) : wp P Z R ds (.hv (Builtin.append_ #[T, T] ty [v, .slice X m c].toArray) k) w A B := by
  have h0 : 0 < n := by simpa using h0
  have hby : 0 < bytes := by simpa using hby
  have hbig : len + m ≤ 140737488355328 := Nat.le_trans (Nat.le_mul_of_pos_right _ hby) hb
  obtain ⟨v', w', h1, h2⟩ := e_appv (P := P) (w := w) (l := []) (d := none) (ty := ty) (pos := "") (af := #[]) (g := none) (s := .const v) (x := .const (.slice X m c)) n bytes z news rfl rfl E.u E.i E.c h0 HO hl hX (fun ad he j u hj => by rw [← addA_eq]; exact hnews ad he j u hj) h1 hb hbig hbase r0 fits0
  refine ⟨v', w', ?_, hk v' w' h2.1 (Fr.of_grown h2.2.1) h2.2.2⟩
  refine run_inv ?_
  rw [← h1]
  simp [execOp, resolve, invoke, builtin, r0]
/-- An iterator that has made its own row: the row's block is the caller's. -/
theorem Rg.row {L : Nat} {σ : Type} {st : σ → List Value → σ → Prop} {J : List Nat → σ → World → Prop} {K : List Nat → World → Prop} (RG : Rg P L st J K) {s : σ} {v : Value} {base e n len : Nat} {xs : List Value} (h0 : J [] s w) (HO : w'.ownsRow base e n v len xs) (hb : w.heap.size ≤ base) (f : Fr [] w w') : J v.ownBlock.toList s w' := by
  cases hv : v.ownBlock with
  | none => exact (RG.js s).1 _ _ _ h0 f
  | some g => exact (RG.js s).1 _ _ _ ((RG.js s).2 _ _ g h0 (Nat.le_trans hb (HO.lt g hv).1)) (f.mono (by simp))
/-- What an iterator over a row tells. -/
def St (xs : List Int) : Nat → List Value → Nat → Prop := fun m vs m' => ∃ z, xs[m]? = some z ∧ vs = [I z] ∧ m' = m + 1
end
end Go.Proofs.YtcbkpekbfkaeeaaDoor.Sx
