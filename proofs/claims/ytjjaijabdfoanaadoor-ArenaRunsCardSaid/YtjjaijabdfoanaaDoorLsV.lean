/- A slice that reads as a row of numbers. -/
import Derived.Test.YtjjaijabdfoanaaDoorLsC
import Derived.Test.YtjjaijabdfoanaaDoorSxE
set_option linter.unusedVariables false
namespace Go.Proofs.YtjjaijabdfoanaaDoor.Ls
open Go Go.RowKit Go.Proofs.YtjjaijabdfoanaaDoor.Sx
/-- A slice that reads as a row, behind B. -/
def RowV (w : World) (B : Nat) (v : Value) (l : List Int) : Prop :=
  ∃ A c, v = .slice A l.length c ∧ ((A = none → l = []) ∧ l.length ≤ c) ∧ (l = [] ∨ ∃ b, A = some ⟨b, 0, none⟩ ∧ B ≤ b ∧ b < w.heap.size ∧ ∀ j u, (ints l)[j]? = some u → w.cell? ⟨b, j, none⟩ = some u)
theorem RowV.fr {S : List Nat} {w w' : World} {B : Nat} {v : Value} {l : List Int} (h : RowV w B v l) (k : Fr S w w') (hS : ∀ q ∈ S, q < B) : RowV w' B v l := by
  obtain ⟨A, c, e, h0, h | ⟨b, hA, hb, hs, hc⟩⟩ := h
  · exact ⟨A, c, e, h0, .inl h⟩
  · exact ⟨A, c, e, h0, .inr ⟨b, hA, hb, Nat.lt_of_lt_of_le hs k.size, fun j u hu => k.cell (hc j u hu) (fun hm => by have := hS _ hm; dsimp only at this; omega)⟩⟩
theorem RowV.nil (w : World) (B : Nat) : RowV w B (.slice none 0 0) [] := ⟨none, 0, rfl, ⟨fun _ => rfl, Nat.le_refl _⟩, .inl rfl⟩
theorem RowV.own {w : World} {B base : Nat} {v : Value} {l : List Int} (h : w.ownsRow base 3 1 v l.length (ints l)) (hB : B ≤ base) : RowV w B v l := by
  have h' := h
  obtain ⟨A, c, e, h⟩ := own_slice h
  have hcp := own_cap (e ▸ h')
  have hl : ∀ {l : List Int}, ints l = [] → l = [] := fun h => by simpa [ints] using h
  rcases h with h | h | ⟨b, rfl, hb, hs, hc⟩
  · exact ⟨A, c, e, ⟨fun _ => hl h, hcp⟩, .inl (hl h)⟩
  · exact ⟨A, c, e, ⟨fun _ => List.eq_nil_of_length_eq_zero h, hcp⟩, .inl (List.eq_nil_of_length_eq_zero h)⟩
  · exact ⟨_, c, e, ⟨fun h => (by cases h), hcp⟩, .inr ⟨b, rfl, by omega, hs, hc⟩⟩
theorem RowV.slI {w : World} {B : Nat} {v : Value} {l : List Int} (h : RowV w B v l) (hl : l.length ≤ 1000000) : SlI w v l := by
  obtain ⟨A, c, e, h0, h | ⟨b, hA, hb, hs, hc⟩⟩ := h
  · exact ⟨A, c, e, hl, .inl h⟩
  · exact ⟨A, c, e, hl, .inr ⟨b, hA, fun j z hz => by rw [Int.toNat_natCast, Nat.mul_one]; exact hc j _ (by simp [ints, hz])⟩⟩
end Go.Proofs.YtjjaijabdfoanaaDoor.Ls
