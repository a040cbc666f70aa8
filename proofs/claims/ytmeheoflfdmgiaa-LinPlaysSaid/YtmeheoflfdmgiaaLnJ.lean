/- Maps as sets, whose keys are structs: what lies in memory, lookup and store. No program here. -/
import Derived.Test.YtmeheoflfdmgiaaLnI
import Derived.DeepKeys3
import Derived.Carry
set_option linter.unusedVariables false
set_option linter.unusedSimpArgs false
namespace Go.Proofs.Ytmeheoflfdmgiaa.Sx
open Go Go.RowKit
/-- A map whose entries all say true. -/
def TMap (w : World) (b : Nat) (T : List Value) : Prop := ∃ es clock, w.heap[b]? = some (.map es clock) ∧ es.toList.map (·.key) = T ∧ ∀ e ∈ es.toList, e.val = .bool true
section
variable {w w' : World} {b : Nat} {T : List Value} {S : List Nat}
theorem TMap.lt (h : TMap w b T) : b < w.heap.size := by obtain ⟨es, c, hb, _⟩ := h; exact (Array.getElem?_eq_some_iff.1 hb).1
theorem TMap.fr (h : TMap w b T) (f : Fr S w w') (hn : b ∉ S) : TMap w' b T := by obtain ⟨es, c, hb, h1, h2⟩ := h; exact ⟨es, c, (f.keep b (Array.getElem?_eq_some_iff.1 hb).1 hn).trans hb, h1, h2⟩
theorem TMap.fr0 (h : TMap w b T) (f : Fr [] w w') : TMap w' b T := h.fr f (by simp)
theorem TMap.ne_blk (h : TMap w b T) {c : Nat} {U : TypeId} {l : List Value} (k : Blk w c U l) : c ≠ b := by
  rintro rfl
  obtain ⟨es, cl, hb, _⟩ := h
  rw [show w.heap[c]? = _ from k] at hb
  cases hb
theorem TMap.ne_cell (h : TMap w b T) {ad : Addr} {v : Value} (k : w.cell? ad = some v) : ad.block ≠ b := by
  intro e
  obtain ⟨es, cl, hb, _⟩ := h
  unfold World.cell? at k
  rw [e, hb] at k
  cases k
theorem Blk.frM {c : Nat} {U : TypeId} {l : List Value} (k : Blk w c U l) (h : TMap w b T) (f : Fr [b] w w') : Blk w' c U l := k.fr f (by simpa using h.ne_blk k)
theorem RowG.frM {α : Type} {enc : α → List Value} {k : Nat} {A : Option Addr} {l : List α} (r : RowG enc k w A l) (h : TMap w b T) (f : Fr [b] w w') : RowG enc k w' A l := fun j x hj => let ⟨a, e, c⟩ := r j x hj; ⟨a, e, fun i v hv => f.cell (c i v hv) (by simpa using h.ne_cell (c i v hv))⟩
end
section
variable {P : Program} {l : Env} {w w' : World} {d : Option Tmp} {ty t : TypeId} {pos : String} {af : Array Edge} {g : Option (Nat × Bool)} {b : Nat} {T : List Value} {key : Value} {k e : TypeId}
theorem e_map : Ev P ⟨d, .makeMap t none, ty, pos, af, g⟩ l w (fun v w' => v = .map (some w.heap.size) ∧ TMap w' w.heap.size [] ∧ Fr [] w w') := fun ρ h =>
  ⟨_, w.alloc (.map #[] 0), by simp [execOp, run_makeMap], rfl, ⟨#[], 0, (MapKept.heap_alloc w _).1, rfl, by simp⟩, Fr.alloc w _⟩
theorem find_cases (K : WideMaps.KeyLaw P k) {es : Array MapEntry} (h1 : es.toList.map (·.key) = T) (hT : ∀ v ∈ T, ∃ l, keyOf P k v = some l) {kl : Lit} (hk : keyOf P k key = some kl) (w : World) :
    ((Instr.findKey k key es.toList).run P w = .ok none w ∧ key ∉ T) ∨ ∃ j e, (Instr.findKey k key es.toList).run P w = .ok (some (j, e.val)) w ∧ e ∈ es.toList ∧ key ∈ T := by
  rcases K.find w hk es.toList (fun e he => hT _ (by rw [← h1]; exact List.mem_map.2 ⟨e, he, rfl⟩)) with ⟨h2, h3⟩ | ⟨j, e, h2, h3, h4⟩
  · refine .inl ⟨h2, fun hm => ?_⟩
    rw [← h1] at hm
    obtain ⟨e, he, hke⟩ := List.mem_map.1 hm
    exact h3 e he hke
  · exact .inr ⟨j, e, h2, List.mem_of_getElem? h3, by rw [← h1]; exact List.mem_map.2 ⟨e, List.mem_of_getElem? h3, h4⟩⟩
theorem x_look {x y : Operand} (K : WideMaps.KeyLaw P k) (hu : P.underlying t = some (.map k e)) (hz : ∀ w, (zeroValue e).run P w = .ok (.bool false) w) (hx : ev l x = some (.map (some b))) (hy : ev l y = some key) (hM : TMap w b T) (hT : ∀ v ∈ T, ∃ l, keyOf P k v = some l) (hk : ∃ kl, keyOf P k key = some kl) :
    Ex P ⟨d, .lookup t x y false, ty, pos, af, g⟩ l w (.bool (Lin.dc (key ∈ T))) w := fun ρ h => by
  obtain ⟨es, clock, hb, h1, h2⟩ := hM
  obtain ⟨kl, hk⟩ := hk
  rcases find_cases K h1 hT hk w with ⟨h3, h4⟩ | ⟨j, e0, h3, h4, h5⟩
  · rw [Lin.dc_false h4]
    simp [execOp, h x _ hx, h y _ hy, Instr.lookup, run_underlying hu, MapKept.run_getObj_map hb, K.check w _ hk, h3, hz, Result.andThen]
  · rw [Lin.dc_true h5]
    simp [execOp, h x _ hx, h y _ hy, Instr.lookup, run_underlying hu, MapKept.run_getObj_map hb, K.check w _ hk, h3, h2 e0 h4, Result.andThen]
theorem v_mapup {x y z : Operand} (K : WideMaps.KeyLaw P k) (hu : P.underlying t = some (.map k e)) (hx : ev l x = some (.map (some b))) (hy : ev l y = some key) (hz : ev l z = some (.bool true)) (hM : TMap w b T) (hT : ∀ v ∈ T, ∃ l, keyOf P k v = some l) (hk : ∃ kl, keyOf P k key = some kl) (hno : key ∉ T) :
    Sv P ⟨none, .mapUpdate t x y z, ty, pos, af, g⟩ l w (fun w' => TMap w' b (T ++ [key]) ∧ Fr [b] w w') := fun ρ h => by
  obtain ⟨es, clock, hb, h1, h2⟩ := hM
  obtain ⟨kl, hk⟩ := hk
  rcases find_cases K h1 hT hk w with ⟨h3, h4⟩ | ⟨j, e0, h3, h4, h5⟩
  · refine ⟨{ w with heap := w.heap.setIfInBounds b (.map (es.push { key := key, val := .bool true, born := clock }) (clock + 1)) }, by simp [execOp, h x _ hx, h y _ hy, h z _ hz, Instr.mapUpdate, run_underlying hu, MapKept.run_getObj_map hb, K.check w _ hk, h3, MapKept.run_setObj_map _ hb, Result.andThen], ?_⟩
    have hlt := (Array.getElem?_eq_some_iff.1 hb).1
    refine ⟨⟨_, clock + 1, Array.getElem?_setIfInBounds_self_of_lt hlt, by simp [h1], fun e0 he => ?_⟩, ⟨rfl, rfl, rfl, by simp, fun q hq hs => ?_⟩⟩
    · simp only [Array.toList_push, List.mem_append, List.mem_singleton] at he
      rcases he with he | rfl
      · exact h2 e0 he
      · rfl
    · simp only [List.mem_singleton] at hs
      exact Array.getElem?_setIfInBounds_ne (Ne.symm hs)
  · exact absurd h5 hno
end
theorem mapM_some {α β : Type} {f : α → Option β} : ∀ (l : List α), (∀ x ∈ l, (f x).isSome = true) → ∃ r, l.mapM f = some r := by
  intro l
  induction l with
  | nil => intro _; exact ⟨[], rfl⟩
  | cons x r ih =>
    intro h
    obtain ⟨y, hy⟩ := Lin.some_of (h x (by simp))
    obtain ⟨ys, hys⟩ := ih (fun z hz => h z (by simp [hz]))
    exact ⟨y :: ys, by rw [List.mapM_cons, hy, hys]; rfl⟩
end Go.Proofs.Ytmeheoflfdmgiaa.Sx
