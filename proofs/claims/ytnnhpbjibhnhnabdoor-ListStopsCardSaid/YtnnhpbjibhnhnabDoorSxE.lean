/- More of what single operations yield: min, a slice cut above. -/
import Derived.Test.YtnnhpbjibhnhnabDoorSxC
import Derived.Laws.Slices
set_option linter.unusedVariables false
set_option linter.unusedSimpArgs false
namespace Go.Proofs.YtnnhpbjibhnhnabDoor.Sx
open Go Go.RowKit
section
variable {P : Program} {l : Env} {w w' : World} {d : Option Tmp} {ty t : TypeId} {pos : String} {af : Array Edge} {g : Option (Nat × Bool)}
theorem x_min {x y : Operand} {k : IntKind} {a b : Int} {ts : Array TypeId} (hx : ev l x = some (.int k a)) (hy : ev l y = some (.int k b)) : Ex P ⟨d, .call ⟨.builtin .min, #[x, y], ts⟩, ty, pos, af, g⟩ l w (.int k (if b < a then b else a)) w := fun ρ h => by
  simp [execOp, resolve, invoke, builtin, h x _ hx, h y _ hy, Builtin.min_, Builtin.min2]
theorem x_slh {x y : Operand} {A : Option Addr} {len cap : Nat} {k : IntKind} {j : Int} {e : TypeId} {s : Nat} (hx : ev l x = some (.slice A len cap)) (hy : ev l y = some (.int k j)) (hu : P.underlying t = some (.slice e)) (hs : ∀ w, (sizeOf e).run P w = .ok s w) (hj : 0 ≤ j ∧ j ≤ cap) :
    Ex P ⟨d, .slice t x none (some y) none, ty, pos, af, g⟩ l w (.slice A j.toNat cap) w := fun ρ h => by
  have e0 : ∀ a : Addr, a.add 0 = a := fun a => by unfold Addr.add; simp
  have e1 : (A.map fun a => a.add (0 * s)) = A := by cases A <;> simp [e0]
  have e2 : (Instr.slice t (.slice A len cap) none (some (.int k j)) none).run P w = .ok (.slice A j.toNat cap) w := by
    simp [Instr.slice, run_underlying hu, Instr.sliceBounds, run_sliceBound w k j cap _ hj.1 hj.2, hs]
    try (cases A <;> simp [e0])
  have hu2 : P.underlying t = some (.slice (P.elem t)) := by rw [hu]; simp [Program.elem, hu]
  simp [execOp, h x _ hx, h y _ hy, run_sliceAt_slice, hu2, e2]
theorem own_cap {base e n : Nat} {size : Nat} {A : Option Addr} {m c : Nat} {xs : List Value} (h : w.ownsRow base e size (.slice A m c) n xs) : n ≤ c := by
  obtain ⟨_, ⟨e, rfl⟩ | ⟨g, cap, cur, e, hg, hh, hn, r⟩⟩ := h
  · exact Nat.zero_le _
  · injection e with _ _ e3
    omega
end
end Go.Proofs.YtnnhpbjibhnhnabDoor.Sx
