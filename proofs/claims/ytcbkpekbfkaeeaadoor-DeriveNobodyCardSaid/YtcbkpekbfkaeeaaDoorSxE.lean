/- More of what single operations yield: min, a slice cut above. -/
import Derived.Test.YtcbkpekbfkaeeaaDoorSxC
import Derived.Laws.Slices
set_option linter.unusedVariables false
set_option linter.unusedSimpArgs false
namespace Go.Proofs.YtcbkpekbfkaeeaaDoor.Sx
open Go Go.RowKit
section
variable {P : Program} {l : Env} {w w' : World} {d : Option Tmp} {ty t : TypeId} {pos : String} {af : Array Edge} {g : Option (Nat × Bool)}
theorem x_min {x y : Operand} {k : IntKind} {a b : Int} {ts : Array TypeId} (hx : ev l x = some (.int k a)) (hy : ev l y = some (.int k b)) : Ex P ⟨d, .call ⟨.builtin .min, #[x, y], ts⟩, ty, pos, af, g⟩ l w (.int k (if b < a then b else a)) w := fun ρ h => by
  simp [execOp, resolve, invoke, builtin, h x _ hx, h y _ hy, Builtin.min_, Builtin.min2]
theorem x_slh {x y : Operand} {A : Option Addr} {len cap : Nat} {k : IntKind} {j : Int} {e : TypeId} {s : Nat} (hx : ev l x = some (.slice A len cap)) (hy : ev l y = some (.int k j)) (hu : P.underlying t = some (.slice e)) (hs : ∀ w, (sizeOf e).run P w = .ok s w) (hj : 0 ≤ j ∧ j ≤ cap) :
    Ex P ⟨d, .slice t x none (some y) none, ty, pos, af, g⟩ l w (.slice A j.toNat cap) w := fun ρ h => by
  have e0 : ∀ a : Addr, a.add 0 = a := fun a => by unfold Addr.add; simp
  have e1 : (A.map fun a => a.add (0 * s)) = A := by cases A <;> simp [e0]
  have e2 : (Instr.slice t (.slice A len cap) none (some (.int k j)) none).run P w = .ok (.slice A j.toNat cap) w := by
    simp [Instr.slice, run_underlying hu, Instr.sliceBounds, run_sliceBound w k j cap _ hj.1 hj.2, hs]
    try (cases A <;> simp [e0])
  have hu2 : P.underlying t = some (.slice (P.elem t)) := by rw [hu]; simp [Program.elem, hu]
  simp [execOp, h x _ hx, h y _ hy, run_sliceAt_slice, hu2, e2]
theorem x_sll {x y : Operand} {A : Option Addr} {len cap : Nat} {k : IntKind} {j : Int} {e : TypeId} {s : Nat} (hx : ev l x = some (.slice A len cap)) (hy : ev l y = some (.int k j)) (hu : P.underlying t = some (.slice e)) (hs : ∀ w, (sizeOf e).run P w = .ok s w) (hj : 0 ≤ j ∧ j ≤ len) :
    Ex P ⟨d, .slice t x (some y) none none, ty, pos, af, g⟩ l w (.slice (if cap = j.toNat then A else A.map (·.add (j.toNat * s))) (len - j.toNat) (cap - j.toNat)) w := fun ρ h => by
  have e2 : (Instr.slice t (.slice A len cap) (some (.int k j)) none none).run P w = .ok (.slice (if cap = j.toNat then A else A.map (·.add (j.toNat * s))) (len - j.toNat) (cap - j.toNat)) w := by
    simp [Instr.slice, run_underlying hu, Instr.sliceBounds, run_sliceBound w k j len _ hj.1 hj.2, hs]
  have hu2 : P.underlying t = some (.slice (P.elem t)) := by rw [hu]; simp [Program.elem, hu]
  simp [execOp, h x _ hx, h y _ hy, run_sliceAt_slice, hu2, e2]
theorem x_rem {x y : Operand} {k : IntKind} {a b : Int} {ty2 : TypeId} (hx : ev l x = some (.int k a)) (hy : ev l y = some (.int k b)) (hb : b ≠ 0) : Ex P ⟨d, .binOp .rem t x y ty2, ty, pos, af, g⟩ l w (.int k (a.tmod b)) w := fun ρ h => by
  simp [execOp, h x _ hx, h y _ hy, binOp_rem, eqGuard_rem, Op.intDiv, hb]
theorem own_cap {base e n : Nat} {size : Nat} {A : Option Addr} {m c : Nat} {xs : List Value} (h : w.ownsRow base e size (.slice A m c) n xs) : n ≤ c := by
  obtain ⟨_, ⟨e, rfl⟩ | ⟨g, cap, cur, e, hg, hh, hn, r⟩⟩ := h
  · exact Nat.zero_le _
  · injection e with _ _ e3
    omega
theorem run_ldv {b n : Nat} {cs : List Value} {T : TypeId} (ha : ∀ w, (isAgg t).run P w = .ok true w) (hs : ∀ w, (sizeOf t).run P w = .ok n w) (hl : cs.length = n) (hb : Blk w b T cs) : (loadVar t ⟨b, 0, none⟩).run P w = .ok (.agg cs.toArray) w := by
  subst hl
  have hr := run_loadCells_list (P := P) (w := w) ⟨b, 0, none⟩ cs (fun j v hv => by rw [addr_add, Nat.zero_add]; exact hb.cell hv)
  simp [loadVar, ha, hs, hr]
variable {n : Nat}
theorem fin_c {fn : Func} {RR : Value → World → Prop} {p : Nat} {ad : Addr} {v : Value} (hr : fn.results = #[.cell p t]) (hp : find l p = some (.pointer (some ad))) (hc : (loadVar t ad).run P w = .ok v w) (h : RR v w) :
    AL n [] l w (fun a w => bodyPost P fn (fun e w' => ∃ v, e = .returned v ∧ RR v w') .ret a w) :=
  fun a ha => ⟨ha.defs, v, by
    have h1 := ha.look p _ hp
    rw [Array.getD_eq_getD_getElem?] at h1
    simp [results, hr, h1, asAddr, hc], _, rfl, h⟩
theorem fin_ct {fn : Func} {RR : Value → World → Prop} {p u : Nat} {ad : Addr} {v x : Value} (hr : fn.results = #[.cell p t, .tmp u]) (hp : find l p = some (.pointer (some ad))) (hc : (loadVar t ad).run P w = .ok v w) (hx : find l u = some x) (h : RR (.tuple #[v, x]) w) :
    AL n [] l w (fun a w => bodyPost P fn (fun e w' => ∃ v, e = .returned v ∧ RR v w') .ret a w) :=
  fun a ha => ⟨ha.defs, .tuple #[v, x], by
    have h1 := ha.look p _ hp
    have h2 := ha.look u _ hx
    rw [Array.getD_eq_getD_getElem?] at h1 h2
    simp [results, hr, h1, h2, asAddr, hc], _, rfl, h⟩
end
end Go.Proofs.YtcbkpekbfkaeeaaDoor.Sx
