/- Deeds as data; rows in memory at whatever address; bit operations. -/
import Derived.Test.YtcbkpekbfkaeeaaDoorSxE
import Derived.Test.YtcbkpekbfkaeeaaDoorSxG
set_option linter.unusedVariables false
set_option linter.unusedSimpArgs false
namespace Go.Proofs.YtcbkpekbfkaeeaaDoor.Sx
open Go Go.RowKit
section
variable {P : Program} {l : Env} {w w' : World} {d : Option Tmp} {ty t : TypeId} {pos : String} {af : Array Edge} {g : Option (Nat × Bool)}
/-- A field of what lies at whatever address. -/
theorem x_fag {x : Operand} {i s : Nat} {ad : Addr} {fs : Array Field} {F : Field} (hx : ev l x = some (.pointer (some ad))) (hu : P.underlying t = some (.struct fs)) (hf : fs[i]? = some F) (hs : ∀ w, (sizeOf F.type).run P w = .ok (s + 1) w) (off : Nat) (ho : F.offset = off) :
    Ex P ⟨d, .fieldAddr t x i, ty, pos, af, g⟩ l w (.pointer (some (ad.add off))) w := fun ρ h => by
  subst ho
  simp [execOp, h x _ hx, Instr.fieldAt, run_underlying hu, hf, Instr.sureAddr, fieldPlace, hs]
theorem u64_of (a : BitVec 64) : BitVec.ofInt (IntKind.bits .u64) ((a.toNat : Nat) : Int) = a := by
  apply BitVec.eq_of_toNat_eq
  simp [IntKind.bits]
theorem u64_back (a : BitVec 64) : IntKind.u64.wrap ((a.toNat : Nat) : Int) = a.toNat := by
  have h := a.isLt
  have e : ∀ z : Int, IntKind.u64.wrap z = z % 18446744073709551616 := fun z => by simp [IntKind.wrap, IntKind.bits, IntKind.signed]
  rw [e]
  omega
section
variable {x y : Operand} {a b : BitVec 64} {ty2 : TypeId}
theorem x_and (hx : ev l x = some (.int .u64 (a.toNat : Nat))) (hy : ev l y = some (.int .u64 (b.toNat : Nat))) : Ex P ⟨d, .binOp .and t x y ty2, ty, pos, af, g⟩ l w (.int .u64 ((a &&& b).toNat : Nat)) w := fun ρ h => by
  have e : (Op.intBits .and .u64 (a.toNat : Nat) (b.toNat : Nat)) = pure (.int .u64 ((a &&& b).toNat : Nat)) := by
    unfold Op.intBits
    rw [u64_of a, u64_of b]
    exact congrArg (fun z => pure (Value.int .u64 z)) (u64_back (a &&& b))
  simp [execOp, h x _ hx, h y _ hy, binOp_and, eqGuard_at_int, e]
theorem x_or (hx : ev l x = some (.int .u64 (a.toNat : Nat))) (hy : ev l y = some (.int .u64 (b.toNat : Nat))) : Ex P ⟨d, .binOp .or t x y ty2, ty, pos, af, g⟩ l w (.int .u64 ((a ||| b).toNat : Nat)) w := fun ρ h => by
  have e : (Op.intBits .or .u64 (a.toNat : Nat) (b.toNat : Nat)) = pure (.int .u64 ((a ||| b).toNat : Nat)) := by
    unfold Op.intBits
    rw [u64_of a, u64_of b]
    exact congrArg (fun z => pure (Value.int .u64 z)) (u64_back (a ||| b))
  simp [execOp, h x _ hx, h y _ hy, binOp_or, eqGuard_at_int, e]
theorem x_andn (hx : ev l x = some (.int .u64 (a.toNat : Nat))) (hy : ev l y = some (.int .u64 (b.toNat : Nat))) : Ex P ⟨d, .binOp .andNot t x y ty2, ty, pos, af, g⟩ l w (.int .u64 ((a &&& ~~~b).toNat : Nat)) w := fun ρ h => by
  have e : (Op.intBits .andNot .u64 (a.toNat : Nat) (b.toNat : Nat)) = pure (.int .u64 ((a &&& ~~~b).toNat : Nat)) := by
    unfold Op.intBits
    rw [u64_of a, u64_of b]
    exact congrArg (fun z => pure (Value.int .u64 z)) (u64_back (a &&& ~~~b))
  simp [execOp, h x _ hx, h y _ hy, binOp_andNot, eqGuard_at_int, e]
theorem bit_val (i : Nat) (hi : i < 64) : IntKind.u64.wrap (1 * 2 ^ i) = (((1#64) <<< i).toNat : Nat) := by
  have e : ∀ z : Int, IntKind.u64.wrap z = z % 18446744073709551616 := fun z => by simp [IntKind.wrap, IntKind.bits, IntKind.signed]
  rw [e, BitVec.toNat_shiftLeft, Nat.shiftLeft_eq]
  simp
theorem x_shl1 {i : Nat} {k : IntKind} (hx : ev l x = some (.int .u64 1)) (hy : ev l y = some (.int k i)) (hi : i < 64) : Ex P ⟨d, .binOp .shl t x y ty2, ty, pos, af, g⟩ l w (.int .u64 (((1#64) <<< i).toNat : Nat)) w := fun ρ h => by
  have e : Op.shift .shl .u64 1 k i = pure (.int .u64 (((1#64) <<< i).toNat : Nat)) := by
    unfold Op.shift
    rw [if_neg (by omega)]
    have hm : min ((i : Int).toNat) (IntKind.bits .u64) = i := by simp [IntKind.bits]; omega
    simp only [hm]
    exact congrArg (fun z => pure (Value.int .u64 z)) (bit_val i hi)
  simp only [execOp, h x _ hx, h y _ hy, binOp_shl, eqGuard_at_int, e, Sem.run_bind, Sem.run_pure, Result.andThen_ok]
end
theorem x_slt {x y : Operand} {A : Option Addr} {len cap m : Nat} {k : IntKind} {j : Int} {e : TypeId} {s : Nat} (hx : ev l x = some (.slice A len cap)) (hy : ev l y = some (.int k j)) (hu : P.underlying t = some (.slice e)) (hs : ∀ w, (sizeOf e).run P w = .ok s w) (hj : 0 ≤ j ∧ j ≤ cap) (hm : j.toNat = m) :
    Ex P ⟨d, .slice t x none (some y) none, ty, pos, af, g⟩ l w (.slice A m cap) w := by subst hm; exact x_slh hx hy hu hs hj
end
/-- A row in memory, at whatever address. -/
def RowG {α : Type} (enc : α → List Value) (k : Nat) (w : World) (A : Option Addr) (l : List α) : Prop :=
  ∀ (j : Nat) x, l[j]? = some x → ∃ a, A = some a ∧ ∀ i v, (enc x)[i]? = some v → w.cell? ((a.add (j * k)).add i) = some v
section
variable {α : Type} {enc : α → List Value} {k : Nat} {w w' : World} {A : Option Addr} {l : List α}
theorem RowG.fr0 (h : RowG enc k w A l) (f : Fr [] w w') : RowG enc k w' A l := fun j x hj => let ⟨a, e, c⟩ := h j x hj; ⟨a, e, fun i v hv => f.cell (c i v hv) (by simp)⟩
theorem RowG.take (h : RowG enc k w A l) (m : Nat) : RowG enc k w A (l.take m) := fun j x hj => h j x (by rw [List.getElem?_take] at hj; split at hj; exact hj; cases hj)
theorem RowG.nil (w : World) (A : Option Addr) : RowG enc k w A [] := fun j x h => by simp at h
theorem RowG.blk {b : Nat} {T : TypeId} {rest : List Value} (hk : ∀ x, (enc x).length = k) (h : Blk w b T (flat enc l ++ rest)) : RowG enc k w (some ⟨b, 0, none⟩) l := fun j x hj => ⟨_, rfl, fun i v hv => by
  have hi : i < k := by have := (List.getElem?_eq_some_iff.1 hv).1; rwa [hk] at this
  rw [addr_add, addr_add, Nat.zero_add]
  have hf := flat_get hk hj hi
  rw [hv] at hf
  exact h.cell (by rw [List.getElem?_append_left (List.getElem?_eq_some_iff.1 hf).1]; exact hf)⟩
theorem RowG.own {B e n c : Nat} (h0 : 0 < k) (hk : ∀ x, (enc x).length = k) (h : w.ownsRow B e k (.slice A n c) n (flat enc l)) : RowG enc k w A l := by
  obtain ⟨hl, ⟨h1, rfl⟩ | ⟨g, cap, cur, e1, hg, hh, hn, hm, hs, ht⟩⟩ := h
  · intro j x hj
    rw [Nat.zero_mul, flat_length hk] at hl
    have hjl := (List.getElem?_eq_some_iff.1 hj).1
    have : l.length = 0 := by
      rcases Nat.mul_eq_zero.1 hl with h | h <;> omega
    omega
  · injection e1 with e2
    subst e2
    have hb : Blk w g e (flat enc l ++ cur.toList.drop (n * k)) := by
      unfold Blk
      rw [hh, ← ht, List.take_append_drop]
    exact RowG.blk hk hb
end
end Go.Proofs.YtcbkpekbfkaeeaaDoor.Sx
