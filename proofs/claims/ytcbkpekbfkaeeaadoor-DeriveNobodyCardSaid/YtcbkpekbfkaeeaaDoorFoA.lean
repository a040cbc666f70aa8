/- The forest in memory, and as plain data: entries in the order in which they came. -/
import Derived.Test.YtcbkpekbfkaeeaaDoorLsC
import Derived.Test.YtcbkpekbfkaeeaaDoorLnI
import Derived.Test.YtcbkpekbfkaeeaaDoorSxE
set_option linter.unusedVariables false
set_option linter.unusedSimpArgs false
namespace Go.Proofs.YtcbkpekbfkaeeaaDoor.Sx
open Go Go.RowKit
section
variable {P : Program} {l : Env} {w w' : World} {d : Option Tmp} {ty t ty2 : TypeId} {pos : String} {af : Array Edge} {g : Option (Nat × Bool)} {x y : Operand}
theorem x_shr6 {i : Nat} (hx : ev l x = some (.int .i64 i)) (hy : ev l y = some (.int .u64 6)) : Ex P ⟨d, .binOp .shr t x y ty2, ty, pos, af, g⟩ l w (.int .i64 ((i / 64 : Nat) : Int)) w := fun ρ h => by
  have e : Op.shift .shr .i64 (i : Int) .u64 6 = pure (.int .i64 ((i / 64 : Nat) : Int)) := by
    unfold Op.shift
    rw [if_neg (by omega)]
    have hm : min ((6 : Int).toNat) (IntKind.bits .i64) = 6 := by decide
    simp only [hm]
    have : (i : Int).fdiv (2 ^ 6) = ((i / 64 : Nat) : Int) := by rw [Int.fdiv_eq_ediv_of_nonneg _ (by omega)]; omega
    rw [this]
  simp only [execOp, h x _ hx, h y _ hy, binOp_shr, eqGuard_at_int, e, Sem.run_bind, Sem.run_pure, Result.andThen_ok]
theorem x_and63 {i : Nat} (hx : ev l x = some (.int .i64 i)) (hy : ev l y = some (.int .i64 63)) : Ex P ⟨d, .binOp .and t x y ty2, ty, pos, af, g⟩ l w (.int .i64 ((i % 64 : Nat) : Int)) w := fun ρ h => by
  have e : Op.intBits .and .i64 (i : Int) 63 = pure (.int .i64 ((i % 64 : Nat) : Int)) := by
    unfold Op.intBits
    have h1 : (BitVec.ofInt (IntKind.bits .i64) (i : Int) &&& BitVec.ofInt (IntKind.bits .i64) 63).toNat = i % 64 := by
      have h2 : (BitVec.ofInt (IntKind.bits .i64) (i : Int)).toNat = i % 2 ^ 64 := by simp [IntKind.bits]
      have h3 : (BitVec.ofInt (IntKind.bits .i64) 63).toNat = 2 ^ 6 - 1 := by decide
      rw [BitVec.toNat_and, h2, h3, Nat.and_two_pow_sub_one_eq_mod]
      omega
    have h4 : IntKind.i64.wrap ((i % 64 : Nat) : Int) = ((i % 64 : Nat) : Int) := by rw [IntKind.wrap_i64]; omega
    simp only [h1]
    first | exact congrArg (fun z => pure (Value.int .i64 z)) h4 | (simp [h1, h4])
  simp only [execOp, h x _ hx, h y _ hy, binOp_and, eqGuard_at_int, e, Sem.run_bind, Sem.run_pure, Result.andThen_ok]
theorem x_shrv {a : BitVec 64} {i : Nat} (hx : ev l x = some (.int .u64 (a.toNat : Nat))) (hy : ev l y = some (.int .i64 i)) (hi : i < 64) : Ex P ⟨d, .binOp .shr t x y ty2, ty, pos, af, g⟩ l w (.int .u64 ((a >>> i).toNat : Nat)) w := fun ρ h => by
  have e : Op.shift .shr .u64 ((a.toNat : Nat) : Int) .i64 i = pure (.int .u64 ((a >>> i).toNat : Nat)) := by
    unfold Op.shift
    rw [if_neg (by omega)]
    have hm : min ((i : Int).toNat) (IntKind.bits .u64) = i := by simp [IntKind.bits]; omega
    simp only [hm]
    have : ((a.toNat : Nat) : Int).fdiv (2 ^ i) = (((a >>> i).toNat : Nat) : Int) := by
      rw [Int.fdiv_eq_ediv_of_nonneg _ (Int.pow_nonneg (by decide)), BitVec.toNat_ushiftRight, Nat.shiftRight_eq_div_pow]
      simp
    rw [this]
  simp only [execOp, h x _ hx, h y _ hy, binOp_shr, eqGuard_at_int, e, Sem.run_bind, Sem.run_pure, Result.andThen_ok]
theorem bit_one (a : BitVec 64) (i : Nat) : decide (((((a >>> i) &&& 1#64).toNat : Nat) : Int) = 1) = a.getLsbD i := by
  have h1 : ((a >>> i) &&& 1#64) = if a.getLsbD i = true then 1#64 else 0#64 := by
    apply BitVec.eq_of_getLsbD_eq
    intro j hj
    rw [BitVec.getLsbD_and, BitVec.getLsbD_ushiftRight]
    by_cases hj0 : j = 0
    · subst hj0
      cases h : a.getLsbD i <;> simp [h]
    · have : (1#64).getLsbD j = false := by simp [BitVec.getLsbD_one, hj0]
      rw [this]
      cases h : a.getLsbD i <;> simp [BitVec.getLsbD_one, hj0]
  rw [h1]
  cases h : a.getLsbD i <;> simp
/-- copy of one element. -/
theorem e_copy1 {b c : Nat} {T U e : TypeId} {cs vs : List Value} {n : Nat} {ts : Array TypeId} (ht : ts[0]? = some t) (hx : ev l x = some (.slice (some ⟨b, 0, none⟩) 1 1)) (hy : ev l y = some (.slice (some ⟨c, 0, none⟩) 1 1)) (hu : P.underlying t = some (.slice e)) (hs : ∀ w, (sizeOf e).run P w = .ok n w) (hb : Blk w b T cs) (hc : Blk w c U vs) (hn : vs.length = n) (hl : cs.length = n) (h1 : ∀ v ∈ vs, v.oneCell' = true) :
    Ev P ⟨d, .call ⟨.builtin .copy, #[x, y], ts⟩, ty, pos, af, g⟩ l w (fun _ w' => Blk w' b T vs ∧ Fr [b] w w') := fun ρ h => by
  subst hn
  obtain ⟨w', hr, hb', hf⟩ := run_splice (P := P) vs h1 0 0 w cs hb (by omega)
  have hld := run_loadCells_list (P := P) (w := w) ⟨c, 0, none⟩ vs (fun j v hv => by rw [addr_add, Nat.zero_add]; exact hc.cell hv)
  have e1 : splice cs 0 vs = vs := by
    have := splice_eq vs [] cs [] hl
    simpa using this
  rw [Nat.add_zero, e1] at hb'
  refine ⟨goInt 1, w', ?_, hb', hf⟩
  · simp [execOp, resolve, invoke, h x _ hx, h y _ hy, builtin, Builtin.copy_, ht, run_underlying hu, hs, Builtin.lenOf, Builtin.firstCells, hld, hr]
end
end Go.Proofs.YtcbkpekbfkaeeaaDoor.Sx
