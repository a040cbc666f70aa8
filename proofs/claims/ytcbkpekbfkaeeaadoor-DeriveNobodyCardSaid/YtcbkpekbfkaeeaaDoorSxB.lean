/- What each operation of a walk yields, as plain lemmas. -/
import Derived.Test.YtcbkpekbfkaeeaaDoorSxA
import Derived.IntWalk
set_option linter.unusedVariables false
set_option linter.unusedSimpArgs false
namespace Go.Proofs.YtcbkpekbfkaeeaaDoor.Sx
open Go Go.RowKit
section
variable {P : Program} {l : Env} {w w' : World} {d : Option Tmp} {ty t : TypeId} {pos : String} {af : Array Edge} {g : Option (Nat × Bool)}
theorem x_move {x : Operand} {v : Value} (hx : ev l x = some v) : Ex P ⟨d, .move x, ty, pos, af, g⟩ l w v w := fun ρ h => by simp [execOp, h x v hx]
theorem x_asg {x : Operand} {v : Value} (hx : ev l x = some v) : Ex P ⟨d, .assign x, ty, pos, af, g⟩ l w v w := fun ρ h => by simp [execOp, h x v hx]
theorem x_pick1 {c x y : Operand} {v : Value} (hc : ev l c = some (.bool true)) (hx : ev l x = some v) : Ex P ⟨d, .pick c x y, ty, pos, af, g⟩ l w v w := fun ρ h => by simp [execOp, h c _ hc, h x v hx, asBool]
theorem x_pick0 {c x y : Operand} {v : Value} (hc : ev l c = some (.bool false)) (hx : ev l y = some v) : Ex P ⟨d, .pick c x y, ty, pos, af, g⟩ l w v w := fun ρ h => by simp [execOp, h c _ hc, h y v hx, asBool]
theorem x_pick {c x y : Operand} {b : Bool} {u v : Value} (hc : ev l c = some (.bool b)) (hx : ev l x = some u) (hy : ev l y = some v) : Ex P ⟨d, .pick c x y, ty, pos, af, g⟩ l w (if b then u else v) w := fun ρ h => by simp [execOp, h c _ hc, h x u hx, h y v hy, asBool]
theorem x_not {x : Operand} {b : Bool} (hx : ev l x = some (.bool b)) : Ex P ⟨d, .unOp .not t x, ty, pos, af, g⟩ l w (.bool (!b)) w := fun ρ h => by simp [execOp, h x _ hx, Op.unary]
theorem x_not1 {x : Operand} (hx : ev l x = some (.bool true)) : Ex P ⟨d, .unOp .not t x, ty, pos, af, g⟩ l w (.bool false) w := x_not hx
theorem x_not0 {x : Operand} (hx : ev l x = some (.bool false)) : Ex P ⟨d, .unOp .not t x, ty, pos, af, g⟩ l w (.bool true) w := x_not hx
theorem x_nil {x : Operand} {a : Addr} (hx : ev l x = some (.pointer (some a))) : Ex P ⟨d, .nilCheck x, ty, pos, af, g⟩ l w (.pointer (some a)) w := fun ρ h => by simp [execOp, h x _ hx]
theorem x_nilf {x : Operand} {f : FuncId} {p c : Array Value} (hx : ev l x = some (.func (.func f) p c)) : Ex P ⟨d, .nilCheck x, ty, pos, af, g⟩ l w (.func (.func f) p c) w := fun ρ h => by simp [execOp, h x _ hx]
section
variable {x y : Operand} {k : IntKind} {a b : Int} {ty2 : TypeId}
theorem x_lss (hx : ev l x = some (.int k a)) (hy : ev l y = some (.int k b)) : Ex P ⟨d, .binOp .lss t x y ty2, ty, pos, af, g⟩ l w (.bool (decide (a < b))) w := fun ρ h => by simp [execOp, h x _ hx, h y _ hy, binOp_lss, eqGuard]
theorem x_leq (hx : ev l x = some (.int k a)) (hy : ev l y = some (.int k b)) : Ex P ⟨d, .binOp .leq t x y ty2, ty, pos, af, g⟩ l w (.bool (decide (a ≤ b))) w := fun ρ h => by simp [execOp, h x _ hx, h y _ hy, binOp_leq, eqGuard]
theorem x_gtr (hx : ev l x = some (.int k a)) (hy : ev l y = some (.int k b)) : Ex P ⟨d, .binOp .gtr t x y ty2, ty, pos, af, g⟩ l w (.bool (decide (b < a))) w := fun ρ h => by simp [execOp, h x _ hx, h y _ hy, binOp_gtr, eqGuard]
theorem x_geq (hx : ev l x = some (.int k a)) (hy : ev l y = some (.int k b)) : Ex P ⟨d, .binOp .geq t x y ty2, ty, pos, af, g⟩ l w (.bool (decide (b ≤ a))) w := fun ρ h => by simp [execOp, h x _ hx, h y _ hy, binOp_geq, eqGuard]
theorem x_eql (hx : ev l x = some (.int k a)) (hy : ev l y = some (.int k b)) : Ex P ⟨d, .binOp .eql t x y ty2, ty, pos, af, g⟩ l w (.bool (decide (a = b))) w := fun ρ h => by
  simp [execOp, h x _ hx, h y _ hy, binOp_eql, eqGuard_at_int]
  rw [Bool.eq_iff_iff]; simp
theorem x_neq (hx : ev l x = some (.int k a)) (hy : ev l y = some (.int k b)) : Ex P ⟨d, .binOp .neq t x y ty2, ty, pos, af, g⟩ l w (.bool (decide (¬ a = b))) w := fun ρ h => by
  simp [execOp, h x _ hx, h y _ hy, binOp_neq, eqGuard_at_int]
  rw [Bool.eq_iff_iff]; simp
theorem x_add (hx : ev l x = some (.int .i64 a)) (hy : ev l y = some (.int .i64 b)) (hb : -9223372036854775808 ≤ a + b ∧ a + b ≤ 9223372036854775807) : Ex P ⟨d, .binOp .add t x y ty2, ty, pos, af, g⟩ l w (.int .i64 (a + b)) w := fun ρ h => by
  have e : IntKind.i64.wrap (a + b) = a + b := by rw [IntKind.wrap_i64]; omega
  simp [execOp, h x _ hx, h y _ hy, binOp_add, eqGuard_at_int, Op.intArith, e]
theorem x_sub (hx : ev l x = some (.int .i64 a)) (hy : ev l y = some (.int .i64 b)) (hb : -9223372036854775808 ≤ a - b ∧ a - b ≤ 9223372036854775807) : Ex P ⟨d, .binOp .sub t x y ty2, ty, pos, af, g⟩ l w (.int .i64 (a - b)) w := fun ρ h => by
  have e : IntKind.i64.wrap (a - b) = a - b := by rw [IntKind.wrap_i64]; omega
  simp [execOp, h x _ hx, h y _ hy, binOp_sub, eqGuard_at_int, Op.intArith, e]
theorem x_mul (hx : ev l x = some (.int .i64 a)) (hy : ev l y = some (.int .i64 b)) (hb : -9223372036854775808 ≤ a * b ∧ a * b ≤ 9223372036854775807) : Ex P ⟨d, .binOp .mul t x y ty2, ty, pos, af, g⟩ l w (.int .i64 (a * b)) w := fun ρ h => by
  have e : IntKind.i64.wrap (a * b) = a * b := by rw [IntKind.wrap_i64]; omega
  simp [execOp, h x _ hx, h y _ hy, binOp_mul, eqGuard_at_int, Op.intArith, e]
theorem x_addw (hx : ev l x = some (.int k a)) (hy : ev l y = some (.int k b)) : Ex P ⟨d, .binOp .add t x y ty2, ty, pos, af, g⟩ l w (.int k (k.wrap (a + b))) w := fun ρ h => by simp [execOp, h x _ hx, h y _ hy, binOp_add, eqGuard_at_int, Op.intArith]
theorem x_subw (hx : ev l x = some (.int k a)) (hy : ev l y = some (.int k b)) : Ex P ⟨d, .binOp .sub t x y ty2, ty, pos, af, g⟩ l w (.int k (k.wrap (a - b))) w := fun ρ h => by simp [execOp, h x _ hx, h y _ hy, binOp_sub, eqGuard_at_int, Op.intArith]
theorem x_eqlb {p q : Bool} (hx : ev l x = some (.bool p)) (hy : ev l y = some (.bool q)) (ht : P.underlying t = some .bool) : Ex P ⟨d, .binOp .eql t x y ty2, ty, pos, af, g⟩ l w (.bool (p == q)) w := fun ρ h => by
  simp [execOp, h x _ hx, h y _ hy, eqGuard_at_bool, run_eql_bool w t p q ht]
theorem x_neqb {p q : Bool} (hx : ev l x = some (.bool p)) (hy : ev l y = some (.bool q)) (ht : P.underlying t = some .bool) : Ex P ⟨d, .binOp .neq t x y ty2, ty, pos, af, g⟩ l w (.bool (p != q)) w := fun ρ h => by
  simp only [execOp, h x _ hx, h y _ hy, eqGuard_at_bool, run_neq_bool w t p q ht, Sem.run_bind, Sem.run_pure, Result.andThen_ok]
  cases p <;> cases q <;> rfl
theorem x_eqlp {p : Option Addr} (hx : ev l x = some (.pointer p)) (hy : ev l y = some (.pointer none)) (ht : P.underlying t = some (.pointer (P.pointee t))) : Ex P ⟨d, .binOp .eql t x y ty2, ty, pos, af, g⟩ l w (.bool p.isNone) w := fun ρ h => by
  simp [execOp, h x _ hx, h y _ hy, eqGuard_at_pointer, run_eql_pointer_nil w t p ht]
theorem x_neqp {p : Option Addr} (hx : ev l x = some (.pointer p)) (hy : ev l y = some (.pointer none)) (ht : P.underlying t = some (.pointer (P.pointee t))) : Ex P ⟨d, .binOp .neq t x y ty2, ty, pos, af, g⟩ l w (.bool p.isSome) w := fun ρ h => by
  simp [execOp, h x _ hx, h y _ hy, eqGuard_at_pointer, run_neq_pointer_nil w t p ht]
end
/-- A Bool that a fact decides. -/
theorem Ex.b1 {o : Oper} {p : Prop} [Decidable p] (h : Ex P o l w (.bool (decide p)) w') (hp : p) : Ex P o l w (.bool true) w' := by rwa [decide_eq_true hp] at h
theorem Ex.b0 {o : Oper} {p : Prop} [Decidable p] (h : Ex P o l w (.bool (decide p)) w') (hp : ¬ p) : Ex P o l w (.bool false) w' := by rwa [decide_eq_false hp] at h
theorem Ex.of {o : Oper} {v v' : Value} (h : Ex P o l w v w') (e : v = v') : Ex P o l w v' w' := e ▸ h

/-- '==' and '!=' of structs, by a law of the type's own. -/
theorem x_eqs {x y : Operand} {ty2 : TypeId} {op : BinOp} {cs ds : Array Value} {v : Value} (hx : ev l x = some (.agg cs)) (hy : ev l y = some (.agg ds)) (hg : (eqGuard op t x y (.agg cs) (.agg ds)).run P w = .ok () w) (hb : (binOp op t (.agg cs) (.agg ds)).run P w = .ok v w) : Ex P ⟨d, .binOp op t x y ty2, ty, pos, af, g⟩ l w v w := fun ρ h => by
  simp only [execOp, h x _ hx, h y _ hy, hg, hb, Sem.run_bind, Sem.run_pure, Result.andThen_ok]
/-! ### memory -/
theorem addr_add (b o n : Nat) : (⟨b, o, none⟩ : Addr).add n = ⟨b, o + n, none⟩ := by unfold Addr.add; split <;> simp_all
theorem x_fa {x : Operand} {i b o s : Nat} {fs : Array Field} {F : Field} (hx : ev l x = some (.pointer (some ⟨b, o, none⟩))) (hu : P.underlying t = some (.struct fs)) (hf : fs[i]? = some F) (hs : ∀ w, (sizeOf F.type).run P w = .ok (s + 1) w) (off : Nat) (ho : F.offset = off) :
    Ex P ⟨d, .fieldAddr t x i, ty, pos, af, g⟩ l w (.pointer (some ⟨b, o + off, none⟩)) w := fun ρ h => by
  subst ho
  simp [execOp, h x _ hx, Instr.fieldAt, run_underlying hu, hf, Instr.sureAddr, fieldPlace, hs, addr_add]
theorem x_ia {x i : Operand} {b o len cap sz : Nat} {k : IntKind} {j : Int} {e : TypeId} (hx : ev l x = some (.slice (some ⟨b, o, none⟩) len cap)) (hi : ev l i = some (.int k j)) (hu : P.underlying t = some (.slice e)) (hs : ∀ w, (sizeOf e).run P w = .ok sz w) (hj : 0 ≤ j ∧ j < len) :
    Ex P ⟨d, .indexAddr t x i, ty, pos, af, g⟩ l w (.pointer (some ⟨b, o + j.toNat * sz, none⟩)) w := fun ρ h => by
  simp [execOp, h x _ hx, h i _ hi, Instr.indexAt, asIntOf, run_underlying hu, hs, addr_add, hj]
theorem x_ia0 {x i : Operand} {b len cap sz : Nat} {k : IntKind} {j : Int} {e : TypeId} (hx : ev l x = some (.slice (some ⟨b, 0, none⟩) len cap)) (hi : ev l i = some (.int k j)) (hu : P.underlying t = some (.slice e)) (hs : ∀ w, (sizeOf e).run P w = .ok sz w) (hj : 0 ≤ j ∧ j < len) :
    Ex P ⟨d, .indexAddr t x i, ty, pos, af, g⟩ l w (.pointer (some ⟨b, j.toNat * sz, none⟩)) w := by
  have := x_ia (w := w) (d := d) (ty := ty) (pos := pos) (af := af) (g := g) hx hi hu hs hj
  rwa [Nat.zero_add] at this
/-- An element of an array that lies in memory. -/
theorem x_iaa {x i : Operand} {b o len sz : Nat} {k : IntKind} {j : Int} {e : TypeId} (hx : ev l x = some (.pointer (some ⟨b, o, none⟩))) (hi : ev l i = some (.int k j)) (hu : P.underlying t = some (.array len e)) (hs : ∀ w, (sizeOf e).run P w = .ok sz w) (hj : 0 ≤ j ∧ j < len) :
    Ex P ⟨d, .indexAddr t x i, ty, pos, af, g⟩ l w (.pointer (some ⟨b, o + j.toNat * sz, none⟩)) w := fun ρ h => by
  simp [execOp, h x _ hx, h i _ hi, Instr.indexAt, Instr.sureAddr, asIntOf, run_underlying hu, hs, addr_add, hj]
theorem x_ld {x : Operand} {ad : Addr} {v : Value} (hx : ev l x = some (.pointer (some ad))) (ha : ∀ w, (isAgg t).run P w = .ok false w) (hc : w.cell? ad = some v) : Ex P ⟨d, .load t x, ty, pos, af, g⟩ l w v w := fun ρ h => by
  simp [execOp, h x _ hx, Instr.loadAt, Instr.sureAddr, loadVar, ha, hc]
theorem x_ldn {x : Operand} {b o n : Nat} {cs : List Value} (hx : ev l x = some (.pointer (some ⟨b, o, none⟩))) (ha : ∀ w, (isAgg t).run P w = .ok true w) (hs : ∀ w, (sizeOf t).run P w = .ok n w) (hl : cs.length = n) (hc : ∀ j v, cs[j]? = some v → w.cell? ⟨b, o + j, none⟩ = some v) :
    Ex P ⟨d, .load t x, ty, pos, af, g⟩ l w (.agg cs.toArray) w := fun ρ h => by
  subst hl
  have hr := run_loadCells_list (P := P) (w := w) ⟨b, o, none⟩ cs (fun j v hv => by rw [addr_add]; exact hc j v hv)
  simp [execOp, h x _ hx, Instr.loadAt, Instr.sureAddr, loadVar, ha, hs, hr]
theorem x_len {x : Operand} {a : Option Addr} {n c : Nat} (hx : ev l x = some (.slice a n c)) (hu : P.underlying t = some (.slice (P.elem t))) : Ex P ⟨d, .call ⟨.builtin .len, #[x], #[t]⟩, ty, pos, af, g⟩ l w (.int .i64 n) w := fun ρ h => by
  simp [execOp, resolve, invoke, builtin, h x _ hx, run_len_slice w t ty a n c hu, goInt]
theorem x_box {x : Operand} {v : Value} {cs : List Value} (hx : ev l x = some v) (hc : v.cells = cs.toArray) : Ex P ⟨d, .box t x, ty, pos, af, g⟩ l w (.pointer (some ⟨w.heap.size, 0, none⟩)) (w.alloc (.cells cs.toArray t)) := fun ρ h => by
  simp only [execOp, h x _ hx, Instr.box, newVar, newRow, hc, Sem.run_bind, Sem.run_pure, run_newObj, Result.andThen_ok]; rfl
theorem x_alloc {z : Value} {cs : List Value} (hz : ∀ w, (zeroValue t).run P w = .ok z w) (hc : z.cells = cs.toArray) : Ex P ⟨d, .alloc t, ty, pos, af, g⟩ l w (.pointer (some ⟨w.heap.size, 0, none⟩)) (w.alloc (.cells cs.toArray t)) := fun ρ h => by
  simp only [execOp, Instr.alloc, hz, newVar, newRow, hc, Sem.run_bind, Sem.run_pure, run_newObj, Result.andThen_ok]; rfl
theorem x_build {ps : Array (Nat × Operand)} {vs : List (Nat × Value)} {v : Value} (hp : evp l ps.toList = some vs) (hb : (Instr.build t vs.toArray).run P w = .ok v w) : Ex P ⟨d, .build t ps, ty, pos, af, g⟩ l w v w := fun ρ h => by
  have e : (ps.map fun (i, x) => (i, ρ x)) = vs.toArray := by
    rw [← evp_fits h hp]; apply Array.ext'; simp
  simp [execOp, e, hb]
theorem x_bsl {ps : Array (Nat × Operand)} {vs : List (Nat × Value)} {v : Value} {n : Nat} (hp : evp l ps.toList = some vs) (hb : (Instr.buildSlice t n vs.toArray).run P w = .ok v w') : Ex P ⟨d, .buildSlice t n ps, ty, pos, af, g⟩ l w v w' := fun ρ h => by
  have e : (ps.map fun (i, x) => (i, ρ x)) = vs.toArray := by
    rw [← evp_fits h hp]; apply Array.ext'; simp
  simp [execOp, e, hb]
theorem x_mkf {fn : Fn} {xs ys : Array Operand} {as bs : List Value} (hx : evl l xs.toList = some as) (hy : evl l ys.toList = some bs) : Ex P ⟨d, .makeFunc fn xs ys, ty, pos, af, g⟩ l w (.func fn as.toArray bs.toArray) w := fun ρ h => by
  have e1 : xs.map ρ = as.toArray := by rw [← evl_fits h hx]; apply Array.ext'; simp
  have e2 : ys.map ρ = bs.toArray := by rw [← evl_fits h hy]; apply Array.ext'; simp
  simp [execOp, Instr.makeFunc, e1, e2]
theorem x_ext {x : Operand} {i : Nat} {vs : Array Value} {v : Value} (hx : ev l x = some (.tuple vs)) (hv : vs[i]? = some v) : Ex P ⟨d, .extract x i, ty, pos, af, g⟩ l w v w := fun ρ h => by
  simp [execOp, h x _ hx, Instr.extract, hv]
theorem x_fld {x : Operand} {i : Nat} {fs : Array Field} {F : Field} {cs : Array Value} {v : Value} (hx : ev l x = some (.agg cs)) (hu : P.underlying t = some (.struct fs)) (hf : fs[i]? = some F) (ha : ∀ w, (isAgg F.type).run P w = .ok false w) (hv : cs[F.offset]? = some v) :
    Ex P ⟨d, .field t x i, ty, pos, af, g⟩ l w v w := fun ρ h => by
  simp [execOp, h x _ hx, Instr.field, run_underlying hu, hf, asAgg, part, ha, hv]
theorem x_cvi {x : Operand} {k k' : IntKind} {a : Int} {s t : TypeId} {ud : TypeDesc} (hx : ev l x = some (.int k a)) (hs : P.underlying s = some ud) (hu : P.underlying t = some (.int k')) : Ex P ⟨d, .convert s t x, ty, pos, af, g⟩ l w (.int k' (k'.wrap a)) w := fun ρ h => by
  simp [execOp, h x _ hx, convert, run_underlying hs, run_underlying hu, Conv.intToInt]
/-! stores -/
theorem s_1 {x y : Operand} {b o : Nat} {v : Value} {T : TypeId} {cs : List Value} (hx : ev l x = some (.pointer (some ⟨b, o, none⟩))) (hy : ev l y = some v) (h1 : v.cells = #[v]) (hv : v.oneCell' = true) (hs : ∀ w, (sizeOf t).run P w = .ok 1 w) (hb : Blk w b T cs) (ho : o < cs.length) :
    Es P ⟨none, .store t x y, ty, pos, af, g⟩ l w (w.setCell ⟨b, o, none⟩ v) := fun ρ h => by
  have hc : (w.cell? ⟨b, o, none⟩) = some (cs[o]'ho) := hb.cell (by simp [ho])
  have hst := run_store P w ⟨b, o, none⟩ v .plain hv
  simp [execOp, h x _ hx, h y _ hy, Instr.storeAt, Instr.sureAddr, storeVar, hs, h1, storeCells, addr_add, hst, stored, hc, hb.unfrozen]
/-! calls -/
theorem c_fn {f : FuncId} {xs : Array Operand} {ts : Array TypeId} {vs : List Value} {R : Value → World → Prop} (hx : evl l xs.toList = some vs) (hf : ∀ a w, (callFunc f a).run P w = .ok (.enter f a) w) (hc : Cl P f vs w R) :
    Cx P ⟨d, .call ⟨.value (.func f), xs, ts⟩, ty, pos, af, g⟩ l w R := fun ρ h => by
  have e1 : xs.map ρ = vs.toArray := by rw [← evl_fits h hx]; apply Array.ext'; simp
  have e0 : ρ (.func f) = .func (.func f) #[] #[] := h (.func f) _ rfl
  exact ⟨f, vs.toArray, by simp [execOp, resolve, invoke, Deferred.ofValue, e0, e1, hf], hc⟩
/-- A call of a function value. -/
theorem c_fv {q : Operand} {f : FuncId} {xs : Array Operand} {ts : Array TypeId} {vs ps cs : List Value} {R : Value → World → Prop} (hq : ev l q = some (.func (.func f) ps.toArray cs.toArray)) (hx : evl l xs.toList = some vs) (hf : ∀ a w, (callFunc f a).run P w = .ok (.enter f a) w) (hc : Cl P f (ps ++ vs ++ cs) w R) :
    Cx P ⟨d, .call ⟨.value q, xs, ts⟩, ty, pos, af, g⟩ l w R := fun ρ h => by
  have e1 : xs.map ρ = vs.toArray := by rw [← evl_fits h hx]; apply Array.ext'; simp
  have e0 : ρ q = .func (.func f) ps.toArray cs.toArray := h q _ hq
  exact ⟨f, (ps ++ vs ++ cs).toArray, by simp [execOp, resolve, invoke, Deferred.ofValue, e0, e1, hf], hc⟩
/-! what makes memory or a slice, told by what it leaves -/
def Ev (P : Program) (o : Oper) (l : Env) (w : World) (R : Value → World → Prop) : Prop := ∀ ρ, Fits l ρ → ∃ v w', (execOp ρ o).run P w = .ok (.value v) w' ∧ R v w'
theorem Ex.ev {o : Oper} {v : Value} (h : Ex P o l w v w') : Ev P o l w (fun v' w'' => v' = v ∧ w'' = w') := fun ρ hf => ⟨v, w', h ρ hf, rfl, rfl⟩
/-- A new block: what is left of the world is this. -/
theorem e_new {o : Oper} {v : Value} {T : TypeId} {cs : List Value} (h : Ex P o l w v (w.alloc (.cells cs.toArray T))) :
    Ev P o l w (fun v' w' => v' = v ∧ Blk w' w.heap.size T cs ∧ Fr [] w w' ∧ w'.heap.size = w.heap.size + 1) := fun ρ hf => ⟨v, _, h ρ hf, rfl, Blk.alloc w T cs, Fr.alloc w _, by simp⟩
theorem Ev.mono {o : Oper} {R R' : Value → World → Prop} (h : Ev P o l w R) (k : ∀ v w', R v w' → R' v w') : Ev P o l w R' := fun ρ hf => let ⟨v, w', h1, h2⟩ := h ρ hf; ⟨v, w', h1, k v w' h2⟩
section
variable {C : Code} {n : Nat} {df : List Deferred} {N RR : Act → World → Prop} {E : Nat → Act → World → Prop}
theorem se {i d : Nat} {o : Oper} {R : Value → World → Prop} (ho : nth (opsL C) i = some o) (hw : Want C l o = some true) (hd : o.dst = some d) (hn : Nat.blt d n = true) (h : Ev P o l w R)
    (k : ∀ v w', R v w' → RL P C (i + 1) n df ((d, v) :: l) w' N RR E) : RL P C i n df l w N RR E := by
  intro a ha
  rw [drop_of_nth ho]
  unfold wpList
  rw [if_pos (want_spec ha hw)]
  refine .inl ?_
  obtain ⟨v, w', he, hr⟩ := h _ ha.fits
  unfold Oper.wp
  rw [he]
  simp only [Oper.upon, hd]
  exact k v w' hr _ (ha.put (by simpa using hn) v)
theorem oe {tl D : List Nat} {U : World → Prop} {f i d : Nat} {o : Oper} {R : Value → World → Prop} (ho : nth (opsL C) i = some o) (hw : Want C l o = some true) (hd : o.dst = some d) (hn : Nat.blt d n = true) (h : Ev P o l w R)
    (k : ∀ v w', R v w' → (noTail tl (mkL (opsL C).length (i :: D)) = false ∨ U w') ∧ DL P C tl U f (i :: D) n df ((d, v) :: l) w' N RR E) : OL P C tl U f D i n df l w N RR E := by
  intro a ha
  have ho' : (opsL C).toArray[i]? = some o := by rw [List.getElem?_toArray, ← nth_eq]; exact ho
  unfold wpOp
  simp only [ho']
  rw [if_pos (want_spec ha hw)]
  refine .inl ?_
  obtain ⟨v, w', he, hr⟩ := h _ ha.fits
  unfold Oper.wp
  rw [he]
  simp only [Oper.upon]
  obtain ⟨hT, k'⟩ := k v w' hr
  have hTT : TT tl U (mkL (opsL C).length (i :: D)) w' := fun hx => by rcases hT with h1 | h1; rw [h1] at hx; cases hx; exact h1
  rw [hd]
  exact ⟨hTT, k' hTT _ (ha.put (by simpa using hn) v)⟩
end
section
variable {C : Code} {n : Nat} {df : List Deferred} {N RR : Act → World → Prop} {E : Nat → Act → World → Prop}
/-- A test, both ways. -/
theorem sf {i d : Nat} {o : Oper} {p : Prop} [Decidable p] (ho : nth (opsL C) i = some o) (hw : Want C l o = some true) (hd : o.dst = some d) (hn : Nat.blt d n = true) (h : Ex P o l w (.bool (decide p)) w')
    (k1 : p → RL P C (i + 1) n df ((d, .bool true) :: l) w' N RR E) (k0 : ¬ p → RL P C (i + 1) n df ((d, .bool false) :: l) w' N RR E) : RL P C i n df l w N RR E := by
  by_cases hp : p
  · exact st ho hw hd hn (h.b1 hp) (k1 hp)
  · exact st ho hw hd hn (h.b0 hp) (k0 hp)
theorem dfk {tl D : List Nat} {U : World → Prop} {f i d : Nat} {o : Oper} {p : Prop} [Decidable p] (ho : nth (opsL C) i = some o) (hw : Want C l o = some true) (hd : o.dst = some d) (hn : Nat.blt d n = true)
    (hst : okTake C tl D i = true) (h : ∀ w', Ex P o l w' (.bool (decide p)) w') (k1 : p → DL P C tl U f (i :: D) n df ((d, .bool true) :: l) w N RR E) (k0 : ¬ p → DL P C tl U f (i :: D) n df ((d, .bool false) :: l) w N RR E) : DL P C tl U (f + 1) D n df l w N RR E := by
  by_cases hp : p
  · exact dt ho hw hd hn hst (fun w' => (h w').b1 hp) (k1 hp)
  · exact dt ho hw hd hn hst (fun w' => (h w').b0 hp) (k0 hp)
theorem upd_self {id : Nat} (h : AL n df l w N) : AL n df l w (upd E id N id) := by
  unfold upd
  rw [Nat.beq_refl id]
  exact h
theorem upd_ne {id i : Nat} {N' : Act → World → Prop} (hne : Nat.beq i id = false) (h : AL n df l w (E i)) : AL n df l w (upd E id N' i) := by
  unfold upd
  rw [hne]
  exact h
end
/-- A slice literal whose elements are single cells. -/
theorem bsl1 {e : TypeId} {z x : Value} (hu : P.underlying t = some (.slice e)) (hs : ∀ w, (sizeOf e).run P w = .ok 1 w) (hz : ∀ w, (zeroValue e).run P w = .ok z w) (hzc : z.cells = #[z]) (hx : x.cells = #[x]) :
    (Instr.buildSlice t 1 [(0, x)].toArray).run P w = .ok (.slice (some ⟨w.heap.size, 0, none⟩) 1 1) (w.alloc (.cells [x].toArray e)) := by
  unfold Instr.buildSlice
  simp only [Sem.run_bind, run_underlying hu, hs, hz, Result.andThen_ok, Sem.run_ite, Sem.run_pure, newRow, run_newObj, hzc]
  have hf : Instr.fill (fun i => some (i * 1, 1)) (Array.map (fun x => #[z][x % #[z].size]!) (Array.range (1 * 1))) [(0, x)] = some #[x] := by
    simp [Instr.fill, hx, Array.range]
    apply Array.ext'
    simp
  rw [if_neg (by decide), if_neg (by decide)]
  simp only [Sem.run_pure, Result.andThen_ok, hf]
  rfl
theorem bsl0 {e : TypeId} (hu : P.underlying t = some (.slice e)) {s : Nat} (hs : ∀ w, (sizeOf e).run P w = .ok s w) :
    (Instr.buildSlice t 0 [].toArray).run P w = .ok (.slice (some ⟨w.heap.size, 0, none⟩) 0 0) (w.alloc (.cells [].toArray e)) := by
  unfold Instr.buildSlice
  simp [run_underlying hu, hs, newRow, Instr.fill]
  refine congrArg (fun c => w.alloc (Obj.cells c e)) ?_
  apply Array.ext'
  simp
/-- make([]T, n). -/
theorem x_make {x y : Operand} {k : IntKind} {e : TypeId} {i : TypeInfo} {z : Value} {m : Nat} (hx : ev l x = some (.int .i64 m)) (hy : ev l y = some (.int .i64 m)) (hu : P.underlying t = some (.slice e)) (hi : P.info? e = some i) (hz : i.zero = some z) (hm : i.bytes * m ≤ 281474976710656) (hm2 : m ≤ 281474976710656) :
    Ex P ⟨d, .makeSlice t x y, ty, pos, af, g⟩ l w (.slice (some ⟨w.heap.size, 0, none⟩) m m) (w.alloc (.cells (madeCells z.cells (m * i.size)) e)) := fun ρ h => by
  have h2 : ((i.bytes * m : Nat) : Int) ≤ 281474976710656 := by omega
  rw [Int.natCast_mul] at h2
  have hr := run_make w t e i z hu hi hz .i64 .i64 m m (by omega) (by omega) h2 (by omega)
  simp only [Int.toNat_natCast] at hr
  simp only [execOp, h x _ hx, h y _ hy, hr, Sem.run_bind, Sem.run_pure, Result.andThen_ok]
end
end Go.Proofs.YtcbkpekbfkaeeaaDoor.Sx
