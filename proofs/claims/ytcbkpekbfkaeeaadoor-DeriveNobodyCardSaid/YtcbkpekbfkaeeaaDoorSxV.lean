/- A code does what its tree says: single operations, regions. -/
import Derived.Test.YtcbkpekbfkaeeaaDoorSxU
set_option linter.unusedVariables false
set_option linter.unusedSimpArgs false
namespace Go.Proofs.YtcbkpekbfkaeeaaDoor.Sx
open Go Go.RowKit
section
variable {P : Program} {Z : ZP} {R : Value → World → Prop} {l : Env} {w : World} {A : List Nat → List Value → World → Prop} {B : List Nat → Nat → List Value → World → Prop} {ds : List Nat}
section
variable {d : Option Tmp} {ty t : TypeId} {pos : String} {af : Array Edge} {g : Option (Nat × Bool)}
theorem x_fag2 {x : Operand} {i s : Nat} {a : Addr} {fs : Array Field} {F : Field} (hx : ev l x = some (.pointer (some a))) (hu : P.underlying t = some (.struct fs)) (hf : fs[i]? = some F) (hs : ∀ w, (sizeOf F.type).run P w = .ok (s + 1) w) :
    Ex P ⟨d, .fieldAddr t x i, ty, pos, af, g⟩ l w (.pointer (some (a.add F.offset))) w := fun ρ h => by
  simp [execOp, h x _ hx, Instr.fieldAt, run_underlying hu, hf, Instr.sureAddr, fieldPlace, hs]
theorem x_iaag {x i : Operand} {a : Addr} {len sz : Nat} {k : IntKind} {j : Int} {e : TypeId} (hx : ev l x = some (.pointer (some a))) (hi : ev l i = some (.int k j)) (hu : P.underlying t = some (.array len e)) (hs : ∀ w, (sizeOf e).run P w = .ok sz w) (hj : 0 ≤ j ∧ j < len) :
    Ex P ⟨d, .indexAddr t x i, ty, pos, af, g⟩ l w (.pointer (some (a.add (j.toNat * sz)))) w := fun ρ h => by
  simp [execOp, h x _ hx, h i _ hi, Instr.indexAt, Instr.sureAddr, asIntOf, run_underlying hu, hs, hj]
theorem x_nily {x : Operand} {v : Value} {n : Nat} {p c : Array Value} (hx : ev l x = some (.func (.yield n) p c)) : Ex P ⟨d, .nilCheck x, ty, pos, af, g⟩ l w (.func (.yield n) p c) w := fun ρ h => by simp [execOp, h x _ hx]
theorem x_fldn {x : Operand} {i n : Nat} {fs : Array Field} {F : Field} {cs : Array Value} (hx : ev l x = some (.agg cs)) (hu : P.underlying t = some (.struct fs)) (hf : fs[i]? = some F) (ha : ∀ w, (isAgg F.type).run P w = .ok true w) (hs : ∀ w, (sizeOf F.type).run P w = .ok n w) :
    Ex P ⟨d, .field t x i, ty, pos, af, g⟩ l w (.agg (cs.extract F.offset (F.offset + n))) w := fun ρ h => by
  simp [execOp, h x _ hx, Instr.field, run_underlying hu, hf, asAgg, part, ha, hs]
theorem x_mki {x : Operand} {v : Value} {ud : TypeDesc} (hx : ev l x = some v) (hu : P.underlying t = some ud) (hn : ∀ m, ud ≠ .interface m) : Ex P ⟨d, .makeInterface t x, ty, pos, af, g⟩ l w (.iface t v) w := fun ρ h => by
  have e : (Instr.makeInterface t v).run P w = .ok (.iface t v) w := by
    unfold Instr.makeInterface
    simp only [Sem.run_bind, run_underlying hu, Result.andThen_ok]
    cases ud <;> first | rfl | exact absurd rfl (hn _)
  simp only [execOp, h x _ hx, Sem.run_bind, e, Result.andThen_ok, Sem.run_pure]
theorem x_len1 {x : Operand} {v u : Value} (hx : ev l x = some v) (h : (Builtin.len_ #[t] ty #[v]).run P w = .ok u w) : Ex P ⟨d, .call ⟨.builtin .len, #[x], #[t]⟩, ty, pos, af, g⟩ l w u w := fun ρ hf => by
  simp [execOp, resolve, invoke, builtin, hf x _ hx, h]
end
/-- What a light operation yields. -/
theorem lop_ok {ty : Nat} {op : Op} {k : Value → T} {t : T} (h : lop P l ty op k = some t) (hw : wp P Z R ds t w A B) : ∃ v, Lv P l ty op v ∧ wp P Z R ds (k v) w A B := by
  have pu : ∀ {s : Sem Value} {op : Op}, (∀ d pos af g ρ, Fits l ρ → execOp ρ ⟨d, op, ty, pos, af, g⟩ = (do pure (.value (← s)))) → wp P Z R ds (.pu s k) w A B → ∃ v, Lv P l ty op v ∧ wp P Z R ds (k v) w A B := by
    rintro s op hs ⟨v, h1, h2⟩
    exact ⟨v, .of fun d pos af g w' => x_v1 (fun ρ hf => hs d pos af g ρ hf) (h1 w'), h2⟩
  cases op with
  | move x => injection h with h; subst h; obtain ⟨v, hv, h⟩ := vT_ok hw; exact ⟨v, .of fun d pos af g w' => x_move hv, h⟩
  | assign x => injection h with h; subst h; obtain ⟨v, hv, h⟩ := vT_ok hw; exact ⟨v, .of fun d pos af g w' => x_asg hv, h⟩
  | pick c x y =>
    injection h with h; subst h
    obtain ⟨vc, hc, h⟩ := vT_ok hw
    obtain ⟨va, ha, h⟩ := vT_ok h
    obtain ⟨vb, hb, h⟩ := vT_ok h
    unfold pickT at h
    split at h
    · rcases iteT_ok h with ⟨rfl, h⟩ | ⟨rfl, h⟩
      · exact ⟨_, .of fun d pos af g w' => x_pick1 hc ha, h⟩
      · exact ⟨_, .of fun d pos af g w' => x_pick0 hc hb, h⟩
    · exact h.elim
  | nilCheck x =>
    injection h with h; subst h
    obtain ⟨v, hv, h⟩ := vT_ok hw
    unfold nilT at h
    split at h
    · exact ⟨_, .of fun d pos af g w' => x_nil hv, h⟩
    · exact ⟨_, .of fun d pos af g w' => x_nilf hv, h⟩
    · exact ⟨_, .of fun d pos af g w' => x_nily (v := undef) hv, h⟩
    · exact h.elim
  | fieldAddr t x i =>
    simp only [lop] at h
    split at h
    · rename_i F hF
      split at h
      · rename_i s hs
        injection h with h; subst h
        obtain ⟨v, hv, h⟩ := vT_ok hw
        obtain ⟨a, rfl, h2⟩ := ld_faT h
        obtain ⟨fs, hu, hf⟩ := fieldOf_some hF
        exact ⟨_, .of fun d pos af g w' => x_fag2 hv hu hf (pr_run hs), h2⟩
      · cases h
    · cases h
  | indexAddr t x i =>
    simp only [lop] at h
    split at h
    · rename_i e hu
      split at h
      · rename_i sz hs
        injection h with h; subst h
        obtain ⟨v, hv, h⟩ := vT_ok hw
        obtain ⟨j, hj, h⟩ := vT_ok h
        obtain ⟨a, len, cap, kd, j, rfl, rfl, hb, h⟩ := ld_ixT h
        exact ⟨_, .of fun d pos af g w' => x_iag hv hj hu (pr_run hs) hb, h⟩
      · cases h
    · rename_i n e hu
      split at h
      · rename_i sz hs
        injection h with h; subst h
        obtain ⟨v, hv, h⟩ := vT_ok hw
        obtain ⟨j, hj, h⟩ := vT_ok h
        obtain ⟨a, kd, j, rfl, rfl, hb, h⟩ := ld_ixaT h
        exact ⟨_, .of fun d pos af g w' => x_iaag hv hj hu (pr_run hs) hb, h⟩
      · cases h
    · cases h
  | field t x i =>
    simp only [lop] at h
    split at h
    · rename_i F hF
      obtain ⟨fs, hu, hf⟩ := fieldOf_some hF
      split at h
      · rename_i hg
        injection h with h; subst h
        obtain ⟨v, hv, h⟩ := vT_ok hw
        unfold fdT at h
        split at h
        · obtain ⟨c, hc, h⟩ := ld_opT h
          exact ⟨_, .of fun d pos af g w' => x_fld hv hu hf (pr_run hg) hc, h⟩
        · exact h.elim
      · rename_i n hg hs
        injection h with h; subst h
        obtain ⟨v, hv, h⟩ := vT_ok hw
        unfold fdnT at h
        split at h
        · exact ⟨_, .of fun d pos af g w' => x_fldn hv hu hf (pr_run hg) (pr_run hs), h⟩
        · exact h.elim
      · cases h
    · cases h
  | extract x i =>
    injection h with h; subst h
    obtain ⟨v, hv, h⟩ := vT_ok hw
    unfold exT at h
    split at h
    · obtain ⟨c, hc, h⟩ := ld_opT h
      exact ⟨_, .of fun d pos af g w' => x_ext hv hc, h⟩
    · exact h.elim
  | unOp o t x =>
    cases o with
    | not =>
      injection h with h; subst h
      obtain ⟨v, hv, h⟩ := vT_ok hw
      unfold notT at h
      split at h
      · exact ⟨_, .of fun d pos af g w' => x_not hv, h⟩
      · exact h.elim
    | _ =>
      injection h with h; subst h
      obtain ⟨v, hv, h⟩ := vT_ok hw
      exact pu (fun d pos af g ρ hf => by simp only [execOp, hf x _ hv]) h
  | binOp o t x y t2 => injection h with h; subst h; exact binT_ok hw
  | convert s t x =>
    simp only [lop] at h
    split at h
    · rename_i k1 kd hs ht
      injection h with h; subst h
      obtain ⟨v, hv, h⟩ := vT_ok hw
      unfold cvT at h
      split at h
      · obtain ⟨z, rfl, h⟩ := h
        exact ⟨_, .of fun d pos af g w' => x_cvi hv hs ht, h⟩
      · exact h.elim
    · cases h
  | makeFunc fn fs cs =>
    injection h with h; subst h
    obtain ⟨as, ha, h⟩ := vsT_ok hw
    obtain ⟨bs, hb, h⟩ := vsT_ok h
    exact ⟨_, .of fun d pos af g w' => x_mkf ha hb, h⟩
  | makeInterface t x =>
    simp only [lop] at h
    split at h
    · cases h
    · rename_i ud hn hu
      injection h with h; subst h
      obtain ⟨v, hv, h⟩ := vT_ok hw
      exact ⟨_, .of fun d pos af g w' => x_mki hv hu (fun m e => hn m e), h⟩
    · cases h
  | slice t x lo hi mx =>
    injection h with h; subst h
    obtain ⟨v, hv, h⟩ := vT_ok hw
    obtain ⟨a, ha, h⟩ := voT_ok h
    obtain ⟨b, hb, h⟩ := voT_ok h
    obtain ⟨c, hc, h⟩ := voT_ok h
    exact pu (fun d pos af g ρ hf => by simp only [execOp, hf x _ hv, ha ρ hf, hb ρ hf, hc ρ hf]) h
  | index t x i =>
    injection h with h; subst h
    obtain ⟨v, hv, h⟩ := vT_ok hw
    obtain ⟨j, hj, h⟩ := vT_ok h
    exact pu (fun d pos af g ρ hf => by simp only [execOp, hf x _ hv, hf i _ hj]) h
  | typeAssert x t u ok =>
    injection h with h; subst h
    obtain ⟨v, hv, h⟩ := vT_ok hw
    exact pu (fun d pos af g ρ hf => by simp only [execOp, hf x _ hv]) h
  | build t ps =>
    have e : ∀ {vs : List (Nat × Value)} {ρ : Operand → Value}, evp l ps.toList = some vs → Fits l ρ → (ps.map fun (i, x) => (i, ρ x)) = vs.toArray := by
      intro vs ρ hv hf
      rw [← evp_fits hf hv]; apply Array.ext'; simp
    have gen : wp P Z R ds (psT l ps.toList fun vs => .pu (Instr.build t vs.toArray) k) w A B → ∃ v, Lv P l ty (.build t ps) v ∧ wp P Z R ds (k v) w A B := by
      intro h
      obtain ⟨vs, hv, h⟩ := psT_ok h
      exact pu (fun d pos af g ρ hf => by simp only [execOp, e hv hf]) h
    simp only [lop] at h
    split at h
    · rename_i pl zs hp hz
      injection h with h; subst h
      obtain ⟨vs, hv, h⟩ := psT_ok hw
      split at h
      · rename_i q hq
        obtain ⟨h1, h2⟩ := offs_ok hq
        obtain ⟨cs, h3, h4⟩ := fill_one (place := (pl[·]?)) q vs zs.toList (fun cs => k (.agg cs.toArray)) h h1 h2
        exact ⟨_, .of fun d pos af g w' => x_build hv (run_buildS hp hz (by simpa using h3)), h4⟩
      · exact pu (fun d pos af g ρ hf => by simp only [execOp, e hv hf]) h
    · injection h with h; subst h
      exact gen hw
  | call c =>
    obtain ⟨cal, xs, ts⟩ := c
    cases cal with
    | value f => cases h
    | invoke r m => cases h
    | builtin b =>
      cases b <;> try cases h
      simp only [lop] at h
      split at h
      · rename_i x t hxs hts
        obtain rfl : xs = #[x] := by apply Array.ext'; simpa using hxs
        obtain rfl : ts = #[t] := by apply Array.ext'; simpa using hts
        split at h
        · rename_i e hu
          split at h
          · rename_i he
            injection h with h; subst h
            have he := of_decide_eq_true he
            obtain ⟨v, hv, h⟩ := vT_ok hw
            unfold lnT at h
            split at h
            · exact ⟨_, .of fun d pos af g w' => x_len hv (by rw [he]; exact hu), h⟩
            · exact h.elim
          · cases h
        · injection h with h; subst h
          obtain ⟨v, hv, u, h1, h2⟩ := vT_ok hw
          exact ⟨u, .of fun d pos af g w' => x_len1 hv (h1 w'), h2⟩
        · cases h
      · cases h
  | _ => cases h
/-! ### one operation, carried out -/
section
variable {r : Option Nat} {n : Nat} {df : List Deferred} {o : Oper} {a : Act} {K : Act → World → Prop} {Q : Exit → Act → World → Prop} {w' : World}
theorem nodef_of (h : noDef o = true) : nodef o = true := by
  unfold noDef at h
  unfold nodef
  split at h <;> first | cases h | skip
  rename_i h1 h2
  split
  · rename_i c hc; exact absurd hc (h1 c)
  · rfl
theorem in_run {x : Next} (hnd : noDef o = true) (h : (execOp a.eval o).run P w = .ok x w') (hk : o.uponIn (FR r) 0 P a K Q (.ok x w')) : o.wpIn (FR r) 0 P a w K Q := by
  refine ⟨fun _ _ => trivial, ?_⟩
  rw [semAt_of _ _ (nodef_of hnd), h]
  exact hk
theorem in_val {d : Nat} {op : Op} {ty : Nat} {pos : String} {af : Array Edge} {g : Option (Nat × Bool)} {v : Value} (hnd : noDef ⟨some d, op, ty, pos, af, g⟩ = true) (h : (execOp a.eval ⟨some d, op, ty, pos, af, g⟩).run P w = .ok (.value v) w') (hk : K (a.put (some d) v) w') : Oper.wpIn (FR r) 0 P ⟨some d, op, ty, pos, af, g⟩ a w K Q := in_run hnd h hk
theorem in_skip {op : Op} {ty : Nat} {pos : String} {af : Array Edge} {g : Option (Nat × Bool)} (hnd : noDef ⟨none, op, ty, pos, af, g⟩ = true) (h : (execOp a.eval ⟨none, op, ty, pos, af, g⟩).run P w = .ok .skip w') (hk : K a w') : Oper.wpIn (FR r) 0 P ⟨none, op, ty, pos, af, g⟩ a w K Q := in_run hnd h hk
theorem in_call {f : Nat} {args : Array Value} {RR : Value → World → Prop} (hnd : noDef o = true) (h : (execOp a.eval o).run P w = .ok (.enter f args) w') (hc : Calls P f args w' (Pst RR Z)) (hk : ∀ v w'', RR v w'' → K (a.put o.dst v) w'') (hZ : ∀ c w'', Z c w'' → Q (.panic c) a w'') : o.wpIn (FR r) 0 P a w K Q := by
  refine in_run hnd h ⟨FR_depth _ _, callsIn_FR (Calls.mono hc ?_)⟩
  intro e w'' he
  cases e with
  | returned v => exact hk v w'' he
  | panicked c => exact hZ c w'' he
  | outgrown => exact he.elim
theorem run_v {s : Sem Value} {v : Value} (h : s.run P w = .ok v w') : (do pure (Next.value (← s)) : Sem Next).run P w = .ok (.value v) w' := by
  simp only [Sem.run_bind, h, Result.andThen_ok, Sem.run_pure]
theorem run_u {s : Sem Unit} (h : s.run P w = .ok () w') : (do s; pure Next.skip : Sem Next).run P w = .ok .skip w' := by
  simp only [Sem.run_bind, h, Result.andThen_ok, Sem.run_pure]
theorem run_pan {s : Sem Value} {v : Value} (h : s.run P w = .halt (.panic v) w') : (do pure (Next.value (← s)) : Sem Next).run P w = .halt (.panic v) w' := by
  simp only [Sem.run_bind, h, Result.andThen_halt]
theorem in_pan {v : Value} (hnd : noDef o = true) (h : (execOp a.eval o).run P w = .halt (.panic v) w') (hk : Q (.panic [{ v, recovered := false }]) a w') : o.wpIn (FR r) 0 P a w K Q := by
  refine ⟨fun _ _ => trivial, ?_⟩
  rw [semAt_of _ _ (nodef_of hnd), h]
  exact hk
theorem in_yld {d L : Nat} {q : Operand} {xs : Array Operand} {ts : Array TypeId} {vs : List Value} {ty : TypeId} {pos : String} {af : Array Edge} {g : Option (Nat × Bool)} {RR : Value → World → Prop}
    (hq : a.eval q = .func (.yield L) #[] #[]) (hx : xs.map a.eval = vs.toArray) (h : YieldAt Fence.wide 0 P L vs.toArray w (Pst RR Z))
    (hk : ∀ v w', RR v w' → K (a.put (some d) v) w') (hZ : ∀ c w', Z c w' → Q (.panic c) a w') : Oper.wpIn (FR r) 0 P ⟨some d, .call ⟨.value q, xs, ts⟩, ty, pos, af, g⟩ a w K Q := by
  obtain ⟨fn, tmps, assign, body, hy, hr⟩ := h
  refine in_run (x := .round L fn tmps assign body) (w' := w) rfl ?_ ?_
  · simp [execOp, resolve, invoke, Deferred.ofValue, hq, hx, hy]
  · refine ⟨FR_depth _ _, ?_⟩
    have h2 : RoundIn (FR r) 0 P L fn tmps assign body w (Pst RR Z) := hr
    refine RoundIn.mono h2 ?_
    intro e w'' he
    cases e with
    | returned v => exact hk v w'' he
    | panicked c => exact hZ c w'' he
    | outgrown => exact he.elim
theorem evl_map {xs : Array Operand} {vs : List Value} {ρ : Operand → Value} (hf : Fits l ρ) (h : evl l xs.toList = some vs) : xs.map ρ = vs.toArray := by
  rw [← evl_fits hf h]; apply Array.ext'; simp
theorem evp_map {ps : Array (Nat × Operand)} {vs : List (Nat × Value)} {ρ : Operand → Value} (hf : Fits l ρ) (h : evp l ps.toList = some vs) : (ps.map fun (i, x) => (i, ρ x)) = vs.toArray := by
  rw [← evp_fits hf h]; apply Array.ext'; simp
theorem loadVar1 {t : TypeId} {ad : Addr} {v : Value} (ha : pr P (isAgg t) = some false) (hc : w.cell? ad = some v) : (Instr.loadAt t (.pointer (some ad))).run P w = .ok v w := by
  simp [Instr.loadAt, Instr.sureAddr, loadVar, pr_run ha, hc]
theorem loadVarn {t : TypeId} {ad : Addr} {m : Nat} {cs : List Value} (ha : pr P (isAgg t) = some true) (hs : pr P (sizeOf t) = some m) (hr : Rd w m ad cs) : (Instr.loadAt t (.pointer (some ad))).run P w = .ok (.agg cs.toArray) w := by
  obtain ⟨rfl, hc⟩ := hr
  have := run_loadCells_list (P := P) (w := w) ad cs (fun j v hv => by rw [← addA_eq]; exact hc j v hv)
  simp [Instr.loadAt, Instr.sureAddr, loadVar, pr_run ha, pr_run hs, this]
/-- An operation that has a value, carried out. -/
theorem hop_ok {d : Nat} {ty : Nat} {op : Op} {pos : String} {af : Array Edge} {g : Option (Nat × Bool)} {k : Value → T} (hw : wp P Z R ds (hop P l ty op k) w A B) (hf : Fits l a.eval)
    (hK : ∀ v w', wp P Z R ds (k v) w' A B → K (a.put (some d) v) w') (hZ : ∀ c w', ZD ds Z c w' → Q (.panic c) a w') : Oper.wpIn (FR r) 0 P ⟨some d, op, ty, pos, af, g⟩ a w K Q := by
  have hv : ∀ {s : Sem Value} {op : Op}, noDef ⟨some d, op, ty, pos, af, g⟩ = true → execOp a.eval ⟨some d, op, ty, pos, af, g⟩ = (do pure (.value (← s))) → wp P Z R ds (.hv s k) w A B → Oper.wpIn (FR r) 0 P ⟨some d, op, ty, pos, af, g⟩ a w K Q := by
    rintro s op hnd he ⟨v, w', h1, h2⟩
    exact in_val hnd (by rw [he]; exact run_v h1) (hK v w' h2)
  cases op with
  | load t x =>
    simp only [hop] at hw
    split at hw
    · rename_i ha
      obtain ⟨p, hp, ad, v, rfl, hc, h⟩ := vT_ok hw
      exact in_val rfl (by simp only [execOp, hf x _ hp]; exact run_v (loadVar1 ha hc)) (hK v w h)
    · rename_i m ha hs
      obtain ⟨p, hp, ad, cs, rfl, hr, h⟩ := vT_ok hw
      exact in_val rfl (by simp only [execOp, hf x _ hp]; exact run_v (loadVarn ha hs hr)) (hK _ w h)
    · exact hw.elim
  | alloc t => exact hv rfl rfl hw
  | box t x => obtain ⟨v, h1, h⟩ := vT_ok hw; exact hv rfl (by simp only [execOp, hf x _ h1]) h
  | buildSlice t m ps => obtain ⟨vs, h1, h⟩ := psT_ok hw; exact hv rfl (by simp only [execOp, evp_map hf h1]) h
  | makeSlice t x y => obtain ⟨u, h1, h⟩ := vT_ok hw; obtain ⟨v, h2, h⟩ := vT_ok h; exact hv rfl (by simp only [execOp, hf x _ h1, hf y _ h2]) h
  | makeMap t x =>
    have hw : wp P Z R ds (voT l x fun x => .hv (Instr.makeMap t x) k) w A B := hw
    obtain ⟨u, h1, h⟩ := voT_ok hw
    exact hv rfl (by simp only [execOp, h1 _ hf]) h
  | lookup t x y ok => obtain ⟨u, h1, h⟩ := vT_ok hw; obtain ⟨v, h2, h⟩ := vT_ok h; exact hv rfl (by simp only [execOp, hf x _ h1, hf y _ h2]) h
  | convert s t x => obtain ⟨v, h1, h⟩ := vT_ok hw; exact hv rfl (by simp only [execOp, hf x _ h1]) h
  | range t x => obtain ⟨v, h1, h⟩ := vT_ok hw; exact hv rfl (by simp only [execOp, hf x _ h1]) h
  | next x b => obtain ⟨v, h1, h⟩ := vT_ok hw; exact hv rfl (by simp only [execOp, hf x _ h1]) h
  | entry x => obtain ⟨v, h1, h⟩ := vT_ok hw; exact hv rfl (by simp only [execOp, hf x _ h1]) h
  | panic x =>
    obtain ⟨v, h1, u, h2, h3⟩ := vT_ok hw
    exact in_pan rfl (by simp only [execOp, hf x _ h1]; exact run_pan h2) (hZ _ _ h3)
  | call c =>
    obtain ⟨cal, xs, ts⟩ := c
    cases cal with
    | value f =>
      obtain ⟨fv, h1, h⟩ := vT_ok hw
      obtain ⟨vs, h2, h⟩ := vsT_ok h
      unfold clT at h
      split at h
      · rename_i gf p c
        obtain ⟨hcf, hc⟩ := h
        refine in_call rfl ?_ hc (fun v w'' h => hK v w'' h) hZ
        simp only [execOp, resolve, invoke, hf f _ h1, evl_map hf h2, Deferred.ofValue, Sem.run_bind, Sem.run_pure, Result.andThen_ok]
        rw [hcf]
        congr 2
        apply Array.ext'
        simp
      · split at h
        · rename_i p c _ _ _ hp hc
          have h9 := h
          obtain rfl : p = #[] := by apply Array.ext'; simpa using hp
          obtain rfl : c = #[] := by apply Array.ext'; simpa using hc
          exact in_yld (hf f _ h1) (evl_map hf h2) h9 (fun v w'' h => hK v w'' h) hZ
        · exact h.elim
      · exact h.elim
    | invoke rv m =>
      obtain ⟨gv, h1, h⟩ := vT_ok hw
      obtain ⟨vs, h2, h⟩ := vsT_ok h
      obtain ⟨f, args, h3, h4⟩ := h
      refine in_call rfl ?_ h4 (fun v w'' h => hK v w'' h) hZ
      simp only [execOp, resolve, invoke, hf rv _ h1, evl_map hf h2, Sem.run_bind, Sem.run_pure, Result.andThen_ok]
      have e0 : (#[gv] ++ vs.toArray)[0]? = some gv := by simp
      have e1 : (#[gv] ++ vs.toArray).extract 1 (#[gv] ++ vs.toArray).size = vs.toArray := by apply Array.ext'; simp
      rw [e0, e1]
      exact h3
    | builtin b =>
      cases b <;> first
        | exact hw.elim
        | (obtain ⟨vs, h2, h⟩ := vsT_ok hw
           exact hv rfl (by simp only [execOp, resolve, evl_map hf h2]; rfl) h)
  | _ => exact hw.elim
/-- An operation without a value, carried out. -/
theorem eop_ok {ty : Nat} {op : Op} {pos : String} {af : Array Edge} {g : Option (Nat × Bool)} {t : T} (hw : wp P Z R ds (eop l op t) w A B) (hf : Fits l a.eval)
    (hK : ∀ w', wp P Z R ds t w' A B → K a w') (hZ : ∀ c w', ZD ds Z c w' → Q (.panic c) a w') : Oper.wpIn (FR r) 0 P ⟨none, op, ty, pos, af, g⟩ a w K Q := by
  cases op with
  | store t a x =>
    obtain ⟨u, h1, h⟩ := vT_ok hw; obtain ⟨v, h2, h⟩ := vT_ok h
    obtain ⟨w', h3, h4⟩ := h
    exact in_skip rfl (by simp only [execOp, hf a _ h1, hf x _ h2]; exact run_u h3) (hK w' h4)
  | mapUpdate t m i x =>
    obtain ⟨u, h1, h⟩ := vT_ok hw; obtain ⟨v, h2, h⟩ := vT_ok h; obtain ⟨z, h5, h⟩ := vT_ok h
    obtain ⟨w', h3, h4⟩ := h
    exact in_skip rfl (by simp only [execOp, hf m _ h1, hf i _ h2, hf x _ h5]; exact run_u h3) (hK w' h4)
  | insert t m i x =>
    obtain ⟨u, h1, h⟩ := vT_ok hw; obtain ⟨v, h2, h⟩ := vT_ok h; obtain ⟨z, h5, h⟩ := vT_ok h
    obtain ⟨w', h3, h4⟩ := h
    exact in_skip rfl (by simp only [execOp, hf m _ h1, hf i _ h2, hf x _ h5]; exact run_u h3) (hK w' h4)
  | panic x =>
    obtain ⟨v, h1, u, h2, h3⟩ := vT_ok hw
    exact in_pan rfl (by simp only [execOp, hf x _ h1]; exact run_pan h2) (hZ _ _ h3)
  | _ => exact hw.elim
theorem dop_ok {k : Env → T} (hnd : noDef o = true) (hw : wp P Z R ds (dop P n l o k) w A B) (ha : Ag a n df l) (hK : ∀ a' l' w', Ag a' n df l' → (∀ e, o.dst ≠ some e → find l' e = find l e) → wp P Z R ds (k l') w' A B → K a' w') (hZ : ∀ c w', ZD ds Z c w' → Q (.panic c) a w') : o.wpIn (FR r) 0 P a w K Q := by
  obtain ⟨dst, op, ty, pos, af, g⟩ := o
  unfold dop at hw
  cases dst with
  | none => exact eop_ok hw ha.fits (fun w' h => hK a l w' ha (fun _ _ => rfl) h) hZ
  | some d =>
    simp only at hw
    split at hw
    · rename_i hd
      have hd : d < n := by simpa using hd
      split at hw
      · rename_i t ht
        obtain ⟨v, hv, h⟩ := lop_ok ht hw
        exact in_val hnd (hv _ _ _ _ _ _ ha.fits) (hK _ _ w (ha.put hd v) (fun e he => find_ne v l (fun h => he (by rw [h]))) h)
      · exact hop_ok hw ha.fits (fun v w' h => hK _ _ w' (ha.put hd v) (fun e he => find_ne v l (fun h => he (by rw [h]))) h) hZ
    · exact hw.elim
theorem dskip_ok {k : Env → T} (hw : wp P Z R ds (dskip n l o k) w A B) (ha : Ag a n df l) : ∃ l', Ag (a.put o.dst undef) n df l' ∧ (∀ e, o.dst ≠ some e → find l' e = find l e) ∧ (∀ d, o.dst = some d → find l' d = some undef) ∧ wp P Z R ds (k l') w A B := by
  unfold dskip at hw
  cases ho : o.dst with
  | none => rw [ho] at hw; exact ⟨l, ha, fun _ _ => rfl, (fun _ h => nomatch h), hw⟩
  | some d =>
    rw [ho] at hw
    simp only at hw
    split at hw
    · rename_i hd; exact ⟨_, ha.put (by simpa using hd) undef, fun e he => find_ne undef l (fun h => he (by rw [h])), fun e he => by injection he with he; subst he; exact find_self _ _ _, hw⟩
    · exact hw.elim
/-! ### guards, and regions in the text's order -/
theorem Ag.dup {e : Nat} {v : Value} (ha : Ag a n df l) (he : find l e = some v) : Ag a n df ((e, v) :: l) := by
  refine ⟨ha.size, ha.defs, fun t u ht => ?_⟩
  by_cases h : e = t
  · subst h; rw [find_self] at ht; injection ht with ht; subst ht; exact ha.look e v he
  · rw [find_ne v l h] at ht; exact ha.look t u ht
theorem find_dup {e t : Nat} {v : Value} (he : find l e = some v) : find ((e, v) :: l) t = find l t := by
  by_cases h : e = t
  · subst h; rw [find_self, he]
  · rw [find_ne v l h]
def Us (u : List Nat) (l : Env) : Prop := ∀ e ∈ u, find l e = some undef
theorem Us.drop {u : List Nat} {l l' : Env} {o : Oper} (h : Us u l) (hl : ∀ e, o.dst ≠ some e → find l' e = find l e) : Us (dropU o u) l' := by
  unfold dropU
  cases ho : o.dst with
  | none => exact fun e he => by rw [hl e (by rw [ho]; simp)]; exact h e he
  | some d =>
    intro e he
    obtain ⟨h1, h2⟩ := List.mem_filter.1 he
    have hne : e ≠ d := by
      rintro rfl
      simp at h2
    rw [hl e (by rw [ho]; intro hh; injection hh with hh; exact hne hh.symm)]
    exact h e h1
theorem Us.skip {u : List Nat} {l l' : Env} {o : Oper} (h : Us u l) (hl : ∀ e, o.dst ≠ some e → find l' e = find l e) (hd : ∀ d, o.dst = some d → find l' d = some undef) : Us (skips o ++ u) l' := by
  intro e he
  rcases List.mem_append.1 he with h1 | h1
  · unfold skips at h1
    cases ho : o.dst with
    | none => rw [ho] at h1; simp at h1
    | some d => rw [ho] at h1; simp at h1; subst h1; exact hd _ ho
  · by_cases hh : o.dst = some e
    · exact hd e hh
    · rw [hl e hh]; exact h e h1
/-- Carried out if it is wanted. -/
def Wn (P : Program) (r : Option Nat) (ops : Array Oper) (o : Oper) (a : Act) (w : World) (K : Act → World → Prop) (Q : Exit → Act → World → Prop) : Prop :=
  if Region.wanted o (yielded ops a.tmps) then o.wpIn (FR r) 0 P a w K Q else (∀ f, o.about P w a.eval = some f → (FR r).fn f) ∧ K (a.put o.dst undef) w
theorem wanted_none {ops : List Oper} (hg : o.guard = none) : Region.wanted o (yielded ops.toArray a.tmps) = true := by unfold Region.wanted; rw [hg]
def isB (b : Bool) : Value → Bool
  | .bool x => x == b
  | _ => false
theorem wanted_some {ops : List Oper} {j e : Nat} {b : Bool} {v : Value} (hg : o.guard = some (j, b)) (he : (nth ops j).bind (·.dst) = some e) (hn : e < n) (ha : Ag a n df l) (hv : find l e = some v) :
    Region.wanted o (yielded ops.toArray a.tmps) = isB b v := by
  unfold Region.wanted
  rw [hg]
  have h1 : ops.toArray[j]? = nth ops j := by rw [List.getElem?_toArray, ← nth_eq]
  have h2 : a.tmps[e]? = some v := by
    have h3 := ha.look e v hv
    rw [Array.getD_eq_getD_getElem?] at h3
    have h4 : e < a.tmps.size := by rw [ha.size]; exact hn
    rw [Array.getElem?_eq_getElem h4] at h3 ⊢
    simpa using h3
  simp only [yielded, h1, he, Option.bind_some, h2]
  cases v <;> first | rfl | (rename_i x; cases x <;> cases b <;> rfl)
theorem dgo_ok {ops : List Oper} {u : List Nat} {k : List Nat → Env → T} (hnd : noDef o = true) (hw : wp P Z R ds (dgo P n ops u l o k) w A B) (ha : Ag a n df l) (hu : Us u l)
    (hK : ∀ a' u' l' w', Ag a' n df l' → Us u' l' → (∀ e, o.dst ≠ some e → find l' e = find l e) → (u' = dropU o u ∨ u' = skips o ++ u) → wp P Z R ds (k u' l') w' A B → K a' w') (hZ : ∀ c w', ZD ds Z c w' → Q (.panic c) a w') : Wn P r ops.toArray o a w K Q := by
  have yes : ∀ {l1 : Env}, (∀ t, find l1 t = find l t) → Ag a n df l1 → wp P Z R ds (dop P n l1 o (k (dropU o u))) w A B → Region.wanted o (yielded ops.toArray a.tmps) = true → Wn P r ops.toArray o a w K Q := by
    intro l1 h1 ha1 hw1 hwn
    unfold Wn
    rw [if_pos hwn]
    refine dop_ok hnd hw1 ha1 (fun a' l' w' ha' hl hw' => ?_) hZ
    have hl2 : ∀ e, o.dst ≠ some e → find l' e = find l e := fun e he => (hl e he).trans (h1 e)
    exact hK a' _ l' w' ha' (hu.drop hl2) hl2 (.inl rfl) hw'
  have no : ∀ {l1 : Env}, (∀ t, find l1 t = find l t) → Ag a n df l1 → wp P Z R ds (dskip n l1 o (k (skips o ++ u))) w A B → Region.wanted o (yielded ops.toArray a.tmps) = false → Wn P r ops.toArray o a w K Q := by
    intro l1 h1 ha1 hw1 hwn
    unfold Wn
    rw [if_neg (by rw [hwn]; simp)]
    obtain ⟨l', ha', hl, hd, hw'⟩ := dskip_ok hw1 ha1
    have hl2 : ∀ e, o.dst ≠ some e → find l' e = find l e := fun e he => (hl e he).trans (h1 e)
    exact ⟨fun _ _ => trivial, hK _ _ l' w ha' (hu.skip hl2 hd) hl2 (.inr rfl) hw'⟩
  unfold dgo at hw
  split at hw
  · rename_i hg
    exact yes (fun _ => rfl) ha hw (wanted_none hg)
  · rename_i j b hg
    split at hw
    · rename_i e he
      split at hw
      · rename_i hn
        have hn : e < n := by simpa using hn
        split at hw
        · rename_i hc
          have := hu e (by simpa using hc)
          exact no (fun _ => rfl) ha hw (by rw [wanted_some hg he hn ha this]; rfl)
        · obtain ⟨v, hv, hw⟩ := vT_ok hw
          have hv : find l e = some v := hv
          have hwn := wanted_some hg he hn ha hv
          cases b with
          | true =>
            rcases gi_ok hw with ⟨rfl, h⟩ | ⟨rfl, h⟩
            · exact yes (fun t => find_dup hv) (ha.dup hv) h hwn
            · exact no (fun t => find_dup hv) (ha.dup hv) h hwn
          | false =>
            rcases gi_ok hw with ⟨rfl, h⟩ | ⟨rfl, h⟩
            · exact no (fun t => find_dup hv) (ha.dup hv) h hwn
            · exact yes (fun t => find_dup hv) (ha.dup hv) h hwn
      · exact hw.elim
    · exact hw.elim
def kz (Z : ZP) (df : List Deferred) (N R : Act → World → Prop) (E : Nat → Act → World → Prop) : Exit → Act → World → Prop
  | .normal, a, w => N a w
  | .ret, a, w => R a w
  | .exit i, a, w => E i a w
  | .panic c, a, w => a.defers = df ∧ Z c w
  | _, _, _ => False
theorem dsts_mem {rs : List Oper} {o : Oper} {d : Nat} (ho : o ∈ rs) (hd : o.dst = some d) : d ∈ dsts rs := by
  induction rs with
  | nil => cases ho
  | cons q r ih =>
    unfold dsts
    rcases List.mem_cons.1 ho with rfl | h
    · exact List.mem_append_left _ (by simp [skips, hd])
    · exact List.mem_append_right _ (ih h)
theorem dlist_ok {ops : List Oper} {l0 : Env} {k : Env → T} {Q : Exit → Act → World → Prop} (hQ : ∀ a l w, Ag a n df l → (∀ t, t ∉ dsts ops → find l t = find l0 t) → wp P Z R ds (k l) w A B → Q .normal a w) (hZ : ∀ c a w, a.defers = df → ZD ds Z c w → Q (.panic c) a w) :
    ∀ (rs : List Oper), (∀ o ∈ rs, noDef o = true) → (∀ o ∈ rs, o ∈ ops) → ∀ (u : List Nat) (l : Env) (w : World) (a : Act), wp P Z R ds (dlist P n ops rs u l k) w A B → Ag a n df l → Us u l → (∀ t, t ∉ dsts ops → find l t = find l0 t) → wpListIn (FR r) 0 P ops.toArray Q rs a w := by
  intro rs
  induction rs with
  | nil => intro _ _ u l w a hw ha _ h0; exact hQ a l w ha h0 hw
  | cons o rs ih =>
    intro hnd hin u l w a hw ha hu h0
    exact dgo_ok (hnd o (by simp)) hw ha hu (fun a' u' l' w' ha' hu' hl _ hw' => ih (fun o ho => hnd o (by simp [ho])) (fun o ho => hin o (by simp [ho])) u' l' w' a' hw' ha' hu' (fun t ht => (hl t (fun e => ht (dsts_mem (hin o (by simp)) e))).trans (h0 t ht))) (fun c w' hz => hZ c a w' ha.defs hz)
end
end
end Go.Proofs.YtcbkpekbfkaeeaaDoor.Sx
