/- Rules for what makes memory; relations between cells and plain data. -/
import Derived.Test.YtcbkpekbfkaeeaaDoorSxP
set_option linter.unusedVariables false
set_option linter.unusedSimpArgs false
namespace Go.Proofs.YtcbkpekbfkaeeaaDoor.Sx
open Go Go.RowKit
abbrev Pt (b o : Nat) : Value := .pointer (some ⟨b, o, none⟩)
section
variable {P : Program} {Z : ZP} {R : Value → World → Prop} {w w' : World} {A : List Nat → List Value → World → Prop} {B : List Nat → Nat → List Value → World → Prop} {ds : List Nat} {k : Value → T} {t u : T}
theorem Fr.c {a : Addr} {v : Value} (f : Fr [] w w') (h : w.cell? a = some v) : w'.cell? a = some v := f.cell h (by simp)
theorem Rd.fr {n : Nat} {a : Addr} {cs : List Value} (h : Rd w n a cs) (f : Fr [] w w') : Rd w' n a cs := ⟨h.1, fun j v hv => f.c (h.2 j v hv)⟩
theorem Blk.rd {b : Nat} {T : TypeId} {cs : List Value} (h : Blk w b T cs) {n : Nat} (hn : cs.length = n := by rfl) : Rd w n ⟨b, 0, none⟩ cs := ⟨hn, fun j v hv => h.cell (by rw [Nat.zero_add]; exact hv)⟩
theorem Blk.rdo {b : Nat} {T : TypeId} {cs : List Value} (h : Blk w b T cs) (o : Nat) {n : Nat} {es : List Value} (he : (cs.drop o).take n = es := by rfl) (hn : es.length = n := by rfl) : Rd w n ⟨b, o, none⟩ es := ⟨hn, fun j v hv => h.cell (by
  subst he
  rw [List.getElem?_take] at hv
  split at hv
  · rwa [List.getElem?_drop] at hv
  · cases hv)⟩
/-- A new block. -/
theorem r_new {s : Sem Value} {T : TypeId} {v : Value} {cs : List Value} (h : s.run P w = .ok v (w.alloc (.cells cs.toArray T))) (hk : ∀ b w', b = w.heap.size → Blk w' b T cs → Fr [] w w' → wp P Z R ds (k v) w' A B) : wp P Z R ds (.hv s k) w A B :=
  ⟨v, _, h, hk _ _ rfl (Blk.alloc w T cs) (Fr.alloc w _)⟩
theorem r_box {T : TypeId} {v : Value} {cs : List Value} (hk : ∀ b w', b = w.heap.size → Blk w' b T cs → Fr [] w w' → wp P Z R ds (k (Pt b 0)) w' A B) (hc : v.cells = cs.toArray := by rfl) : wp P Z R ds (.hv (Instr.box T v) k) w A B :=
  ⟨_, _, run_inv (x_box (d := none) (ty := 0) (pos := "") (af := #[]) (g := none) (l := []) (x := .const v) rfl hc r0 fits0), hk _ _ rfl (Blk.alloc w T cs) (Fr.alloc w _)⟩
/-- Other worlds below a block's number. -/
theorem Blk.bl {b N : Nat} {T : TypeId} {cs : List Value} (h : Blk w b T cs) (f : Below N w w') (hb : b < N) : Blk w' b T cs := (f.block b hb).trans h
theorem Fr.bl {w0 : World} {N : Nat} (h : Fr [] w0 w) (f : Below N w w') (hN : w0.heap.size ≤ N) : Fr [] w0 w' := ⟨f.os.trans h.os, f.tape.trans h.tape, f.output.trans h.output, Nat.le_trans h.size f.size, fun q hq hn => (f.block q (by omega)).trans (h.keep q hq hn)⟩
theorem Below.fr {N : Nat} (f : Fr [] w w') (hN : N ≤ w.heap.size) : Below N w w' := ⟨f.os, f.tape, f.output, f.size, fun q hq => f.keep q (by omega) (by simp)⟩
theorem Fr.st {w0 : World} {b : Nat} (h : Fr [] w0 w) (f : Fr [b] w w') (hb : w0.heap.size ≤ b) : Fr [] w0 w' := h.trans_new f (fun q hq => by simp at hq; subst hq; exact .inr hb)
theorem fold_splice (cs : List Value) : ∀ (j : Nat) (zs : List Value), (cs.zipIdx j).foldl (fun (x : Array Value) (c : Value × Nat) => x.setIfInBounds (0 + c.2) c.1) zs.toArray = (splice zs j cs).toArray := by
  induction cs with
  | nil => intro j zs; rfl
  | cons c r ih =>
    intro j zs
    rw [List.zipIdx_cons, List.foldl_cons]
    simp only [Nat.zero_add, List.setIfInBounds_toArray]
    have := ih (j + 1) (zs.set j c)
    simp only [Nat.zero_add] at this
    rw [this]
    rfl
theorem splice_all (zs cs : List Value) (h : zs.length = cs.length) : splice zs 0 cs = cs := by
  have := splice_eq cs [] zs [] h
  simpa using this
/-- A slice literal of one element. -/
theorem run_bs1 {T e n : Nat} {z v : Value} {cs zs : List Value} (hu : P.underlying T = some (.slice e)) (hs : ∀ w, (sizeOf e).run P w = .ok n w) (hz : ∀ w, (zeroValue e).run P w = .ok z w) (hzc : z.cells = zs.toArray) (hzl : zs.length = n) (hv : v.cells = cs.toArray) (hl : cs.length = n) (h0 : Nat.blt 0 n = true) (hn : Nat.ble n 1000 = true) :
    (Instr.buildSlice T 1 [(0, v)].toArray).run P w = .ok (.slice (some ⟨w.heap.size, 0, none⟩) 1 1) (w.alloc (.cells cs.toArray e)) := by
  have h0 : 0 < n := by simpa using h0
  have hn := Nat.le_of_ble_eq_true hn
  have hf : Instr.fill (fun i => some (i * n, n)) (Array.map (fun x => (zs.toArray)[x % zs.toArray.size]!) (Array.range (1 * n))) [(0, v)] = some cs.toArray := by
    have e1 : Array.map (fun x => (zs.toArray)[x % zs.toArray.size]!) (Array.range (1 * n)) = zs.toArray := by
      apply Array.ext
      · simp [hzl]
      · intro i h1 h2
        simp at h1 h2
        simp [Nat.mod_eq_of_lt h2, h2]
    rw [e1]
    unfold Instr.fill
    simp only [hv, Nat.zero_mul]
    rw [if_neg (by simp [hzl, hl])]
    unfold Instr.fill
    have := fold_splice cs 0 zs
    rw [splice_all zs cs (by omega)] at this
    simp only [Nat.zero_add] at this ⊢
    refine congrArg some ?_
    refine Eq.trans ?_ this
    simp
  unfold Instr.buildSlice
  simp only [Sem.run_bind, run_underlying hu, hs, hz, Result.andThen_ok, Sem.run_ite, Sem.run_pure, newRow, run_newObj, hzc]
  rw [if_neg (by omega), if_neg (by omega)]
  simp only [Sem.run_pure, Result.andThen_ok, List.toList_toArray, hf]
  rfl
/-- A local variable, laid and filled. -/
theorem r_as {ty n : Nat} {z v : Value} {cs zs : List Value} {t : Value → T} (hk : ∀ b w', b = w.heap.size → Blk w' b ty cs → Fr [] w w' → wp P Z R ds (t (Pt b 0)) w' A B)
    (hz : ∀ w, (zeroValue ty).run P w = .ok z w) (hs : ∀ w, (sizeOf ty).run P w = .ok n w) (h1 : ∀ v ∈ cs, v.oneCell' = true) (hzc : z.cells = zs.toArray := by rfl) (hzl : zs.length = n := by rfl) (hv : v.cells = cs.toArray := by rfl) (hl : cs.length = n := by rfl) : wp P Z R ds (.hv (Instr.alloc ty true (.tuple #[])) fun p => .ef (Instr.storeAt ty p v) (t p)) w A B := by
  obtain ⟨w2, h2, h3, h4⟩ := run_splice (P := P) cs h1 0 0 (w.alloc (.cells zs.toArray ty)) zs (Blk.alloc w ty zs) (by omega)
  refine ⟨_, _, run_inv (x_alloc (d := none) (ty := 0) (pos := "") (af := #[]) (g := none) (l := []) hz hzc r0 fits0), w2, ?_, ?_⟩
  · simp [Instr.storeAt, Instr.sureAddr, storeVar, hs, hv, h2, hl]
  · refine hk _ w2 rfl ?_ ((Fr.alloc w _).st h4 (Nat.le_refl _))
    rw [splice_all zs cs (by omega)] at h3
    exact h3
theorem r_brk {i : Nat} {vs : List Value} (h : B ds i vs w) : wp P Z R ds (.brk i vs) w A B := h
theorem Rd.sub {n : Nat} {a : Addr} {cs : List Value} (h : Rd w n a cs) (o : Nat) {m : Nat} {es : List Value} (he : (cs.drop o).take m = es := by rfl) (hm : es.length = m := by rfl) : Rd w m (addA a o) es := ⟨hm, fun j v hv => by
  subst he
  rw [List.getElem?_take] at hv
  split at hv
  · rw [List.getElem?_drop] at hv
    have := h.2 _ v hv
    rw [addA_eq] at this ⊢
    rw [addA_eq, add_add]
    exact this
  · cases hv⟩
/-- s[:m]. -/
theorem r_slh {ty e n : Nat} {X : Option Addr} {len cap m : Nat} {kd : IntKind} {j : Int} (hu : P.underlying ty = some (.slice e)) (hs : ∀ w, (sizeOf e).run P w = .ok n w) (h0 : 0 ≤ j) (hj : j ≤ cap) (hm : j.toNat = m) (hk : wp P Z R ds (k (.slice X m cap)) w A B) : wp P Z R ds (.pu (Instr.sliceAt ty (.slice X len cap) none (some (.int kd j)) none) k) w A B := by
  subst hm
  exact r_pu (o := ⟨none, .slice ty (.const (.slice X len cap)) none (some (.const (.int kd j))) none, 0, "", #[], none⟩) (fun w' => x_slh (l := []) rfl rfl hu hs ⟨h0, hj⟩) hk rfl
theorem r_al {ty : Nat} {z : Value} {zs : List Value} (hz : ∀ w, (zeroValue ty).run P w = .ok z w) (hk : ∀ b w', b = w.heap.size → Blk w' b ty zs → Fr [] w w' → wp P Z R ds (k (Pt b 0)) w' A B) (hzc : z.cells = zs.toArray := by rfl) : wp P Z R ds (.hv (Instr.alloc ty true (.tuple #[])) k) w A B :=
  ⟨_, _, run_inv (x_alloc (d := none) (ty := 0) (pos := "") (af := #[]) (g := none) (l := []) hz hzc r0 fits0), hk _ _ rfl (Blk.alloc w ty zs) (Fr.alloc w _)⟩
/-- A cell of a local variable is written. -/
theorem r_st1 {ty b o T' : Nat} {v : Value} {cs : List Value} (hB : Blk w b T' cs) (hs : ∀ w, (sizeOf ty).run P w = .ok 1 w) (hk : ∀ w', Blk w' b T' (cs.set o v) → Fr [b] w w' → wp P Z R ds t w' A B) (h1 : v.cells = #[v] := by rfl) (hv : v.oneCell' = true := by rfl) (ho : Nat.blt o cs.length = true := by rfl) : wp P Z R ds (.ef (Instr.storeAt ty (Pt b o) v) t) w A B :=
  r_ef (o := ⟨none, .store ty (.const (Pt b o)) (.const v), 0, "", #[], none⟩) (v_1 (l := []) rfl rfl h1 hv hs hB (by simpa using ho)) (fun w' h => hk w' h.1 h.2) rfl
/-- All of a local variable is written. -/
theorem r_stn {ty b n T' : Nat} {v : Value} {cs zs : List Value} (hB : Blk w b T' zs) (hs : ∀ w, (sizeOf ty).run P w = .ok n w) (h1 : ∀ v ∈ cs, v.oneCell' = true) (hk : ∀ w', Blk w' b T' cs → Fr [b] w w' → wp P Z R ds t w' A B) (hv : v = .agg cs.toArray := by rfl) (hl : cs.length = n := by rfl) (hz : zs.length = n := by rfl) : wp P Z R ds (.ef (Instr.storeAt ty (Pt b 0) v) t) w A B := by
  subst hv
  refine r_ef (o := ⟨none, .store ty (.const (Pt b 0)) (.const (.agg cs.toArray)), 0, "", #[], none⟩) (v_n (l := []) rfl rfl h1 hs hl hB (by omega)) (fun w' h => hk w' ?_ h.2) rfl
  have := h.1
  rwa [splice_all zs cs (by omega)] at this
end
end Go.Proofs.YtcbkpekbfkaeeaaDoor.Sx
