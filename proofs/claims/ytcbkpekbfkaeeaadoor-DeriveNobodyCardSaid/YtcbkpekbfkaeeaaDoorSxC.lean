/- Arrays of structs in one block; stores told by what they leave. -/
import Derived.Test.YtcbkpekbfkaeeaaDoorSxB
set_option linter.unusedVariables false
set_option linter.unusedSimpArgs false
namespace Go.Proofs.YtcbkpekbfkaeeaaDoor.Sx
open Go Go.RowKit
def flat {α : Type} (enc : α → List Value) (xs : List α) : List Value := xs.flatMap enc
section
variable {α : Type} {enc : α → List Value} {k : Nat} (hk : ∀ x, (enc x).length = k)
include hk
theorem flat_length (xs : List α) : (flat enc xs).length = xs.length * k := by
  induction xs with
  | nil => simp [flat]
  | cons x r ih => simp only [flat, List.flatMap_cons, List.length_append, hk, List.length_cons] at *; rw [ih, Nat.succ_mul]; omega
theorem flat_get {xs : List α} {i j : Nat} {x : α} (hi : xs[i]? = some x) (hj : j < k) : (flat enc xs)[i * k + j]? = (enc x)[j]? := by
  induction xs generalizing i with
  | nil => simp at hi
  | cons y r ih =>
    cases i with
    | zero =>
      obtain rfl : y = x := by simpa using hi
      simp only [flat, List.flatMap_cons, Nat.zero_mul, Nat.zero_add]
      rw [List.getElem?_append_left (by rw [hk]; exact hj)]
    | succ i =>
      simp only [flat, List.flatMap_cons]
      rw [List.getElem?_append_right (by rw [hk, Nat.succ_mul]; omega), hk, show (i + 1) * k + j - k = i * k + j by rw [Nat.succ_mul]; omega]
      exact ih (by simpa using hi)
theorem flat_set {xs : List α} {i j : Nat} {x y : α} {v : Value} (hi : xs[i]? = some x) (hj : j < k) (he : (enc x).set j v = enc y) : (flat enc xs).set (i * k + j) v = flat enc (xs.set i y) := by
  induction xs generalizing i with
  | nil => simp at hi
  | cons z r ih =>
    cases i with
    | zero =>
      obtain rfl : z = x := by simpa using hi
      simp only [flat, List.flatMap_cons, Nat.zero_mul, Nat.zero_add, List.set_cons_zero]
      rw [List.set_append_left _ _ (by rw [hk]; exact hj), he]
    | succ i =>
      simp only [flat, List.flatMap_cons, List.set_cons_succ]
      rw [List.set_append_right _ _ (by rw [hk, Nat.succ_mul]; omega), hk, show (i + 1) * k + j - k = i * k + j by rw [Nat.succ_mul]; omega]
      have := ih (by simpa using hi)
      simp only [flat] at this
      rw [this]
end
/-- Cells written from o on. -/
def splice : List Value → Nat → List Value → List Value
  | cs, _, [] => cs
  | cs, o, v :: r => splice (cs.set o v) (o + 1) r
theorem splice_length (vs : List Value) : ∀ (cs : List Value) (o : Nat), (splice cs o vs).length = cs.length := by
  induction vs with
  | nil => intro cs o; rfl
  | cons v r ih => intro cs o; simp [splice, ih]
theorem splice_eq (vs : List Value) : ∀ (a b c : List Value), b.length = vs.length → splice (a ++ b ++ c) a.length vs = a ++ vs ++ c := by
  induction vs with
  | nil => intro a b c h; obtain rfl := List.eq_nil_of_length_eq_zero h; simp [splice]
  | cons v r ih =>
    intro a b c h
    cases b with
    | nil => simp at h
    | cons u b =>
      have e : (a ++ (u :: b) ++ c).set a.length v = (a ++ [v]) ++ b ++ c := by
        rw [List.append_assoc, List.set_append_right _ _ (Nat.le_refl _)]
        simp
      show splice ((a ++ (u :: b) ++ c).set a.length v) (a.length + 1) r = _
      rw [e]
      have := ih (a ++ [v]) b c (by simpa using h)
      simp only [List.length_append, List.length_cons, List.length_nil, Nat.zero_add] at this
      rw [this]
      simp
theorem flat_splice {α : Type} {enc : α → List Value} {k : Nat} (hk : ∀ x, (enc x).length = k) {xs : List α} {i : Nat} (hi : i < xs.length) (y : α) : splice (flat enc xs) (i * k) (enc y) = flat enc (xs.set i y) := by
  have h1 : xs = xs.take i ++ xs[i] :: xs.drop (i + 1) := by rw [List.getElem_cons_drop, List.take_append_drop]
  have h2 : flat enc xs = flat enc (xs.take i) ++ enc xs[i] ++ flat enc (xs.drop (i + 1)) :=
    (congrArg (flat enc) h1).trans (by simp only [flat, List.flatMap_append, List.flatMap_cons, List.append_assoc])
  have h3 : (flat enc (xs.take i)).length = i * k := by rw [flat_length hk, List.length_take, Nat.min_eq_left (by omega)]
  rw [h2, ← h3, splice_eq _ _ _ _ (by rw [hk, hk])]
  rw [List.set_eq_take_append_cons_drop, if_pos hi]
  simp [flat]
section
variable {P : Program} {l : Env} {w w' : World} {d : Option Tmp} {ty t : TypeId} {pos : String} {af : Array Edge} {g : Option (Nat × Bool)}
def Sv (P : Program) (o : Oper) (l : Env) (w : World) (R : World → Prop) : Prop := ∀ ρ, Fits l ρ → ∃ w', (execOp ρ o).run P w = .ok .skip w' ∧ R w'
theorem Sv.mono {o : Oper} {R R' : World → Prop} (h : Sv P o l w R) (k : ∀ w', R w' → R' w') : Sv P o l w R' := fun ρ hf => let ⟨w', h1, h2⟩ := h ρ hf; ⟨w', h1, k w' h2⟩
theorem v_1 {x y : Operand} {b o : Nat} {v : Value} {T : TypeId} {cs : List Value} (hx : ev l x = some (.pointer (some ⟨b, o, none⟩))) (hy : ev l y = some v) (h1 : v.cells = #[v]) (hv : v.oneCell' = true) (hs : ∀ w, (sizeOf t).run P w = .ok 1 w) (hb : Blk w b T cs) (ho : o < cs.length) :
    Sv P ⟨none, .store t x y, ty, pos, af, g⟩ l w (fun w' => Blk w' b T (cs.set o v) ∧ Fr [b] w w') := fun ρ h => ⟨_, s_1 hx hy h1 hv hs hb ho ρ h, hb.setCell o v, Fr.setCell w b o v⟩
theorem run_splice {b : Nat} {T : TypeId} (vs : List Value) (hv : ∀ v ∈ vs, v.oneCell' = true) (o : Nat) : ∀ (j : Nat) (w : World) (cs : List Value), Blk w b T cs → o + j + vs.length ≤ cs.length →
    ∃ w', (storeCells ⟨b, o, none⟩ vs j).run P w = .ok () w' ∧ Blk w' b T (splice cs (o + j) vs) ∧ Fr [b] w w' := by
  induction vs with
  | nil => intro j w cs hb _; exact ⟨w, rfl, hb, Fr.refl _ _⟩
  | cons v r ih =>
    intro j w cs hb hl
    have h1 := hv v (by simp)
    have ho : o + j < cs.length := by simp only [List.length_cons] at hl; omega
    have hc : (w.cell? ⟨b, o + j, none⟩) = some (cs[o + j]'ho) := hb.cell (by simp [ho])
    have hst := run_store P w ⟨b, o + j, none⟩ v .plain h1
    obtain ⟨w', hr, hb', hf⟩ := ih (fun u hu => hv u (by simp [hu])) (j + 1) (w.setCell ⟨b, o + j, none⟩ v) (cs.set (o + j) v) (hb.setCell _ _) (by simp only [List.length_cons, List.length_set] at *; omega)
    refine ⟨w', ?_, by simpa [splice, Nat.add_assoc] using hb', (Fr.setCell w b (o + j) v).trans hf⟩
    unfold storeCells
    simp [addr_add, hst, stored, hc, hb.unfrozen, hr]
theorem v_n {x y : Operand} {b o n : Nat} {vs : List Value} {T : TypeId} {cs : List Value} (hx : ev l x = some (.pointer (some ⟨b, o, none⟩))) (hy : ev l y = some (.agg vs.toArray)) (hv : ∀ v ∈ vs, v.oneCell' = true) (hs : ∀ w, (sizeOf t).run P w = .ok n w) (hn : vs.length = n) (hb : Blk w b T cs) (ho : o + n ≤ cs.length) :
    Sv P ⟨none, .store t x y, ty, pos, af, g⟩ l w (fun w' => Blk w' b T (splice cs o vs) ∧ Fr [b] w w') := fun ρ h => by
  subst hn
  obtain ⟨w', hr, hb', hf⟩ := run_splice (P := P) vs hv o 0 w cs hb (by omega)
  refine ⟨w', ?_, hb', hf⟩
  simp [execOp, h x _ hx, h y _ hy, Instr.storeAt, Instr.sureAddr, storeVar, hs, Value.cells, hr]
/-- A field of an element. -/
theorem v_f {α : Type} {enc : α → List Value} {k : Nat} (hk : ∀ x, (enc x).length = k) {x y : Operand} {b i j : Nat} {v : Value} {T : TypeId} {xs : List α} {u : α} (u' : α) {o : Nat} (hx : ev l x = some (.pointer (some ⟨b, o, none⟩))) (ho : o = i * k + j) (hy : ev l y = some v) (h1 : v.cells = #[v]) (hv : v.oneCell' = true) (hs : ∀ w, (sizeOf t).run P w = .ok 1 w) (hb : Blk w b T (flat enc xs)) (hi : xs[i]? = some u) (hj : j < k) (he : (enc u).set j v = enc u') :
    Sv P ⟨none, .store t x y, ty, pos, af, g⟩ l w (fun w' => Blk w' b T (flat enc (xs.set i u')) ∧ Fr [b] w w') := by
  subst ho
  have hlt : i < xs.length := (List.getElem?_eq_some_iff.1 hi).1
  have hl : i * k + j < (flat enc xs).length := by
    rw [flat_length hk]
    calc i * k + j < i * k + k := by omega
      _ = (i + 1) * k := by rw [Nat.succ_mul]
      _ ≤ xs.length * k := Nat.mul_le_mul_right _ hlt
  have := v_1 (P := P) (ty := ty) (pos := pos) (af := af) (g := g) hx hy h1 hv hs hb hl
  rw [flat_set hk hi hj he] at this
  exact this
/-- A whole element. -/
theorem v_e {α : Type} {enc : α → List Value} {k : Nat} (hk : ∀ x, (enc x).length = k) {x y : Operand} {b i : Nat} {T : TypeId} {xs : List α} (u : α) {o : Nat} {vs : List Value} (hx : ev l x = some (.pointer (some ⟨b, o, none⟩))) (ho : o = i * k) (hy : ev l y = some (.agg vs.toArray)) (hu : vs = enc u) (hv : ∀ v ∈ enc u, v.oneCell' = true) (hs : ∀ w, (sizeOf t).run P w = .ok k w) (hb : Blk w b T (flat enc xs)) (hi : i < xs.length) :
    Sv P ⟨none, .store t x y, ty, pos, af, g⟩ l w (fun w' => Blk w' b T (flat enc (xs.set i u)) ∧ Fr [b] w w') := by
  subst ho
  subst hu
  have := v_n (P := P) (ty := ty) (pos := pos) (af := af) (g := g) hx hy hv hs (hk u) hb (by rw [flat_length hk]; calc i * k + k = (i + 1) * k := by rw [Nat.succ_mul]
                                                                                                                     _ ≤ xs.length * k := Nat.mul_le_mul_right _ hi)
  rw [flat_splice hk hi] at this
  exact this
section
variable {C : Code} {n : Nat} {df : List Deferred} {N RR : Act → World → Prop} {E : Nat → Act → World → Prop}
theorem sv {i : Nat} {o : Oper} {R : World → Prop} (ho : nth (opsL C) i = some o) (hw : Want C l o = some true) (hd : o.dst = none) (h : Sv P o l w R)
    (k : ∀ w', R w' → RL P C (i + 1) n df l w' N RR E) : RL P C i n df l w N RR E := by
  intro a ha
  rw [drop_of_nth ho]
  unfold wpList
  rw [if_pos (want_spec ha hw)]
  refine .inl ?_
  obtain ⟨w', he, hr⟩ := h _ ha.fits
  unfold Oper.wp
  rw [he]
  simp only [Oper.upon, hd]
  exact k w' hr _ ha
theorem osv {tl D : List Nat} {U : World → Prop} {f i : Nat} {o : Oper} {R : World → Prop} (ho : nth (opsL C) i = some o) (hw : Want C l o = some true) (hd : o.dst = none) (h : Sv P o l w R)
    (k : ∀ w', R w' → (noTail tl (mkL (opsL C).length (i :: D)) = false ∨ U w') ∧ DL P C tl U f (i :: D) n df l w' N RR E) : OL P C tl U f D i n df l w N RR E := by
  intro a ha
  have ho' : (opsL C).toArray[i]? = some o := by rw [List.getElem?_toArray, ← nth_eq]; exact ho
  unfold wpOp
  simp only [ho']
  rw [if_pos (want_spec ha hw)]
  refine .inl ?_
  obtain ⟨w', he, hr⟩ := h _ ha.fits
  unfold Oper.wp
  rw [he]
  simp only [Oper.upon]
  obtain ⟨hT, k'⟩ := k w' hr
  have hTT : TT tl U (mkL (opsL C).length (i :: D)) w' := fun hx => by rcases hT with h1 | h1; rw [h1] at hx; cases hx; exact h1
  rw [hd]
  exact ⟨hTT, k' hTT _ ha⟩
end
/-- A cell of an element's field, as the walk comes to it. -/
theorem cell_f {α : Type} {enc : α → List Value} {k : Nat} (hk : ∀ x, (enc x).length = k) {b i j o : Nat} {T : TypeId} {xs : List α} {u : α} {v : Value} (hb : Blk w b T (flat enc xs)) (hi : xs[i]? = some u) (ho : o = i * k + j) (hj : j < k) (hv : (enc u)[j]? = some v) : w.cell? ⟨b, o, none⟩ = some v := by
  subst ho
  exact hb.cell (by rw [flat_get hk hi hj]; exact hv)
theorem cell_e {α : Type} {enc : α → List Value} {k : Nat} (hk : ∀ x, (enc x).length = k) {b i o : Nat} {T : TypeId} {xs : List α} {u : α} (hb : Blk w b T (flat enc xs)) (hi : xs[i]? = some u) (ho : o = i * k) : ∀ j v, (enc u)[j]? = some v → w.cell? ⟨b, o + j, none⟩ = some v := by
  intro j v hv
  subst ho
  have hj : j < k := by have := (List.getElem?_eq_some_iff.1 hv).1; rwa [hk] at this
  exact hb.cell (by rw [flat_get hk hi hj]; exact hv)
theorem add_add (a : Addr) (m n : Nat) : (a.add m).add n = a.add (m + n) := by
  unfold Addr.add
  by_cases hm : m = 0
  · subst hm; simp
  · by_cases hn : n = 0
    · subst hn; simp [hm]
    · simp [hm, hn, Nat.add_assoc]
/-- An element of a slice that came in. -/
theorem x_iag {x i : Operand} {a : Addr} {len cap sz : Nat} {k : IntKind} {j : Int} {e : TypeId} (hx : ev l x = some (.slice (some a) len cap)) (hi : ev l i = some (.int k j)) (hu : P.underlying t = some (.slice e)) (hs : ∀ w, (sizeOf e).run P w = .ok sz w) (hj : 0 ≤ j ∧ j < len) :
    Ex P ⟨d, .indexAddr t x i, ty, pos, af, g⟩ l w (.pointer (some (a.add (j.toNat * sz)))) w := fun ρ h => by
  simp [execOp, h x _ hx, h i _ hi, Instr.indexAt, asIntOf, run_underlying hu, hs, hj]
theorem x_ldg {x : Operand} {ad : Addr} {n : Nat} {cs : List Value} (hx : ev l x = some (.pointer (some ad))) (ha : ∀ w, (isAgg t).run P w = .ok true w) (hs : ∀ w, (sizeOf t).run P w = .ok n w) (hl : cs.length = n) (hc : ∀ j v, cs[j]? = some v → w.cell? (ad.add j) = some v) :
    Ex P ⟨d, .load t x, ty, pos, af, g⟩ l w (.agg cs.toArray) w := fun ρ h => by
  subst hl
  have hr := run_loadCells_list (P := P) (w := w) ad cs hc
  simp [execOp, h x _ hx, Instr.loadAt, Instr.sureAddr, loadVar, ha, hs, hr]
theorem heq {ad : Addr} {v : Value} (h : w'.heap = w.heap) (hc : w.cell? ad = some v) : w'.cell? ad = some v := by
  unfold World.cell? at *
  rw [h]; exact hc
theorem heqn {b o : Nat} {cs : List Value} (h : w'.heap = w.heap) (hc : ∀ j v, cs[j]? = some v → w.cell? ⟨b, o + j, none⟩ = some v) : ∀ j v, cs[j]? = some v → w'.cell? ⟨b, o + j, none⟩ = some v := fun j v hv => heq h (hc j v hv)
theorem made_flat {α : Type} {enc : α → List Value} {k : Nat} (hk : ∀ x, (enc x).length = k) (x0 : α) (m : Nat) : madeCells (enc x0).toArray (m * k) = (flat enc (List.replicate m x0)).toArray := by
  apply Array.ext'
  apply List.ext_getElem?
  intro j
  have hz : (enc x0).toArray.size = k := by simp [hk]
  rcases Nat.lt_or_ge j (m * k) with hj | hj
  · have hk0 : 0 < k := by rcases Nat.eq_zero_or_pos k with h | h; rw [h] at hj; omega; exact h
    have h1 : j / k < m := Nat.div_lt_of_lt_mul (by rw [Nat.mul_comm]; exact hj)
    have h2 : (flat enc (List.replicate m x0))[j]? = (enc x0)[j % k]? := by
      have := flat_get hk (xs := List.replicate m x0) (i := j / k) (j := j % k) (x := x0) (by simp [h1]) (Nat.mod_lt _ hk0)
      rwa [Nat.mul_comm, Nat.div_add_mod] at this
    simp only [h2]
    have h3 : j % k < (enc x0).length := by rw [hk]; exact Nat.mod_lt _ hk0
    simp [madeCells, hz, hj, h3]
  · rw [List.getElem?_eq_none (by simp [size_madeCells, hj]), List.getElem?_eq_none (by simp [flat_length hk, hj])]
/-- make([]T, n), a block of structs all alike. -/
theorem x_mk {x y : Operand} {e : TypeId} (size bytes : Nat) (z : Value) {cs : List Value} {m : Nat} (hx : ev l x = some (.int .i64 m)) (hy : ev l y = some (.int .i64 m)) (hu : P.underlying t = some (.slice e)) (hinfo : (P.info? e).map (fun i => (i.zero, i.size, i.bytes)) = some (some z, size, bytes)) (hcs : madeCells z.cells (m * size) = cs.toArray) (hm : bytes * m ≤ 281474976710656) (hm2 : m ≤ 281474976710656) :
    Ex P ⟨d, .makeSlice t x y, ty, pos, af, g⟩ l w (.slice (some ⟨w.heap.size, 0, none⟩) m m) (w.alloc (.cells cs.toArray e)) := by
  obtain ⟨i, hi, hz, hsize, hby⟩ := info_parts hinfo
  subst hsize
  subst hby
  have := x_make (P := P) (w := w) (d := d) (ty := ty) (pos := pos) (af := af) (g := g) (k := .i64) hx hy hu hi hz hm hm2
  rwa [hcs] at this
theorem fill_set {α : Type} (a b : α) (k n : Nat) (h : k < n) : (List.replicate k a ++ List.replicate (n - k) b).set k a = List.replicate (k + 1) a ++ List.replicate (n - (k + 1)) b := by
  rw [List.set_append_right _ _ (by simp)]
  rw [show n - k = (n - (k + 1)) + 1 by omega, List.replicate_succ]
  simp [List.replicate_succ']
/-! append -/
theorem Fr.of_grown {row : Option Nat} (h : w.grownBy w' row) : Fr row.toList w w' := ⟨h.os, h.tape, h.output, h.size, fun k hk hn => h.block k hk (fun e => hn (by rw [← e]; simp))⟩
theorem Fr.grown {S : List Nat} {w0 : World} {row : Option Nat} (h : Fr S w0 w) (hg : w.grownBy w' row) (hr : ∀ k, row = some k → w0.heap.size ≤ k) : Fr S w0 w' :=
  h.trans_new (Fr.of_grown hg) (fun x hx => .inr (hr x (by cases row with | none => simp at hx | some r => simp at hx; rw [hx])))
theorem own_ge {base : Nat} {e : TypeId} {size : Nat} {v : Value} {n : Nat} {xs : List Value} (h : w.ownsRow base e size v n xs) : ∀ k, v.ownBlock = some k → base ≤ k := fun k hk => (h.lt k hk).1
theorem own_fr {S : List Nat} {base : Nat} {e : TypeId} {size : Nat} {v : Value} {n : Nat} {xs : List Value} (h : w.ownsRow base e size v n xs) (k : Fr S w w') (hS : ∀ x ∈ S, x < base) : w'.ownsRow base e size v n xs := by
  obtain ⟨hl, h | ⟨g, cap, cur, rfl, hg, hh, r⟩⟩ := h
  · exact ⟨hl, .inl h⟩
  · refine ⟨hl, .inr ⟨g, cap, cur, rfl, hg, ?_, r⟩⟩
    rw [k.keep g (Array.getElem?_eq_some_iff.1 hh).1 (fun hx => by have := hS g hx; omega)]
    exact hh
theorem own_fr0 {base : Nat} {e : TypeId} {size : Nat} {v : Value} {n : Nat} {xs : List Value} (h : w.ownsRow base e size v n xs) (k : Fr [] w w') : w'.ownsRow base e size v n xs := own_fr h k (by simp)
/-- append of one element, made by a literal in a block of its own. -/
theorem e_app {s x : Operand} {base e : Nat} (size bytes : Nat) {n m c : Nat} (z : Value) {v : Value} {xs : List Value} (news : List Value) {ad : Addr} (hx : ev l s = some v) (hy : ev l x = some (.slice (some ad) m c)) (hu : P.underlying t = some (.slice e)) (hinfo : (P.info? e).map (fun i => (i.zero, i.size, i.bytes)) = some (some z, size, bytes)) (hzs : z.cells.size = size) (hsz : 0 < size)
    (HO : w.ownsRow base e size v n xs) (hl : news.length = m * size) (hnews : ∀ j u, news[j]? = some u → w.cell? (ad.add j) = some u) (h1 : ∀ u ∈ news, u.oneCell' = true) (hb : (n + m) * bytes ≤ 140737488355328) (hnm : n + m ≤ 140737488355328) (hbase : base ≤ w.heap.size) :
    Ev P ⟨d, .call ⟨.builtin .append, #[s, x], #[t, t]⟩, ty, pos, af, g⟩ l w (fun v' w' => w'.ownsRow base e size v' (n + m) (xs ++ news) ∧ w.grownBy w' v.ownBlock ∧ (v'.ownBlock = v.ownBlock ∨ v'.ownBlock = some w.heap.size)) := fun ρ h => by
  obtain ⟨i, hi, hz, hsize, hby⟩ := info_parts hinfo
  obtain ⟨v', w', hr, ho, hg, _, hat⟩ := run_append_own_at (P := P) w base t ty e i z size bytes hu hi hz hsize hby hzs hsz v n xs HO ad m c news hl hnews h1 (by simp only [maxLen]; omega) hb hbase
  refine ⟨v', w', ?_, ho, hg, hat⟩
  simp only [execOp, resolve, invoke, builtin, h s _ hx, h x _ hy, List.map_toArray, List.map_cons, List.map_nil, hr, Sem.run_bind, Sem.run_pure, Result.andThen_ok]
theorem Blk.news {b : Nat} {T : TypeId} {cs : List Value} (h : Blk w b T cs) : ∀ j u, cs[j]? = some u → w.cell? ((⟨b, 0, none⟩ : Addr).add j) = some u := fun j u hu => by
  rw [addr_add, Nat.zero_add]; exact h.cell hu
/-- append of all of another slice. -/
theorem e_appv {s x : Operand} {base e : Nat} (size bytes : Nat) {n m c : Nat} (z : Value) {v : Value} {xs : List Value} (news : List Value) {A : Option Addr} (hx : ev l s = some v) (hy : ev l x = some (.slice A m c)) (hu : P.underlying t = some (.slice e)) (hinfo : (P.info? e).map (fun i => (i.zero, i.size, i.bytes)) = some (some z, size, bytes)) (hzs : z.cells.size = size) (hsz : 0 < size)
    (HO : w.ownsRow base e size v n xs) (hl : news.length = m * size) (hA : A = none → m = 0) (hnews : ∀ ad, A = some ad → ∀ j u, news[j]? = some u → w.cell? (ad.add j) = some u) (h1 : ∀ u ∈ news, u.oneCell' = true) (hb : (n + m) * bytes ≤ 140737488355328) (hnm : n + m ≤ 140737488355328) (hbase : base ≤ w.heap.size) :
    Ev P ⟨d, .call ⟨.builtin .append, #[s, x], #[t, t]⟩, ty, pos, af, g⟩ l w (fun v' w' => w'.ownsRow base e size v' (n + m) (xs ++ news) ∧ w.grownBy w' v.ownBlock ∧ (v'.ownBlock = v.ownBlock ∨ v'.ownBlock = some w.heap.size)) := by
  cases A with
  | some ad => exact e_app size bytes z news hx hy hu hinfo hzs hsz HO hl (hnews ad rfl) h1 hb hnm hbase
  | none =>
    intro ρ h
    have hm := hA rfl
    subst hm
    have hn0 : news = [] := List.eq_nil_of_length_eq_zero (by rw [hl]; simp)
    subst hn0
    obtain ⟨i, hi, hz, hsize, hby⟩ := info_parts hinfo
    refine ⟨v, w, ?_, by simpa using HO, ⟨rfl, rfl, rfl, Nat.le_refl _, fun _ _ _ => rfl⟩, .inl rfl⟩
    obtain ⟨_, ⟨rfl, rfl⟩ | ⟨g', cap, cur, rfl, hg, hh, hnc, r⟩⟩ := HO
    · simp [execOp, resolve, invoke, builtin, h s _ hx, h x _ hy, Builtin.append_, run_underlying hu, sizeOf, typeInfo, hi, Builtin.lenOf, Builtin.firstCells, loadCells, loadCellsFrom]
    · simp [execOp, resolve, invoke, builtin, h s _ hx, h x _ hy, Builtin.append_, run_underlying hu, sizeOf, typeInfo, hi, Builtin.lenOf, Builtin.firstCells, loadCells, loadCellsFrom, hnc, storeCells]
theorem own_lit {b base e n size : Nat} {cs : List Value} (h : Blk w b e cs) (hb : base ≤ b) (hl : cs.length = n * size) (hn : n ≤ 1000000) : w.ownsRow base e size (.slice (some ⟨b, 0, none⟩) n n) n cs :=
  ⟨hl, .inr ⟨b, n, cs.toArray, rfl, hb, h, Nat.le_refl _, by simp only [maxLen]; omega, by simpa using hl, by rw [← hl]; simp⟩⟩
def ints (xs : List Int) : List Value := xs.map (fun z => .int .i64 z)
/-- What is owned reads so. -/
theorem own_slice {base e n : Nat} {size : Nat} {v : Value} {xs : List Value} (h : w.ownsRow base e size v n xs) : ∃ A c, v = .slice A n c ∧ (xs = [] ∨ n = 0 ∨ ∃ b, A = some ⟨b, 0, none⟩ ∧ base ≤ b ∧ b < w.heap.size ∧ ∀ j u, xs[j]? = some u → w.cell? ⟨b, j, none⟩ = some u) := by
  obtain ⟨hl, ⟨rfl, rfl⟩ | ⟨g, cap, cur, rfl, hg, hh, hn, hm, hs, ht⟩⟩ := h
  · exact ⟨none, 0, rfl, .inr (.inl rfl)⟩
  · refine ⟨_, cap, rfl, .inr (.inr ⟨g, rfl, hg, (Array.getElem?_eq_some_iff.1 hh).1, fun j u hu => ?_⟩)⟩
    unfold World.cell?
    rw [show w.heap[(⟨g, j, none⟩ : Addr).block]? = _ from hh]
    rw [← ht, List.getElem?_take] at hu
    split at hu
    · simpa using hu
    · cases hu
theorem own_nil (base : Nat) (e : TypeId) (size : Nat) : w.ownsRow base e size (.slice none 0 0) 0 [] := World.ownsRow_nil w base e size
/-- A function value against nil. -/
theorem x_eqlf {x : Operand} {f : Fn} {p c : Array Value} {y : Operand} {ty2 : TypeId} {ps rs : Array TypeId} {vr : Bool} (hx : ev l x = some (.func f p c)) (hy : ev l y = some .nilFunc) (hu : P.underlying t = some (.func ps rs vr)) : Ex P ⟨d, .binOp .eql t x y ty2, ty, pos, af, g⟩ l w (.bool false) w := fun ρ h => by
  have e : (binOp .eql t (.func f p c) .nilFunc).run P w = .ok (.bool false) w := by
    have e0 : ∀ d, (Op.equalIn (d + 1) t (.func f p c) .nilFunc).run P w = .ok false w := fun d => by simp [Op.equalIn, run_underlying hu]
    have e1 : (Op.equal t (.func f p c) .nilFunc).run P w = .ok false w := e0 9999
    simp only [binOp]
    simp [e1]
  simp only [execOp, h x _ hx, h y _ hy, eqGuard_at_func, e, Sem.run_bind, Sem.run_pure, Result.andThen_ok]
theorem own_mono {base base' : Nat} {e : TypeId} {size : Nat} {v : Value} {n : Nat} {xs : List Value} (h : w.ownsRow base e size v n xs) (hb : base' ≤ base) : w.ownsRow base' e size v n xs := by
  obtain ⟨hl, h | ⟨g, cap, cur, rfl, hg, r⟩⟩ := h
  · exact ⟨hl, .inl h⟩
  · exact ⟨hl, .inr ⟨g, cap, cur, rfl, by omega, r⟩⟩
/-- Where a walk over a row stops. -/
def Stop (C : List Int → Bool) (xs : List Int) (k : Nat) : Prop := k ≤ xs.length ∧ (∀ j, 0 < j → j < k → C (xs.take j) = true) ∧ (k = xs.length ∨ 0 < k ∧ C (xs.take k) = false)
end
end Go.Proofs.YtcbkpekbfkaeeaaDoor.Sx
