/- What slices' own functions need: clear, == nil, rows with room behind them. No program here. -/
import Derived.Test.YtcbkpekbfkaeeaaDoorLnC
import Derived.Lib.SliceRun
set_option linter.unusedVariables false
set_option linter.unusedSimpArgs false
namespace Go.Proofs.YtcbkpekbfkaeeaaDoor.Sx
open Go Go.RowKit
section
variable {P : Program} {C : Code} {l : Env} {w w' : World} {n : Nat} {df : List Deferred} {N RR : Act → World → Prop} {E : Nat → Act → World → Prop} {d : Option Tmp} {ty t : TypeId} {pos : String} {af : Array Edge} {g : Option (Nat × Bool)}
/-- What makes something, and yields nothing. -/
theorem sen {i : Nat} {o : Oper} {R : Value → World → Prop} (ho : nth (opsL C) i = some o) (hw : Want C l o = some true) (hd : o.dst = none) (h : Ev P o l w R)
    (k : ∀ v w', R v w' → RL P C (i + 1) n df l w' N RR E) : RL P C i n df l w N RR E := by
  intro a ha
  rw [drop_of_nth ho]
  unfold wpList
  rw [if_pos (want_spec ha hw)]
  refine .inl ?_
  obtain ⟨v, w', he, hr⟩ := h _ ha.fits
  unfold Oper.wp
  rw [he]
  simp only [Oper.upon, hd]
  exact k v w' hr _ ha
/-- s == nil -/
theorem x_eqsn {x y : Operand} {A : Option Addr} {m c : Nat} {e ty2 : TypeId} (hx : ev l x = some (.slice A m c)) (hy : ev l y = some (.slice none 0 0)) (hu : P.underlying t = some (.slice e)) : Ex P ⟨d, .binOp .eql t x y ty2, ty, pos, af, g⟩ l w (.bool A.isNone) w := fun ρ h => by
  have hg : (eqGuard .eql t x y (.slice A m c) (.slice none 0 0)).run P w = .ok () w := by unfold eqGuard; cases A <;> simp
  have hb := Lib.run_eql_slice_nil (P := P) w t e A m c 0 0 hu
  simp only [execOp, h x _ hx, h y _ hy, hg, hb, Sem.run_bind, Sem.run_pure, Result.andThen_ok]
theorem zc_one {zc : Array Value} (hz : ∀ v ∈ zc.toList, v.oneCell' = true) (h0 : 0 < zc.size) (m : Nat) : ∀ v ∈ (Builtin.zeroCells zc m).toList, v.oneCell' = true := by
  intro v hv
  unfold Builtin.zeroCells at hv
  simp only [Array.toList_map, List.mem_map] at hv
  obtain ⟨i, _, rfl⟩ := hv
  have hi := Nat.mod_lt i h0
  rw [getElem!_pos zc (i % zc.size) hi]
  exact hz _ (by simp)
theorem zc_len (zc : Array Value) (m : Nat) : (Builtin.zeroCells zc m).toList.length = m * zc.size := by simp [Builtin.zeroCells]
theorem splice_take (vs : List Value) : ∀ (cs : List Value) (o j : Nat), j ≤ o → (splice cs o vs).take j = cs.take j := by
  induction vs with
  | nil => intro cs o j _; rfl
  | cons v r ih =>
    intro cs o j h
    show (splice (cs.set o v) (o + 1) r).take j = _
    rw [ih _ _ _ (by omega), List.take_set_of_le h]
/-- clear of what lies behind the first j of a slice's elements. -/
theorem e_clear {x : Operand} {b m c j sz : Nat} {z : Value} {e T : TypeId} {cs : List Value} (hx : ev l x = some (.slice (if c = j then (some ⟨b, 0, none⟩ : Option Addr) else (some ⟨b, 0, none⟩ : Option Addr).map (·.add (j * sz))) (m - j) (c - j))) (hu : P.underlying t = some (.slice e)) (hz : ∀ w, (zeroValue e).run P w = .ok z w) (hsz : z.cells.size = sz) (h0 : 0 < sz) (h1 : ∀ v ∈ z.cells.toList, v.oneCell' = true)
    (hb : Blk w b T cs) (hj : j ≤ m) (hc : m ≤ c) (hl : m * sz ≤ cs.length) : Ev P ⟨d, .call ⟨.builtin .clear, #[x], #[t]⟩, ty, pos, af, g⟩ l w (fun _ w' => (∃ cs', Blk w' b T cs' ∧ cs'.length = cs.length ∧ cs'.take (j * sz) = cs.take (j * sz)) ∧ Fr [b] w w') := fun ρ h => by
  have hv := h x _ hx
  by_cases hm : m = j
  · subst hm
    rw [Nat.sub_self] at hv
    refine ⟨.tuple #[], w, ?_, ⟨cs, hb, rfl, rfl⟩, Fr.refl _ _⟩
    cases hA : (if c = m then (some ⟨b, 0, none⟩ : Option Addr) else (some ⟨b, 0, none⟩ : Option Addr).map (·.add (m * sz))) with
    | none => rw [hA] at hv; simp [execOp, resolve, invoke, hv, builtin, Builtin.clear_, run_underlying hu]
    | some a => rw [hA] at hv; simp [execOp, resolve, invoke, hv, builtin, Builtin.clear_, run_underlying hu]
  · rw [if_neg (by omega)] at hv
    simp only [Option.map_some, addr_add, Nat.zero_add] at hv
    have hle : j * sz + (m - j) * sz = m * sz := by rw [← Nat.add_mul, Nat.add_sub_cancel' hj]
    obtain ⟨w', hr, hb', hf⟩ := run_splice (P := P) (Builtin.zeroCells z.cells (m - j)).toList (zc_one h1 (by omega) _) (j * sz) 0 w cs hb (by rw [zc_len, hsz]; omega)
    refine ⟨.tuple #[], w', ?_, ⟨_, hb', splice_length _ _ _, splice_take _ _ _ _ (Nat.le_refl _)⟩, hf⟩
    obtain ⟨k, hk⟩ : ∃ k, m - j = k + 1 := ⟨m - j - 1, by omega⟩
    rw [hk] at hv hr
    simp [execOp, resolve, invoke, hv, builtin, Builtin.clear_, run_underlying hu, hz, hr]
section
variable {α : Type} {enc : α → List Value} {k : Nat}
theorem flat_app2 (xs ys : List α) : flat enc (xs ++ ys) = flat enc xs ++ flat enc ys := by simp [flat]
theorem splice_app (vs : List Value) : ∀ (a rest : List Value) (o : Nat), o + vs.length ≤ a.length → splice (a ++ rest) o vs = splice a o vs ++ rest := by
  induction vs with
  | nil => intro a rest o _; rfl
  | cons v r ih =>
    intro a rest o h
    simp only [List.length_cons] at h
    show splice ((a ++ rest).set o v) (o + 1) r = splice (a.set o v) (o + 1) r ++ rest
    rw [List.set_append_left _ _ (by omega)]
    exact ih _ _ _ (by simp; omega)
theorem cellR (hk : ∀ x, (enc x).length = k) {b : Nat} {T : TypeId} {M : List α} {rest : List Value} (hb : Blk w b T (flat enc M ++ rest)) {j : Nat} {x : α} (hx : M[j]? = some x) : ∀ i v, (enc x)[i]? = some v → w.cell? ⟨b, j * k + i, none⟩ = some v := by
  intro i v hv
  have hi : i < k := by have := (List.getElem?_eq_some_iff.1 hv).1; rwa [hk] at this
  have hf := flat_get hk hx hi
  rw [hv] at hf
  exact hb.cell (by rw [List.getElem?_append_left (List.getElem?_eq_some_iff.1 hf).1]; exact hf)
theorem mul_lt {i n k : Nat} (h : i < n) : i * k + k ≤ n * k := calc i * k + k = (i + 1) * k := by rw [Nat.succ_mul]
    _ ≤ n * k := Nat.mul_le_mul_right _ h
theorem v_rn (hk : ∀ x, (enc x).length = k) {x y : Operand} {b i : Nat} {T : TypeId} {M : List α} {rest : List Value} (u : α) (hx : ev l x = some (.pointer (some ⟨b, i * k, none⟩))) (hy : ev l y = some (.agg (enc u).toArray)) (hv : ∀ v ∈ enc u, v.oneCell' = true) (hs : ∀ w, (sizeOf t).run P w = .ok k w) (hb : Blk w b T (flat enc M ++ rest)) (hi : i < M.length) :
    Sv P ⟨none, .store t x y, ty, pos, af, g⟩ l w (fun w' => Blk w' b T (flat enc (M.set i u) ++ rest) ∧ Fr [b] w w') := by
  have hle : i * k + k ≤ (flat enc M).length := by rw [flat_length hk]; exact mul_lt hi
  have := v_n (P := P) (ty := ty) (pos := pos) (af := af) (g := g) hx hy hv hs (hk u) hb (by rw [List.length_append]; omega)
  rw [splice_app _ _ _ _ (by rw [hk]; exact hle), flat_splice hk hi] at this
  exact this
theorem v_r1 {x y : Operand} {b i : Nat} {T : TypeId} {M : List α} {rest : List Value} (u : α) {v : Value} (hk : ∀ x, (enc x).length = 1) (he : enc u = [v]) (hx : ev l x = some (.pointer (some ⟨b, i * 1, none⟩))) (hy : ev l y = some v) (h1 : v.cells = #[v]) (hv : v.oneCell' = true) (hs : ∀ w, (sizeOf t).run P w = .ok 1 w) (hb : Blk w b T (flat enc M ++ rest)) (hi : i < M.length) :
    Sv P ⟨none, .store t x y, ty, pos, af, g⟩ l w (fun w' => Blk w' b T (flat enc (M.set i u) ++ rest) ∧ Fr [b] w w') := by
  have hle : i * 1 < (flat enc M).length := by rw [flat_length hk]; omega
  have := v_1 (P := P) (ty := ty) (pos := pos) (af := af) (g := g) hx hy h1 hv hs hb (by rw [List.length_append]; omega)
  rw [List.set_append_left _ _ hle] at this
  have e : (flat enc M).set (i * 1) v = flat enc (M.set i u) := by
    have := flat_splice hk hi u
    rw [he] at this
    exact this
  rw [e] at this
  exact this
theorem take_flat (hk : ∀ x, (enc x).length = k) (M : List α) (rest : List Value) {i : Nat} (hi : i ≤ M.length) : (flat enc M ++ rest).take (i * k) = flat enc (M.take i) := by
  have h1 : flat enc M = flat enc (M.take i) ++ flat enc (M.drop i) := by rw [← flat_app2, List.take_append_drop]
  have h2 : (flat enc (M.take i)).length = i * k := by rw [flat_length hk, List.length_take, Nat.min_eq_left hi]
  rw [h1, List.append_assoc, ← h2, List.take_left']
  rfl
theorem own_blk {B e n c : Nat} {A : Option Addr} {l : List α} (hk : ∀ x, (enc x).length = k) (h : w.ownsRow B e k (.slice A n c) n (flat enc l)) (hne : l ≠ []) (h0 : 0 < k) : ∃ b rest, A = some ⟨b, 0, none⟩ ∧ B ≤ b ∧ Blk w b e (flat enc l ++ rest) ∧ n = l.length ∧ n ≤ c := by
  obtain ⟨hl, ⟨h1, rfl⟩ | ⟨g, cap, cur, e1, hg, hh, hn, hm, hs, ht⟩⟩ := h
  · rw [Nat.zero_mul, flat_length hk] at hl
    rcases Nat.mul_eq_zero.1 hl with h | h
    · exact absurd (List.eq_nil_of_length_eq_zero h) hne
    · omega
  · injection e1 with e2 e3 e4
    subst e2
    rw [flat_length hk] at hl
    refine ⟨g, cur.toList.drop (n * k), rfl, hg, ?_, (Nat.eq_of_mul_eq_mul_right h0 hl).symm, by omega⟩
    unfold Blk
    rw [hh, ← ht, List.take_append_drop]
end
end
theorem drop_get {α : Type} {M l : List α} {j : Nat} (h : M.drop j = l.drop j) : M[j]? = l[j]? := by
  have h2 : (M.drop j)[0]? = (l.drop j)[0]? := by rw [h]
  rwa [List.getElem?_drop, List.getElem?_drop, Nat.add_zero] at h2
/-- The first of those that are asked for. -/
def idxI {α : Type} (p : α → Bool) (l : List α) : Int := match l.findIdx? p with | some i => i | none => -1
section
variable {α : Type} {p : α → Bool} {l : List α}
theorem idxI_none (h : ∀ x ∈ l, p x = false) : idxI p l = -1 := by
  unfold idxI
  rw [List.findIdx?_eq_none_iff.2 h]
theorem idxI_at {i : Nat} {x : α} (h : ∀ (j : Nat) y, j < i → l[j]? = some y → p y = false) (hx : l[i]? = some x) (hp : p x = true) : idxI p l = i := by
  unfold idxI
  obtain ⟨hi, e⟩ := List.getElem?_eq_some_iff.1 hx
  rw [List.findIdx?_eq_some_iff_getElem.2 ⟨hi, by rw [e]; exact hp, fun j hj => by rw [h j _ hj (List.getElem?_eq_getElem (by omega))]; decide⟩]
theorem idxI_neg (h : idxI p l = -1) : l.filter (fun x => !p x) = l := by
  unfold idxI at h
  cases hf : l.findIdx? p with
  | some i => rw [hf] at h; dsimp only at h; omega
  | none =>
    rw [List.findIdx?_eq_none_iff] at hf
    exact List.filter_eq_self.2 (fun x hx => by rw [hf x hx]; rfl)
theorem idxI_pos (h : ¬ idxI p l = -1) : ∃ (i : Nat) (x : α), idxI p l = i ∧ l[i]? = some x ∧ p x = true ∧ (l.take (i + 1)).filter (fun x => !p x) = l.take i := by
  cases hf : l.findIdx? p with
  | none => exact absurd (by unfold idxI; rw [hf]) h
  | some i =>
    obtain ⟨hi, hp, hj⟩ := List.findIdx?_eq_some_iff_getElem.1 hf
    refine ⟨i, l[i], by unfold idxI; rw [hf], List.getElem?_eq_getElem hi, hp, ?_⟩
    rw [List.take_add_one, List.getElem?_eq_getElem hi, List.filter_append]
    have h1 : (l.take i).filter (fun x => !p x) = l.take i := List.filter_eq_self.2 (fun x hx => by
      obtain ⟨j, hj1, rfl⟩ := List.getElem_of_mem hx
      rw [List.length_take] at hj1
      have := hj j (by omega)
      rw [List.getElem_take]
      simpa using this)
    rw [h1]
    simp [hp]
end
end Go.Proofs.YtcbkpekbfkaeeaaDoor.Sx
namespace Go.Proofs.YtcbkpekbfkaeeaaDoor.Lin
open Go Go.RowKit Go.Proofs.YtcbkpekbfkaeeaaDoor.Sx
/-- A step of the search's queue, by places. -/
def pstep (l : List D) (p : List Int) (i : Int) : Option (List Int) :=
  if (atI l i).kind = 1 then some (p ++ [i])
  else if (atI l i).kind = 2 then (match p with | [] => none | x :: r => if (atI l x).pay = (atI l i).pay then some r else none)
  else if (atI l i).kind = 3 then (if p = [] then some p else none)
  else some (p.filter fun x => decide ((atI l x).lane ≠ (atI l i).lane))
section
variable {l : List D} {p r : List Int} {i x : Int}
theorem pstep_1 (h : (atI l i).kind = 1) : pstep l p i = some (p ++ [i]) := if_pos h
theorem pstep_2y (h : (atI l i).kind = 2) (hp : (atI l x).pay = (atI l i).pay) : pstep l (x :: r) i = some r := by unfold pstep; rw [if_neg (by omega), if_pos h]; simp [hp]
theorem pstep_2n (h : (atI l i).kind = 2) (hp : ¬ (atI l x).pay = (atI l i).pay) : pstep l (x :: r) i = none := by unfold pstep; rw [if_neg (by omega), if_pos h]; simp [hp]
theorem pstep_20 (h : (atI l i).kind = 2) : pstep l [] i = none := by unfold pstep; rw [if_neg (by omega), if_pos h]
theorem pstep_3 (h : (atI l i).kind = 3) : pstep l p i = if p = [] then some p else none := by unfold pstep; rw [if_neg (by omega), if_neg (by omega), if_pos h]
theorem pstep_4 (h1 : ¬ (atI l i).kind = 1) (h2 : ¬ (atI l i).kind = 2) (h3 : ¬ (atI l i).kind = 3) : pstep l p i = some (p.filter fun x => decide ((atI l x).lane ≠ (atI l i).lane)) := by unfold pstep; rw [if_neg h1, if_neg h2, if_neg h3]
theorem pstep_q (l : List D) (p : List Int) (i : Int) : qstep (prow l p) (atI l i) = (pstep l p i).map (prow l) := by
  unfold qstep pstep
  split
  · simp [prow]
  · split
    · cases p with
      | nil => rfl
      | cons x r =>
        show (if (atI l x).pay = (atI l i).pay then some (prow l r) else none) = _
        dsimp only
        split <;> rfl
    · split
      · cases p <;> simp [prow]
      · simp only [Option.map_some, prow, List.filter_map]
        rfl
end
def PQ (w : World) (r : Value) (o : Option (List Int)) : Prop := ∃ v, r = .tuple #[v, .bool o.isSome] ∧ ∀ q, o = some q → SlG encI 1 w v q
theorem PQ.yes {w : World} {v : Value} {o : Option (List Int)} {q : List Int} (h : o = some q) (hs : SlG encI 1 w v q) : PQ w (.tuple #[v, .bool true]) o := by subst h; exact ⟨_, rfl, fun q' e => by injection e with e; exact e ▸ hs⟩
theorem PQ.no {w : World} {v : Value} {o : Option (List Int)} (h : o = none) : PQ w (.tuple #[v, .bool false]) o := by subst h; exact ⟨_, rfl, fun _ e => by cases e⟩
end Go.Proofs.YtcbkpekbfkaeeaaDoor.Lin
