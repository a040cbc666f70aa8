/- The reference of forests, over trees: what changes it, what is below. -/
import Derived.Test.YtcbkpekbfkaeeaaDoorFoX
set_option linter.unusedVariables false
set_option linter.unusedSimpArgs false
namespace Go.Proofs.YtcbkpekbfkaeeaaDoor.Fo
open Go Go.RowKit Go.Proofs.YtcbkpekbfkaeeaaDoor.Sx
open Go.Proofs.YtcbkpekbfkaeeaaDoor.Ls (mixed)
theorem flat_at {α : Type} {enc : α → List Value} {k : Nat} (hk : ∀ x, (enc x).length = k) (h0 : 0 < k) {xs : List α} {j : Nat} {u : Value} (h : (flat enc xs)[j]? = some u) : ∃ (i : Nat) (x : α) (o : Nat), xs[i]? = some x ∧ (enc x)[o]? = some u ∧ j = i * k + o := by
  have hl := (List.getElem?_eq_some_iff.1 h).1
  rw [flat_length hk] at hl
  have hi : j / k < xs.length := (Nat.div_lt_iff_lt_mul h0).2 hl
  refine ⟨j / k, xs[j / k], j % k, List.getElem?_eq_getElem hi, ?_, (Nat.div_add_mod' j k).symm⟩
  have := flat_get hk (List.getElem?_eq_getElem hi) (Nat.mod_lt j h0)
  rw [← this, Nat.div_add_mod']
  exact h
section
variable {P : Program} {Z : ZP} {R : Value → World → Prop} {w w' : World} {A : List Nat → List Value → World → Prop} {B : List Nat → Nat → List Value → World → Prop} {ds : List Nat} {k : Value → T}
/-- An empty slice literal. -/
theorem r_bs0 {T e n bytes : Nat} {z : Value} (E : El P T e n bytes z) (hk : ∀ b w', b = w.heap.size → Blk w' b e [] → Fr [] w w' → wp P Z R ds (k (.slice (some ⟨b, 0, none⟩) 0 0)) w' A B) : wp P Z R ds (.hv (Instr.buildSlice T 0 [].toArray) k) w A B := by
  exact ⟨_, _, bsl0 E.u E.s, hk _ _ rfl (Blk.alloc w e []) (Fr.alloc w _)⟩
end
section
variable {Z : ZP} {w : World} {p N : Nat} {v : Value} {L : En}
/-- What Root and Derive do at their ends. -/
theorem push_w (A : RfA w p N v L) (a b : Int) (hI : Inv N (L ++ [(a, b)])) {Q : Value → World → Prop} (hk : ∀ v' w', RfA w' p N v' (L ++ [(a, b)]) → (∀ q ∈ v'.ownBlock.toList, w.heap.size ≤ q) → Fr [p] w w' → Q (I 0) w') :
    wp Tryd.prog Z Q [] (.hv (Instr.buildSlice 65 0 [].toArray) fun v13 => nilT (Pt p 0) fun v15 => faT 1 v15 fun v16 => .ld v16 fun v17 => .hv (Builtin.append_ #[65, 65] 65 [v13, v17].toArray) fun v18 => bdT [(0, I a), (1, I b)] [(I 0), (I 0)] fun v20 => .hv (Instr.buildSlice 65 1 [(0, (.agg v20.toArray))].toArray) fun v21 => .hv (Builtin.append_ #[65, 65] 65 [v18, v21].toArray) fun v22 => nilT (Pt p 0) fun v23 => faT 1 v23 fun v24 => .ef (Instr.storeAt 65 v24 v22) (.ret (I 0))) w nA nB := by
  have hl1 := A.inv.len
  have hl2 := A.sN
  refine r_bs0 Een (fun c w1 hc Bc f1 => ?_)
  have A1 := A.fr0 f1
  obtain ⟨X, cp, rfl, hcp, hrow⟩ := A1.row
  refine r_ld (A1.top.cell (o := 1) rfl) ?_
  refine r_appO (base := 0) Een (own_lit (n := 0) (size := 2) Bc (Nat.zero_le _) rfl (by omega)) (news := flat encE L) (flat_length lenE L) (fun hX => ?_) (fun ad hX j u hj => ?_) (Lin.flat_mem1 oneE _) (by simp only [big]; omega) (Nat.zero_le _) (fun v2 w2 O2 f2 hob2 => ?_)
  · subst hX
    rcases Nat.eq_zero_or_pos L.length with h0 | h0
    · exact h0
    · obtain ⟨z, hz⟩ := gt h0
      obtain ⟨_, h1, _⟩ := hrow 0 z hz
      cases h1
  · obtain ⟨i, e, o, he, ho, rfl⟩ : ∃ (i : Nat) (e : Int × Int) (o : Nat), L[i]? = some e ∧ (encE e)[o]? = some u ∧ j = i * 2 + o := flat_at lenE (by omega) hj
    obtain ⟨ad', h1, h2⟩ := hrow i e he
    rw [hX] at h1
    cases h1
    have := h2.2 o u ho
    rw [addA_eq, addA_eq, add_add] at this
    rw [addA_eq]
    exact this
  have hb2 : ∀ q ∈ v2.ownBlock.toList, w.heap.size ≤ q := fun q hq => by
    rcases hob2 with h | h
    · rw [h] at hq; simp [Value.ownBlock] at hq; omega
    · rw [h] at hq; simp at hq; subst hq; exact f1.size
  have f2' : Fr [] w w2 := f1.trans_new f2 (fun q hq => .inr (by simp [Value.ownBlock] at hq; omega))
  refine r_bs1 Een (cs := encE (a, b)) (fun d w3 hd Bd f3 => ?_)
  refine r_appO Een (own_fr0 O2 f3) (m := 1) (news := encE (a, b)) rfl (by simp) (fun ad he j u hj => ?_) (oneE _) (by simp only [big]; omega) (Nat.zero_le _) (fun v4 w4 O4 f4 hob4 => ?_)
  · cases he; exact Bd.rd.2 j u hj
  have hb4 : ∀ q ∈ v4.ownBlock.toList, w.heap.size ≤ q := fun q hq => by
    rcases hob4 with h | h
    · exact hb2 q (h ▸ hq)
    · rw [h] at hq; simp at hq; subst hq; exact Nat.le_trans f2'.size f3.size
  have f4' : Fr [] w w4 := (f2'.trans f3).trans_new f4 (fun q hq => .inr (hb2 q hq))
  have A4 := A.fr0 f4'
  have hp := A.top.lt
  obtain ⟨X4, cp4, rfl, _⟩ := own_slice O4
  refine r_st1 A4.top Tryd.sizeOf65 (fun w5 B5 f5 => ?_)
  refine r_ret (hk _ _ ⟨B5, ?_, fun hq => by have := hb4 p hq; omega, hI, A.sN⟩ hb4 ((f4'.mono (by simp)).trans f5))
  have e1 : [] ++ flat encE L ++ encE (a, b) = flat encE (L ++ [(a, b)]) := by simp [flat]
  have O5 := own_f O4 f5 (fun q hq hb => by simp at hb; have := hb4 q hq; omega)
  rw [e1] at O5
  unfold Ow
  simpa using O5
theorem rRoot_t (A : RfA w p N v L) (n : Int) : Cz Tryd.prog 27 [Pt p 0, I n] w (fun r w' => r = I (fRoot N L n).2 ∧ ∃ v', RfA w' p N v' (fRoot N L n).1 ∧ (v'.ownBlock = v.ownBlock ∨ ∀ q ∈ v'.ownBlock.toList, w.heap.size ≤ q) ∧ Fr [p] w w') Z := by
  refine go mixed Tryd.func27 Tryd.call27 rfl (Tr.e27 _ _) ?_
  unfold fRoot
  refine r_call (ris_t A n) ?_
  rintro _ w1 ⟨rfl, F⟩
  refine r_ifn (fun h => ?_) (fun h => ?_)
  · rw [if_pos h]; exact r_ret ⟨rfl, v, A.fr0 F, .inl rfl, F.mono (by simp)⟩
  rw [if_neg (fun h' => h' h)]
  refine r_call (rHas_t (A.fr0 F) n) ?_
  rintro _ w2 ⟨rfl, F2⟩
  have A2 := (A.fr0 F).fr0 F2
  have F02 := F.trans F2
  refine r_ifb (fun hh => ?_) (fun hh => ?_)
  · rw [if_pos hh]; exact r_ret ⟨rfl, v, A2, .inl rfl, F02.mono (by simp)⟩
  rw [if_neg (by rw [hh]; simp)]
  refine push_w A2 n (-1) (inv_snoc A.inv h hh (.inl rfl)) (fun v' w' A' hb f => ⟨rfl, v', A', .inr (fun q hq => Nat.le_trans F02.size (hb q hq)), (F02.mono (by simp)).trans f⟩)
theorem rDerive_t (A : RfA w p N v L) (q n : Int) : Cz Tryd.prog 28 [Pt p 0, I q, I n] w (fun r w' => r = I (fDer N L q n).2 ∧ ∃ v', RfA w' p N v' (fDer N L q n).1 ∧ (v'.ownBlock = v.ownBlock ∨ ∀ q ∈ v'.ownBlock.toList, w.heap.size ≤ q) ∧ Fr [p] w w') Z := by
  refine go mixed Tryd.func28 Tryd.call28 rfl (Tr.e28 _ _ _) ?_
  unfold fDer
  refine r_call (ris_t A q) ?_
  rintro _ w1 ⟨rfl, F⟩
  refine r_ifn (fun h => ?_) (fun h => ?_)
  · rw [if_pos (fun h' => h h'.2)]; exact r_ret ⟨rfl, v, A.fr0 F, .inl rfl, F.mono (by simp)⟩
  refine r_call (ris_t (A.fr0 F) n) ?_
  rintro _ w2 ⟨rfl, F2⟩
  have A2 := (A.fr0 F).fr0 F2
  have F02 := F.trans F2
  refine r_ifn (fun h2 => ?_) (fun h2 => ?_)
  · rw [if_pos (fun h' => h2 h'.1)]; exact r_ret ⟨rfl, v, A2, .inl rfl, F02.mono (by simp)⟩
  rw [if_neg (fun h' => h' ⟨h2, h⟩)]
  refine r_call (rHas_t A2 n) ?_
  rintro _ w3 ⟨rfl, F3⟩
  have A3 := A2.fr0 F3
  have F03 := F02.trans F3
  refine r_ifb (fun hh => ?_) (fun hh => ?_)
  · rw [if_pos hh]; exact r_ret ⟨rfl, v, A3, .inl rfl, F03.mono (by simp)⟩
  rw [if_neg (by rw [hh]; simp)]
  refine r_call (rHas_t A3 q) ?_
  rintro _ w4 ⟨rfl, F4⟩
  have A4 := A3.fr0 F4
  have F04 := F03.trans F4
  refine r_ifbn (fun hq => ?_) (fun hq => ?_)
  · rw [if_pos hq]; exact r_ret ⟨rfl, v, A4, .inl rfl, F04.mono (by simp)⟩
  rw [if_neg (by rw [hq]; simp)]
  refine push_w A4 n q (inv_snoc A.inv h2 hh (.inr hq)) (fun v' w' A' hb f => ⟨rfl, v', A', .inr (fun q hq => Nat.le_trans F04.size (hb q hq)), (F04.mono (by simp)).trans f⟩)
end
end Go.Proofs.YtcbkpekbfkaeeaaDoor.Fo
