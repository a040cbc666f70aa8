/- The reference of forests, over trees. -/
import Derived.Test.YtcbkpekbfkaeeaaDoorFoU
set_option linter.unusedVariables false
set_option linter.unusedSimpArgs false
namespace Go.Proofs.YtcbkpekbfkaeeaaDoor.Fo
open Go Go.RowKit Go.Proofs.YtcbkpekbfkaeeaaDoor.Sx
open Go.Proofs.YtcbkpekbfkaeeaaDoor.Ls (mixed)
def encE (e : Int × Int) : List Value := [I e.1, I e.2]
theorem lenE (e : Int × Int) : (encE e).length = 2 := rfl
theorem oneE (e : Int × Int) : ∀ v ∈ encE e, v.oneCell' = true := by intro v hv; simp only [encE, List.mem_cons, List.not_mem_nil, or_false] at hv; rcases hv with rfl | rfl <;> rfl
theorem Een : El Tryd.prog 65 71 2 16 (.agg #[I 0, I 0]) := ⟨by kernel_rfl, by kernel_rfl, Tryd.sizeOf71, Tryd.zeroValue71, rfl⟩
/-- The reference's forest in memory. -/
structure RfA (w : World) (p N : Nat) (v : Value) (L : En) : Prop where
  top : Blk w p 67 [I N, v]
  own : Ow encE 2 71 0 w v L
  nb : p ∉ v.ownBlock.toList
  inv : Inv N L
  sN : N ≤ 1024
section
variable {w w' : World} {p N : Nat} {v : Value} {L : En}
theorem RfA.fr {S : List Nat} (A : RfA w p N v L) (f : Fr S w w') (h : ∀ q ∈ p :: v.ownBlock.toList, q ∉ S) : RfA w' p N v L := ⟨A.top.fr f (h p (by simp)), own_f A.own f (fun q hq => h q (by simp [hq])), A.nb, A.inv, A.sN⟩
theorem RfA.fr0 (A : RfA w p N v L) (f : Fr [] w w') : RfA w' p N v L := A.fr f (by simp)
theorem RfA.lt (A : RfA w p N v L) : ∀ q ∈ p :: v.ownBlock.toList, q < w.heap.size := fun q hq => by
  rcases List.mem_cons.1 hq with rfl | hq
  · exact A.top.lt
  · exact (own_lt A.own q hq).2
theorem RfA.row (A : RfA w p N v L) : ∃ X c, v = .slice X L.length c ∧ L.length ≤ c ∧ ∀ (j : Nat) e, L[j]? = some e → ∃ ad, X = some ad ∧ Rd w 2 (addA ad (j * 2)) (encE e) := by
  have h1 := A.inv.len
  have h2 := A.sN
  obtain ⟨X, c, h3, h4, _, h5⟩ := Ow.row (hl := lenE) (h1 := oneE) A.own (by omega) (by simp only [big]; omega)
  refine ⟨X, c, h3, h4, fun j e he => ?_⟩
  obtain ⟨ad, es, hX, hr, rfl⟩ := h5 j e he
  exact ⟨ad, hX, hr⟩
end
section
variable {Z : ZP} {w : World} {p N : Nat} {v : Value} {L : En}
theorem ris_t (A : RfA w p N v L) (n : Int) : Cz Tryd.prog 43 [Pt p 0, I n] w (fun r w' => r = B (decide (okF N n)) ∧ Fr [] w w') Z := by
  refine go mixed Tryd.func43 Tryd.call43 rfl (Tr.e43 _ _) ?_
  refine r_if (fun h => ?_) (fun h => ?_)
  · refine r_ld (A.top.cell (o := 0) rfl) ?_
    refine r_ret ⟨?_, Fr.refl _ _⟩
    have : okF N n ↔ n < (N : Int) := ⟨fun h => h.2, fun h2 => ⟨h, h2⟩⟩
    simp only [this]
  · refine r_ret ⟨?_, Fr.refl _ _⟩
    rw [decide_eq_false (fun h2 => h h2.1)]
def fFind (L : En) (n : Int) : Int := if has L n = true then (idx L n : Int) else -1
theorem find_t (A : RfA w p N v L) (n : Int) : Cz Tryd.prog 46 [Pt p 0, I n] w (fun r w' => r = I (fFind L n) ∧ Fr [] w w') Z := by
  refine go mixed Tryd.func46 Tryd.call46 rfl (Tr.e46 _ _) ?_
  have hl1 := A.inv.len
  have hl2 := A.sN
  refine r_loop (fun (i : Nat) => [I (i : Int), I 0]) (fun i w' => i ≤ L.length ∧ (∀ (j : Nat) e, j < i → L[j]? = some e → ¬ e.1 = n) ∧ Fr [] w w') (fun i => L.length - i) 0 ⟨Nat.zero_le _, fun _ _ h => by omega, Fr.refl _ _⟩ rfl ?_
  rintro i w1 ⟨hi, hno, F⟩
  have A1 := A.fr0 F
  obtain ⟨X, c, rfl, hc, hrow⟩ := A1.row
  refine r_ld (A1.top.cell (o := 1) rfl) ?_
  refine r_if (fun h => ?_) (fun h => ?_)
  · refine r_ld (A1.top.cell (o := 1) rfl) ?_
    refine r_ob ⟨by omega, by omega⟩ ?_
    obtain ⟨e, he⟩ := gt (xs := L) (j := i) (by omega)
    obtain ⟨ad, rfl, hr⟩ := hrow i e he
    refine r_ld (hr.2 0 _ rfl) ?_
    refine r_if (fun hx => ?_) (fun hx => ?_)
    · refine r_ret ⟨?_, F⟩
      obtain ⟨a, q⟩ := e
      simp only at hx
      subst hx
      unfold fFind
      rw [if_pos (has_iff.2 ⟨q, List.mem_of_getElem? he⟩), A.inv.idx_eq he]; rfl
    · refine r_ar (by omega) ?_
      refine r_ag (i + 1) ⟨by omega, fun j e' hj he' => ?_, F⟩ (by omega) rfl
      rcases Nat.lt_or_ge j i with h' | h'
      · exact hno j e' h' he'
      · obtain rfl : j = i := by omega
        rw [he] at he'; cases he'; exact hx
  · refine r_brk (r_ret ⟨?_, F⟩)
    unfold fFind
    rw [if_neg]
    intro hh
    obtain ⟨q, hq⟩ := has_iff.1 hh
    obtain ⟨j, hj⟩ := List.getElem?_of_mem hq
    have := (List.getElem?_eq_some_iff.1 hj).1
    exact hno j _ (by omega) hj rfl
theorem rHas_t (A : RfA w p N v L) (n : Int) : Cz Tryd.prog 32 [Pt p 0, I n] w (fun r w' => r = B (has L n) ∧ Fr [] w w') Z := by
  refine go mixed Tryd.func32 Tryd.call32 rfl (Tr.e32 _ _) ?_
  refine r_call (find_t A n) ?_
  rintro _ w1 ⟨rfl, F⟩
  refine r_ret ⟨?_, F⟩
  unfold fFind
  cases h : has L n with
  | true => rw [if_pos rfl, decide_eq_true (by omega)]
  | false => rw [if_neg (by simp)]; rfl
theorem rasked_t (A : RfA w p N v L) (n : Int) : Cz Tryd.prog 44 [Pt p 0, I n] w (fun r w' => r = I (fAsk N L n) ∧ Fr [] w w') Z := by
  refine go mixed Tryd.func44 Tryd.call44 rfl (Tr.e44 _ _) ?_
  refine r_call (ris_t A n) ?_
  rintro _ w1 ⟨rfl, F⟩
  unfold fAsk
  refine r_ifn (fun h => ?_) (fun h => ?_)
  · rw [if_pos h]; exact r_ret ⟨rfl, F⟩
  rw [if_neg (fun h' => h' h)]
  refine r_call (rHas_t (A.fr0 F) n) ?_
  rintro _ w2 ⟨rfl, F2⟩
  refine r_ifbn (fun h => ?_) (fun h => ?_)
  · rw [if_pos h]; exact r_ret ⟨rfl, F.trans F2⟩
  · rw [if_neg (by rw [h]; simp)]; exact r_ret ⟨rfl, F.trans F2⟩
theorem rParent_t (A : RfA w p N v L) (n : Int) : Cz Tryd.prog 31 [Pt p 0, I n] w (fun r w' => r = .tuple #[I (fPar L n).1, B (fPar L n).2] ∧ Fr [] w w') Z := by
  refine go mixed Tryd.func31 Tryd.call31 rfl (Tr.e31 _ _) ?_
  refine r_call (find_t A n) ?_
  rintro _ w1 ⟨rfl, F⟩
  have A1 := A.fr0 F
  cases hh : has L n with
  | false =>
    have e : fFind L n = -1 := by unfold fFind; rw [if_neg (by rw [hh]; simp)]
    have e2 : fPar L n = (0, false) := by unfold fPar; rw [par_none hh]
    rw [e, e2]
    exact r_ret ⟨rfl, F⟩
  | true =>
    have e : fFind L n = idx L n := by unfold fFind; rw [if_pos hh]
    obtain ⟨q, hq⟩ := has_iff.1 hh
    obtain ⟨i, hi⟩ := List.getElem?_of_mem hq
    have e3 := A.inv.idx_eq hi
    rw [e, e3]
    have hl := (List.getElem?_eq_some_iff.1 hi).1
    obtain ⟨X, c, rfl, hc, hrow⟩ := A1.row
    obtain ⟨ad, rfl, hr⟩ := hrow i _ hi
    refine r_ld (A1.top.cell (o := 1) rfl) ?_
    refine r_ob ⟨by omega, by omega⟩ ?_
    refine r_ld (hr.2 1 _ rfl) ?_
    have e2 : fPar L n = if q < 0 then (0, false) else (q, true) := by unfold fPar; rw [A.inv.par_eq hq]
    rw [e2]
    refine r_if (fun h => ?_) (fun h => ?_)
    · rw [if_pos h]; exact r_ret ⟨rfl, F⟩
    rw [if_neg h]
    refine r_ld (A1.top.cell (o := 1) rfl) ?_
    refine r_ob ⟨by omega, by omega⟩ ?_
    refine r_ld (hr.2 1 _ rfl) ?_
    exact r_ret ⟨rfl, F⟩
end
end Go.Proofs.YtcbkpekbfkaeeaaDoor.Fo
