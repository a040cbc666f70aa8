/- The law of forests, over trees: both side by side, a step, what is told; the example; forests made by calls. -/
import Derived.Test.YtcbkpekbfkaeeaaDoorFoL
set_option linter.unusedVariables false
set_option linter.unusedSimpArgs false
namespace Go.Proofs.YtcbkpekbfkaeeaaDoor.Fo
open Go Go.RowKit Go.Proofs.YtcbkpekbfkaeeaaDoor.Sx
open Go.Proofs.YtcbkpekbfkaeeaaDoor.Ls (mixed new_r Glb)
/-- Both forests. -/
structure Bo (w : World) (k : FK) (N : Nat) (L : En) (p : Nat) (v : Value) : Prop where
  F : FoR w k N L []
  R : RfA w p N v L
  ap : ∀ q ∈ p :: v.ownBlock.toList, q ∉ 0 :: k.ids
theorem Bo.up {w w' : World} {k : FK} {N : Nat} {L : En} {p : Nat} {v : Value} (H : Bo w k N L p v) (f : Fr [] w w') : Bo w' k N L p v := ⟨H.F.fr0 f, H.R.fr0 f, H.ap⟩
theorem Bo.prog {w w' : World} {k : FK} {N : Nat} {L : En} {p : Nat} {v : Value} (H : Bo w k N L p v) (f : Fr k.ids w w') : RfA w' p N v L := H.R.fr f (fun q hq hk => H.ap q hq (List.mem_cons_of_mem _ hk))
theorem Bo.ref {w0 w w' : World} {k : FK} {N : Nat} {L : En} {p : Nat} {v v' : Value} (hap : ∀ q ∈ p :: v.ownBlock.toList, q ∉ 0 :: k.ids) (K : FoR w k N L []) (hs : ∀ q ∈ k.ids, q < w0.heap.size) (hg : 0 < w0.heap.size) (A : RfA w' p N v' L) (hv : v'.ownBlock = v.ownBlock ∨ ∀ q ∈ v'.ownBlock.toList, w0.heap.size ≤ q) (f : Fr [p] w w') : Bo w' k N L p v' := by
  refine ⟨K.frx f (fun q hq => by simp at hq; subst hq; exact hap _ (by simp)), A, fun q hq => ?_⟩
  rcases List.mem_cons.1 hq with rfl | hq
  · exact hap _ (by simp)
  · rcases hv with h | h
    · exact hap q (by rw [← h]; exact List.mem_cons_of_mem _ hq)
    · intro hk
      have := h q hq
      rcases List.mem_cons.1 hk with rfl | hk
      · omega
      · have := hs q hk; omega
theorem Nw.ir {w0 w : World} {s : Value} {xs : List Int} (h : Nw w0 w s xs) : IR w s xs := own_int h.1
abbrev Op3 := Int × Int × Int
def stepL (N : Nat) (L : En) (o : Op3) : En := if o.1 = 1 then (fRoot N L o.2.1).1 else if o.1 = 2 then (fDer N L o.2.1 o.2.2).1 else if o.1 = 3 then (fTake N L o.2.1 true).1 else if o.1 = 4 then (fTake N L o.2.1 false).1 else L
def St2 (w w' : World) (k : FK) (N : Nat) (L' : En) (p : Nat) (v : Value) : Prop := ∃ v', Bo w' k N L' p v' ∧ (v'.ownBlock = v.ownBlock ∨ ∀ q ∈ v'.ownBlock.toList, w.heap.size ≤ q) ∧ Fr (p :: k.ids) w w'
section
variable {Z : ZP} {w : World} {k : FK} {N : Nat} {L : En} {p : Nat} {v : Value}
theorem fTake_len (I : Inv N L) (hN : N ≤ 1024) (n : Int) (own : Bool) : (fTake N L n own).2.1.length ≤ 1000000 := by
  unfold fTake
  split
  · rename_i h
    have hn := rask_has h
    have := below_len I hn
    have := I.len
    show (outOf L n own).length ≤ _
    unfold outOf
    rw [List.length_append]
    cases own <;> simp <;> omega
  · simp
theorem step_t (H : Bo w k N L p v) (a b c : Int) : Cz Tryd.prog 11 [Pt k.fp 0, Pt p 0, .agg #[I a, I b, I c]] w (fun r w' => r = B true ∧ St2 w w' k N (stepL N L (a, b, c)) p v) Z := by
  refine go mixed Tryd.func11 Tryd.call11 rfl (Tr.e11 _ _ _) ?_
  refine r_box (cs := [I a, I b, I c]) (fun o w1 ho Bo1 f1 => ?_)
  have H1 := H.up f1
  have hids := H.F.ltx
  have hap0 := H.ap
  have oap : ∀ q ∈ k.ids, q ≠ o := fun q hq e => by have := hids q (List.mem_cons_of_mem _ hq); omega
  refine r_ld (Bo1.cell (o := 0) rfl) ?_
  have fin : ∀ {w3 : World} {L' : En} {v' : Value}, FoR w3 k N L' [] → ∀ w2 w4, Fr [] w w2 → Fr k.ids w2 w3 → RfA w4 p N v' L' → (v'.ownBlock = v.ownBlock ∨ ∀ q ∈ v'.ownBlock.toList, w3.heap.size ≤ q) → Fr [p] w3 w4 → St2 w w4 k N L' p v := by
    intro w3 L' v' K3 w2 w4 F2 f3 A4 hv f4
    have hs : w.heap.size ≤ w3.heap.size := Nat.le_trans F2.size f3.size
    have hv' : v'.ownBlock = v.ownBlock ∨ ∀ q ∈ v'.ownBlock.toList, w.heap.size ≤ q := hv.imp id (fun h q hq => Nat.le_trans hs (h q hq))
    refine ⟨v', Bo.ref hap0 K3 (fun q hq => hids q (List.mem_cons_of_mem _ hq)) (hids _ (by simp)) A4 hv' f4, hv', ((F2.mono (by simp)).trans (f3.mono (fun q hq => List.mem_cons_of_mem _ hq))).trans (f4.mono (by simp))⟩
  unfold stepL
  refine r_if (fun h1 => ?_) (fun h1 => ?_)
  · rw [if_pos h1]
    refine r_dr (fun w2 f2 => ?_)
    have B2 := Bo1.fr0 f2
    have H2 := H1.up f2
    refine r_ld (B2.cell (o := 1) rfl) ?_
    refine r_ld (B2.cell (o := 1) rfl) ?_
    refine r_call (Cz.of Tryd.call24 (Root_c w2 k N L H2.F b)) ?_
    rintro _ w3 ⟨rfl, K3, f3⟩
    replace f3 : Fr k.ids w2 w3 := f3.mono (by simp [FK.ids])
    refine r_chk ((B2.fr f3 (fun hq => oap _ hq rfl)).cell (o := 1) rfl) ?_
    refine r_call (rRoot_t (H2.prog f3) b) ?_
    rintro _ w4 ⟨rfl, v', A4, hv, f4⟩
    exact r_ret ⟨by simp, fin K3 w2 w4 (f1.trans f2) f3 A4 hv f4⟩
  rw [if_neg h1]
  refine r_if (fun h2 => ?_) (fun h2 => ?_)
  · rw [if_pos h2]
    refine r_dr (fun w2 f2 => ?_)
    have B2 := Bo1.fr0 f2
    have H2 := H1.up f2
    refine r_ld (B2.cell (o := 1) rfl) ?_
    refine r_ld (B2.cell (o := 2) rfl) ?_
    refine r_ld (B2.cell (o := 1) rfl) ?_
    refine r_ld (B2.cell (o := 2) rfl) ?_
    refine r_call (Cz.of Tryd.call25 (Derive_c w2 k N L H2.F b c)) ?_
    rintro _ w3 ⟨rfl, K3, f3⟩
    replace f3 : Fr k.ids w2 w3 := f3.mono (by simp [FK.ids])
    have B3 := B2.fr f3 (fun hq => oap _ hq rfl)
    refine r_chk (B3.cell (o := 1) rfl) ?_
    refine r_chk (B3.cell (o := 2) rfl) ?_
    refine r_call (rDerive_t (H2.prog f3) b c) ?_
    rintro _ w4 ⟨rfl, v', A4, hv, f4⟩
    exact r_ret ⟨by simp, fin K3 w2 w4 (f1.trans f2) f3 A4 hv f4⟩
  rw [if_neg h2]
  refine r_if (fun h3 => ?_) (fun h3 => ?_)
  · rw [if_pos h3]
    refine r_ld (Bo1.cell (o := 1) rfl) ?_
    refine r_call (Cut_t H1.F b) ?_
    rintro _ w3 ⟨s, rfl, hs, K3, f3⟩
    have B3 := Bo1.fr f3 (fun hq => oap _ hq rfl)
    refine r_ld (B3.cell (o := 1) rfl) ?_
    refine r_call (rCut_t (H1.prog f3) b) ?_
    rintro _ w4 ⟨s2, v', rfl, hs2, A4, hv, f4⟩
    have hpl := H1.R.lt p (by simp)
    have hs4 := hs.fr f4 (fun q hq => by simp at hq; subst hq; exact hpl)
    have R := fin K3 w1 w4 f1 f3 A4 hv f4
    refine r_call (Same_t hs4.ir hs2.ir (fTake_len H.R.inv H.R.sN b true)) ?_
    rintro _ w5 ⟨rfl, f5⟩
    rw [decide_eq_true rfl]
    obtain ⟨v2, g1, g2, g3⟩ := R
    exact r_ret ⟨by simp, v2, g1.up f5, g2, g3.trans (f5.mono (by simp))⟩
  rw [if_neg h3]
  refine r_if (fun h4 => ?_) (fun h4 => ?_)
  · rw [if_pos h4]
    refine r_ld (Bo1.cell (o := 1) rfl) ?_
    refine r_call (Prune_t H1.F b) ?_
    rintro _ w3 ⟨s, rfl, hs, K3, f3⟩
    have B3 := Bo1.fr f3 (fun hq => oap _ hq rfl)
    refine r_ld (B3.cell (o := 1) rfl) ?_
    refine r_call (rPrune_t (H1.prog f3) b) ?_
    rintro _ w4 ⟨s2, v', rfl, hs2, A4, hv, f4⟩
    have hpl := H1.R.lt p (by simp)
    have hs4 := hs.fr f4 (fun q hq => by simp at hq; subst hq; exact hpl)
    have R := fin K3 w1 w4 f1 f3 A4 hv f4
    refine r_call (Same_t hs4.ir hs2.ir (fTake_len H.R.inv H.R.sN b false)) ?_
    rintro _ w5 ⟨rfl, f5⟩
    rw [decide_eq_true rfl]
    obtain ⟨v2, g1, g2, g3⟩ := R
    exact r_ret ⟨by simp, v2, g1.up f5, g2, g3.trans (f5.mono (by simp))⟩
  rw [if_neg h4]
  exact r_ret ⟨rfl, v, H1, .inl rfl, f1.mono (by simp)⟩
theorem same_t (H : Bo w k N L p v) (n r : Int) : Cz Tryd.prog 12 [Pt k.fp 0, Pt p 0, I n, I r] w (fun x w' => x = B true ∧ Fr [] w w') Z := by
  refine go mixed Tryd.func12 Tryd.call12 rfl (Tr.e12 _ _ _ _) ?_
  refine r_call (Cz.of Tryd.call18 (Parent_c w k N L H.F n)) ?_
  rintro _ w1 ⟨rfl, rfl⟩
  refine r_call (rParent_t H.R n) ?_
  rintro _ w2 ⟨rfl, f2⟩
  refine r_dr (fun w3 f3 => ?_)
  have H3 := (H.up f2).up f3
  refine r_call (FHas_t H3.F n) ?_
  rintro _ w4 ⟨rfl, rfl⟩
  refine r_call (rHas_t H3.R n) ?_
  rintro _ w5 ⟨rfl, f5⟩
  refine r_ifb (fun _ => ?_) (fun h => by rw [beq_self_eq_true] at h; cases h)
  refine r_if (fun _ => ?_) (fun h => absurd rfl h)
  refine r_ifb (fun _ => ?_) (fun h => by rw [beq_self_eq_true] at h; cases h)
  have H5 := H3.up f5
  refine r_call (Cz.of Tryd.call20 (Depth_c w5 k N L H5.F n)) ?_
  rintro _ w6 ⟨rfl, rfl⟩
  refine r_call (rDepth_t H5.R n) ?_
  rintro _ w7 ⟨rfl, f7⟩
  refine r_if (fun _ => ?_) (fun h => absurd rfl h)
  have H7 := H5.up f7
  refine r_call (Cz.of Tryd.call19 (Under_c w7 k N L H7.F n r)) ?_
  rintro _ w8 ⟨rfl, rfl⟩
  refine r_call (rUnder_t H7.R n r) ?_
  rintro _ w9 ⟨rfl, f9⟩
  refine r_ifb (fun _ => ?_) (fun h => by rw [beq_self_eq_true] at h; cases h)
  have H9 := H7.up f9
  obtain ⟨X, c, rfl, _⟩ := H9.R.row
  refine r_ld (H9.R.top.cell (o := 1) rfl) ?_
  refine r_call (Cz.of Tryd.call21 (Len_c w9 k N L H9.F)) ?_
  rintro _ w10 ⟨rfl, rfl⟩
  refine r_chk (H9.R.top.cell (o := 1) rfl) ?_
  exact r_ret ⟨by simp, (((f2.trans f3).trans f5).trans f7).trans f9⟩
end
end Go.Proofs.YtcbkpekbfkaeeaaDoor.Fo
