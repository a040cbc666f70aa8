/- The reference of forests, over trees: cuts, depth, under; rows side by side; both New. -/
import Derived.Test.YtcbkpekbfkaeeaaDoorFoZ
set_option linter.unusedVariables false
set_option linter.unusedSimpArgs false
namespace Go.Proofs.YtcbkpekbfkaeeaaDoor.Fo
open Go Go.RowKit Go.Proofs.YtcbkpekbfkaeeaaDoor.Sx
open Go.Proofs.YtcbkpekbfkaeeaaDoor.Ls (mixed new_r Glb)
theorem minus_snoc {L : En} {out : List Int} {a q : Int} : minus (L ++ [(a, q)]) out = minus L out ++ (if out.contains a = true then [] else [(a, q)]) := by
  unfold minus
  rw [List.filter_append]
  congr 1
  by_cases h : out.contains a = true
  · rw [if_pos h]; simp only [List.filter_cons, h]; rfl
  · rw [if_neg h]
    have h : out.contains a = false := by simpa using h
    simp only [List.filter_cons, h]; rfl
section
variable {Z : ZP} {w : World} {p N : Nat} {v : Value} {L : En}
theorem rdrop_t (A : RfA w p N v L) {s : Value} {out : List Int} (HO : w.ownsRow 0 3 1 s out.length (ints out)) (hol : out.length ≤ 100000) (hI : Inv N (minus L out)) :
    Cz Tryd.prog 45 [Pt p 0, s] w (fun r w' => ∃ v', RfA w' p N v' (minus L out) ∧ (∀ q ∈ v'.ownBlock.toList, w.heap.size ≤ q) ∧ Fr [p] w w') Z := by
  refine go mixed Tryd.func45 Tryd.call45 rfl (Tr.e45 _ _) ?_
  have hl1 := A.inv.len
  have hl2 := A.sN
  obtain ⟨Xs, cs, rfl, _⟩ := own_int HO
  have hml : ∀ i, (minus (L.take i) out).length ≤ L.length := fun i => Nat.le_trans (List.length_filter_le _ _) (by rw [List.length_take]; exact Nat.min_le_right _ _)
  refine r_loop (fun (t : Nat × Value) => [I (t.1 : Int), t.2]) (fun t w' => t.1 ≤ L.length ∧ Ow encE 2 71 0 w' t.2 (minus (L.take t.1) out) ∧ (∀ q ∈ t.2.ownBlock.toList, w.heap.size ≤ q) ∧ Fr [] w w') (fun t => L.length - t.1) (0, .slice none 0 0) ⟨Nat.zero_le _, own_nil _ _ _, by simp [Value.ownBlock], Fr.refl _ _⟩ rfl ?_
  rintro ⟨i, u⟩ w1 ⟨hi, hu, hub, F⟩
  dsimp only at hi hu hub F
  have A1 := A.fr0 F
  have hp := A.top.lt
  obtain ⟨X1, c, rfl, hc, hrow⟩ := A1.row
  refine r_ld (A1.top.cell (o := 1) rfl) ?_
  refine r_if (fun h => ?_) (fun h => ?_)
  · obtain ⟨⟨a, q⟩, he⟩ := gt (xs := L) (j := i) (by omega)
    obtain ⟨ad, rfl, hr⟩ := hrow i _ he
    refine r_loop (fun (t : Nat × Bool) => [I (t.1 : Int), B t.2]) (fun t w' => t.1 ≤ out.length ∧ t.2 = !(out.take t.1).contains a ∧ Fr [] w1 w') (fun t => out.length - t.1) (0, true) ⟨Nat.zero_le _, by simp, Fr.refl _ _⟩ rfl ?_
    rintro ⟨k, b⟩ w2 ⟨hk, hb, F2⟩
    dsimp only at hk hb F2
    have A2 := A1.fr0 F2
    have hr2 := hr.fr F2
    refine r_if (fun hk2 => ?_) (fun hk2 => ?_)
    · refine r_dr (fun w3 f3 => ?_)
      have A3 := A2.fr0 f3
      have hr3 := hr2.fr f3
      obtain ⟨x, hx⟩ := gt (xs := out) (j := k) (by omega)
      have hcon : (out.take (k + 1)).contains a = ((out.take k).contains a || (x == a)) := by
        rw [take_succ' hx, List.contains_append]
        simp [List.contains_cons, Bool.beq_eq_decide_eq, eq_comm]
      refine r_ifb (fun hb1 => ?_) (fun hb1 => ?_)
      · obtain ⟨_, _, e, hcell⟩ := own_int (own_fr0 (own_fr0 (own_fr0 HO F) F2) f3)
        cases e
        obtain ⟨ad2, rfl, hc2⟩ := hcell k x hx
        refine r_ob ⟨by omega, by omega⟩ ?_
        refine r_ld hc2 ?_
        refine r_ld (A3.top.cell (o := 1) rfl) ?_
        refine r_ob ⟨by omega, by omega⟩ ?_
        refine r_ld (hr3.2 0 _ rfl) ?_
        refine r_ar (by omega) ?_
        refine r_ag (k + 1, decide (¬ x = a)) ⟨by dsimp only; omega, ?_, F2.trans f3⟩ (by dsimp only; omega) rfl
        dsimp only
        replace hb1 : b = true := hb1
        rw [hcon]
        rw [hb1] at hb
        have : (out.take k).contains a = false := by simpa using hb.symm
        rw [this]
        by_cases e : x = a <;> simp [e]
      · refine r_ar (by omega) ?_
        refine r_ag (k + 1, false) ⟨by dsimp only; omega, ?_, F2.trans f3⟩ (by dsimp only; omega) rfl
        dsimp only
        replace hb1 : b = false := hb1
        rw [hcon]
        rw [hb1] at hb
        have : (out.take k).contains a = true := by simpa using hb.symm
        rw [this]; rfl
    · have : k = out.length := by omega
      subst this
      rw [List.take_length] at hb
      refine r_brk ?_
      have Fw2 := F.trans F2
      have hms := minus_snoc (L := L.take i) (out := out) (a := a) (q := q)
      rw [← take_succ' he] at hms
      refine r_ifb (fun hb1 => ?_) (fun hb1 => ?_)
      · replace hb1 : b = true := hb1
        rw [hb1] at hb
        rw [if_neg (by simpa using hb)] at hms
        refine r_ld (A2.top.cell (o := 1) rfl) ?_
        refine r_ob ⟨by omega, by omega⟩ ?_
        refine r_ldn hr2 ?_
        refine r_bs1 Een (cs := encE (a, q)) (fun d w3 hd Bd f3 => ?_)
        have hm1 := hml i
        refine r_appO Een (own_fr0 (own_fr0 hu F2) f3) (m := 1) (news := encE (a, q)) rfl (by simp) (fun ad he j u hj => ?_) (oneE _) (by simp only [big]; omega) (Nat.zero_le _) (fun v4 w4 O4 f4 hob4 => ?_)
        · cases he; exact Bd.rd.2 j u hj
        refine r_ar (by omega) ?_
        refine r_ag (i + 1, v4) ⟨by dsimp only; omega, ?_, fun q hq => ?_, (Fw2.trans f3).trans_new f4 (fun q hq => .inr (hub q hq))⟩ (by dsimp only; omega) rfl
        · dsimp only
          rw [hms]
          have e1 : flat encE (minus (L.take i) out) ++ encE (a, q) = flat encE (minus (L.take i) out ++ [(a, q)]) := by simp [flat]
          rw [e1] at O4
          unfold Ow
          simpa using O4
        · rcases hob4 with h' | h'
          · exact hub q (h' ▸ hq)
          · rw [h'] at hq; simp at hq; subst hq; exact Nat.le_trans Fw2.size f3.size
      · replace hb1 : b = false := hb1
        rw [hb1] at hb
        rw [if_pos (by simpa using hb.symm), List.append_nil] at hms
        refine r_ar (by omega) ?_
        exact r_ag (i + 1, u) ⟨by dsimp only; omega, by dsimp only; rw [hms]; exact own_fr0 hu F2, hub, Fw2⟩ (by dsimp only; omega) rfl
  · have : i = L.length := by omega
    subst this
    rw [List.take_length] at hu
    refine r_brk ?_
    obtain ⟨X4, cp4, rfl, _⟩ := own_slice hu
    refine r_st1 A1.top Tryd.sizeOf65 (fun w5 B5 f5 => ?_)
    exact r_ret ⟨_, ⟨B5, own_f hu f5 (fun q hq hb => by simp at hb; have := hub q hq; omega), fun hq => by have := hub p hq; omega, hI, A.sN⟩, hub, (F.mono (by simp)).trans f5⟩
theorem rask_has {n : Int} (h : fAsk N L n = 0) : has L n = true := by
  unfold fAsk at h
  split at h
  · cases h
  · split at h
    · cases h
    · rename_i h2; cases hh : has L n with | true => rfl | false => exact absurd hh h2
theorem rPrune_t (A : RfA w p N v L) (n : Int) : Cz Tryd.prog 30 [Pt p 0, I n] w (fun r w' => ∃ s v', r = .tuple #[s, I (fTake N L n false).2.2] ∧ Nw w w' s (fTake N L n false).2.1 ∧ RfA w' p N v' (fTake N L n false).1 ∧ (v'.ownBlock = v.ownBlock ∨ ∀ q ∈ v'.ownBlock.toList, w.heap.size ≤ q) ∧ Fr [p] w w') Z := by
  refine go mixed Tryd.func30 Tryd.call30 rfl (Tr.e30 _ _) ?_
  refine r_call (rasked_t A n) ?_
  rintro _ w1 ⟨rfl, F⟩
  have A1 := A.fr0 F
  unfold fTake
  refine r_if (fun h => ?_) (fun h => ?_)
  · rw [if_neg h]
    exact r_ret ⟨_, v, rfl, ⟨own_nil _ _ _, by simp [Value.ownBlock]⟩, A1, .inl rfl, F.mono (by simp)⟩
  have h := Decidable.not_not.1 h
  rw [if_pos h]
  have hn := rask_has h
  have hb := below_len A.inv hn
  have hl1 := A.inv.len
  have hl2 := A.sN
  obtain ⟨c1, c2, c3⟩ := out_ok A.inv hn false
  have e : outOf L n false = below L n := rfl
  refine r_call (rBelow_t A1 n) ?_
  rintro s w2 ⟨hs, F2⟩
  have e2 : rBel L n = below L n := by unfold rBel; rw [if_pos hn]
  rw [e2] at hs
  refine r_call (rdrop_t (A1.fr0 F2) hs.1 (by omega) (by rw [← e]; exact minus_inv A.inv c1)) ?_
  rintro _ w3 ⟨v', A3, hb3, f3⟩
  have F12 := F.trans F2
  have hp := A1.top.lt
  refine r_ret ⟨s, v', rfl, ⟨own_f hs.1 f3 (fun q hq hp' => by simp at hp'; have := hs.2 q hq; omega), fun q hq => Nat.le_trans F.size (hs.2 q hq)⟩, A3, .inr (fun q hq => Nat.le_trans F12.size (hb3 q hq)), (F12.mono (by simp)).trans f3⟩
theorem rCut_t (A : RfA w p N v L) (n : Int) : Cz Tryd.prog 29 [Pt p 0, I n] w (fun r w' => ∃ s v', r = .tuple #[s, I (fTake N L n true).2.2] ∧ Nw w w' s (fTake N L n true).2.1 ∧ RfA w' p N v' (fTake N L n true).1 ∧ (v'.ownBlock = v.ownBlock ∨ ∀ q ∈ v'.ownBlock.toList, w.heap.size ≤ q) ∧ Fr [p] w w') Z := by
  refine go mixed Tryd.func29 Tryd.call29 rfl (Tr.e29 _ _) ?_
  refine r_call (rasked_t A n) ?_
  rintro _ w1 ⟨rfl, F⟩
  have A1 := A.fr0 F
  unfold fTake
  refine r_if (fun h => ?_) (fun h => ?_)
  · rw [if_neg h]
    exact r_ret ⟨_, v, rfl, ⟨own_nil _ _ _, by simp [Value.ownBlock]⟩, A1, .inl rfl, F.mono (by simp)⟩
  have h := Decidable.not_not.1 h
  rw [if_pos h]
  have hn := rask_has h
  have hb := below_len A.inv hn
  have hl1 := A.inv.len
  have hl2 := A.sN
  obtain ⟨c1, c2, c3⟩ := out_ok A.inv hn true
  refine r_bs1 Eint (cs := [I n]) (fun d w2 hd Bd f2 => ?_)
  have F2 := F.trans f2
  refine r_call (rBelow_t (A1.fr0 f2) n) ?_
  rintro s w3 ⟨hs, F3⟩
  have e2 : rBel L n = below L n := by unfold rBel; rw [if_pos hn]
  rw [e2] at hs
  have F13 := F2.trans F3
  refine r_appI (own_lit (n := 1) (size := 1) (Bd.fr0 F3) (Nat.zero_le _) rfl (by omega) : w3.ownsRow 0 3 1 _ [n].length (ints [n])) hs.1 (by simp; omega) (fun u w4 O4 f4 hob4 => ?_)
  have hu : ∀ q ∈ u.ownBlock.toList, w1.heap.size ≤ q := fun q hq => by
    rcases hob4 with h' | h'
    · rw [h'] at hq; simp [Value.ownBlock] at hq; omega
    · rw [h'] at hq; simp at hq; subst hq; exact Nat.le_trans f2.size F3.size
  have e : [n] ++ below L n = outOf L n true := rfl
  rw [e] at O4
  have f4' : Fr [] w w4 := F13.trans_new f4 (fun q hq => .inr (by simp [Value.ownBlock] at hq; subst hq; rw [hd]; exact F.size))
  have hol : (outOf L n true).length ≤ 100000 := by rw [← e]; simp; omega
  refine r_call (rdrop_t (A.fr0 f4') O4 hol (minus_inv A.inv c1)) ?_
  rintro _ w5 ⟨v', A5, hb5, f5⟩
  have hp := A1.top.lt
  refine r_ret ⟨u, v', rfl, ⟨own_f O4 f5 (fun q hq hp' => by simp at hp'; have := hu q hq; omega), fun q hq => Nat.le_trans F.size (hu q hq)⟩, A5, .inr (fun q hq => Nat.le_trans f4'.size (hb5 q hq)), (f4'.mono (by simp)).trans f5⟩
theorem rUnder_t (A : RfA w p N v L) (n r : Int) : Cz Tryd.prog 34 [Pt p 0, I n, I r] w (fun x w' => x = B (fUnd L n r) ∧ Fr [] w w') Z := by
  refine go mixed Tryd.func34 Tryd.call34 rfl (Tr.e34 _ _ _) ?_
  unfold fUnd
  refine r_call (rHas_t A n) ?_
  rintro _ w1 ⟨rfl, F⟩
  refine r_ifbn (fun h => ?_) (fun h => ?_)
  · rw [h]; exact r_ret ⟨rfl, F⟩
  refine r_call (rHas_t (A.fr0 F) r) ?_
  rintro _ w2 ⟨rfl, F2⟩
  have F2 := F.trans F2
  refine r_ifbn (fun h2 => ?_) (fun h2 => ?_)
  · rw [h, h2]; exact r_ret ⟨rfl, F2⟩
  rw [h, h2]
  refine r_call (rBelow_t (A.fr0 F2) r) ?_
  rintro s w3 ⟨hs, F3⟩
  have e2 : rBel L r = below L r := by unfold rBel; rw [if_pos h2]
  rw [e2] at hs
  have F3 := F2.trans F3
  have hb := below_len A.inv h2
  have hl1 := A.inv.len
  have hl2 := A.sN
  have hs1 := hs.1
  obtain ⟨X, c, rfl, _⟩ := own_int hs1
  refine r_loop (fun (i : Nat) => [I (i : Int), B false]) (fun i w' => i ≤ (below L r).length ∧ (∀ (j : Nat) x, j < i → (below L r)[j]? = some x → ¬ x = n) ∧ Fr [] w3 w') (fun i => (below L r).length - i) 0 ⟨Nat.zero_le _, fun _ _ h => by omega, Fr.refl _ _⟩ rfl ?_
  rintro i w4 ⟨hi, hno, F4⟩
  refine r_if (fun hk => ?_) (fun hk => ?_)
  · refine r_ob ⟨by omega, by omega⟩ ?_
    obtain ⟨x, hx⟩ := gt (xs := below L r) (j := i) (by omega)
    obtain ⟨_, _, e, hcell⟩ := own_int (own_fr0 hs1 F4)
    cases e
    obtain ⟨ad, rfl, hc2⟩ := hcell i x hx
    refine r_ld hc2 ?_
    refine r_if (fun hxn => ?_) (fun hxn => ?_)
    · subst hxn
      refine r_ret ⟨?_, F3.trans F4⟩
      have : (below L r).contains x = true := by simp [List.contains_eq_mem, List.mem_of_getElem? hx]
      rw [this]; simp
    · refine r_ar (by omega) ?_
      refine r_ag (i + 1) ⟨by omega, fun j y hj hy => ?_, F4⟩ (by omega) rfl
      rcases Nat.lt_or_ge j i with h' | h'
      · exact hno j y h' hy
      · obtain rfl : j = i := by omega
        rw [hx] at hy; cases hy; exact hxn
  · refine r_brk (r_ret ⟨?_, F3.trans F4⟩)
    have : (below L r).contains n = false := by
      rw [List.contains_eq_mem]
      simp only [decide_eq_false_iff_not]
      intro hm
      obtain ⟨j, hj⟩ := List.getElem?_of_mem hm
      have := (List.getElem?_eq_some_iff.1 hj).1
      exact hno j _ (by omega) hj rfl
    rw [this]
    by_cases e : n = r <;> simp [e]
theorem rDepth_t (A : RfA w p N v L) (n : Int) : Cz Tryd.prog 33 [Pt p 0, I n] w (fun x w' => x = I (fDep L n) ∧ Fr [] w w') Z := by
  refine go mixed Tryd.func33 Tryd.call33 rfl (Tr.e33 _ _) ?_
  unfold fDep
  refine r_call (rHas_t A n) ?_
  rintro _ w1 ⟨rfl, F⟩
  refine r_ifbn (fun h => ?_) (fun h => ?_)
  · rw [if_neg (by rw [h]; simp)]; exact r_ret ⟨rfl, F⟩
  rw [if_pos h]
  have hl1 := A.inv.len
  have hl2 := A.sN
  refine r_call (rParent_t (A.fr0 F) n) ?_
  rintro _ w2 ⟨rfl, F2⟩
  have F2 := F.trans F2
  refine r_loop (fun (s : Bool × Int × Int) => [B s.1, I s.2.1, I s.2.2]) (fun s w' => (s.1 = true → has L s.2.1 = true) ∧ 0 ≤ s.2.2 ∧ s.2.2 + (if s.1 = true then dF L L.length s.2.1 + 1 else 0) = dF L L.length n ∧ Fr [] w w') (fun s => if s.1 = true then idx L s.2.1 + 1 else 0) ((fPar L n).2, (fPar L n).1, 0) ⟨fun hb => ?_, Int.le_refl _, dep_start A.inv h, F2⟩ rfl ?_
  · exact par_has A.inv (n := n) (by rw [← hb])
  rintro ⟨ok, q, d⟩ w3 ⟨hq, hd0, hd, F3⟩
  dsimp only at hq hd0 hd F3
  have A3 := A.fr0 F3
  have hbd := dF_bound L L.length n
  refine r_ifb (fun hok => ?_) (fun hok => ?_)
  · replace hok : ok = true := hok
    subst hok
    rw [if_pos rfl] at hd
    have hbq := dF_bound L L.length q
    obtain ⟨X1, c, rfl, hc, hrow⟩ := A3.row
    refine r_ld (A3.top.cell (o := 1) rfl) ?_
    refine r_if (fun hle => ?_) (fun hle => ?_)
    · replace hle : d ≤ (L.length : Int) := hle
      refine r_ar (by show -9223372036854775808 ≤ d + 1 ∧ d + 1 ≤ _; omega) ?_
      refine r_call (rParent_t A3 q) ?_
      rintro _ w4 ⟨rfl, F4⟩
      have hp := hq rfl
      refine r_ag ((fPar L q).2, (fPar L q).1, d + 1) ⟨fun hb => par_has A.inv (n := q) (by rw [← hb]), by dsimp only; omega, ?_, F3.trans F4⟩ (dep_mu A.inv hp) rfl
      dsimp only
      have := dep_start A.inv hp
      omega
    · exfalso
      replace hle : ¬ d ≤ (L.length : Int) := hle
      omega
  · replace hok : ok = false := hok
    subst hok
    rw [if_neg (by simp)] at hd
    refine r_brk (r_ret ⟨?_, F3⟩)
    show I d = _
    rw [← hd]; simp
/-- Two rows side by side. -/
def IR (w : World) (s : Value) (xs : List Int) : Prop := ∃ X c, s = .slice X xs.length c ∧ ∀ (k : Nat) z, xs[k]? = some z → ∃ ad, X = some ad ∧ w.cell? (addA ad (((k : Nat) : Int).toNat * 1)) = some (I z)
theorem IR.up {w w' : World} {s : Value} {xs : List Int} (h : IR w s xs) (f : Fr [] w w') : IR w' s xs := let ⟨X, c, h1, h2⟩ := h; ⟨X, c, h1, fun k z hz => let ⟨ad, g1, g2⟩ := h2 k z hz; ⟨ad, g1, f.c g2⟩⟩
theorem Same_t {a b : Value} {xs ys : List Int} (ha : IR w a xs) (hb : IR w b ys) (hx : xs.length ≤ 1000000) : Cz Tryd.prog 15 [a, b] w (fun r w' => r = B (decide (xs = ys)) ∧ Fr [] w w') Z := by
  refine go mixed Tryd.func15 Tryd.call15 rfl (Tr.e15 _ _) ?_
  obtain ⟨X, c, rfl, hX⟩ := ha
  obtain ⟨Y, d, rfl, hY⟩ := hb
  refine r_if (fun h => ?_) (fun h => ?_)
  · exact r_ret ⟨by rw [decide_eq_false (fun e => h (by rw [e]))], Fr.refl _ _⟩
  have hl : xs.length = ys.length := by have := Decidable.not_not.1 h; omega
  refine r_loop (fun (i : Nat) => [I (i : Int), B false]) (fun i w' => i ≤ xs.length ∧ xs.take i = ys.take i ∧ Fr [] w w') (fun i => xs.length - i) 0 ⟨Nat.zero_le _, rfl, Fr.refl _ _⟩ rfl ?_
  rintro i w1 ⟨hi, he, F⟩
  refine r_if (fun hk => ?_) (fun hk => ?_)
  · refine r_dr (fun w2 f2 => ?_)
    have F2 := F.trans f2
    obtain ⟨x, hx1⟩ := gt (xs := xs) (j := i) (by omega)
    obtain ⟨y, hy1⟩ := gt (xs := ys) (j := i) (by omega)
    obtain ⟨ad, rfl, hc1⟩ := hX i x hx1
    obtain ⟨bd, rfl, hc2⟩ := hY i y hy1
    refine r_ob ⟨by omega, by omega⟩ ?_
    refine r_ld (F2.c hc1) ?_
    refine r_ob ⟨by omega, by omega⟩ ?_
    refine r_ld (F2.c hc2) ?_
    refine r_if (fun hne => ?_) (fun hne => ?_)
    · refine r_ret ⟨?_, F2⟩
      rw [decide_eq_false]
      intro e
      rw [e, hy1] at hx1
      cases hx1
      exact hne rfl
    · refine r_ar (by omega) ?_
      refine r_ag (i + 1) ⟨by omega, ?_, F2⟩ (by omega) rfl
      rw [take_succ' hx1, take_succ' hy1, he, Decidable.not_not.1 hne]
  · refine r_brk (r_ret ⟨?_, F⟩)
    have : i = xs.length := by omega
    subst this
    rw [List.take_length, hl, List.take_length] at he
    rw [decide_eq_true he]
theorem rNew_y {n : Nat} (hn : n ≤ 1024) : Cz Tryd.prog 10 [I n] w (fun r w' => ∃ p, r = .tuple #[Pt p 0, I 0] ∧ RfA w' p n (.slice none 0 0) [] ∧ w.heap.size ≤ p ∧ Fr [] w w') Z := by
  refine go mixed Tryd.func10 Tryd.call10 rfl (Tr.e10 _) ?_
  refine r_if (fun h => by exfalso; omega) (fun _ => ?_)
  refine r_box (cs := [I n, .slice none 0 0]) (fun b w1 hb Bb f => ?_)
  exact r_ret ⟨b, rfl, ⟨Bb, own_nil _ _ _, by simp [Value.ownBlock], Inv.nil n, hn⟩, by omega, f⟩
theorem rNew_n {n : Int} (hn : ¬ (0 ≤ n ∧ n ≤ 1024)) : Cz Tryd.prog 10 [I n] w (fun r w' => r = .tuple #[.pointer none, I 1] ∧ w' = w) Z := by
  refine go mixed Tryd.func10 Tryd.call10 rfl (Tr.e10 _) ?_
  refine r_if (fun h => r_ret ⟨rfl, rfl⟩) (fun h1 => ?_)
  refine r_if (fun h => r_ret ⟨rfl, rfl⟩) (fun h2 => ?_)
  exact absurd ⟨by omega, by omega⟩ hn
end
end Go.Proofs.YtcbkpekbfkaeeaaDoor.Fo
