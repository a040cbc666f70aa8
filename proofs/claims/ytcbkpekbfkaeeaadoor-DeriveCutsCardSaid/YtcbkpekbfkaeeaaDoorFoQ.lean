/- The law of forests, over trees: DeriveCuts. -/
import Derived.Test.YtcbkpekbfkaeeaaDoorFoO
import Derived.Test.YtcbkpekbfkaeeaaDoorFoE
set_option linter.unusedVariables false
set_option linter.unusedSimpArgs false
namespace Go.Proofs.YtcbkpekbfkaeeaaDoor.Fo
open Go Go.RowKit Go.Proofs.YtcbkpekbfkaeeaaDoor.Sx
open Go.Proofs.YtcbkpekbfkaeeaaDoor.Ls (mixed new_r Glb)
section
variable {P : Program} {Z : ZP} {R : Value → World → Prop} {w : World} {A : List Nat → List Value → World → Prop} {B : List Nat → Nat → List Value → World → Prop} {ds : List Nat} {k : Value → T}
theorem r_eqT {x y : Int} (e : x = y) (h : wp P Z R ds (k (.bool true)) w A B) : wp P Z R ds (biT true .eql (I x) (I y) k) w A B := by
  subst e
  have : wp P Z R ds (k (.bool (decide (x = x)))) w A B := by rw [decide_eq_true rfl]; exact h
  exact this
theorem r_eqF {x y : Int} (e : ¬ x = y) (h : wp P Z R ds (k (.bool false)) w A B) : wp P Z R ds (biT true .eql (I x) (I y) k) w A B := by
  have : wp P Z R ds (k (.bool (decide (x = y)))) w A B := by rw [decide_eq_false e]; exact h
  exact this
end
abbrev cParent := Tryd.call18
abbrev cDepth := Tryd.call20
abbrev cLen := Tryd.call21
abbrev cUnder := Tryd.call19
section
variable {Z : ZP} {w : World}
theorem cuts_t (hG : Glb w) {X : Option Addr} {cp : Nat} {ops : List Op3} (hops : OpsAt w X ops) (node : Nat) (hnode : node ≤ 255) (prune : Bool) : Cz Tryd.prog 5 [.slice X ops.length cp, .int .u8 (node : Int), B prune] w (fun r w' => r = B true ∧ Fr [] w w') Z := by
  refine go mixed Tryd.func5 Tryd.call5 rfl (Tr.e5 _ _ _) ?_
  refine r_call (awake_t hG) ?_
  rintro _ w1 ⟨rfl, F1⟩
  refine r_call (made_t (hG.fr F1 (by simp)) (hops.up F1)) ?_
  rintro _ w2 ⟨kf, rfl, Kf2, hkf, f2⟩
  have F2 := F1.trans f2
  refine r_call (made_t (hG.fr F2 (by simp)) (hops.up F2)) ?_
  rintro _ w4 ⟨kg, rfl, Kg4, hkg, f4⟩
  have F4 := F2.trans f4
  have Kf4 := Kf2.fr0 f4
  have hlt := Kf2.ltx
  have hgl := World.block_lt_of_cell? w _ (hG 0 _ rfl)
  have hfg : ∀ q ∈ kf.ids, q ∉ 0 :: kg.ids := fun q hq hk => by
    have h1 := hlt q (List.mem_cons_of_mem _ hq)
    have h2 := hkf q hq
    have h3 := F1.size
    rcases List.mem_cons.1 hk with e | hk
    · have : 0 < w.heap.size := hgl
      omega
    · have := hkg q hk; omega
  generalize makeL ops = L at Kf4 Kg4
  refine r_ar (by omega) ?_
  refine r_pu (o := ⟨none, .binOp .rem 3 (.const (I (node : Int))) (.const (I 16)) 0, 0, "", #[], none⟩) (fun w' => x_rem (l := []) rfl rfl (by decide)) ?_ rfl
  obtain ⟨n, hn, hn16⟩ : ∃ n : Nat, ((node : Int).tmod 16) = n ∧ n < 16 := ⟨node % 16, by rw [Int.tmod_eq_emod_of_nonneg (by omega)]; omega, Nat.mod_lt _ (by omega)⟩
  rw [hn]
  cases prune with
  | true =>
    obtain ⟨own, hown⟩ : ∃ o : Bool, o = false := ⟨_, rfl⟩
    have c := Prune_t (Z := ZD [] Z) Kf4 (n : Int)
    rw [← hown] at c
    refine r_call c ?_
    rintro _ w5 ⟨s, rfl, hs, Kf5, f5⟩
    have F5 : Fr [] w w5 := F4.trans_new f5 (fun q hq => .inr (Nat.le_trans F1.size (hkf q hq)))
    have Kg5 : FoR w5 kg 16 L [] := Kg4.frx f5 hfg
    have hI := Kg4.inv
    refine r_call (FHas_t Kg5 n) ?_
    rintro _ w55 ⟨rfl, rfl⟩
    refine r_ifbn (fun hn => ?_) (fun hn => ?_)
    · have e0 : fTake 16 L (n : Int) own = (L, [], 122) := by
        have : fAsk 16 L (n : Int) = 122 := by
          unfold fAsk
          rw [if_neg (fun h => h ⟨by omega, by omega⟩), if_pos hn]
        unfold fTake
        rw [if_neg (by rw [this]; decide), this]
      rw [e0] at hs Kf5
      rw [e0]
      obtain ⟨X6, c6, rfl, _⟩ := hs.ir
      refine r_call (Cz.of cLen (Len_c _ kf 16 _ Kf5)) ?_
      rintro _ w7 ⟨rfl, rfl⟩
      refine r_call (Cz.of cLen (Len_c _ kg 16 _ Kg5)) ?_
      rintro _ w8 ⟨rfl, rfl⟩
      exact r_ret ⟨by rw [decide_eq_true rfl], F5⟩
    · have e0 : fTake 16 L (n : Int) own = (minus L (outOf L n own), outOf L n own, 0) := by
        have : fAsk 16 L (n : Int) = 0 := by
          unfold fAsk
          rw [if_neg (fun h => h ⟨by omega, by omega⟩), if_neg (by rw [hn]; simp)]
        unfold fTake
        rw [if_pos this]
      rw [e0] at hs Kf5
      rw [e0]
      obtain ⟨c1, c2, c3⟩ := out_ok hI hn own
      have hom := fun a : Int => out_mem (a := a) hI hn own
      have hol : (outOf L n own).length ≤ 1000000 := by
        have h1 := fTake_len hI (by omega) (n : Int) own
        rw [e0] at h1
        exact h1
      dsimp only at hs Kf5
      obtain ⟨X6, c6, rfl, hrow⟩ := hs.ir
      generalize houtq : outOf L n own = out at *
      refine r_loop (fun (a : Nat) => [I (a : Int), B false]) (fun a w' => a ≤ 16 ∧ FoR w' kf 16 (minus L out) [] ∧ FoR w' kg 16 L [] ∧ Fr [] w w' ∧ Fr [] w55 w') (fun a => 16 - a) 0 ⟨Nat.zero_le _, Kf5, Kg5, F5, Fr.refl _ _⟩ rfl ?_
      rintro a w6 ⟨ha, Kf6, Kg6, F6, G6⟩
      refine r_if (fun h1 => ?_) (fun h1 => ?_)
      · refine r_loop (fun (j : Nat) => [I (j : Int), I (((out.take j).count (a : Int) : Nat) : Int)]) (fun j w' => j ≤ out.length ∧ FoR w' kf 16 (minus L out) [] ∧ FoR w' kg 16 L [] ∧ Fr [] w w' ∧ Fr [] w55 w') (fun j => out.length - j) 0 ⟨Nat.zero_le _, Kf6, Kg6, F6, G6⟩ (by simp) ?_
        rintro j w7 ⟨hj, Kf7, Kg7, F7, G7⟩
        refine r_if (fun h2 => ?_) (fun h2 => ?_)
        · obtain ⟨x, hx⟩ := gt (xs := out) (j := j) (by omega)
          obtain ⟨ad, rfl, hc⟩ := hrow j x hx
          have hcs : (out.take (j + 1)).count (a : Int) = (out.take j).count (a : Int) + if x = (a : Int) then 1 else 0 := by
            rw [take_succ' hx, List.count_append, List.count_singleton]
            simp
          have hcl : (out.take j).count (a : Int) ≤ 1000000 := Nat.le_trans List.count_le_length (by rw [List.length_take]; omega)
          refine r_ob ⟨by omega, by omega⟩ ?_
          refine r_ld (G7.c hc) ?_
          refine r_if (fun e => ?_) (fun e => ?_)
          · rw [if_pos e] at hcs
            refine r_ar (by omega) ?_
            refine r_ar (by omega) ?_
            exact r_ag (j + 1) ⟨by omega, Kf7, Kg7, F7, G7⟩ (by omega) (show [I ((j + 1 : Nat) : Int), I (((out.take (j + 1)).count (a : Int) : Nat) : Int)] = _ by rw [hcs]; rfl)
          · rw [if_neg e, Nat.add_zero] at hcs
            refine r_ar (by omega) ?_
            exact r_ag (j + 1) ⟨by omega, Kf7, Kg7, F7, G7⟩ (by omega) (show [I ((j + 1 : Nat) : Int), I (((out.take (j + 1)).count (a : Int) : Nat) : Int)] = _ by rw [hcs]; rfl)
        · have : j = out.length := by omega
          subst this
          rw [List.take_length]
          refine r_brk ?_
          have ht1 : (a : Int) ∈ out → out.count (a : Int) = 1 := fun h => count_one c2 h
          have ht0 : (a : Int) ∉ out → out.count (a : Int) = 0 := fun h => List.count_eq_zero.2 h
          have htq := hom (a : Int)
          subst houtq
          refine r_call (Cz.of cUnder (Under_c _ kg 16 _ Kg7 a n)) ?_
          rintro _ w7' ⟨rfl, rfl⟩
          cases hu : fUnd L (a : Int) n with
          | false =>
            have htk : (a : Int) ∉ outOf L n own := fun h => by
              have := (htq.1 h).1
              rw [hu] at this; cases this
            refine r_call (Cz.of cParent (Parent_c _ kf 16 _ Kf7 a)) ?_
            rintro _ w8 ⟨rfl, rfl⟩
            refine r_call (Cz.of cParent (Parent_c _ kg 16 _ Kg7 a)) ?_
            rintro _ w9 ⟨rfl, rfl⟩
            obtain ⟨e1, e2, e3⟩ := cut_keeps hI hn own htk
            rw [e2]
            refine r_if (fun h => absurd (by rw [ht0 htk]; rfl) h) (fun _ => ?_)
            refine r_call (FHas_t Kf7 a) ?_
            rintro _ w10 ⟨rfl, rfl⟩
            refine r_call (FHas_t Kg7 a) ?_
            rintro _ w11 ⟨rfl, rfl⟩
            rw [e1]
            refine r_ifb (fun h => by simp at h) (fun _ => ?_)
            refine r_if (fun h => absurd rfl h) (fun _ => ?_)
            refine r_ifb (fun h => by simp at h) (fun _ => ?_)
            refine r_call (Cz.of cDepth (Depth_c _ kf 16 _ Kf7 a)) ?_
            rintro _ w12 ⟨rfl, rfl⟩
            refine r_call (Cz.of cDepth (Depth_c _ kg 16 _ Kg7 a)) ?_
            rintro _ w13 ⟨rfl, rfl⟩
            rw [e3]
            refine r_if (fun h => absurd rfl h) (fun _ => ?_)
            refine r_ar (by omega) ?_
            exact r_ag (a + 1) ⟨by omega, Kf7, Kg7, F7, G7⟩ (by omega) rfl
          | true =>
            by_cases e : (a : Int) = n
            · have htk : (a : Int) ∉ outOf L n own := fun h => by
                rcases (htq.1 h).2 with h | h
                · rw [hown] at h; cases h
                · exact h e
              refine r_ifb (fun _ => ?_) (fun h => by cases h)
              refine r_ifb (fun _ => ?_) (fun h => by cases h)
              refine r_eqT e ?_
              refine r_call (Cz.of cParent (Parent_c _ kf 16 _ Kf7 a)) ?_
              rintro _ w8 ⟨rfl, rfl⟩
              refine r_call (Cz.of cParent (Parent_c _ kg 16 _ Kg7 a)) ?_
              rintro _ w9 ⟨rfl, rfl⟩
              obtain ⟨e1, e2, e3⟩ := cut_keeps hI hn own htk
              rw [e2]
              refine r_if (fun h => absurd (by rw [ht0 htk]; rfl) h) (fun _ => ?_)
              refine r_call (FHas_t Kf7 a) ?_
              rintro _ w10 ⟨rfl, rfl⟩
              refine r_call (FHas_t Kg7 a) ?_
              rintro _ w11 ⟨rfl, rfl⟩
              rw [e1]
              refine r_ifb (fun h => by simp at h) (fun _ => ?_)
              refine r_if (fun h => absurd rfl h) (fun _ => ?_)
              refine r_ifb (fun h => by simp at h) (fun _ => ?_)
              refine r_call (Cz.of cDepth (Depth_c _ kf 16 _ Kf7 a)) ?_
              rintro _ w12 ⟨rfl, rfl⟩
              refine r_call (Cz.of cDepth (Depth_c _ kg 16 _ Kg7 a)) ?_
              rintro _ w13 ⟨rfl, rfl⟩
              rw [e3]
              refine r_if (fun h => absurd rfl h) (fun _ => ?_)
              refine r_ar (by omega) ?_
              exact r_ag (a + 1) ⟨by omega, Kf7, Kg7, F7, G7⟩ (by omega) rfl
            · have htk := htq.2 ⟨hu, .inr e⟩
              refine r_ifb (fun _ => ?_) (fun h => by cases h)
              refine r_ifb (fun _ => ?_) (fun h => by cases h)
              refine r_eqF e ?_
              refine r_call (Cz.of cParent (Parent_c _ kf 16 _ Kf7 a)) ?_
              rintro _ w8 ⟨rfl, rfl⟩
              refine r_call (Cz.of cParent (Parent_c _ kg 16 _ Kg7 a)) ?_
              rintro _ w9 ⟨rfl, rfl⟩
              refine r_if (fun h => absurd (by rw [ht1 htk]; rfl) h) (fun _ => ?_)
              refine r_call (FHas_t Kf7 a) ?_
              rintro _ w10 ⟨rfl, rfl⟩
              rw [cut_gone own (htk)]
              refine r_ar (by omega) ?_
              exact r_ag (a + 1) ⟨by omega, Kf7, Kg7, F7, G7⟩ (by omega) rfl
      · exact r_brk (r_ret ⟨rfl, F6⟩)
  | false =>
    obtain ⟨own, hown⟩ : ∃ o : Bool, o = true := ⟨_, rfl⟩
    have c := Cut_t (Z := ZD [] Z) Kf4 (n : Int)
    rw [← hown] at c
    refine r_call c ?_
    rintro _ w5 ⟨s, rfl, hs, Kf5, f5⟩
    have F5 : Fr [] w w5 := F4.trans_new f5 (fun q hq => .inr (Nat.le_trans F1.size (hkf q hq)))
    have Kg5 : FoR w5 kg 16 L [] := Kg4.frx f5 hfg
    have hI := Kg4.inv
    refine r_call (FHas_t Kg5 n) ?_
    rintro _ w55 ⟨rfl, rfl⟩
    refine r_ifbn (fun hn => ?_) (fun hn => ?_)
    · have e0 : fTake 16 L (n : Int) own = (L, [], 122) := by
        have : fAsk 16 L (n : Int) = 122 := by
          unfold fAsk
          rw [if_neg (fun h => h ⟨by omega, by omega⟩), if_pos hn]
        unfold fTake
        rw [if_neg (by rw [this]; decide), this]
      rw [e0] at hs Kf5
      rw [e0]
      obtain ⟨X6, c6, rfl, _⟩ := hs.ir
      refine r_call (Cz.of cLen (Len_c _ kf 16 _ Kf5)) ?_
      rintro _ w7 ⟨rfl, rfl⟩
      refine r_call (Cz.of cLen (Len_c _ kg 16 _ Kg5)) ?_
      rintro _ w8 ⟨rfl, rfl⟩
      exact r_ret ⟨by rw [decide_eq_true rfl], F5⟩
    · have e0 : fTake 16 L (n : Int) own = (minus L (outOf L n own), outOf L n own, 0) := by
        have : fAsk 16 L (n : Int) = 0 := by
          unfold fAsk
          rw [if_neg (fun h => h ⟨by omega, by omega⟩), if_neg (by rw [hn]; simp)]
        unfold fTake
        rw [if_pos this]
      rw [e0] at hs Kf5
      rw [e0]
      obtain ⟨c1, c2, c3⟩ := out_ok hI hn own
      have hom := fun a : Int => out_mem (a := a) hI hn own
      have hol : (outOf L n own).length ≤ 1000000 := by
        have h1 := fTake_len hI (by omega) (n : Int) own
        rw [e0] at h1
        exact h1
      dsimp only at hs Kf5
      obtain ⟨X6, c6, rfl, hrow⟩ := hs.ir
      generalize houtq : outOf L n own = out at *
      refine r_loop (fun (a : Nat) => [I (a : Int), B false]) (fun a w' => a ≤ 16 ∧ FoR w' kf 16 (minus L out) [] ∧ FoR w' kg 16 L [] ∧ Fr [] w w' ∧ Fr [] w55 w') (fun a => 16 - a) 0 ⟨Nat.zero_le _, Kf5, Kg5, F5, Fr.refl _ _⟩ rfl ?_
      rintro a w6 ⟨ha, Kf6, Kg6, F6, G6⟩
      refine r_if (fun h1 => ?_) (fun h1 => ?_)
      · refine r_loop (fun (j : Nat) => [I (j : Int), I (((out.take j).count (a : Int) : Nat) : Int)]) (fun j w' => j ≤ out.length ∧ FoR w' kf 16 (minus L out) [] ∧ FoR w' kg 16 L [] ∧ Fr [] w w' ∧ Fr [] w55 w') (fun j => out.length - j) 0 ⟨Nat.zero_le _, Kf6, Kg6, F6, G6⟩ (by simp) ?_
        rintro j w7 ⟨hj, Kf7, Kg7, F7, G7⟩
        refine r_if (fun h2 => ?_) (fun h2 => ?_)
        · obtain ⟨x, hx⟩ := gt (xs := out) (j := j) (by omega)
          obtain ⟨ad, rfl, hc⟩ := hrow j x hx
          have hcs : (out.take (j + 1)).count (a : Int) = (out.take j).count (a : Int) + if x = (a : Int) then 1 else 0 := by
            rw [take_succ' hx, List.count_append, List.count_singleton]
            simp
          have hcl : (out.take j).count (a : Int) ≤ 1000000 := Nat.le_trans List.count_le_length (by rw [List.length_take]; omega)
          refine r_ob ⟨by omega, by omega⟩ ?_
          refine r_ld (G7.c hc) ?_
          refine r_if (fun e => ?_) (fun e => ?_)
          · rw [if_pos e] at hcs
            refine r_ar (by omega) ?_
            refine r_ar (by omega) ?_
            exact r_ag (j + 1) ⟨by omega, Kf7, Kg7, F7, G7⟩ (by omega) (show [I ((j + 1 : Nat) : Int), I (((out.take (j + 1)).count (a : Int) : Nat) : Int)] = _ by rw [hcs]; rfl)
          · rw [if_neg e, Nat.add_zero] at hcs
            refine r_ar (by omega) ?_
            exact r_ag (j + 1) ⟨by omega, Kf7, Kg7, F7, G7⟩ (by omega) (show [I ((j + 1 : Nat) : Int), I (((out.take (j + 1)).count (a : Int) : Nat) : Int)] = _ by rw [hcs]; rfl)
        · have : j = out.length := by omega
          subst this
          rw [List.take_length]
          refine r_brk ?_
          have ht1 : (a : Int) ∈ out → out.count (a : Int) = 1 := fun h => count_one c2 h
          have ht0 : (a : Int) ∉ out → out.count (a : Int) = 0 := fun h => List.count_eq_zero.2 h
          have htq := hom (a : Int)
          subst houtq
          refine r_call (Cz.of cUnder (Under_c _ kg 16 _ Kg7 a n)) ?_
          rintro _ w7' ⟨rfl, rfl⟩
          cases hu : fUnd L (a : Int) n with
          | false =>
            have htk : (a : Int) ∉ outOf L n own := fun h => by
              have := (htq.1 h).1
              rw [hu] at this; cases this
            refine r_call (Cz.of cParent (Parent_c _ kf 16 _ Kf7 a)) ?_
            rintro _ w8 ⟨rfl, rfl⟩
            refine r_call (Cz.of cParent (Parent_c _ kg 16 _ Kg7 a)) ?_
            rintro _ w9 ⟨rfl, rfl⟩
            obtain ⟨e1, e2, e3⟩ := cut_keeps hI hn own htk
            rw [e2]
            refine r_if (fun h => absurd (by rw [ht0 htk]; rfl) h) (fun _ => ?_)
            refine r_call (FHas_t Kf7 a) ?_
            rintro _ w10 ⟨rfl, rfl⟩
            refine r_call (FHas_t Kg7 a) ?_
            rintro _ w11 ⟨rfl, rfl⟩
            rw [e1]
            refine r_ifb (fun h => by simp at h) (fun _ => ?_)
            refine r_if (fun h => absurd rfl h) (fun _ => ?_)
            refine r_ifb (fun h => by simp at h) (fun _ => ?_)
            refine r_call (Cz.of cDepth (Depth_c _ kf 16 _ Kf7 a)) ?_
            rintro _ w12 ⟨rfl, rfl⟩
            refine r_call (Cz.of cDepth (Depth_c _ kg 16 _ Kg7 a)) ?_
            rintro _ w13 ⟨rfl, rfl⟩
            rw [e3]
            refine r_if (fun h => absurd rfl h) (fun _ => ?_)
            refine r_ar (by omega) ?_
            exact r_ag (a + 1) ⟨by omega, Kf7, Kg7, F7, G7⟩ (by omega) rfl
          | true =>
            have htk := htq.2 ⟨hu, .inl hown⟩
            refine r_call (Cz.of cParent (Parent_c _ kf 16 _ Kf7 a)) ?_
            rintro _ w8 ⟨rfl, rfl⟩
            refine r_call (Cz.of cParent (Parent_c _ kg 16 _ Kg7 a)) ?_
            rintro _ w9 ⟨rfl, rfl⟩
            refine r_if (fun h => absurd (by rw [ht1 htk]; rfl) h) (fun _ => ?_)
            refine r_call (FHas_t Kf7 a) ?_
            rintro _ w10 ⟨rfl, rfl⟩
            rw [cut_gone own (htk)]
            refine r_ar (by omega) ?_
            exact r_ag (a + 1) ⟨by omega, Kf7, Kg7, F7, G7⟩ (by omega) rfl
      · exact r_brk (r_ret ⟨rfl, F6⟩)
theorem wf_u8 {z : Int} (h : (Lit.int .u8 z).wf = true) : 0 ≤ z ∧ z ≤ 255 := by
  simp [Lit.wf, IntKind.min, IntKind.max, IntKind.signed, IntKind.bits] at h
  omega
theorem cuts_c (w : World) (hG : Glb w) (X : Option Addr) (ln cp : Nat) (hln : ln ≤ 9223372036854775807) (hp : ∀ j : Nat, j < ln → ∃ (x : Addr) (z0 : Int) (z1 : Int) (z2 : Int), X = some x ∧ (∀ (i : Nat) v, ([.int .i64 z0, .int .i64 z1, .int .i64 z2] : List Value)[i]? = some v → w.cell? ((x.add (((j : Nat) : Int).toNat * 3)).add i) = some v) ∧ (Lit.int .i64 z0).wf = true ∧ (Lit.int .i64 z1).wf = true ∧ (Lit.int .i64 z2).wf = true) (node : Int) (hnd : (Lit.int .u8 node).wf = true) (prune : Bool) :
    Cl Tryd.prog 5 [.slice X ln cp, .int .u8 node, .bool prune] w (fun v w' => v = .bool true ∧ Fr [] w w') := by
  obtain ⟨ops, rfl, ho⟩ := ops_of ln hp
  obtain ⟨h0, h1⟩ := wf_u8 hnd
  obtain ⟨m, rfl⟩ : ∃ m : Nat, node = m := ⟨node.toNat, by omega⟩
  exact (cuts_t hG ho m (by omega) prune).cl
end
end Go.Proofs.YtcbkpekbfkaeeaaDoor.Fo
