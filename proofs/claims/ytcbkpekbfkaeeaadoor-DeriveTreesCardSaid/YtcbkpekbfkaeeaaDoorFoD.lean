/- The law of forests, over trees: DeriveTrees. -/
import Derived.Test.YtcbkpekbfkaeeaaDoorFoO
import Derived.Test.YtcbkpekbfkaeeaaDoorFoR
set_option linter.unusedVariables false
set_option linter.unusedSimpArgs false
namespace Go.Proofs.YtcbkpekbfkaeeaaDoor.Fo
open Go Go.RowKit Go.Proofs.YtcbkpekbfkaeeaaDoor.Sx
open Go.Proofs.YtcbkpekbfkaeeaaDoor.Ls (mixed new_r Glb)
section
variable {Z : ZP} {w : World}
theorem trees_t (hG : Glb w) {X : Option Addr} {cp : Nat} {ops : List Op3} (hops : OpsAt w X ops) : Cz Tryd.prog 4 [.slice X ops.length cp] w (fun r w' => r = B true ∧ Fr [] w w') Z := by
  refine go mixed Tryd.func4 Tryd.call4 rfl (Tr.e4 _) ?_
  refine r_call (awake_t hG) ?_
  rintro _ w1 ⟨rfl, F1⟩
  refine r_call (made_t (hG.fr F1 (by simp)) (hops.up F1)) ?_
  rintro _ w2 ⟨k, rfl, K, hk, f2⟩
  have F2 := F1.trans f2
  generalize makeL ops = L at K
  obtain ⟨hp, hhp⟩ : ∃ hp : Nat → Bool, hp = fun b : Nat => has L (b : Int) := ⟨_, rfl⟩
  have hI := K.inv
  have hnl : nF hp 16 = L.length := by rw [hhp]; exact nF_has hI
  refine r_loop (fun (a : Nat) => [I (a : Int), I (nF hp a : Int), B false]) (fun a w' => a ≤ 16 ∧ FoR w' k 16 L [] ∧ Fr [] w w') (fun a => 16 - a) 0 ⟨Nat.zero_le _, K, F2⟩ rfl ?_
  rintro a w3 ⟨ha, K3, F3⟩
  have hna := nF_le hp a
  have hns := nF_succ hp a
  refine r_if (fun h1 => ?_) (fun h1 => ?_)
  · refine r_call (FHas_t K3 a) ?_
    rintro _ w4 ⟨rfl, rfl⟩
    refine r_ifbn (fun hh => ?_) (fun hh => ?_)
    · rw [if_neg (by rw [hhp]; simp [hh])] at hns
      refine r_ar (by omega) ?_
      exact r_ag (a + 1) ⟨by omega, K3, F3⟩ (by omega) (show [I ((a + 1 : Nat) : Int), I ((nF hp (a + 1) : Nat) : Int), B false] = _ by rw [hns]; rfl)
    rw [if_pos (by rw [hhp]; exact hh)] at hns
    refine r_ar (by omega) ?_
    obtain ⟨rp, hrp⟩ : ∃ rp : Nat → Bool, rp = fun b : Nat => isRoot L (b : Int) && fUnd L (a : Int) (b : Int) := ⟨_, rfl⟩
    refine r_loop (fun (b : Nat) => [I (b : Int), I (nF rp b : Int)]) (fun b w' => b ≤ 16 ∧ FoR w' k 16 L [] ∧ Fr [] w w') (fun b => 16 - b) 0 ⟨Nat.zero_le _, K3, F3⟩ rfl ?_
    rintro b w5 ⟨hb, K5, F5⟩
    have hnb := nF_le rp b
    have hbs := nF_succ rp b
    refine r_if (fun h2 => ?_) (fun h2 => ?_)
    · have no : rp b = false → wp Tryd.prog Z (fun r w' => r = B true ∧ Fr [] w w') [] (biT false .add (I (b : Int)) (I 1) fun v32 => .again [v32, I (nF rp b : Int)]) w5 (fun ds' vs' w' => ∃ s', (fun (b : Nat) => [I (b : Int), I (nF rp b : Int)]) s' = vs' ∧ (fun b => 16 - b) s' < (fun b => 16 - b) b ∧ ds' = [] ∧ (fun b w' => b ≤ 16 ∧ FoR w' k 16 L [] ∧ Fr [] w w') s' w') nB := by
        intro hf
        rw [if_neg (by rw [hf]; simp)] at hbs
        refine r_ar (by omega) ?_
        exact ⟨b + 1, (show [I ((b + 1 : Nat) : Int), I ((nF rp (b + 1) : Nat) : Int)] = _ by rw [hbs]; rfl), by dsimp only; omega, rfl, by omega, K5, F5⟩
      have no' : ∀ {B'}, rp b = false → wp Tryd.prog Z (fun r w' => r = B true ∧ Fr [] w w') [] (biT false .add (I (b : Int)) (I 1) fun v32 => .again [v32, I (nF rp b : Int)]) w5 (fun ds' vs' w' => ∃ s', (fun (b : Nat) => [I (b : Int), I (nF rp b : Int)]) s' = vs' ∧ (fun b => 16 - b) s' < (fun b => 16 - b) b ∧ ds' = [] ∧ (fun b w' => b ≤ 16 ∧ FoR w' k 16 L [] ∧ Fr [] w w') s' w') B' := fun h => no h
      refine r_call (Cz.of Tryd.call18 (Parent_c w5 k 16 L K5 b)) ?_
      rintro _ w6 ⟨rfl, rfl⟩
      refine r_call (FHas_t K5 b) ?_
      rintro _ w7 ⟨rfl, rfl⟩
      have hrb : rp b = (isRoot L (b : Int) && fUnd L (a : Int) (b : Int)) := by rw [hrp]
      unfold isRoot at hrb
      refine r_ifb (fun h3 => ?_) (fun h3 => ?_)
      · rw [h3, Bool.true_and] at hrb
        refine r_ifbn (fun h4 => ?_) (fun h4 => ?_)
        · replace h4 : (fPar L (b : Int)).2 = false := h4
          rw [h4] at hrb
          refine r_call (Cz.of Tryd.call19 (Under_c w7 k 16 L K5 a b)) ?_
          rintro _ w8 ⟨rfl, rfl⟩
          refine r_ifb (fun h5 => ?_) (fun h5 => ?_)
          · rw [h5] at hrb
            rw [if_pos (by rw [hrb]; rfl)] at hbs
            refine r_ar (by omega) ?_
            refine r_ar (by omega) ?_
            exact r_ag (b + 1) ⟨by omega, K5, F5⟩ (by omega) (show [I ((b + 1 : Nat) : Int), I ((nF rp (b + 1) : Nat) : Int)] = _ by rw [hbs]; rfl)
          · rw [h5] at hrb
            exact no' (by rw [hrb]; rfl)
        · replace h4 : (fPar L (b : Int)).2 = true := h4
          rw [h4] at hrb
          exact no' (by rw [hrb]; rfl)
      · rw [h3] at hrb
        exact no' (by rw [hrb]; rfl)
    · have hb16 : b = 16 := by omega
      subst hb16
      have h1r : nF rp 16 = 1 := by rw [hrp]; exact one_root hI hh
      rw [h1r]
      refine r_brk ?_
      refine r_call (lbelow_t K5 a 100) ?_
      rintro _ w6 ⟨s, rfl, hs, f6⟩
      have K6 := K5.fr0 f6
      have F6 := F5.trans f6
      obtain ⟨ys, hys⟩ : ∃ ys, ys = (rBel L (a : Int)).take (mx 100) := ⟨_, rfl⟩
      rw [← hys] at hs
      have hyl : ys.length ≤ 100 := by rw [hys, List.length_take]; exact Nat.le_trans (Nat.min_le_left _ _) (by decide)
      have hyb : ∀ x ∈ ys, x ∈ below L (a : Int) := fun x hx => by
        rw [hys] at hx
        have := List.mem_of_mem_take hx
        unfold rBel at this
        rwa [if_pos hh] at this
      obtain ⟨Y, c, rfl, hrow⟩ := hs.ir
      refine r_loop (fun (j : Nat) => [I (j : Int), B false]) (fun j w' => j ≤ ys.length ∧ FoR w' k 16 L [] ∧ Fr [] w w' ∧ Fr [] w6 w') (fun j => ys.length - j) 0 ⟨Nat.zero_le _, K6, F6, Fr.refl _ _⟩ rfl ?_
      rintro j w7 ⟨hj, K7, F7, G7⟩
      refine r_if (fun h3 => ?_) (fun h3 => ?_)
      · obtain ⟨x, hx⟩ := gt (xs := ys) (j := j) (by omega)
        obtain ⟨ad, rfl, hc⟩ := hrow j x hx
        obtain ⟨b1, b2, b3⟩ := bel_facts hI hh (hyb x (List.mem_of_getElem? hx))
        have hc7 := G7.c hc
        refine r_ob ⟨by omega, by omega⟩ ?_
        refine r_ld hc7 ?_
        refine r_if (fun e => absurd e b1) (fun _ => ?_)
        refine r_ob ⟨by omega, by omega⟩ ?_
        refine r_ld hc7 ?_
        refine r_call (Cz.of Tryd.call19 (Under_c w7 k 16 L K7 x a)) ?_
        rintro _ w8 ⟨rfl, rfl⟩
        rw [b2]
        refine r_ob ⟨by omega, by omega⟩ ?_
        refine r_ld hc7 ?_
        refine r_call (Cz.of Tryd.call20 (Depth_c w8 k 16 L K7 x)) ?_
        rintro _ w9 ⟨rfl, rfl⟩
        refine r_call (Cz.of Tryd.call20 (Depth_c w9 k 16 L K7 a)) ?_
        rintro _ w10 ⟨rfl, rfl⟩
        refine r_if (fun e => absurd e (by omega)) (fun _ => ?_)
        refine r_ar (by omega) ?_
        exact r_ag (j + 1) ⟨by omega, K7, F7, G7⟩ (by omega) rfl
      · refine r_brk ?_
        refine r_ar (by omega) ?_
        exact r_ag (a + 1) ⟨by omega, K7, F7⟩ (by omega) (show [I ((a + 1 : Nat) : Int), I ((nF hp (a + 1) : Nat) : Int), B false] = _ by rw [hns]; rfl)
  · have h16 : a = 16 := by omega
    subst h16
    refine r_brk ?_
    refine r_call (Cz.of Tryd.call21 (Len_c w3 k 16 L K3)) ?_
    rintro _ w4 ⟨rfl, rfl⟩
    refine r_ret ⟨?_, F3⟩
    show B (decide ((nF hp 16 : Int) = (L.length : Int))) = _
    rw [hnl, decide_eq_true rfl]
theorem trees_c (w : World) (hG : Glb w) (X : Option Addr) (ln cp : Nat) (hln : ln ≤ 9223372036854775807) (hp : ∀ j : Nat, j < ln → ∃ (x : Addr) (z0 : Int) (z1 : Int) (z2 : Int), X = some x ∧ (∀ (i : Nat) v, ([.int .i64 z0, .int .i64 z1, .int .i64 z2] : List Value)[i]? = some v → w.cell? ((x.add (((j : Nat) : Int).toNat * 3)).add i) = some v) ∧ (Lit.int .i64 z0).wf = true ∧ (Lit.int .i64 z1).wf = true ∧ (Lit.int .i64 z2).wf = true) :
    Cl Tryd.prog 4 [.slice X ln cp] w (fun v w' => v = .bool true ∧ Fr [] w w') := by
  obtain ⟨ops, rfl, ho⟩ := ops_of ln hp
  exact (trees_t hG ho).cl
end
end Go.Proofs.YtcbkpekbfkaeeaaDoor.Fo
