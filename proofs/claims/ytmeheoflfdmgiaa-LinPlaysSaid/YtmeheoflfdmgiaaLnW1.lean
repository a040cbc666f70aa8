/- Deeds: the walks of what is asked of single deeds. -/
import Derived.Test.YtmeheoflfdmgiaaLnB
import Derived.Test.YtmeheoflfdmgiaaSxR
import Derived.Test.YtmeheoflfdmgiaaProg
set_option linter.unusedVariables false
namespace Go.Proofs.Ytmeheoflfdmgiaa.Lin
open Go Go.RowKit Go.Proofs.Ytmeheoflfdmgiaa.Sx Go.Proofs.Ytmeheoflfdmgiaa
set_option maxRecDepth 100000

theorem few_c (w : World) (A : Option Addr) (n m c : Nat) (hc : n ≤ c) (hm : m ≤ 24) : Cl Try.prog 8 [.slice A n c, .int .i64 m] w (fun v w' => v = .slice A (fewN n m) c ∧ Fr [] w w') := by
  refine enter Try.func8 rfl Try.ntmps8 rfl ?_
  refine cl_seq rfl ?_
  refine cl_reg rfl ?_
  refine st rfl rfl rfl rfl (x_asg rfl) ?_
  refine rl_end rfl ?_
  refine al_k ?_
  refine cl_seq rfl ?_
  refine cl_seq rfl ?_
  refine cl_reg rfl ?_
  refine st rfl rfl rfl rfl (x_move rfl) ?_
  refine st rfl rfl rfl rfl (x_len rfl Try.underlying22) ?_
  refine st rfl rfl rfl rfl (x_move rfl) ?_
  refine sf rfl rfl rfl rfl (x_gtr rfl rfl) (fun c1_3 => ?_) (fun c1_3 => ?_)
  · skip
    refine st rfl rfl rfl rfl (x_move rfl) ?_
    refine st rfl rfl rfl rfl (x_move rfl) ?_
    refine st rfl rfl rfl rfl (x_len rfl Try.underlying22) ?_
    refine sf rfl rfl rfl rfl (x_leq rfl rfl) (fun c1_7 => ?_) (fun c1_7 => ?_)
    · skip
      refine st rfl rfl rfl rfl (x_pick1 rfl rfl) ?_
      refine rl_end rfl ?_
      refine al_k ?_
      refine cl_if1 rfl rfl ?_
      refine cl_seq rfl ?_
      refine cl_reg rfl ?_
      refine st rfl rfl rfl rfl (x_move rfl) ?_
      refine st rfl rfl rfl rfl (x_move rfl) ?_
      refine st rfl rfl rfl rfl (x_slh rfl rfl Try.underlying22 Try.sizeOf40 (by omega)) ?_
      refine st rfl rfl rfl rfl (x_asg rfl) ?_
      refine rl_end rfl ?_
      refine al_k ?_
      refine cl_ret rfl ?_
      refine fin1 rfl rfl ?_
      rw [show fewN n m = m from by unfold fewN; rw [if_pos (by omega)]]
      exact ⟨rfl, Fr.refl _ _⟩
    · skip
      refine st rfl rfl rfl rfl (x_pick1 rfl rfl) ?_
      refine rl_end rfl ?_
      refine al_k ?_
      refine cl_if0 rfl rfl ?_
      refine cl_skip rfl ?_
      refine al_k ?_
      refine cl_seq rfl ?_
      refine cl_seq rfl ?_
      refine cl_reg rfl ?_
      refine st rfl rfl rfl rfl (x_move rfl) ?_
      refine st rfl rfl rfl rfl (x_len rfl Try.underlying22) ?_
      refine sf rfl rfl rfl rfl (x_gtr rfl rfl) (fun c3_2 => ?_) (fun c3_2 => ?_)
      · skip
        refine rl_end rfl ?_
        refine al_k ?_
        refine cl_if1 rfl rfl ?_
        refine cl_seq rfl ?_
        refine cl_reg rfl ?_
        refine st rfl rfl rfl rfl (x_move rfl) ?_
        refine st rfl rfl rfl rfl (x_slh rfl rfl Try.underlying22 Try.sizeOf40 (by omega)) ?_
        refine st rfl rfl rfl rfl (x_asg rfl) ?_
        refine rl_end rfl ?_
        refine al_k ?_
        refine cl_ret rfl ?_
        refine fin1 rfl rfl ?_
        rw [show fewN n m = 25 from by unfold fewN; rw [if_neg (by omega), if_pos (by omega)]]
        exact ⟨rfl, Fr.refl _ _⟩
      · skip
        refine rl_end rfl ?_
        refine al_k ?_
        refine cl_if0 rfl rfl ?_
        refine cl_skip rfl ?_
        refine al_k ?_
        refine cl_seq rfl ?_
        refine cl_reg rfl ?_
        refine st rfl rfl rfl rfl (x_move rfl) ?_
        refine st rfl rfl rfl rfl (x_asg rfl) ?_
        refine rl_end rfl ?_
        refine al_k ?_
        refine cl_ret rfl ?_
        refine fin1 rfl rfl ?_
        rw [show fewN n m = n from by unfold fewN; rw [if_neg (by omega), if_neg (by omega)]]
        exact ⟨rfl, Fr.refl _ _⟩
  · skip
    refine st rfl rfl rfl rfl (x_move rfl) ?_
    refine so rfl rfl rfl rfl ?_
    refine so rfl rfl rfl rfl ?_
    refine so rfl rfl rfl rfl ?_
    refine st rfl rfl rfl rfl (x_pick0 rfl rfl) ?_
    refine rl_end rfl ?_
    refine al_k ?_
    refine cl_if0 rfl rfl ?_
    refine cl_skip rfl ?_
    refine al_k ?_
    refine cl_seq rfl ?_
    refine cl_seq rfl ?_
    refine cl_reg rfl ?_
    refine st rfl rfl rfl rfl (x_move rfl) ?_
    refine st rfl rfl rfl rfl (x_len rfl Try.underlying22) ?_
    refine sf rfl rfl rfl rfl (x_gtr rfl rfl) (fun c3_2 => ?_) (fun c3_2 => ?_)
    · skip
      refine rl_end rfl ?_
      refine al_k ?_
      refine cl_if1 rfl rfl ?_
      refine cl_seq rfl ?_
      refine cl_reg rfl ?_
      refine st rfl rfl rfl rfl (x_move rfl) ?_
      refine st rfl rfl rfl rfl (x_slh rfl rfl Try.underlying22 Try.sizeOf40 (by omega)) ?_
      refine st rfl rfl rfl rfl (x_asg rfl) ?_
      refine rl_end rfl ?_
      refine al_k ?_
      refine cl_ret rfl ?_
      refine fin1 rfl rfl ?_
      rw [show fewN n m = 25 from by unfold fewN; rw [if_neg (by omega), if_pos (by omega)]]
      exact ⟨rfl, Fr.refl _ _⟩
    · skip
      refine rl_end rfl ?_
      refine al_k ?_
      refine cl_if0 rfl rfl ?_
      refine cl_skip rfl ?_
      refine al_k ?_
      refine cl_seq rfl ?_
      refine cl_reg rfl ?_
      refine st rfl rfl rfl rfl (x_move rfl) ?_
      refine st rfl rfl rfl rfl (x_asg rfl) ?_
      refine rl_end rfl ?_
      refine al_k ?_
      refine cl_ret rfl ?_
      refine fin1 rfl rfl ?_
      rw [show fewN n m = n from by unfold fewN; rw [if_neg (by omega), if_neg (by omega)]]
      exact ⟨rfl, Fr.refl _ _⟩

theorem ahead_c (w : World) (a b : D) : Cl Try.prog 20 [.agg (encD a).toArray, .agg (encD b).toArray] w (fun v w' => v = .bool (decide (ahead a b)) ∧ Fr [] w w') := by
  have F := Fr.refl [] w
  refine enter Try.func20 rfl Try.ntmps20 rfl ?_
  refine cl_seq rfl ?_
  refine cl_reg rfl ?_
  refine se rfl rfl rfl rfl (e_new (x_box (cs := encD a) rfl rfl)) ?_
  rintro _ wba ⟨rfl, ba, fr, _⟩
  replace F := F.trans fr
  clear fr
  refine se rfl rfl rfl rfl (e_new (x_box (cs := encD b) rfl rfl)) ?_
  rintro _ wbb ⟨rfl, bb, fr, _⟩
  replace F := F.trans fr
  replace ba := ba.fr0 fr
  clear fr
  refine st rfl rfl rfl rfl (x_asg rfl) ?_
  refine rl_end rfl ?_
  refine al_k ?_
  refine cl_seq rfl ?_
  refine cl_reg rfl ?_
  refine st rfl rfl rfl rfl (x_fa rfl Try.underlying40 rfl Try.sizeOf4 5 rfl) ?_
  refine st rfl rfl rfl rfl (x_ld rfl Try.isAgg4 (ba.cell rfl)) ?_
  cases hf1_1 : (a.opn)
  · skip
    refine st rfl rfl rfl rfl (x_not0 rfl) ?_
    refine st rfl rfl rfl rfl (x_move rfl) ?_
    refine st rfl rfl rfl rfl (x_fa rfl Try.underlying40 rfl Try.sizeOf3 4 rfl) ?_
    refine st rfl rfl rfl rfl (x_ld rfl Try.isAgg3 (ba.cell rfl)) ?_
    refine st rfl rfl rfl rfl (x_fa rfl Try.underlying40 rfl Try.sizeOf3 3 rfl) ?_
    refine st rfl rfl rfl rfl (x_ld rfl Try.isAgg3 (bb.cell rfl)) ?_
    refine sf rfl rfl rfl rfl (x_lss rfl rfl) (fun c1_8 => ?_) (fun c1_8 => ?_)
    · skip
      refine st rfl rfl rfl rfl (x_pick1 rfl rfl) ?_
      refine st rfl rfl rfl rfl (x_asg rfl) ?_
      refine rl_end rfl ?_
      refine al_k ?_
      refine cl_ret rfl ?_
      refine fin1 rfl rfl ?_
      refine ⟨congrArg Value.bool ?_, F⟩
      first
        | exact (decide_eq_true (by simp_all [ahead] <;> omega)).symm
        | exact (decide_eq_false (by simp_all [ahead] <;> omega)).symm
    · skip
      refine st rfl rfl rfl rfl (x_pick1 rfl rfl) ?_
      refine st rfl rfl rfl rfl (x_asg rfl) ?_
      refine rl_end rfl ?_
      refine al_k ?_
      refine cl_ret rfl ?_
      refine fin1 rfl rfl ?_
      refine ⟨congrArg Value.bool ?_, F⟩
      first
        | exact (decide_eq_true (by simp_all [ahead] <;> omega)).symm
        | exact (decide_eq_false (by simp_all [ahead] <;> omega)).symm
  · skip
    refine st rfl rfl rfl rfl (x_not1 rfl) ?_
    refine st rfl rfl rfl rfl (x_move rfl) ?_
    refine so rfl rfl rfl rfl ?_
    refine so rfl rfl rfl rfl ?_
    refine so rfl rfl rfl rfl ?_
    refine so rfl rfl rfl rfl ?_
    refine so rfl rfl rfl rfl ?_
    refine st rfl rfl rfl rfl (x_pick0 rfl rfl) ?_
    refine st rfl rfl rfl rfl (x_asg rfl) ?_
    refine rl_end rfl ?_
    refine al_k ?_
    refine cl_ret rfl ?_
    refine fin1 rfl rfl ?_
    refine ⟨congrArg Value.bool ?_, F⟩
    first
      | exact (decide_eq_true (by simp_all [ahead] <;> omega)).symm
      | exact (decide_eq_false (by simp_all [ahead] <;> omega)).symm

theorem rahead_c (w : World) (a b : D) : Cl Try.prog 21 [.agg (encD a).toArray, .agg (encD b).toArray] w (fun v w' => v = .bool (decide (ahead a b)) ∧ Fr [] w w') := by
  have F := Fr.refl [] w
  refine enter Try.func21 rfl Try.ntmps21 rfl ?_
  refine cl_seq rfl ?_
  refine cl_reg rfl ?_
  refine se rfl rfl rfl rfl (e_new (x_box (cs := encD a) rfl rfl)) ?_
  rintro _ wba ⟨rfl, ba, fr, _⟩
  replace F := F.trans fr
  clear fr
  refine se rfl rfl rfl rfl (e_new (x_box (cs := encD b) rfl rfl)) ?_
  rintro _ wbb ⟨rfl, bb, fr, _⟩
  replace F := F.trans fr
  replace ba := ba.fr0 fr
  clear fr
  refine st rfl rfl rfl rfl (x_asg rfl) ?_
  refine rl_end rfl ?_
  refine al_k ?_
  refine cl_seq rfl ?_
  refine cl_reg rfl ?_
  refine st rfl rfl rfl rfl (x_fa rfl Try.underlying40 rfl Try.sizeOf4 5 rfl) ?_
  refine st rfl rfl rfl rfl (x_ld rfl Try.isAgg4 (ba.cell rfl)) ?_
  cases hf1_1 : (a.opn)
  · skip
    refine st rfl rfl rfl rfl (x_not0 rfl) ?_
    refine st rfl rfl rfl rfl (x_move rfl) ?_
    refine st rfl rfl rfl rfl (x_fa rfl Try.underlying40 rfl Try.sizeOf3 4 rfl) ?_
    refine st rfl rfl rfl rfl (x_ld rfl Try.isAgg3 (ba.cell rfl)) ?_
    refine st rfl rfl rfl rfl (x_fa rfl Try.underlying40 rfl Try.sizeOf3 3 rfl) ?_
    refine st rfl rfl rfl rfl (x_ld rfl Try.isAgg3 (bb.cell rfl)) ?_
    refine sf rfl rfl rfl rfl (x_lss rfl rfl) (fun c1_8 => ?_) (fun c1_8 => ?_)
    · skip
      refine st rfl rfl rfl rfl (x_pick1 rfl rfl) ?_
      refine st rfl rfl rfl rfl (x_asg rfl) ?_
      refine rl_end rfl ?_
      refine al_k ?_
      refine cl_ret rfl ?_
      refine fin1 rfl rfl ?_
      refine ⟨congrArg Value.bool ?_, F⟩
      first
        | exact (decide_eq_true (by simp_all [ahead] <;> omega)).symm
        | exact (decide_eq_false (by simp_all [ahead] <;> omega)).symm
    · skip
      refine st rfl rfl rfl rfl (x_pick1 rfl rfl) ?_
      refine st rfl rfl rfl rfl (x_asg rfl) ?_
      refine rl_end rfl ?_
      refine al_k ?_
      refine cl_ret rfl ?_
      refine fin1 rfl rfl ?_
      refine ⟨congrArg Value.bool ?_, F⟩
      first
        | exact (decide_eq_true (by simp_all [ahead] <;> omega)).symm
        | exact (decide_eq_false (by simp_all [ahead] <;> omega)).symm
  · skip
    refine st rfl rfl rfl rfl (x_not1 rfl) ?_
    refine st rfl rfl rfl rfl (x_move rfl) ?_
    refine so rfl rfl rfl rfl ?_
    refine so rfl rfl rfl rfl ?_
    refine so rfl rfl rfl rfl ?_
    refine so rfl rfl rfl rfl ?_
    refine so rfl rfl rfl rfl ?_
    refine st rfl rfl rfl rfl (x_pick0 rfl rfl) ?_
    refine st rfl rfl rfl rfl (x_asg rfl) ?_
    refine rl_end rfl ?_
    refine al_k ?_
    refine cl_ret rfl ?_
    refine fin1 rfl rfl ?_
    refine ⟨congrArg Value.bool ?_, F⟩
    first
      | exact (decide_eq_true (by simp_all [ahead] <;> omega)).symm
      | exact (decide_eq_false (by simp_all [ahead] <;> omega)).symm

theorem may_c (w : World) (d : D) : Cl Try.prog 38 [.agg (encD d).toArray] w (fun v w' => v = .bool (decide (okD d)) ∧ Fr [] w w') := by
  have F := Fr.refl [] w
  refine enter Try.func38 rfl Try.ntmps38 rfl ?_
  refine cl_seq rfl ?_
  refine cl_reg rfl ?_
  refine se rfl rfl rfl rfl (e_new (x_box (cs := encD d) rfl rfl)) ?_
  rintro _ wbd ⟨rfl, bd, fr, _⟩
  replace F := F.trans fr
  clear fr
  refine st rfl rfl rfl rfl (x_asg rfl) ?_
  refine rl_end rfl ?_
  refine al_k ?_
  refine cl_seq rfl ?_
  refine cl_reg rfl ?_
  refine st rfl rfl rfl rfl (x_fa rfl Try.underlying40 rfl Try.sizeOf37 0 rfl) ?_
  refine st rfl rfl rfl rfl (x_ld rfl Try.isAgg37 (bd.cell rfl)) ?_
  refine sf rfl rfl rfl rfl (x_geq rfl rfl) (fun c1_2 => ?_) (fun c1_2 => ?_)
  · skip
    refine st rfl rfl rfl rfl (x_move rfl) ?_
    refine st rfl rfl rfl rfl (x_fa rfl Try.underlying40 rfl Try.sizeOf37 0 rfl) ?_
    refine st rfl rfl rfl rfl (x_ld rfl Try.isAgg37 (bd.cell rfl)) ?_
    refine sf rfl rfl rfl rfl (x_leq rfl rfl) (fun c1_6 => ?_) (fun c1_6 => ?_)
    · skip
      refine st rfl rfl rfl rfl (x_pick1 rfl rfl) ?_
      refine st rfl rfl rfl rfl (x_move rfl) ?_
      refine st rfl rfl rfl rfl (x_fa rfl Try.underlying40 rfl Try.sizeOf3 1 rfl) ?_
      refine st rfl rfl rfl rfl (x_ld rfl Try.isAgg3 (bd.cell rfl)) ?_
      refine sf rfl rfl rfl rfl (x_geq rfl rfl) (fun c1_11 => ?_) (fun c1_11 => ?_)
      · skip
        refine st rfl rfl rfl rfl (x_pick1 rfl rfl) ?_
        refine st rfl rfl rfl rfl (x_move rfl) ?_
        refine st rfl rfl rfl rfl (x_fa rfl Try.underlying40 rfl Try.sizeOf3 1 rfl) ?_
        refine st rfl rfl rfl rfl (x_ld rfl Try.isAgg3 (bd.cell rfl)) ?_
        refine sf rfl rfl rfl rfl (x_lss rfl rfl) (fun c1_16 => ?_) (fun c1_16 => ?_)
        · skip
          refine st rfl rfl rfl rfl (x_pick1 rfl rfl) ?_
          refine st rfl rfl rfl rfl (x_move rfl) ?_
          refine st rfl rfl rfl rfl (x_fa rfl Try.underlying40 rfl Try.sizeOf4 5 rfl) ?_
          refine st rfl rfl rfl rfl (x_ld rfl Try.isAgg4 (bd.cell rfl)) ?_
          cases hf1_20 : (d.opn)
          · skip
            refine st rfl rfl rfl rfl (x_move rfl) ?_
            refine st rfl rfl rfl rfl (x_fa rfl Try.underlying40 rfl Try.sizeOf3 3 rfl) ?_
            refine st rfl rfl rfl rfl (x_ld rfl Try.isAgg3 (bd.cell rfl)) ?_
            refine st rfl rfl rfl rfl (x_fa rfl Try.underlying40 rfl Try.sizeOf3 4 rfl) ?_
            refine st rfl rfl rfl rfl (x_ld rfl Try.isAgg3 (bd.cell rfl)) ?_
            refine sf rfl rfl rfl rfl (x_leq rfl rfl) (fun c1_26 => ?_) (fun c1_26 => ?_)
            · skip
              refine st rfl rfl rfl rfl (x_pick0 rfl rfl) ?_
              refine st rfl rfl rfl rfl (x_pick1 rfl rfl) ?_
              refine st rfl rfl rfl rfl (x_asg rfl) ?_
              refine rl_end rfl ?_
              refine al_k ?_
              refine cl_ret rfl ?_
              refine fin1 rfl rfl ?_
              refine ⟨congrArg Value.bool ?_, F⟩
              first
                | exact (decide_eq_true (by simp_all [okD] <;> omega)).symm
                | exact (decide_eq_false (by simp_all [okD] <;> omega)).symm
            · skip
              refine st rfl rfl rfl rfl (x_pick0 rfl rfl) ?_
              refine st rfl rfl rfl rfl (x_pick1 rfl rfl) ?_
              refine st rfl rfl rfl rfl (x_asg rfl) ?_
              refine rl_end rfl ?_
              refine al_k ?_
              refine cl_ret rfl ?_
              refine fin1 rfl rfl ?_
              refine ⟨congrArg Value.bool ?_, F⟩
              first
                | exact (decide_eq_true (by simp_all [okD] <;> omega)).symm
                | exact (decide_eq_false (by simp_all [okD] <;> omega)).symm
          · skip
            refine st rfl rfl rfl rfl (x_move rfl) ?_
            refine so rfl rfl rfl rfl ?_
            refine so rfl rfl rfl rfl ?_
            refine so rfl rfl rfl rfl ?_
            refine so rfl rfl rfl rfl ?_
            refine so rfl rfl rfl rfl ?_
            refine st rfl rfl rfl rfl (x_pick1 rfl rfl) ?_
            refine st rfl rfl rfl rfl (x_pick1 rfl rfl) ?_
            refine st rfl rfl rfl rfl (x_asg rfl) ?_
            refine rl_end rfl ?_
            refine al_k ?_
            refine cl_ret rfl ?_
            refine fin1 rfl rfl ?_
            refine ⟨congrArg Value.bool ?_, F⟩
            first
              | exact (decide_eq_true (by simp_all [okD] <;> omega)).symm
              | exact (decide_eq_false (by simp_all [okD] <;> omega)).symm
        · skip
          refine st rfl rfl rfl rfl (x_pick1 rfl rfl) ?_
          refine st rfl rfl rfl rfl (x_move rfl) ?_
          refine so rfl rfl rfl rfl ?_
          refine so rfl rfl rfl rfl ?_
          refine so rfl rfl rfl rfl ?_
          refine so rfl rfl rfl rfl ?_
          refine so rfl rfl rfl rfl ?_
          refine so rfl rfl rfl rfl ?_
          refine so rfl rfl rfl rfl ?_
          refine so rfl rfl rfl rfl ?_
          refine so rfl rfl rfl rfl ?_
          refine st rfl rfl rfl rfl (x_pick0 rfl rfl) ?_
          refine st rfl rfl rfl rfl (x_asg rfl) ?_
          refine rl_end rfl ?_
          refine al_k ?_
          refine cl_ret rfl ?_
          refine fin1 rfl rfl ?_
          refine ⟨congrArg Value.bool ?_, F⟩
          first
            | exact (decide_eq_true (by simp_all [okD] <;> omega)).symm
            | exact (decide_eq_false (by simp_all [okD] <;> omega)).symm
      · skip
        refine st rfl rfl rfl rfl (x_pick1 rfl rfl) ?_
        refine st rfl rfl rfl rfl (x_move rfl) ?_
        refine so rfl rfl rfl rfl ?_
        refine so rfl rfl rfl rfl ?_
        refine so rfl rfl rfl rfl ?_
        refine st rfl rfl rfl rfl (x_pick0 rfl rfl) ?_
        refine st rfl rfl rfl rfl (x_move rfl) ?_
        refine so rfl rfl rfl rfl ?_
        refine so rfl rfl rfl rfl ?_
        refine so rfl rfl rfl rfl ?_
        refine so rfl rfl rfl rfl ?_
        refine so rfl rfl rfl rfl ?_
        refine so rfl rfl rfl rfl ?_
        refine so rfl rfl rfl rfl ?_
        refine so rfl rfl rfl rfl ?_
        refine so rfl rfl rfl rfl ?_
        refine st rfl rfl rfl rfl (x_pick0 rfl rfl) ?_
        refine st rfl rfl rfl rfl (x_asg rfl) ?_
        refine rl_end rfl ?_
        refine al_k ?_
        refine cl_ret rfl ?_
        refine fin1 rfl rfl ?_
        refine ⟨congrArg Value.bool ?_, F⟩
        first
          | exact (decide_eq_true (by simp_all [okD] <;> omega)).symm
          | exact (decide_eq_false (by simp_all [okD] <;> omega)).symm
    · skip
      refine st rfl rfl rfl rfl (x_pick1 rfl rfl) ?_
      refine st rfl rfl rfl rfl (x_move rfl) ?_
      refine so rfl rfl rfl rfl ?_
      refine so rfl rfl rfl rfl ?_
      refine so rfl rfl rfl rfl ?_
      refine st rfl rfl rfl rfl (x_pick0 rfl rfl) ?_
      refine st rfl rfl rfl rfl (x_move rfl) ?_
      refine so rfl rfl rfl rfl ?_
      refine so rfl rfl rfl rfl ?_
      refine so rfl rfl rfl rfl ?_
      refine st rfl rfl rfl rfl (x_pick0 rfl rfl) ?_
      refine st rfl rfl rfl rfl (x_move rfl) ?_
      refine so rfl rfl rfl rfl ?_
      refine so rfl rfl rfl rfl ?_
      refine so rfl rfl rfl rfl ?_
      refine so rfl rfl rfl rfl ?_
      refine so rfl rfl rfl rfl ?_
      refine so rfl rfl rfl rfl ?_
      refine so rfl rfl rfl rfl ?_
      refine so rfl rfl rfl rfl ?_
      refine so rfl rfl rfl rfl ?_
      refine st rfl rfl rfl rfl (x_pick0 rfl rfl) ?_
      refine st rfl rfl rfl rfl (x_asg rfl) ?_
      refine rl_end rfl ?_
      refine al_k ?_
      refine cl_ret rfl ?_
      refine fin1 rfl rfl ?_
      refine ⟨congrArg Value.bool ?_, F⟩
      first
        | exact (decide_eq_true (by simp_all [okD] <;> omega)).symm
        | exact (decide_eq_false (by simp_all [okD] <;> omega)).symm
  · skip
    refine st rfl rfl rfl rfl (x_move rfl) ?_
    refine so rfl rfl rfl rfl ?_
    refine so rfl rfl rfl rfl ?_
    refine so rfl rfl rfl rfl ?_
    refine st rfl rfl rfl rfl (x_pick0 rfl rfl) ?_
    refine st rfl rfl rfl rfl (x_move rfl) ?_
    refine so rfl rfl rfl rfl ?_
    refine so rfl rfl rfl rfl ?_
    refine so rfl rfl rfl rfl ?_
    refine st rfl rfl rfl rfl (x_pick0 rfl rfl) ?_
    refine st rfl rfl rfl rfl (x_move rfl) ?_
    refine so rfl rfl rfl rfl ?_
    refine so rfl rfl rfl rfl ?_
    refine so rfl rfl rfl rfl ?_
    refine st rfl rfl rfl rfl (x_pick0 rfl rfl) ?_
    refine st rfl rfl rfl rfl (x_move rfl) ?_
    refine so rfl rfl rfl rfl ?_
    refine so rfl rfl rfl rfl ?_
    refine so rfl rfl rfl rfl ?_
    refine so rfl rfl rfl rfl ?_
    refine so rfl rfl rfl rfl ?_
    refine so rfl rfl rfl rfl ?_
    refine so rfl rfl rfl rfl ?_
    refine so rfl rfl rfl rfl ?_
    refine so rfl rfl rfl rfl ?_
    refine st rfl rfl rfl rfl (x_pick0 rfl rfl) ?_
    refine st rfl rfl rfl rfl (x_asg rfl) ?_
    refine rl_end rfl ?_
    refine al_k ?_
    refine cl_ret rfl ?_
    refine fin1 rfl rfl ?_
    refine ⟨congrArg Value.bool ?_, F⟩
    first
      | exact (decide_eq_true (by simp_all [okD] <;> omega)).symm
      | exact (decide_eq_false (by simp_all [okD] <;> omega)).symm

end Go.Proofs.Ytmeheoflfdmgiaa.Lin
