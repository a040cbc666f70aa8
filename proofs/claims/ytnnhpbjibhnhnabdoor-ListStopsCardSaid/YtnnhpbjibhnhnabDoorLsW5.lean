/- Lists by links: the walk of Same. -/
import Derived.Test.YtnnhpbjibhnhnabDoorLsC
set_option linter.unusedVariables false
namespace Go.Proofs.YtnnhpbjibhnhnabDoor.Ls
open Go Go.RowKit Go.Proofs.YtnnhpbjibhnhnabDoor.Sx Go.Proofs.YtnnhpbjibhnhnabDoor
set_option maxRecDepth 100000

theorem same_eq (w : World) (A1 A2 : Option Addr) (c1 c2 : Nat) (xs ys : List Int) (hl : xs.length = ys.length) (hm : xs.length ≤ 1000000) (h1 : ∀ (k : Nat) z, xs[k]? = some z → ∃ b, A1 = some ⟨b, 0, none⟩ ∧ w.cell? ⟨b, ((k : Nat) : Int).toNat * 1, none⟩ = some (.int .i64 z)) (h2 : ∀ (k : Nat) z, ys[k]? = some z → ∃ b, A2 = some ⟨b, 0, none⟩ ∧ w.cell? ⟨b, ((k : Nat) : Int).toNat * 1, none⟩ = some (.int .i64 z)) :
    Cl Tryd.prog 19 [.slice A1 xs.length c1, .slice A2 ys.length c2] w (fun v w' => v = .bool (decide (xs = ys)) ∧ Fr [] w w') := by
  refine enter Tryd.func19 rfl Tryd.ntmps19 rfl ?_
  refine cl_seq rfl ?_
  refine cl_reg rfl ?_
  refine st rfl rfl rfl rfl (x_asg rfl) ?_
  refine rl_end rfl ?_
  refine al_k ?_
  refine cl_seq rfl ?_
  refine cl_seq rfl ?_
  refine cl_reg rfl ?_
  refine st rfl rfl rfl rfl (x_move rfl) ?_
  refine st rfl rfl rfl rfl (x_len rfl Tryd.underlying40) ?_
  refine st rfl rfl rfl rfl (x_move rfl) ?_
  refine st rfl rfl rfl rfl (x_len rfl Tryd.underlying40) ?_
  refine st rfl rfl rfl rfl ((x_neq rfl rfl).b0 (fun h => h (by rw [hl]))) ?_
  refine rl_end rfl ?_
  refine al_k ?_
  refine cl_if0 rfl rfl ?_
  refine cl_skip rfl ?_
  refine al_k ?_
  refine cl_seq rfl ?_
  refine cl_seq rfl ?_
  refine cl_reg rfl ?_
  refine st rfl rfl rfl rfl (x_asg rfl) ?_
  refine rl_end rfl ?_
  refine al_k ?_
  refine cl_block rfl ?_
  refine cl_loop (fun k : Nat => [(5, .int .i64 k), (0, .slice A1 xs.length c1), (1, .slice A2 ys.length c2)]) (fun k wr => (wr.heap = w.heap ∧ Fr [] w wr) ∧ k ≤ xs.length ∧ xs.take k = ys.take k) (fun k => xs.length - k) 0 rfl ⟨rfl, rfl, rfl, trivial⟩ ?_ ?_
  · exact ⟨⟨rfl, Fr.refl _ _⟩, Nat.zero_le _, by simp⟩
  · skip
    rintro k wr ⟨⟨hh, F⟩, hk, ht⟩
    refine cl_seq rfl ?_
    refine cl_seq rfl ?_
    refine cl_reg rfl ?_
    refine st rfl rfl rfl rfl (x_move rfl) ?_
    refine st rfl rfl rfl rfl (x_move rfl) ?_
    refine st rfl rfl rfl rfl (x_len rfl Tryd.underlying40) ?_
    refine sf rfl rfl rfl rfl (x_lss rfl rfl) (fun c4_3 => ?_) (fun c4_3 => ?_)
    · skip
      refine rl_end rfl ?_
      refine al_k ?_
      refine cl_if1 rfl rfl ?_
      refine cl_skip rfl ?_
      refine al_k ?_
      refine cl_seq rfl ?_
      refine cl_block rfl ?_
      refine cl_seq rfl ?_
      have hkl : k < xs.length := by omega
      obtain ⟨z1, hz1⟩ : ∃ z, xs[k]? = some z := ⟨_, List.getElem?_eq_getElem hkl⟩
      obtain ⟨z2, hz2⟩ : ∃ z, ys[k]? = some z := ⟨_, List.getElem?_eq_getElem (by omega)⟩
      obtain ⟨q1, rfl, hc1⟩ := h1 k z1 hz1
      obtain ⟨q2, rfl, hc2⟩ := h2 k z2 hz2
      refine cl_draw (by kernel_rfl) rfl [] (fun w' => w'.heap = wr.heap) ?_
      rintro wd6 frd6 hpd6
      refine ⟨hpd6, ?_⟩
      refine dt (i := 0) rfl rfl rfl rfl (by kernel_rfl) (fun _ => x_move rfl) ?_
      refine dt (i := 1) rfl rfl rfl rfl (by kernel_rfl) (fun _ => x_move rfl) ?_
      refine dt (i := 2) rfl rfl rfl rfl (by kernel_rfl) (fun _ => x_ia0 rfl rfl Tryd.underlying40 Tryd.sizeOf3 (by omega)) ?_
      refine dl (i := 3) rfl rfl rfl rfl (by kernel_rfl) (by kernel_rfl) (fun w' hU => x_ld rfl Tryd.isAgg3 (heq hU (heq hh hc1))) ?_
      refine dt (i := 4) rfl rfl rfl rfl (by kernel_rfl) (fun _ => x_move rfl) ?_
      refine dt (i := 5) rfl rfl rfl rfl (by kernel_rfl) (fun _ => x_move rfl) ?_
      refine dt (i := 6) rfl rfl rfl rfl (by kernel_rfl) (fun _ => x_ia0 rfl rfl Tryd.underlying40 Tryd.sizeOf3 (by omega)) ?_
      refine dl (i := 7) rfl rfl rfl rfl (by kernel_rfl) (by kernel_rfl) (fun w' hU => x_ld rfl Tryd.isAgg3 (heq hU (heq hh hc2))) ?_
      refine dfk (i := 8) rfl rfl rfl rfl (by kernel_rfl) (fun _ => x_neq rfl rfl) (fun c6_8 => ?_) (fun c6_8 => ?_)
      · skip
        replace F := F.trans frd6
        replace hh := hpd6.trans hh
        refine dn (by kernel_rfl) ?_
        refine al_k ?_
        refine cl_if1 rfl rfl ?_
        refine cl_seq rfl ?_
        refine cl_reg rfl ?_
        refine st rfl rfl rfl rfl (x_asg rfl) ?_
        refine rl_end rfl ?_
        refine al_k ?_
        refine cl_ret rfl ?_
        refine fin1 rfl rfl ?_
        refine ⟨congrArg _ ?_, F⟩
        symm
        rw [decide_eq_false_iff_not]
        intro e
        subst e
        rw [hz1] at hz2
        exact c6_8 (Option.some.inj hz2)
      · skip
        replace F := F.trans frd6
        replace hh := hpd6.trans hh
        refine dn (by kernel_rfl) ?_
        refine al_k ?_
        refine cl_if0 rfl rfl ?_
        refine cl_skip rfl ?_
        refine al_k ?_
        refine cl_reg rfl ?_
        refine st rfl rfl rfl rfl (x_move rfl) ?_
        refine st rfl rfl rfl rfl (x_add rfl rfl (by omega)) ?_
        refine st rfl rfl rfl rfl (x_asg rfl) ?_
        refine rl_end rfl ?_
        refine again (k + 1) (by omega) ⟨rfl, rfl, rfl, trivial⟩ ⟨⟨hh, F⟩, by omega, ?_⟩
        rw [List.take_add_one, List.take_add_one, ht, hz1, hz2]
        simp only [Decidable.not_not] at c6_8
        rw [c6_8]
    · skip
      refine rl_end rfl ?_
      refine al_k ?_
      refine cl_if0 rfl rfl ?_
      refine cl_exit rfl ?_
      refine upd_self ?_
      refine al_k ?_
      refine cl_seq rfl ?_
      refine cl_reg rfl ?_
      refine st rfl rfl rfl rfl (x_asg rfl) ?_
      refine rl_end rfl ?_
      refine al_k ?_
      refine cl_ret rfl ?_
      refine fin1 rfl rfl ?_
      refine ⟨congrArg _ ?_, F⟩
      symm
      rw [decide_eq_true_iff]
      have e : k = xs.length := by omega
      subst e
      rwa [List.take_length, hl, List.take_length] at ht

theorem same_ne (w : World) (A1 A2 : Option Addr) (c1 c2 : Nat) (xs ys : List Int) (hl : ¬ xs.length = ys.length) : Cl Tryd.prog 19 [.slice A1 xs.length c1, .slice A2 ys.length c2] w (fun v w' => v = .bool (decide (xs = ys)) ∧ Fr [] w w') := by
  refine enter Tryd.func19 rfl Tryd.ntmps19 rfl ?_
  refine cl_seq rfl ?_
  refine cl_reg rfl ?_
  refine st rfl rfl rfl rfl (x_asg rfl) ?_
  refine rl_end rfl ?_
  refine al_k ?_
  refine cl_seq rfl ?_
  refine cl_seq rfl ?_
  refine cl_reg rfl ?_
  refine st rfl rfl rfl rfl (x_move rfl) ?_
  refine st rfl rfl rfl rfl (x_len rfl Tryd.underlying40) ?_
  refine st rfl rfl rfl rfl (x_move rfl) ?_
  refine st rfl rfl rfl rfl (x_len rfl Tryd.underlying40) ?_
  refine st rfl rfl rfl rfl ((x_neq rfl rfl).b1 (by omega)) ?_
  refine rl_end rfl ?_
  refine al_k ?_
  refine cl_if1 rfl rfl ?_
  refine cl_seq rfl ?_
  refine cl_reg rfl ?_
  refine st rfl rfl rfl rfl (x_asg rfl) ?_
  refine rl_end rfl ?_
  refine al_k ?_
  refine cl_ret rfl ?_
  refine fin1 rfl rfl ?_
  refine ⟨congrArg _ ?_, Fr.refl _ _⟩
  symm
  rw [decide_eq_false_iff_not]
  intro e
  exact hl (by rw [e])

theorem same_c (w : World) (v1 v2 : Value) (xs ys : List Int) (h1 : SlI w v1 xs) (h2 : SlI w v2 ys) : Cl Tryd.prog 19 [v1, v2] w (fun v w' => v = .bool (decide (xs = ys)) ∧ Fr [] w w') := by
  obtain ⟨A1, c1, rfl, hm1, h1⟩ := h1.at_
  obtain ⟨A2, c2, rfl, hm2, h2⟩ := h2.at_
  by_cases hl : xs.length = ys.length
  · exact same_eq w A1 A2 c1 c2 xs ys hl hm1 h1 h2
  · exact same_ne w A1 A2 c1 c2 xs ys hl

theorem bsl132 (w : World) : (Instr.buildSlice 40 3 [(0, .int .i64 1), (1, .int .i64 3), (2, .int .i64 2)].toArray).run Tryd.prog w = .ok (.slice (some ⟨w.heap.size, 0, none⟩) 3 3) (w.alloc (.cells [.int .i64 1, .int .i64 3, .int .i64 2].toArray 3)) := by kernel_rfl

theorem alive_c (w : World) (hG : Glb w) : Cl Tryd.prog 12 [] w (fun v w' => v = .bool true ∧ Fr [] w w') := by
  refine enter Tryd.func12 rfl Tryd.ntmps12 rfl ?_
  refine cl_seq rfl ?_
  refine cl_reg rfl ?_
  refine st rfl rfl rfl rfl (x_asg rfl) ?_
  refine rl_end rfl ?_
  refine al_k ?_
  refine cl_seq rfl ?_
  refine cl_reg rfl ?_
  refine sc rfl rfl rfl rfl (c_fn rfl Tryd.call8 (new_r 4 1 hG (by omega) (by omega))) ?_
  rintro _ w1 ⟨p, nb, hb, rfl, Q, g1, g2, g3, F⟩
  have hS : ∀ q ∈ [nb, hb], q ∈ ([] : List Nat) ∨ w.heap.size ≤ q := by intro q hq; simp at hq; rcases hq with rfl | rfl <;> exact .inr (by assumption)
  refine st rfl rfl rfl rfl (x_move rfl) ?_
  refine st rfl rfl rfl rfl (x_ext rfl rfl) ?_
  refine st rfl rfl rfl rfl (x_ext rfl rfl) ?_
  refine st rfl rfl rfl rfl (x_asg rfl) ?_
  refine st rfl rfl rfl rfl (x_asg rfl) ?_
  refine rl_end rfl ?_
  refine al_k ?_
  refine cl_seq rfl ?_
  refine cl_seq rfl ?_
  refine cl_reg rfl ?_
  refine st rfl rfl rfl rfl (x_move rfl) ?_
  refine st rfl rfl rfl rfl ((x_neq rfl rfl).b0 (by omega)) ?_
  refine st rfl rfl rfl rfl (x_move rfl) ?_
  refine st rfl rfl rfl rfl (x_move rfl) ?_
  refine st rfl rfl rfl rfl (x_eqlp rfl rfl Tryd.underlying23) ?_
  refine st rfl rfl rfl rfl (x_pick0 rfl rfl) ?_
  refine rl_end rfl ?_
  refine al_k ?_
  refine cl_if0 rfl rfl ?_
  refine cl_skip rfl ?_
  refine al_k ?_
  refine cl_seq rfl ?_
  refine cl_reg rfl ?_
  refine st rfl rfl rfl rfl (x_move rfl) ?_
  have z1 : p < w1.heap.size ∧ nb < w1.heap.size ∧ hb < w1.heap.size := by obtain ⟨⟨x, L, _⟩, _⟩ := Q; exact ⟨L.top.lt, L.nod.lt, L.hed.lt⟩
  refine sc rfl rfl rfl rfl (c_fn rfl Tryd.call10 ((push_r Q 0 3).mono (R' := fun v w' => v = .int .i64 0 ∧ LsR w' p nb hb 4 1 [[3]] ∧ Fr [nb, hb] _ w') (fun v w' h => h))) ?_
  rintro _ w2 ⟨rfl, Q, fr⟩
  replace F := F.trans_new fr hS
  refine st rfl rfl rfl rfl (x_move rfl) ?_
  refine sc rfl rfl rfl rfl (c_fn rfl Tryd.call23 ((pushFront_r Q 0 1).mono (R' := fun v w' => v = .int .i64 0 ∧ LsR w' p nb hb 4 1 [[1, 3]] ∧ Fr [nb, hb] _ w') (fun v w' h => h))) ?_
  rintro _ w3 ⟨rfl, Q, fr⟩
  replace F := F.trans_new fr hS
  refine st rfl rfl rfl rfl (x_move rfl) ?_
  refine sc rfl rfl rfl rfl (c_fn rfl Tryd.call24 ((move_r Q 0 3).mono (R' := fun v w' => v = .int .i64 0 ∧ LsR w' p nb hb 4 1 [[1, 3]] ∧ Fr [nb, hb] _ w') (fun v w' h => h))) ?_
  rintro _ w4 ⟨rfl, Q, fr⟩
  replace F := F.trans_new fr hS
  refine st rfl rfl rfl rfl (x_move rfl) ?_
  refine sc rfl rfl rfl rfl (c_fn rfl Tryd.call10 ((push_r Q 0 2).mono (R' := fun v w' => v = .int .i64 0 ∧ LsR w' p nb hb 4 1 [[1, 3, 2]] ∧ Fr [nb, hb] _ w') (fun v w' h => h))) ?_
  rintro _ w5 ⟨rfl, Q, fr⟩
  replace F := F.trans_new fr hS
  refine st rfl rfl rfl rfl (x_asg rfl) ?_
  refine st rfl rfl rfl rfl (x_asg rfl) ?_
  refine st rfl rfl rfl rfl (x_asg rfl) ?_
  refine st rfl rfl rfl rfl (x_asg rfl) ?_
  refine rl_end rfl ?_
  refine al_k ?_
  refine cl_seq rfl ?_
  refine cl_reg rfl ?_
  refine st rfl rfl rfl rfl (x_move rfl) ?_
  have z5 : nb < w5.heap.size ∧ hb < w5.heap.size := by obtain ⟨⟨x, L, _⟩, _⟩ := Q; exact ⟨L.nod.lt, L.hed.lt⟩
  refine sc rfl rfl rfl rfl (c_fn rfl Tryd.call20 (ltold_c _ (some ⟨p, 0, none⟩) 0 [1, 3, 2] (by simp) (fun w1 fr => (row_r (Q.fr0 fr) 0).mono (fun v w2 h => ⟨h.1, h.2.2⟩)))) ?_
  rintro vt w6 ⟨HO, fr⟩
  replace F := F.trans fr
  replace Q := Q.fr0 fr
  have hb6 := fr.size
  refine st rfl rfl rfl rfl (x_asg rfl) ?_
  refine rl_end rfl ?_
  refine al_k ?_
  refine cl_seq rfl ?_
  refine cl_reg rfl ?_
  refine st rfl rfl rfl rfl (x_move rfl) ?_
  refine sc rfl rfl rfl rfl (c_fn rfl Tryd.call9 ((pop_r Q 0).mono (R' := fun v w' => v = .tuple #[.int .i64 1, .bool true] ∧ LsR w' p nb hb 4 1 [[3, 2]] ∧ Fr [nb, hb] _ w') (fun v w' h => h))) ?_
  rintro _ w7 ⟨rfl, Q, fr⟩
  replace F := F.trans_new fr hS
  replace HO := own_fr HO fr (by intro q hq; simp at hq; rcases hq with rfl | rfl <;> omega)
  refine st rfl rfl rfl rfl (x_move rfl) ?_
  refine st rfl rfl rfl rfl (x_ext rfl rfl) ?_
  refine st rfl rfl rfl rfl (x_ext rfl rfl) ?_
  refine st rfl rfl rfl rfl (x_asg rfl) ?_
  refine st rfl rfl rfl rfl (x_asg rfl) ?_
  refine rl_end rfl ?_
  refine al_k ?_
  refine cl_seq rfl ?_
  refine cl_reg rfl ?_
  refine st rfl rfl rfl rfl (x_move rfl) ?_
  refine st rfl rfl rfl rfl ((x_eql rfl rfl).b1 (by omega)) ?_
  refine st rfl rfl rfl rfl (x_move rfl) ?_
  refine st rfl rfl rfl rfl (x_move rfl) ?_
  refine st rfl rfl rfl rfl ((x_eql rfl rfl).b1 (by omega)) ?_
  refine st rfl rfl rfl rfl (x_pick1 rfl rfl) ?_
  refine st rfl rfl rfl rfl (x_move rfl) ?_
  refine st rfl rfl rfl rfl (x_move rfl) ?_
  refine st rfl rfl rfl rfl ((x_eql rfl rfl).b1 (by omega)) ?_
  refine st rfl rfl rfl rfl (x_pick1 rfl rfl) ?_
  refine st rfl rfl rfl rfl (x_move rfl) ?_
  refine st rfl rfl rfl rfl (x_move rfl) ?_
  refine st rfl rfl rfl rfl ((x_eql rfl rfl).b1 (by omega)) ?_
  refine st rfl rfl rfl rfl (x_pick1 rfl rfl) ?_
  refine st rfl rfl rfl rfl (x_move rfl) ?_
  refine st rfl rfl rfl rfl (x_move rfl) ?_
  refine se rfl rfl rfl rfl (e_new (x_bsl rfl (bsl132 _))) ?_
  rintro _ w8 ⟨rfl, b7_16, fr, _⟩
  replace F := F.trans fr
  replace HO := own_fr0 HO fr
  refine sc rfl rfl rfl rfl (c_fn rfl Tryd.call19 ((same_c _ _ _ _ _ (SlI.own HO (by simp)) (SlI.blk (zs := [1, 3, 2]) (c := 3) b7_16 (by simp))).mono (R' := fun v w' => v = .bool true ∧ Fr [] _ w') (fun v w' h => h))) ?_
  rintro _ w9 ⟨rfl, fr⟩
  replace F := F.trans fr
  refine st rfl rfl rfl rfl (x_pick1 rfl rfl) ?_
  refine st rfl rfl rfl rfl (x_move rfl) ?_
  refine st rfl rfl rfl rfl (x_move rfl) ?_
  refine st rfl rfl rfl rfl (x_pick1 rfl rfl) ?_
  refine st rfl rfl rfl rfl (x_move rfl) ?_
  refine st rfl rfl rfl rfl (x_move rfl) ?_
  refine st rfl rfl rfl rfl ((x_eql rfl rfl).b1 (by omega)) ?_
  refine st rfl rfl rfl rfl (x_pick1 rfl rfl) ?_
  refine st rfl rfl rfl rfl (x_asg rfl) ?_
  refine rl_end rfl ?_
  refine al_k ?_
  refine cl_ret rfl ?_
  refine fin1 rfl rfl ?_
  exact ⟨rfl, F⟩

end Go.Proofs.YtnnhpbjibhnhnabDoor.Ls
