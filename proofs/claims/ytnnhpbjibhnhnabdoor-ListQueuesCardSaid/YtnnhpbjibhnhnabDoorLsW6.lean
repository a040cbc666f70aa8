/- Lists by links: the walk of the law ListQueues. -/
import Derived.Test.YtnnhpbjibhnhnabDoorLsQ
import Derived.Test.YtnnhpbjibhnhnabDoorLsW5
set_option linter.unusedVariables false
namespace Go.Proofs.YtnnhpbjibhnhnabDoor.Ls
open Go Go.RowKit Go.Proofs.YtnnhpbjibhnhnabDoor.Sx Go.Proofs.YtnnhpbjibhnhnabDoor
set_option maxRecDepth 100000

theorem queues_c (w : World) (hG : Glb w) (A0 : Option Addr) (n c0 : Nat) (hn : n ≤ 9223372036854775807) (hp : ∀ k : Nat, k < n → ∃ a b, A0 = some a ∧ w.cell? (a.add (((k : Nat) : Int).toNat * 1)) = some (.bool b)) :
    Cl Tryd.prog 3 [.slice A0 n c0] w (fun v w' => v = .bool true ∧ Fr [] w w') := by
  refine enter Tryd.func3 rfl Tryd.ntmps3 rfl ?_
  refine cl_seq rfl ?_
  refine cl_reg rfl ?_
  refine st rfl rfl rfl rfl (x_asg rfl) ?_
  refine rl_end rfl ?_
  refine al_k ?_
  refine cl_seq rfl ?_
  refine cl_reg rfl ?_
  refine sc rfl rfl rfl rfl (c_fn rfl Tryd.call8 (new_r 40 1 hG (by omega) (by omega))) ?_
  rintro _ w1 ⟨p, nb, hb, rfl, Q, g1, g2, g3, F⟩
  have hS : ∀ q ∈ [nb, hb], q ∈ ([] : List Nat) ∨ w.heap.size ≤ q := by intro q hq; simp at hq; rcases hq with rfl | rfl <;> exact .inr (by assumption)
  refine st rfl rfl rfl rfl (x_move rfl) ?_
  refine st rfl rfl rfl rfl (x_ext rfl rfl) ?_
  refine st rfl rfl rfl rfl (x_ext rfl rfl) ?_
  refine st rfl rfl rfl rfl (x_asg rfl) ?_
  refine st rfl rfl rfl rfl (x_asg rfl) ?_
  refine rl_end rfl ?_
  refine al_k ?_
  refine cl_seq rfl ?_
  refine cl_seq rfl ?_
  refine cl_reg rfl ?_
  refine st rfl rfl rfl rfl (x_move rfl) ?_
  refine st rfl rfl rfl rfl ((x_neq rfl rfl).b0 (by omega)) ?_
  refine st rfl rfl rfl rfl (x_move rfl) ?_
  refine st rfl rfl rfl rfl (x_move rfl) ?_
  refine st rfl rfl rfl rfl (x_eqlp rfl rfl Tryd.underlying23) ?_
  refine st rfl rfl rfl rfl (x_pick0 rfl rfl) ?_
  refine rl_end rfl ?_
  refine al_k ?_
  refine cl_if0 rfl rfl ?_
  refine cl_skip rfl ?_
  refine al_k ?_
  refine cl_seq rfl ?_
  refine cl_reg rfl ?_
  refine st rfl rfl rfl rfl (x_asg rfl) ?_
  refine st rfl rfl rfl rfl (x_asg rfl) ?_
  refine rl_end rfl ?_
  refine al_k ?_
  refine cl_seq rfl ?_
  refine cl_seq rfl ?_
  refine cl_reg rfl ?_
  refine st rfl rfl rfl rfl (x_asg rfl) ?_
  refine rl_end rfl ?_
  refine al_k ?_
  refine cl_block rfl ?_
  refine cl_loop (fun s : Nat × Nat × Nat => [(7, .int .i64 s.1), (5, .int .i64 s.2.1), (6, .int .i64 s.2.2), (3, .pointer (some ⟨p, 0, none⟩)), (0, .slice A0 n c0)]) (fun s wr => (s.1 ≤ n ∧ s.1 ≤ 80) ∧ s.2.2 ≤ s.2.1 ∧ s.2.1 ≤ 40 ∧ LsR wr p nb hb 40 1 [rg s.2.2 s.2.1] ∧ Fr [] w wr) (fun s => n + 80 - s.1) (0, 0, 0) rfl ⟨rfl, rfl, rfl, rfl, rfl, trivial⟩ ?_ ?_
  · exact ⟨⟨Nat.zero_le _, Nat.zero_le _⟩, Nat.le_refl _, Nat.zero_le _, Q, F⟩
  · skip
    rintro ⟨i, inn, out⟩ wr ⟨⟨hi, hi8⟩, hoi, hin, Q, F⟩
    dsimp only at hi hi8 hoi hin Q ⊢
    refine cl_seq rfl ?_
    refine cl_seq rfl ?_
    refine cl_reg rfl ?_
    refine st rfl rfl rfl rfl (x_move rfl) ?_
    refine st rfl rfl rfl rfl (x_move rfl) ?_
    refine st rfl rfl rfl rfl (x_len rfl Tryd.underlying22) ?_
    refine sf rfl rfl rfl rfl (x_lss rfl rfl) (fun c6_3 => ?_) (fun c6_3 => ?_)
    · skip
      refine st rfl rfl rfl rfl (x_move rfl) ?_
      refine st rfl rfl rfl rfl (x_move rfl) ?_
      refine sf rfl rfl rfl rfl (x_lss rfl rfl) (fun c6_6 => ?_) (fun c6_6 => ?_)
      · skip
        refine st rfl rfl rfl rfl (x_pick1 rfl rfl) ?_
        refine rl_end rfl ?_
        refine al_k ?_
        refine cl_if1 rfl rfl ?_
        refine cl_skip rfl ?_
        refine al_k ?_
        refine cl_seq rfl ?_
        refine cl_block rfl ?_
        refine cl_seq rfl ?_
        refine cl_seq rfl ?_
        obtain ⟨a, b, rfl, hc⟩ := hp i (by omega)
        refine cl_reg rfl ?_
        refine st rfl rfl rfl rfl (x_move rfl) ?_
        refine st rfl rfl rfl rfl (x_move rfl) ?_
        refine st rfl rfl rfl rfl (x_iag rfl rfl Tryd.underlying22 Tryd.sizeOf4 (by omega)) ?_
        refine st rfl rfl rfl rfl (x_ld rfl Tryd.isAgg4 (F.cell hc (by simp))) ?_
        refine rl_end rfl ?_
        refine al_k ?_
        refine cl_cond rfl rfl (fun hb33 => ?_) (fun hb33 => ?_)
        · skip
          refine cl_seq rfl ?_
          refine cl_reg rfl ?_
          refine st rfl rfl rfl rfl (x_move rfl) ?_
          refine sc rfl rfl rfl rfl (c_fn rfl Tryd.call9 (pop_r Q 0)) ?_
          rintro _ w9 ⟨rfl, Q, fr⟩
          replace F := F.trans_new fr hS
          refine st rfl rfl rfl rfl (x_move rfl) ?_
          refine st rfl rfl rfl rfl (x_ext rfl rfl) ?_
          refine st rfl rfl rfl rfl (x_ext rfl rfl) ?_
          cases hf9_4 : ((aPop [rg out inn] 0).2.2)
          · skip
            refine st rfl rfl rfl rfl (x_asg rfl) ?_
            refine st rfl rfl rfl rfl (x_asg rfl) ?_
            refine rl_end rfl ?_
            refine al_k ?_
            refine cl_seq rfl ?_
            refine cl_seq rfl ?_
            refine cl_reg rfl ?_
            have hlt : ¬ out < inn := fun h => by rw [q_pop1 h] at hf9_4; cases hf9_4
            rw [q_pop0 hlt] at Q ⊢
            refine st rfl rfl rfl rfl (x_move rfl) ?_
            refine st rfl rfl rfl rfl (x_move rfl) ?_
            refine st rfl rfl rfl rfl (x_move rfl) ?_
            refine st rfl rfl rfl rfl ((x_lss rfl rfl).b0 (by omega)) ?_
            refine st rfl rfl rfl rfl (x_neqb rfl rfl Tryd.underlying4) ?_
            refine st rfl rfl rfl rfl (x_move rfl) ?_
            refine st rfl rfl rfl rfl (x_move rfl) ?_
            refine st rfl rfl rfl rfl (x_move rfl) ?_
            refine so rfl rfl rfl rfl ?_
            refine so rfl rfl rfl rfl ?_
            refine so rfl rfl rfl rfl ?_
            refine st rfl rfl rfl rfl (x_pick0 rfl rfl) ?_
            refine st rfl rfl rfl rfl (x_pick0 rfl rfl) ?_
            refine st rfl rfl rfl rfl (x_move rfl) ?_
            refine st rfl rfl rfl rfl (x_move rfl) ?_
            refine st rfl rfl rfl rfl (x_not0 rfl) ?_
            refine st rfl rfl rfl rfl (x_move rfl) ?_
            refine st rfl rfl rfl rfl (x_move rfl) ?_
            refine st rfl rfl rfl rfl ((x_neq rfl rfl).b0 (fun h => h rfl)) ?_
            refine st rfl rfl rfl rfl (x_pick1 rfl rfl) ?_
            refine st rfl rfl rfl rfl (x_pick0 rfl rfl) ?_
            refine rl_end rfl ?_
            refine al_k ?_
            refine cl_if0 rfl rfl ?_
            refine cl_skip rfl ?_
            refine al_k ?_
            refine cl_seq rfl ?_
            refine cl_seq rfl ?_
            refine cl_reg rfl ?_
            refine st rfl rfl rfl rfl (x_move rfl) ?_
            refine rl_end rfl ?_
            refine al_k ?_
            refine cl_if0 rfl rfl ?_
            refine cl_skip rfl ?_
            refine al_k ?_
            refine cl_exit rfl ?_
            refine upd_self ?_
            refine al_k ?_
            refine cl_reg rfl ?_
            refine st rfl rfl rfl rfl (x_move rfl) ?_
            refine st rfl rfl rfl rfl (x_add rfl rfl (by omega)) ?_
            refine st rfl rfl rfl rfl (x_asg rfl) ?_
            refine rl_end rfl ?_
            refine again (i + 1, inn, out) (show n + 80 - (i + 1) < n + 80 - i by omega) ⟨rfl, rfl, rfl, rfl, rfl, trivial⟩ ⟨by dsimp only; omega, by dsimp only; omega, by dsimp only; omega, Q, F⟩
          · skip
            refine st rfl rfl rfl rfl (x_asg rfl) ?_
            refine st rfl rfl rfl rfl (x_asg rfl) ?_
            refine rl_end rfl ?_
            refine al_k ?_
            refine cl_seq rfl ?_
            refine cl_seq rfl ?_
            refine cl_reg rfl ?_
            have hlt : out < inn := by
              rcases Nat.lt_or_ge out inn with h | h
              · exact h
              · rw [q_pop0 (by omega)] at hf9_4; cases hf9_4
            rw [q_pop1 hlt] at Q ⊢
            refine st rfl rfl rfl rfl (x_move rfl) ?_
            refine st rfl rfl rfl rfl (x_move rfl) ?_
            refine st rfl rfl rfl rfl (x_move rfl) ?_
            refine st rfl rfl rfl rfl ((x_lss rfl rfl).b1 (by omega)) ?_
            refine st rfl rfl rfl rfl (x_neqb rfl rfl Tryd.underlying4) ?_
            refine st rfl rfl rfl rfl (x_move rfl) ?_
            refine st rfl rfl rfl rfl (x_move rfl) ?_
            refine st rfl rfl rfl rfl (x_move rfl) ?_
            refine st rfl rfl rfl rfl (x_move rfl) ?_
            refine st rfl rfl rfl rfl (x_move rfl) ?_
            refine st rfl rfl rfl rfl ((x_neq rfl rfl).b0 (fun h => h rfl)) ?_
            refine st rfl rfl rfl rfl (x_pick1 rfl rfl) ?_
            refine st rfl rfl rfl rfl (x_pick0 rfl rfl) ?_
            refine st rfl rfl rfl rfl (x_move rfl) ?_
            refine st rfl rfl rfl rfl (x_move rfl) ?_
            refine st rfl rfl rfl rfl (x_not1 rfl) ?_
            refine st rfl rfl rfl rfl (x_move rfl) ?_
            refine so rfl rfl rfl rfl ?_
            refine so rfl rfl rfl rfl ?_
            refine st rfl rfl rfl rfl (x_pick0 rfl rfl) ?_
            refine st rfl rfl rfl rfl (x_pick0 rfl rfl) ?_
            refine rl_end rfl ?_
            refine al_k ?_
            refine cl_if0 rfl rfl ?_
            refine cl_skip rfl ?_
            refine al_k ?_
            refine cl_seq rfl ?_
            refine cl_seq rfl ?_
            refine cl_reg rfl ?_
            refine st rfl rfl rfl rfl (x_move rfl) ?_
            refine rl_end rfl ?_
            refine al_k ?_
            refine cl_if1 rfl rfl ?_
            refine cl_reg rfl ?_
            refine st rfl rfl rfl rfl (x_move rfl) ?_
            refine st rfl rfl rfl rfl (x_add rfl rfl (by omega)) ?_
            refine st rfl rfl rfl rfl (x_asg rfl) ?_
            refine rl_end rfl ?_
            refine al_k ?_
            refine cl_exit rfl ?_
            refine upd_self ?_
            refine al_k ?_
            refine cl_reg rfl ?_
            refine st rfl rfl rfl rfl (x_move rfl) ?_
            refine st rfl rfl rfl rfl (x_add rfl rfl (by omega)) ?_
            refine st rfl rfl rfl rfl (x_asg rfl) ?_
            refine rl_end rfl ?_
            refine again (i + 1, inn, out + 1) (show n + 80 - (i + 1) < n + 80 - i by omega) ⟨rfl, rfl, rfl, rfl, rfl, trivial⟩ ⟨by dsimp only; omega, by dsimp only; omega, by dsimp only; omega, Q, F⟩
        · skip
          refine cl_skip rfl ?_
          refine al_k ?_
          refine cl_seq rfl ?_
          refine cl_reg rfl ?_
          refine st rfl rfl rfl rfl (x_move rfl) ?_
          refine sf rfl rfl rfl rfl (x_lss rfl rfl) (fun c14_1 => ?_) (fun c14_1 => ?_)
          · skip
            refine rl_end rfl ?_
            refine al_k ?_
            refine cl_if1 rfl rfl ?_
            refine cl_seq rfl ?_
            refine cl_seq rfl ?_
            refine cl_reg rfl ?_
            refine st rfl rfl rfl rfl (x_move rfl) ?_
            refine st rfl rfl rfl rfl (x_move rfl) ?_
            refine sc rfl rfl rfl rfl (c_fn rfl Tryd.call10 ((push_r Q 0 inn).mono (R' := fun v w' => v = .int .i64 0 ∧ LsR w' p nb hb 40 1 [rg out (inn + 1)] ∧ Fr [nb, hb] _ w') (fun v w' h => by rw [q_push hoi (by omega)] at h; exact h))) ?_
            rintro _ w15 ⟨rfl, Q, fr⟩
            replace F := F.trans_new fr hS
            refine st rfl rfl rfl rfl ((x_neq rfl rfl).b0 (by omega)) ?_
            refine rl_end rfl ?_
            refine al_k ?_
            refine cl_if0 rfl rfl ?_
            refine cl_skip rfl ?_
            refine al_k ?_
            refine cl_reg rfl ?_
            refine st rfl rfl rfl rfl (x_move rfl) ?_
            refine st rfl rfl rfl rfl (x_add rfl rfl (by omega)) ?_
            refine st rfl rfl rfl rfl (x_asg rfl) ?_
            refine rl_end rfl ?_
            refine al_k ?_
            refine cl_reg rfl ?_
            refine st rfl rfl rfl rfl (x_move rfl) ?_
            refine st rfl rfl rfl rfl (x_add rfl rfl (by omega)) ?_
            refine st rfl rfl rfl rfl (x_asg rfl) ?_
            refine rl_end rfl ?_
            refine again (i + 1, inn + 1, out) (show n + 80 - (i + 1) < n + 80 - i by omega) ⟨rfl, rfl, rfl, rfl, rfl, trivial⟩ ⟨by dsimp only; omega, by dsimp only; omega, by dsimp only; omega, Q, F⟩
          · skip
            refine rl_end rfl ?_
            refine al_k ?_
            refine cl_if0 rfl rfl ?_
            refine cl_skip rfl ?_
            refine al_k ?_
            refine cl_reg rfl ?_
            refine st rfl rfl rfl rfl (x_move rfl) ?_
            refine st rfl rfl rfl rfl (x_add rfl rfl (by omega)) ?_
            refine st rfl rfl rfl rfl (x_asg rfl) ?_
            refine rl_end rfl ?_
            refine again (i + 1, inn, out) (show n + 80 - (i + 1) < n + 80 - i by omega) ⟨rfl, rfl, rfl, rfl, rfl, trivial⟩ ⟨by dsimp only; omega, by dsimp only; omega, by dsimp only; omega, Q, F⟩
      · skip
        refine st rfl rfl rfl rfl (x_pick1 rfl rfl) ?_
        refine rl_end rfl ?_
        refine al_k ?_
        refine cl_if0 rfl rfl ?_
        refine cl_exit rfl ?_
        refine upd_self ?_
        refine al_k ?_
        refine cl_seq rfl ?_
        refine cl_reg rfl ?_
        refine st rfl rfl rfl rfl (x_move rfl) ?_
        refine sc rfl rfl rfl rfl (c_fn rfl Tryd.call11 ((len_r Q 0).mono (R' := fun v w' => v = .int .i64 ((inn : Int) - out) ∧ LsR w' p nb hb 40 1 [rg out inn] ∧ Fr [] _ w') (fun v w' h => by rw [q_len hoi] at h; exact h))) ?_
        rintro _ w18 ⟨rfl, Q, fr⟩
        replace F := F.trans fr
        refine st rfl rfl rfl rfl (x_move rfl) ?_
        refine st rfl rfl rfl rfl (x_move rfl) ?_
        refine st rfl rfl rfl rfl (x_sub rfl rfl (by omega)) ?_
        refine st rfl rfl rfl rfl ((x_eql rfl rfl).b1 (by omega)) ?_
        refine st rfl rfl rfl rfl (x_move rfl) ?_
        refine sc rfl rfl rfl rfl (c_fn rfl Tryd.call12 (alive_c _ (hG.fr F (by simp)))) ?_
        rintro _ w19 ⟨rfl, fr⟩
        replace F := F.trans fr
        refine st rfl rfl rfl rfl (x_pick1 rfl rfl) ?_
        refine st rfl rfl rfl rfl (x_asg rfl) ?_
        refine rl_end rfl ?_
        refine al_k ?_
        refine cl_ret rfl ?_
        refine fin1 rfl rfl ?_
        exact ⟨rfl, F⟩
    · skip
      refine st rfl rfl rfl rfl (x_move rfl) ?_
      refine so rfl rfl rfl rfl ?_
      refine so rfl rfl rfl rfl ?_
      refine st rfl rfl rfl rfl (x_pick0 rfl rfl) ?_
      refine rl_end rfl ?_
      refine al_k ?_
      refine cl_if0 rfl rfl ?_
      refine cl_exit rfl ?_
      refine upd_self ?_
      refine al_k ?_
      refine cl_seq rfl ?_
      refine cl_reg rfl ?_
      refine st rfl rfl rfl rfl (x_move rfl) ?_
      refine sc rfl rfl rfl rfl (c_fn rfl Tryd.call11 ((len_r Q 0).mono (R' := fun v w' => v = .int .i64 ((inn : Int) - out) ∧ LsR w' p nb hb 40 1 [rg out inn] ∧ Fr [] _ w') (fun v w' h => by rw [q_len hoi] at h; exact h))) ?_
      rintro _ w18 ⟨rfl, Q, fr⟩
      replace F := F.trans fr
      refine st rfl rfl rfl rfl (x_move rfl) ?_
      refine st rfl rfl rfl rfl (x_move rfl) ?_
      refine st rfl rfl rfl rfl (x_sub rfl rfl (by omega)) ?_
      refine st rfl rfl rfl rfl ((x_eql rfl rfl).b1 (by omega)) ?_
      refine st rfl rfl rfl rfl (x_move rfl) ?_
      refine sc rfl rfl rfl rfl (c_fn rfl Tryd.call12 (alive_c _ (hG.fr F (by simp)))) ?_
      rintro _ w19 ⟨rfl, fr⟩
      replace F := F.trans fr
      refine st rfl rfl rfl rfl (x_pick1 rfl rfl) ?_
      refine st rfl rfl rfl rfl (x_asg rfl) ?_
      refine rl_end rfl ?_
      refine al_k ?_
      refine cl_ret rfl ?_
      refine fin1 rfl rfl ?_
      exact ⟨rfl, F⟩

end Go.Proofs.YtnnhpbjibhnhnabDoor.Ls
