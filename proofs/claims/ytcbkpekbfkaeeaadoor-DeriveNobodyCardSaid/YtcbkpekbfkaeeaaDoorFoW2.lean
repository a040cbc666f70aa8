/- Forests: the walks of Root, Derive, and of what is told of a node. -/
import Derived.Test.YtcbkpekbfkaeeaaDoorFoW1
set_option linter.unusedVariables false
set_option linter.unusedSimpArgs false
namespace Go.Proofs.YtcbkpekbfkaeeaaDoor.Fo
open Go Go.RowKit Go.Proofs.YtcbkpekbfkaeeaaDoor.Sx Go.Proofs.YtcbkpekbfkaeeaaDoor
open Go.Proofs.YtcbkpekbfkaeeaaDoor.Ls (LsR push_r drop_r new_r row_r aAll aPush aDrop okL okN Glb)
open Go.Proofs.YtcbkpekbfkaeeaaDoor.Lin (encI lenI oneIn RowI.at_ SlG SlG.own SlG.nil SlG.fr0 RowG.all RowG.none flat_mem1 flat_app' flat_one' own_cast)
set_option maxRecDepth 100000

theorem Root_c (w : World) (k : FK) (N : Nat) (L : En) (K : FoR w k N L []) (n : Int) : Cl Tryd.prog 24 [.pointer (some ⟨k.fp, 0, none⟩), .int .i64 n] w (fun v w' => v = .int .i64 (fRoot N L n).2 ∧ FoR w' k N (fRoot N L n).1 [] ∧ Fr [k.fp, k.lb] w w') := by
  obtain ⟨ws, lk, rows, sz, K, R⟩ := K.ex
  have hN := K.sN
  refine enter Tryd.func24 rfl Tryd.ntmps24 rfl ?_
  refine cl_seq rfl ?_
  refine cl_reg rfl ?_
  refine st rfl rfl rfl rfl (x_asg rfl) ?_
  refine rl_end rfl ?_
  refine al_k ?_
  refine cl_seq rfl ?_
  refine cl_block rfl ?_
  refine cl_seq rfl ?_
  refine cl_reg rfl ?_
  refine st rfl rfl rfl rfl (x_move rfl) ?_
  refine sc rfl rfl rfl rfl (c_fn rfl Tryd.call37 (is_a w k N ws lk rows sz K)) ?_
  rintro _ wk ⟨rfl, hwk⟩
  obtain rfl := hwk.symm
  refine st rfl rfl rfl rfl (x_not1 rfl) ?_
  refine st rfl rfl rfl rfl (x_asg rfl) ?_
  refine rl_end rfl ?_
  refine al_k ?_
  refine cl_if0 rfl rfl ?_
  refine cl_seq rfl ?_
  refine cl_reg rfl ?_
  refine st rfl rfl rfl rfl (x_move rfl) ?_
  refine st rfl rfl rfl rfl (x_move rfl) ?_
  refine sc rfl rfl rfl rfl (c_fn rfl Tryd.call38 (num_a w k N ws lk rows sz K n)) ?_
  rintro _ wk ⟨rfl, hwk⟩
  obtain rfl := hwk.symm
  cases hf3_2 : (decide (okF N n))
  · skip
    refine st rfl rfl rfl rfl (x_not0 rfl) ?_
    refine st rfl rfl rfl rfl (x_asg rfl) ?_
    refine rl_end rfl ?_
    refine al_k ?_
    refine cl_if1 rfl rfl ?_
    refine cl_seq rfl ?_
    refine cl_reg rfl ?_
    refine st rfl rfl rfl rfl (x_asg rfl) ?_
    refine rl_end rfl ?_
    refine al_k ?_
    refine cl_ret rfl ?_
    refine fin1 rfl rfl ?_
    unfold fRoot
    rw [if_pos (show ¬ okF N n from of_decide_eq_false hf3_2)]
    exact ⟨rfl, ⟨⟨ws, lk, rows, sz, K, R⟩⟩, Fr.refl _ _⟩
  · skip
    refine st rfl rfl rfl rfl (x_not1 rfl) ?_
    refine st rfl rfl rfl rfl (x_asg rfl) ?_
    refine rl_end rfl ?_
    refine al_k ?_
    refine cl_if0 rfl rfl ?_
    refine cl_seq rfl ?_
    refine cl_reg rfl ?_
    refine st rfl rfl rfl rfl (x_move rfl) ?_
    refine st rfl rfl rfl rfl (x_move rfl) ?_
    refine sc rfl rfl rfl rfl (c_fn rfl Tryd.call17 (Has_c w k N L ⟨⟨ws, lk, rows, sz, K, R⟩⟩ n)) ?_
    rintro _ wk ⟨rfl, hwk⟩
    obtain rfl := hwk.symm
    cases hf5_2 : (has L n)
    · skip
      refine st rfl rfl rfl rfl (x_asg rfl) ?_
      refine rl_end rfl ?_
      refine al_k ?_
      refine cl_if0 rfl rfl ?_
      refine cl_skip rfl ?_
      refine al_k ?_
      refine cl_seq rfl ?_
      have hok := of_decide_eq_true hf3_2
      obtain ⟨m, rfl⟩ : ∃ q : Nat, n = q := ⟨n.toNat, by have h9 := of_decide_eq_true hf3_2; unfold okF at h9; omega⟩
      have hm := hok
      unfold okF at hm
      refine cl_reg rfl ?_
      refine st rfl rfl rfl rfl (x_move rfl) ?_
      refine st rfl rfl rfl rfl (x_move rfl) ?_
      refine st rfl rfl rfl rfl (x_build rfl (bldRoot _)) ?_
      refine sc rfl rfl rfl rfl (c_fn rfl Tryd.call41 (set_a w k N ws lk rows sz K m (by omega) (lkOf (-1)) (by rw [R.siz]; have h1 := R.inv.len; have h2 := K.sN; simp only [List.length_nil]; omega))) ?_
      rintro v7 w7 ⟨K7, F⟩
      refine rl_end rfl ?_
      refine al_k ?_
      refine cl_seq rfl ?_
      refine cl_reg rfl ?_
      refine st rfl rfl rfl rfl (x_asg rfl) ?_
      refine rl_end rfl ?_
      refine al_k ?_
      refine cl_ret rfl ?_
      refine fin1 rfl rfl ?_
      unfold fRoot
      rw [if_neg (not_not_intro hok), if_neg (by rw [hf5_2]; decide)]
      exact ⟨rfl, ⟨_, _, _, _, K7, R.set K.hw K.hl K.sN hok hf5_2 (.inl rfl) R.rows_root⟩, F⟩
    · skip
      refine st rfl rfl rfl rfl (x_asg rfl) ?_
      refine rl_end rfl ?_
      refine al_k ?_
      refine cl_if1 rfl rfl ?_
      refine cl_seq rfl ?_
      refine cl_reg rfl ?_
      refine st rfl rfl rfl rfl (x_asg rfl) ?_
      refine rl_end rfl ?_
      refine al_k ?_
      refine cl_ret rfl ?_
      refine fin1 rfl rfl ?_
      unfold fRoot
      rw [if_neg (not_not_intro (of_decide_eq_true hf3_2)), if_pos hf5_2]
      exact ⟨rfl, ⟨⟨ws, lk, rows, sz, K, R⟩⟩, Fr.refl _ _⟩

theorem Derive_c (w : World) (k : FK) (N : Nat) (L : En) (K : FoR w k N L []) (p n : Int) : Cl Tryd.prog 25 [.pointer (some ⟨k.fp, 0, none⟩), .int .i64 p, .int .i64 n] w (fun v w' => v = .int .i64 (fDer N L p n).2 ∧ FoR w' k N (fDer N L p n).1 [] ∧ Fr [k.fp, k.lb, k.nb, k.hb] w w') := by
  obtain ⟨ws, lk, rows, sz, K, R⟩ := K.ex
  have hN := K.sN
  refine enter Tryd.func25 rfl Tryd.ntmps25 rfl ?_
  refine cl_seq rfl ?_
  refine cl_reg rfl ?_
  refine st rfl rfl rfl rfl (x_asg rfl) ?_
  refine rl_end rfl ?_
  refine al_k ?_
  refine cl_seq rfl ?_
  refine cl_block rfl ?_
  refine cl_seq rfl ?_
  refine cl_reg rfl ?_
  refine st rfl rfl rfl rfl (x_move rfl) ?_
  refine sc rfl rfl rfl rfl (c_fn rfl Tryd.call37 (is_a w k N ws lk rows sz K)) ?_
  rintro _ wk ⟨rfl, hwk⟩
  obtain rfl := hwk.symm
  refine st rfl rfl rfl rfl (x_not1 rfl) ?_
  refine st rfl rfl rfl rfl (x_asg rfl) ?_
  refine rl_end rfl ?_
  refine al_k ?_
  refine cl_if0 rfl rfl ?_
  refine cl_seq rfl ?_
  refine cl_reg rfl ?_
  refine st rfl rfl rfl rfl (x_move rfl) ?_
  refine st rfl rfl rfl rfl (x_move rfl) ?_
  refine sc rfl rfl rfl rfl (c_fn rfl Tryd.call38 (num_a w k N ws lk rows sz K n)) ?_
  rintro _ wk ⟨rfl, hwk⟩
  obtain rfl := hwk.symm
  cases hf3_2 : (decide (okF N n))
  · skip
    refine st rfl rfl rfl rfl (x_not0 rfl) ?_
    refine st rfl rfl rfl rfl (x_move rfl) ?_
    refine so rfl rfl rfl rfl ?_
    refine so rfl rfl rfl rfl ?_
    refine so rfl rfl rfl rfl ?_
    refine so rfl rfl rfl rfl ?_
    refine st rfl rfl rfl rfl (x_pick1 rfl rfl) ?_
    refine st rfl rfl rfl rfl (x_asg rfl) ?_
    refine rl_end rfl ?_
    refine al_k ?_
    refine cl_if1 rfl rfl ?_
    refine cl_seq rfl ?_
    refine cl_reg rfl ?_
    refine st rfl rfl rfl rfl (x_asg rfl) ?_
    refine rl_end rfl ?_
    refine al_k ?_
    refine cl_ret rfl ?_
    refine fin1 rfl rfl ?_
    unfold fDer
    rw [if_pos (fun h => of_decide_eq_false hf3_2 h.1)]
    exact ⟨rfl, ⟨⟨ws, lk, rows, sz, K, R⟩⟩, Fr.refl _ _⟩
  · skip
    refine st rfl rfl rfl rfl (x_not1 rfl) ?_
    refine st rfl rfl rfl rfl (x_move rfl) ?_
    refine st rfl rfl rfl rfl (x_move rfl) ?_
    refine st rfl rfl rfl rfl (x_move rfl) ?_
    refine sc rfl rfl rfl rfl (c_fn rfl Tryd.call38 (num_a w k N ws lk rows sz K p)) ?_
    rintro _ wk ⟨rfl, hwk⟩
    obtain rfl := hwk.symm
    cases hf3_7 : (decide (okF N p))
    · skip
      refine st rfl rfl rfl rfl (x_not0 rfl) ?_
      refine st rfl rfl rfl rfl (x_pick0 rfl rfl) ?_
      refine st rfl rfl rfl rfl (x_asg rfl) ?_
      refine rl_end rfl ?_
      refine al_k ?_
      refine cl_if1 rfl rfl ?_
      refine cl_seq rfl ?_
      refine cl_reg rfl ?_
      refine st rfl rfl rfl rfl (x_asg rfl) ?_
      refine rl_end rfl ?_
      refine al_k ?_
      refine cl_ret rfl ?_
      refine fin1 rfl rfl ?_
      unfold fDer
      rw [if_pos (fun h => of_decide_eq_false hf3_7 h.2)]
      exact ⟨rfl, ⟨⟨ws, lk, rows, sz, K, R⟩⟩, Fr.refl _ _⟩
    · skip
      refine st rfl rfl rfl rfl (x_not1 rfl) ?_
      refine st rfl rfl rfl rfl (x_pick0 rfl rfl) ?_
      refine st rfl rfl rfl rfl (x_asg rfl) ?_
      refine rl_end rfl ?_
      refine al_k ?_
      refine cl_if0 rfl rfl ?_
      refine cl_seq rfl ?_
      refine cl_reg rfl ?_
      refine st rfl rfl rfl rfl (x_move rfl) ?_
      refine st rfl rfl rfl rfl (x_move rfl) ?_
      refine sc rfl rfl rfl rfl (c_fn rfl Tryd.call17 (Has_c w k N L ⟨⟨ws, lk, rows, sz, K, R⟩⟩ n)) ?_
      rintro _ wk ⟨rfl, hwk⟩
      obtain rfl := hwk.symm
      cases hf5_2 : (has L n)
      · skip
        refine st rfl rfl rfl rfl (x_asg rfl) ?_
        refine rl_end rfl ?_
        refine al_k ?_
        refine cl_if0 rfl rfl ?_
        refine cl_seq rfl ?_
        refine cl_reg rfl ?_
        refine st rfl rfl rfl rfl (x_move rfl) ?_
        refine st rfl rfl rfl rfl (x_move rfl) ?_
        refine sc rfl rfl rfl rfl (c_fn rfl Tryd.call17 (Has_c w k N L ⟨⟨ws, lk, rows, sz, K, R⟩⟩ p)) ?_
        rintro _ wk ⟨rfl, hwk⟩
        obtain rfl := hwk.symm
        cases hf7_2 : (has L p)
        · skip
          refine st rfl rfl rfl rfl (x_not0 rfl) ?_
          refine st rfl rfl rfl rfl (x_asg rfl) ?_
          refine rl_end rfl ?_
          refine al_k ?_
          refine cl_if1 rfl rfl ?_
          refine cl_seq rfl ?_
          refine cl_reg rfl ?_
          refine st rfl rfl rfl rfl (x_asg rfl) ?_
          refine rl_end rfl ?_
          refine al_k ?_
          refine cl_ret rfl ?_
          refine fin1 rfl rfl ?_
          unfold fDer
          rw [if_neg (not_not_intro ⟨of_decide_eq_true hf3_2, of_decide_eq_true hf3_7⟩), if_neg (by rw [hf5_2]; decide), if_pos hf7_2]
          exact ⟨rfl, ⟨⟨ws, lk, rows, sz, K, R⟩⟩, Fr.refl _ _⟩
        · skip
          refine st rfl rfl rfl rfl (x_not1 rfl) ?_
          refine st rfl rfl rfl rfl (x_asg rfl) ?_
          refine rl_end rfl ?_
          refine al_k ?_
          refine cl_if0 rfl rfl ?_
          refine cl_skip rfl ?_
          refine al_k ?_
          refine cl_seq rfl ?_
          have hok := of_decide_eq_true hf3_2
          have hokp := of_decide_eq_true hf3_7
          obtain ⟨m, rfl⟩ : ∃ q : Nat, n = q := ⟨n.toNat, by have h9 := of_decide_eq_true hf3_2; unfold okF at h9; omega⟩
          have hm := hok
          unfold okF at hm
          have hlk : ((p, false) : Int × Bool) = lkOf p := by unfold lkOf; unfold okF at hokp; rw [if_neg (by omega)]
          refine cl_reg rfl ?_
          refine st rfl rfl rfl rfl (x_move rfl) ?_
          refine st rfl rfl rfl rfl (x_move rfl) ?_
          refine st rfl rfl rfl rfl (x_move rfl) ?_
          refine st rfl rfl rfl rfl (x_build rfl (bldKid _ _)) ?_
          refine sc rfl rfl rfl rfl (c_fn rfl Tryd.call41 (set_a w k N ws lk rows sz K m (by omega) (p, false) (by rw [R.siz]; have h1 := R.inv.len; have h2 := K.sN; simp only [List.length_nil]; omega))) ?_
          rintro v9 w9 ⟨K9, F⟩
          refine rl_end rfl ?_
          refine al_k ?_
          refine cl_seq rfl ?_
          refine cl_reg rfl ?_
          refine st rfl rfl rfl rfl (x_move rfl) ?_
          refine st rfl rfl rfl rfl (x_nil rfl) ?_
          refine st rfl rfl rfl rfl (x_fa rfl Tryd.underlying60 rfl Tryd.sizeOf58 19 rfl) ?_
          refine st rfl rfl rfl rfl (x_ld rfl Tryd.isAgg58 (K9.top.cell (topC_18 K9.hw).2.1)) ?_
          refine st rfl rfl rfl rfl (x_move rfl) ?_
          refine st rfl rfl rfl rfl (x_move rfl) ?_
          refine sc rfl rfl rfl rfl (c_fn rfl Tryd.call42 (push_r K9.Q p (m : Int))) ?_
          rintro _ w10 ⟨rfl, Q10, F10⟩
          refine st rfl rfl rfl rfl (x_asg rfl) ?_
          refine rl_end rfl ?_
          refine al_k ?_
          refine cl_ret rfl ?_
          refine fin1 rfl rfl ?_
          have hr := R.rows_der hokp hok hf5_2
          unfold fDer
          rw [if_neg (not_not_intro ⟨hok, hokp⟩), if_neg (by rw [hf5_2]; decide), if_neg (by rw [hf7_2]; decide)]
          rw [hr]
          rw [hr] at Q10
          rw [hlk] at K9
          exact ⟨rfl, ⟨_, _, _, _, K9.setQ Q10 F10, R.set K.hw K.hl K.sN hok hf5_2 (.inr hf7_2) rfl⟩, (F.mono (by intro q hq; simp at hq ⊢; omega)).trans (F10.mono (by intro q hq; simp at hq ⊢; omega))⟩
      · skip
        refine st rfl rfl rfl rfl (x_asg rfl) ?_
        refine rl_end rfl ?_
        refine al_k ?_
        refine cl_if1 rfl rfl ?_
        refine cl_seq rfl ?_
        refine cl_reg rfl ?_
        refine st rfl rfl rfl rfl (x_asg rfl) ?_
        refine rl_end rfl ?_
        refine al_k ?_
        refine cl_ret rfl ?_
        refine fin1 rfl rfl ?_
        unfold fDer
        rw [if_neg (not_not_intro ⟨of_decide_eq_true hf3_2, of_decide_eq_true hf3_7⟩), if_pos hf5_2]
        exact ⟨rfl, ⟨⟨ws, lk, rows, sz, K, R⟩⟩, Fr.refl _ _⟩

theorem asked_c (w : World) (k : FK) (N : Nat) (L : En) (K : FoR w k N L []) (n : Int) : Cl Tryd.prog 48 [.pointer (some ⟨k.fp, 0, none⟩), .int .i64 n] w (fun v w' => v = .int .i64 (fAsk N L n) ∧ w' = w) := by
  obtain ⟨ws, lk, rows, sz, K, R⟩ := K.ex
  have hN := K.sN
  refine enter Tryd.func48 rfl Tryd.ntmps48 rfl ?_
  refine cl_seq rfl ?_
  refine cl_reg rfl ?_
  refine st rfl rfl rfl rfl (x_asg rfl) ?_
  refine rl_end rfl ?_
  refine al_k ?_
  refine cl_seq rfl ?_
  refine cl_block rfl ?_
  refine cl_seq rfl ?_
  refine cl_reg rfl ?_
  refine st rfl rfl rfl rfl (x_move rfl) ?_
  refine sc rfl rfl rfl rfl (c_fn rfl Tryd.call37 (is_a w k N ws lk rows sz K)) ?_
  rintro _ wk ⟨rfl, hwk⟩
  obtain rfl := hwk.symm
  refine st rfl rfl rfl rfl (x_not1 rfl) ?_
  refine st rfl rfl rfl rfl (x_asg rfl) ?_
  refine rl_end rfl ?_
  refine al_k ?_
  refine cl_if0 rfl rfl ?_
  refine cl_seq rfl ?_
  refine cl_reg rfl ?_
  refine st rfl rfl rfl rfl (x_move rfl) ?_
  refine st rfl rfl rfl rfl (x_move rfl) ?_
  refine sc rfl rfl rfl rfl (c_fn rfl Tryd.call38 (num_a w k N ws lk rows sz K n)) ?_
  rintro _ wk ⟨rfl, hwk⟩
  obtain rfl := hwk.symm
  cases hf3_2 : (decide (okF N n))
  · skip
    refine st rfl rfl rfl rfl (x_not0 rfl) ?_
    refine st rfl rfl rfl rfl (x_asg rfl) ?_
    refine rl_end rfl ?_
    refine al_k ?_
    refine cl_if1 rfl rfl ?_
    refine cl_seq rfl ?_
    refine cl_reg rfl ?_
    refine st rfl rfl rfl rfl (x_asg rfl) ?_
    refine rl_end rfl ?_
    refine al_k ?_
    refine cl_ret rfl ?_
    refine fin1 rfl rfl ?_
    unfold fAsk
    rw [if_pos (show ¬ okF N n from of_decide_eq_false hf3_2)]
    exact ⟨rfl, rfl⟩
  · skip
    refine st rfl rfl rfl rfl (x_not1 rfl) ?_
    refine st rfl rfl rfl rfl (x_asg rfl) ?_
    refine rl_end rfl ?_
    refine al_k ?_
    refine cl_if0 rfl rfl ?_
    refine cl_seq rfl ?_
    refine cl_reg rfl ?_
    refine st rfl rfl rfl rfl (x_move rfl) ?_
    refine st rfl rfl rfl rfl (x_move rfl) ?_
    refine sc rfl rfl rfl rfl (c_fn rfl Tryd.call17 (Has_c w k N L ⟨⟨ws, lk, rows, sz, K, R⟩⟩ n)) ?_
    rintro _ wk ⟨rfl, hwk⟩
    obtain rfl := hwk.symm
    cases hf5_2 : (has L n)
    · skip
      refine st rfl rfl rfl rfl (x_not0 rfl) ?_
      refine st rfl rfl rfl rfl (x_asg rfl) ?_
      refine rl_end rfl ?_
      refine al_k ?_
      refine cl_if1 rfl rfl ?_
      refine cl_seq rfl ?_
      refine cl_reg rfl ?_
      refine st rfl rfl rfl rfl (x_asg rfl) ?_
      refine rl_end rfl ?_
      refine al_k ?_
      refine cl_ret rfl ?_
      refine fin1 rfl rfl ?_
      unfold fAsk
      rw [if_neg (not_not_intro (of_decide_eq_true hf3_2)), if_pos hf5_2]
      exact ⟨rfl, rfl⟩
    · skip
      refine st rfl rfl rfl rfl (x_not1 rfl) ?_
      refine st rfl rfl rfl rfl (x_asg rfl) ?_
      refine rl_end rfl ?_
      refine al_k ?_
      refine cl_if0 rfl rfl ?_
      refine cl_skip rfl ?_
      refine al_k ?_
      refine cl_seq rfl ?_
      refine cl_reg rfl ?_
      refine st rfl rfl rfl rfl (x_asg rfl) ?_
      refine rl_end rfl ?_
      refine al_k ?_
      refine cl_ret rfl ?_
      refine fin1 rfl rfl ?_
      unfold fAsk
      rw [if_neg (not_not_intro (of_decide_eq_true hf3_2)), if_neg (by rw [hf5_2]; decide)]
      exact ⟨rfl, rfl⟩

theorem Parent_c (w : World) (k : FK) (N : Nat) (L : En) (K : FoR w k N L []) (n : Int) : Cl Tryd.prog 18 [.pointer (some ⟨k.fp, 0, none⟩), .int .i64 n] w (fun v w' => v = .tuple #[.int .i64 (fPar L n).1, .bool (fPar L n).2] ∧ w' = w) := by
  obtain ⟨ws, lk, rows, sz, K, R⟩ := K.ex
  have hN := K.sN
  refine enter Tryd.func18 rfl Tryd.ntmps18 rfl ?_
  refine cl_seq rfl ?_
  refine cl_reg rfl ?_
  refine st rfl rfl rfl rfl (x_asg rfl) ?_
  refine st rfl rfl rfl rfl (x_asg rfl) ?_
  refine rl_end rfl ?_
  refine al_k ?_
  refine cl_seq rfl ?_
  refine cl_seq rfl ?_
  refine cl_reg rfl ?_
  refine st rfl rfl rfl rfl (x_move rfl) ?_
  refine st rfl rfl rfl rfl (x_move rfl) ?_
  refine sc rfl rfl rfl rfl (c_fn rfl Tryd.call17 (Has_c w k N L ⟨⟨ws, lk, rows, sz, K, R⟩⟩ n)) ?_
  rintro _ wk ⟨rfl, hwk⟩
  obtain rfl := hwk.symm
  cases hf1_2 : (has L n)
  · skip
    refine st rfl rfl rfl rfl (x_not0 rfl) ?_
    refine st rfl rfl rfl rfl (x_move rfl) ?_
    refine so rfl rfl rfl rfl ?_
    refine so rfl rfl rfl rfl ?_
    refine so rfl rfl rfl rfl ?_
    refine so rfl rfl rfl rfl ?_
    refine so rfl rfl rfl rfl ?_
    refine so rfl rfl rfl rfl ?_
    refine so rfl rfl rfl rfl ?_
    refine so rfl rfl rfl rfl ?_
    refine st rfl rfl rfl rfl (x_pick1 rfl rfl) ?_
    refine rl_end rfl ?_
    refine al_k ?_
    refine cl_if1 rfl rfl ?_
    refine cl_seq rfl ?_
    refine cl_reg rfl ?_
    refine st rfl rfl rfl rfl (x_asg rfl) ?_
    refine st rfl rfl rfl rfl (x_asg rfl) ?_
    refine rl_end rfl ?_
    refine al_k ?_
    refine cl_ret rfl ?_
    refine fin2 rfl rfl rfl ?_
    rw [fPar_no hf1_2]
    exact ⟨rfl, rfl⟩
  · skip
    refine st rfl rfl rfl rfl (x_not1 rfl) ?_
    refine st rfl rfl rfl rfl (x_move rfl) ?_
    obtain ⟨p, hp⟩ := has_iff.1 hf1_2
    have hlk := R.lks _ hp
    have hrg := R.inv.rg _ hp
    simp only at hlk hrg
    refine st rfl rfl rfl rfl (x_move rfl) ?_
    refine st rfl rfl rfl rfl (x_nil rfl) ?_
    refine st rfl rfl rfl rfl (x_fa rfl Tryd.underlying60 rfl Tryd.sizeOf57 18 rfl) ?_
    refine st rfl rfl rfl rfl (x_ld rfl Tryd.isAgg57 (K.top.cell (topC_18 K.hw).1)) ?_
    refine st rfl rfl rfl rfl (x_move rfl) ?_
    refine st rfl rfl rfl rfl (x_ia0 rfl rfl Tryd.underlying57 Tryd.sizeOf74 (by omega)) ?_
    refine st rfl rfl rfl rfl (x_fa rfl Tryd.underlying74 rfl Tryd.sizeOf4 1 rfl) ?_
    refine st rfl rfl rfl rfl (x_ld rfl Tryd.isAgg4 (cL w k N ws lk rows sz K hlk rfl)) ?_
    cases hf1_12 : ((lkOf p).2)
    · skip
      refine st rfl rfl rfl rfl (x_pick0 rfl rfl) ?_
      refine rl_end rfl ?_
      refine al_k ?_
      refine cl_if0 rfl rfl ?_
      refine cl_skip rfl ?_
      refine al_k ?_
      refine cl_seq rfl ?_
      refine cl_reg rfl ?_
      refine st rfl rfl rfl rfl (x_move rfl) ?_
      refine st rfl rfl rfl rfl (x_nil rfl) ?_
      refine st rfl rfl rfl rfl (x_fa rfl Tryd.underlying60 rfl Tryd.sizeOf57 18 rfl) ?_
      refine st rfl rfl rfl rfl (x_ld rfl Tryd.isAgg57 (K.top.cell (topC_18 K.hw).1)) ?_
      refine st rfl rfl rfl rfl (x_move rfl) ?_
      refine st rfl rfl rfl rfl (x_ia0 rfl rfl Tryd.underlying57 Tryd.sizeOf74 (by omega)) ?_
      refine st rfl rfl rfl rfl (x_fa rfl Tryd.underlying74 rfl Tryd.sizeOf3 0 rfl) ?_
      refine st rfl rfl rfl rfl (x_ld rfl Tryd.isAgg3 (cL w k N ws lk rows sz K (j := 0) hlk rfl)) ?_
      refine st rfl rfl rfl rfl (x_asg rfl) ?_
      refine st rfl rfl rfl rfl (x_asg rfl) ?_
      refine rl_end rfl ?_
      refine al_k ?_
      refine cl_ret rfl ?_
      refine fin2 rfl rfl rfl ?_
      have hneg : ¬ p < 0 := by unfold lkOf at hf1_12; split at hf1_12; cases hf1_12; assumption
      rw [R.inv.fPar hp, if_neg hneg]
      unfold lkOf
      rw [if_neg hneg]
      exact ⟨rfl, rfl⟩
    · skip
      refine st rfl rfl rfl rfl (x_pick0 rfl rfl) ?_
      refine rl_end rfl ?_
      refine al_k ?_
      refine cl_if1 rfl rfl ?_
      refine cl_seq rfl ?_
      refine cl_reg rfl ?_
      refine st rfl rfl rfl rfl (x_asg rfl) ?_
      refine st rfl rfl rfl rfl (x_asg rfl) ?_
      refine rl_end rfl ?_
      refine al_k ?_
      refine cl_ret rfl ?_
      refine fin2 rfl rfl rfl ?_
      have hneg : p < 0 := by unfold lkOf at hf1_12; split at hf1_12; assumption; cases hf1_12
      rw [R.inv.fPar hp, if_pos hneg]
      exact ⟨rfl, rfl⟩

theorem Len_c (w : World) (k : FK) (N : Nat) (L : En) (K : FoR w k N L []) : Cl Tryd.prog 21 [.pointer (some ⟨k.fp, 0, none⟩)] w (fun v w' => v = .int .i64 L.length ∧ w' = w) := by
  obtain ⟨ws, lk, rows, sz, K, R⟩ := K.ex
  have hN := K.sN
  refine enter Tryd.func21 rfl Tryd.ntmps21 rfl ?_
  refine cl_seq rfl ?_
  refine cl_reg rfl ?_
  refine st rfl rfl rfl rfl (x_asg rfl) ?_
  refine rl_end rfl ?_
  refine al_k ?_
  refine cl_seq rfl ?_
  refine cl_seq rfl ?_
  refine cl_reg rfl ?_
  refine st rfl rfl rfl rfl (x_move rfl) ?_
  refine sc rfl rfl rfl rfl (c_fn rfl Tryd.call37 (is_a w k N ws lk rows sz K)) ?_
  rintro _ wk ⟨rfl, hwk⟩
  obtain rfl := hwk.symm
  refine st rfl rfl rfl rfl (x_not1 rfl) ?_
  refine rl_end rfl ?_
  refine al_k ?_
  refine cl_if0 rfl rfl ?_
  refine cl_skip rfl ?_
  refine al_k ?_
  refine cl_seq rfl ?_
  refine cl_reg rfl ?_
  refine st rfl rfl rfl rfl (x_move rfl) ?_
  refine st rfl rfl rfl rfl (x_nil rfl) ?_
  refine st rfl rfl rfl rfl (x_fa rfl Tryd.underlying60 rfl Tryd.sizeOf3 20 rfl) ?_
  refine st rfl rfl rfl rfl (x_ld rfl Tryd.isAgg3 (K.top.cell (topC_18 K.hw).2.2)) ?_
  refine st rfl rfl rfl rfl (x_asg rfl) ?_
  refine rl_end rfl ?_
  refine al_k ?_
  refine cl_ret rfl ?_
  refine fin1 rfl rfl ?_
  rw [R.siz]
  exact ⟨by simp, rfl⟩

theorem par_has {N : Nat} {L : En} (I : Inv N L) {n p : Int} (h : fPar L n = (p, true)) : has L p = true := (I.up (fPar_true h).2 (by have := (fPar_true h).1; omega)).1
theorem dep_start {N : Nat} {L : En} (I : Inv N L) {n : Int} (hn : has L n = true) : (0 : Int) + (if (fPar L n).2 = true then dF L L.length (fPar L n).1 + 1 else 0) = dF L L.length n := by
  rw [dF_eq I hn]
  rcases fPar L n with ⟨p, b⟩
  cases b <;> simp
theorem dep_mu {N : Nat} {L : En} (I : Inv N L) {p : Int} (hn : has L p = true) : (if (fPar L p).2 = true then idx L (fPar L p).1 + 1 else 0) < (if true = true then idx L p + 1 else 0) := by
  rw [if_pos rfl]
  rcases h : fPar L p with ⟨q, b⟩
  cases b with
  | false => simp
  | true =>
    have := (I.up (fPar_true h).2 (by have := (fPar_true h).1; omega)).2
    simp only [if_pos]
    omega

theorem Depth_c (w : World) (k : FK) (N : Nat) (L : En) (K : FoR w k N L []) (n : Int) : Cl Tryd.prog 20 [.pointer (some ⟨k.fp, 0, none⟩), .int .i64 n] w (fun v w' => v = .int .i64 (fDep L n) ∧ w' = w) := by
  obtain ⟨ws, lk, rows, sz, K, R⟩ := K.ex
  have hN := K.sN
  refine enter Tryd.func20 rfl Tryd.ntmps20 rfl ?_
  refine cl_seq rfl ?_
  refine cl_reg rfl ?_
  refine st rfl rfl rfl rfl (x_asg rfl) ?_
  refine rl_end rfl ?_
  refine al_k ?_
  refine cl_seq rfl ?_
  refine cl_seq rfl ?_
  refine cl_reg rfl ?_
  refine st rfl rfl rfl rfl (x_move rfl) ?_
  refine sc rfl rfl rfl rfl (c_fn rfl Tryd.call37 (is_a w k N ws lk rows sz K)) ?_
  rintro _ wk ⟨rfl, hwk⟩
  obtain rfl := hwk.symm
  refine st rfl rfl rfl rfl (x_not1 rfl) ?_
  refine rl_end rfl ?_
  refine al_k ?_
  refine cl_if0 rfl rfl ?_
  refine cl_skip rfl ?_
  refine al_k ?_
  refine cl_seq rfl ?_
  refine cl_seq rfl ?_
  refine cl_reg rfl ?_
  refine st rfl rfl rfl rfl (x_move rfl) ?_
  refine st rfl rfl rfl rfl (x_move rfl) ?_
  refine sc rfl rfl rfl rfl (c_fn rfl Tryd.call17 (Has_c w k N L ⟨⟨ws, lk, rows, sz, K, R⟩⟩ n)) ?_
  rintro _ wk ⟨rfl, hwk⟩
  obtain rfl := hwk.symm
  cases hf3_2 : (has L n)
  · skip
    refine st rfl rfl rfl rfl (x_not0 rfl) ?_
    refine rl_end rfl ?_
    refine al_k ?_
    refine cl_if1 rfl rfl ?_
    refine cl_seq rfl ?_
    refine cl_reg rfl ?_
    refine st rfl rfl rfl rfl (x_asg rfl) ?_
    refine rl_end rfl ?_
    refine al_k ?_
    refine cl_ret rfl ?_
    refine fin1 rfl rfl ?_
    unfold fDep
    rw [if_neg (by rw [hf3_2]; decide)]
    exact ⟨rfl, rfl⟩
  · skip
    refine st rfl rfl rfl rfl (x_not1 rfl) ?_
    refine rl_end rfl ?_
    refine al_k ?_
    refine cl_if0 rfl rfl ?_
    refine cl_skip rfl ?_
    refine al_k ?_
    refine cl_seq rfl ?_
    refine cl_reg rfl ?_
    refine st rfl rfl rfl rfl (x_asg rfl) ?_
    refine rl_end rfl ?_
    refine al_k ?_
    refine cl_seq rfl ?_
    refine cl_seq rfl ?_
    refine cl_reg rfl ?_
    refine st rfl rfl rfl rfl (x_move rfl) ?_
    refine st rfl rfl rfl rfl (x_move rfl) ?_
    refine sc rfl rfl rfl rfl (c_fn rfl Tryd.call18 (Parent_c w k N L ⟨⟨ws, lk, rows, sz, K, R⟩⟩ n)) ?_
    rintro _ wk ⟨rfl, hwk⟩
    obtain rfl := hwk.symm
    refine st rfl rfl rfl rfl (x_move rfl) ?_
    refine st rfl rfl rfl rfl (x_ext rfl rfl) ?_
    refine st rfl rfl rfl rfl (x_ext rfl rfl) ?_
    refine st rfl rfl rfl rfl (x_asg rfl) ?_
    refine st rfl rfl rfl rfl (x_asg rfl) ?_
    refine rl_end rfl ?_
    refine al_k ?_
    refine cl_block rfl ?_
    refine cl_loop (fun s : Int × Int × Bool => [(5, .int .i64 s.1), (6, .int .i64 s.2.1), (7, .bool s.2.2), (0, .pointer (some ⟨k.fp, 0, none⟩))]) (fun s w' => w' = w ∧ (0 ≤ s.1 ∧ s.1 ≤ 1024) ∧ (s.2.2 = true → has L s.2.1 = true) ∧ s.1 + (if s.2.2 = true then dF L L.length s.2.1 + 1 else 0) = dF L L.length n) (fun s => if s.2.2 = true then idx L s.2.1 + 1 else 0) (0, (fPar L n).1, (fPar L n).2) rfl ⟨rfl, rfl, rfl, rfl, trivial⟩ ?_ ?_
    · exact ⟨rfl, ⟨by dsimp only; omega, by dsimp only; omega⟩, fun h => par_has R.inv (by exact Prod.ext rfl h), dep_start R.inv hf3_2⟩
    · skip
      rintro ⟨d, p, b⟩ wk ⟨hwk, ⟨hd0, hd1⟩, hhas, hsum⟩
      obtain rfl := hwk.symm
      dsimp only at hd0 hd1 hhas hsum ⊢
      refine cl_seq rfl ?_
      refine cl_seq rfl ?_
      refine cl_reg rfl ?_
      refine st rfl rfl rfl rfl (x_move rfl) ?_
      refine rl_end rfl ?_
      refine al_k ?_
      refine cl_cond rfl rfl (fun hb21 => ?_) (fun hb21 => ?_)
      · skip
        refine cl_skip rfl ?_
        refine al_k ?_
        refine cl_seq rfl ?_
        refine cl_block rfl ?_
        refine cl_reg rfl ?_
        refine st rfl rfl rfl rfl (x_move rfl) ?_
        refine st rfl rfl rfl rfl (x_add rfl rfl (by omega)) ?_
        refine st rfl rfl rfl rfl (x_asg rfl) ?_
        refine rl_end rfl ?_
        refine al_k ?_
        refine cl_reg rfl ?_
        refine st rfl rfl rfl rfl (x_move rfl) ?_
        refine st rfl rfl rfl rfl (x_move rfl) ?_
        refine sc rfl rfl rfl rfl (c_fn rfl Tryd.call18 (Parent_c w k N L ⟨⟨ws, lk, rows, sz, K, R⟩⟩ p)) ?_
        rintro _ wk ⟨rfl, hwk⟩
        obtain rfl := hwk.symm
        refine st rfl rfl rfl rfl (x_move rfl) ?_
        refine st rfl rfl rfl rfl (x_ext rfl rfl) ?_
        refine st rfl rfl rfl rfl (x_ext rfl rfl) ?_
        refine st rfl rfl rfl rfl (x_asg rfl) ?_
        refine st rfl rfl rfl rfl (x_asg rfl) ?_
        refine rl_end rfl ?_
        subst hb21
        have hh := hhas rfl
        refine again (d + 1, (fPar L p).1, (fPar L p).2) (dep_mu R.inv hh) ⟨rfl, rfl, rfl, rfl, trivial⟩ ⟨rfl, ⟨by dsimp only; omega, by dsimp only; have := dF_bound L L.length n; have := R.inv.len; have := dF_bound L L.length p; rw [if_pos rfl] at hsum; omega⟩, fun h => par_has R.inv (by exact Prod.ext rfl h), ?_⟩
        dsimp only
        rw [if_pos rfl] at hsum
        have hst := dep_start R.inv hh
        omega
      · skip
        refine cl_exit rfl ?_
        refine upd_self ?_
        refine al_k ?_
        refine cl_seq rfl ?_
        refine cl_reg rfl ?_
        refine st rfl rfl rfl rfl (x_move rfl) ?_
        refine st rfl rfl rfl rfl (x_asg rfl) ?_
        refine rl_end rfl ?_
        refine al_k ?_
        refine cl_ret rfl ?_
        refine fin1 rfl rfl ?_
        subst hb21
        rw [if_neg (by decide), Int.add_zero] at hsum
        unfold fDep
        rw [if_pos hf3_2, ← hsum]
        exact ⟨rfl, rfl⟩

theorem Under_c (w : World) (k : FK) (N : Nat) (L : En) (K : FoR w k N L []) (n r : Int) : Cl Tryd.prog 19 [.pointer (some ⟨k.fp, 0, none⟩), .int .i64 n, .int .i64 r] w (fun v w' => v = .bool (fUnd L n r) ∧ w' = w) := by
  obtain ⟨ws, lk, rows, sz, K, R⟩ := K.ex
  have hN := K.sN
  refine enter Tryd.func19 rfl Tryd.ntmps19 rfl ?_
  refine cl_seq rfl ?_
  refine cl_reg rfl ?_
  refine st rfl rfl rfl rfl (x_asg rfl) ?_
  refine rl_end rfl ?_
  refine al_k ?_
  refine cl_seq rfl ?_
  refine cl_seq rfl ?_
  refine cl_reg rfl ?_
  refine st rfl rfl rfl rfl (x_move rfl) ?_
  refine st rfl rfl rfl rfl (x_move rfl) ?_
  refine sc rfl rfl rfl rfl (c_fn rfl Tryd.call17 (Has_c w k N L ⟨⟨ws, lk, rows, sz, K, R⟩⟩ n)) ?_
  rintro _ wk ⟨rfl, hwk⟩
  obtain rfl := hwk.symm
  cases hf1_2 : (has L n)
  · skip
    refine st rfl rfl rfl rfl (x_not0 rfl) ?_
    refine st rfl rfl rfl rfl (x_move rfl) ?_
    refine so rfl rfl rfl rfl ?_
    refine so rfl rfl rfl rfl ?_
    refine so rfl rfl rfl rfl ?_
    refine so rfl rfl rfl rfl ?_
    refine st rfl rfl rfl rfl (x_pick1 rfl rfl) ?_
    refine rl_end rfl ?_
    refine al_k ?_
    refine cl_if1 rfl rfl ?_
    refine cl_seq rfl ?_
    refine cl_reg rfl ?_
    refine st rfl rfl rfl rfl (x_asg rfl) ?_
    refine rl_end rfl ?_
    refine al_k ?_
    refine cl_ret rfl ?_
    refine fin1 rfl rfl ?_
    refine ⟨congrArg Value.bool ?_, rfl⟩
    unfold fUnd
    rw [hf1_2]; rfl
  · skip
    refine st rfl rfl rfl rfl (x_not1 rfl) ?_
    refine st rfl rfl rfl rfl (x_move rfl) ?_
    refine st rfl rfl rfl rfl (x_move rfl) ?_
    refine st rfl rfl rfl rfl (x_move rfl) ?_
    refine sc rfl rfl rfl rfl (c_fn rfl Tryd.call17 (Has_c w k N L ⟨⟨ws, lk, rows, sz, K, R⟩⟩ r)) ?_
    rintro _ wk ⟨rfl, hwk⟩
    obtain rfl := hwk.symm
    cases hf1_7 : (has L r)
    · skip
      refine st rfl rfl rfl rfl (x_not0 rfl) ?_
      refine st rfl rfl rfl rfl (x_pick0 rfl rfl) ?_
      refine rl_end rfl ?_
      refine al_k ?_
      refine cl_if1 rfl rfl ?_
      refine cl_seq rfl ?_
      refine cl_reg rfl ?_
      refine st rfl rfl rfl rfl (x_asg rfl) ?_
      refine rl_end rfl ?_
      refine al_k ?_
      refine cl_ret rfl ?_
      refine fin1 rfl rfl ?_
      refine ⟨congrArg Value.bool ?_, rfl⟩
      unfold fUnd
      rw [hf1_2, hf1_7]; rfl
    · skip
      refine st rfl rfl rfl rfl (x_not1 rfl) ?_
      refine st rfl rfl rfl rfl (x_pick0 rfl rfl) ?_
      refine rl_end rfl ?_
      refine al_k ?_
      refine cl_if0 rfl rfl ?_
      refine cl_skip rfl ?_
      refine al_k ?_
      refine cl_seq rfl ?_
      refine cl_block rfl ?_
      refine cl_loop (fun c : Int => [(1, .int .i64 c), (0, .pointer (some ⟨k.fp, 0, none⟩)), (2, .int .i64 r)]) (fun c w' => w' = w ∧ has L c = true ∧ (undP L n r ↔ undP L c r)) (fun c => idx L c) n rfl ⟨rfl, rfl, rfl, trivial⟩ ?_ ?_
      · exact ⟨rfl, hf1_2, Iff.rfl⟩
      · skip
        rintro c wk ⟨hwk, hc, hiff⟩
        obtain rfl := hwk.symm
        refine cl_seq rfl ?_
        refine cl_seq rfl ?_
        refine cl_reg rfl ?_
        refine st rfl rfl rfl rfl (x_move rfl) ?_
        refine st rfl rfl rfl rfl (x_move rfl) ?_
        refine sf rfl rfl rfl rfl (x_neq rfl rfl) (fun c3_2 => ?_) (fun c3_2 => ?_)
        · skip
          refine rl_end rfl ?_
          refine al_k ?_
          refine cl_if1 rfl rfl ?_
          refine cl_skip rfl ?_
          refine al_k ?_
          refine cl_block rfl ?_
          refine cl_seq rfl ?_
          refine cl_reg rfl ?_
          refine st rfl rfl rfl rfl (x_move rfl) ?_
          refine st rfl rfl rfl rfl (x_move rfl) ?_
          refine sc rfl rfl rfl rfl (c_fn rfl Tryd.call18 (Parent_c w k N L ⟨⟨ws, lk, rows, sz, K, R⟩⟩ c)) ?_
          rintro _ wk ⟨rfl, hwk⟩
          obtain rfl := hwk.symm
          refine st rfl rfl rfl rfl (x_move rfl) ?_
          refine st rfl rfl rfl rfl (x_ext rfl rfl) ?_
          refine st rfl rfl rfl rfl (x_ext rfl rfl) ?_
          cases hf4_5 : ((fPar L c).2)
          · skip
            refine st rfl rfl rfl rfl (x_asg rfl) ?_
            refine st rfl rfl rfl rfl (x_asg rfl) ?_
            refine rl_end rfl ?_
            refine al_k ?_
            refine cl_seq rfl ?_
            refine cl_seq rfl ?_
            refine cl_reg rfl ?_
            refine st rfl rfl rfl rfl (x_move rfl) ?_
            refine st rfl rfl rfl rfl (x_not0 rfl) ?_
            refine rl_end rfl ?_
            refine al_k ?_
            refine cl_if1 rfl rfl ?_
            refine cl_seq rfl ?_
            refine cl_reg rfl ?_
            refine st rfl rfl rfl rfl (x_asg rfl) ?_
            refine rl_end rfl ?_
            refine al_k ?_
            refine cl_ret rfl ?_
            refine fin1 rfl rfl ?_
            refine ⟨congrArg Value.bool (Eq.symm ?_), rfl⟩
            have hno := und_stop R.inv c3_2 (p := (fPar L c).1) (Prod.ext rfl hf4_5)
            rw [← hiff, ← fUnd_iff R.inv hf1_2 hf1_7] at hno
            exact Bool.eq_false_iff.2 hno
          · skip
            refine st rfl rfl rfl rfl (x_asg rfl) ?_
            refine st rfl rfl rfl rfl (x_asg rfl) ?_
            refine rl_end rfl ?_
            refine al_k ?_
            refine cl_seq rfl ?_
            refine cl_seq rfl ?_
            refine cl_reg rfl ?_
            refine st rfl rfl rfl rfl (x_move rfl) ?_
            refine st rfl rfl rfl rfl (x_not1 rfl) ?_
            refine rl_end rfl ?_
            refine al_k ?_
            refine cl_if0 rfl rfl ?_
            refine cl_skip rfl ?_
            refine al_k ?_
            refine cl_reg rfl ?_
            refine st rfl rfl rfl rfl (x_move rfl) ?_
            refine st rfl rfl rfl rfl (x_asg rfl) ?_
            refine rl_end rfl ?_
            have hpar : fPar L c = ((fPar L c).1, true) := Prod.ext rfl hf4_5
            refine again (fPar L c).1 (R.inv.up (fPar_true hpar).2 (by have := (fPar_true hpar).1; omega)).2 ⟨rfl, rfl, rfl, trivial⟩ ⟨rfl, par_has R.inv hpar, hiff.trans (und_step R.inv c3_2 hpar)⟩
        · skip
          refine rl_end rfl ?_
          refine al_k ?_
          refine cl_if0 rfl rfl ?_
          refine cl_exit rfl ?_
          refine upd_self ?_
          refine al_k ?_
          refine cl_seq rfl ?_
          refine cl_reg rfl ?_
          refine st rfl rfl rfl rfl (x_asg rfl) ?_
          refine rl_end rfl ?_
          refine al_k ?_
          refine cl_ret rfl ?_
          refine fin1 rfl rfl ?_
          refine ⟨congrArg Value.bool (Eq.symm ?_), rfl⟩
          rw [fUnd_iff R.inv hf1_2 hf1_7, hiff]
          exact .inl (Decidable.not_not.1 c3_2)

end Go.Proofs.YtcbkpekbfkaeeaaDoor.Fo
