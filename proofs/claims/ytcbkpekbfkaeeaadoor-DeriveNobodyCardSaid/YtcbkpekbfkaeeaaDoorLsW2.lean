/- Lists by links: the walks of Pop, Len, Drop, Move, Of and row. -/
import Derived.Test.YtcbkpekbfkaeeaaDoorLsW1
set_option linter.unusedVariables false
namespace Go.Proofs.YtcbkpekbfkaeeaaDoor.Ls
open Go Go.RowKit Go.Proofs.YtcbkpekbfkaeeaaDoor.Sx Go.Proofs.YtcbkpekbfkaeeaaDoor
set_option maxRecDepth 100000

theorem drop_bad (w : World) (p nb hb N H : Nat) (x : LS) (L : LsAt w p nb hb N H x) (nd : Int) (hbad : ¬ (0 ≤ nd ∧ nd < (N : Int))) : Cl Tryd.prog 53 [.pointer (some ⟨p, 0, none⟩), .int .i64 nd] w (fun v w' => v = .int .i64 5 ∧ LsAt w' p nb hb N H x ∧ Fr [nb, hb] w w') := by
  have F := Fr.refl [nb, hb] w
  refine enter Tryd.func53 rfl Tryd.ntmps53 rfl ?_
  refine cl_seq rfl ?_
  refine cl_reg rfl ?_
  refine st rfl rfl rfl rfl (x_asg rfl) ?_
  refine rl_end rfl ?_
  refine al_k ?_
  refine cl_seq rfl ?_
  refine cl_seq rfl ?_
  refine cl_reg rfl ?_
  refine st rfl rfl rfl rfl (x_move rfl) ?_
  refine st rfl rfl rfl rfl (x_move rfl) ?_
  refine se rfl rfl rfl rfl (e_new (x_bsl rfl (bsl1 Tryd.underlying35 Tryd.sizeOf3 Tryd.zeroValue3 rfl rfl))) ?_
  rintro _ w1_2 ⟨rfl, b1_2, fr1_2, sz1_2⟩
  replace L := L.fr0 fr1_2
  replace F := F.trans fr1_2.of0
  refine sc rfl rfl rfl rfl (c_fn rfl Tryd.call55 ((asked_c _ p nb hb N H x L _ _ [] [nd] (SlI.nil _) (SlI.blk (zs := [nd]) (c := 1) b1_2 (by simp))).mono (R' := fun v w' => v = .int .i64 5 ∧ w' = _) (fun v w' h => ⟨h.1.trans (congrArg _ (if_neg (by simp; omega))), h.2⟩))) ?_
  rintro _ wk ⟨rfl, hwk⟩
  obtain rfl := hwk.symm
  refine st rfl rfl rfl rfl (x_asg rfl) ?_
  refine rl_end rfl ?_
  refine al_k ?_
  refine cl_seq rfl ?_
  refine cl_reg rfl ?_
  refine st rfl rfl rfl rfl (x_move rfl) ?_
  refine st rfl rfl rfl rfl ((x_neq rfl rfl).b1 (by omega)) ?_
  refine rl_end rfl ?_
  refine al_k ?_
  refine cl_if1 rfl rfl ?_
  refine cl_seq rfl ?_
  refine cl_reg rfl ?_
  refine st rfl rfl rfl rfl (x_move rfl) ?_
  refine st rfl rfl rfl rfl (x_asg rfl) ?_
  refine rl_end rfl ?_
  refine al_k ?_
  refine cl_ret rfl ?_
  refine fin1 rfl rfl ?_
  exact ⟨rfl, L, F⟩

theorem drop_out (w : World) (p nb hb N H : Nat) (x : LS) (L : LsAt w p nb hb N H x) (nd : Int) (hn : 0 ≤ nd ∧ nd < (N : Int)) (hy : x.nodes[nd.toNat]? = some loose) : Cl Tryd.prog 53 [.pointer (some ⟨p, 0, none⟩), .int .i64 nd] w (fun v w' => v = .int .i64 51 ∧ LsAt w' p nb hb N H x ∧ Fr [nb, hb] w w') := by
  have F := Fr.refl [nb, hb] w
  refine enter Tryd.func53 rfl Tryd.ntmps53 rfl ?_
  refine cl_seq rfl ?_
  refine cl_reg rfl ?_
  refine st rfl rfl rfl rfl (x_asg rfl) ?_
  refine rl_end rfl ?_
  refine al_k ?_
  refine cl_seq rfl ?_
  refine cl_seq rfl ?_
  refine cl_reg rfl ?_
  refine st rfl rfl rfl rfl (x_move rfl) ?_
  refine st rfl rfl rfl rfl (x_move rfl) ?_
  refine se rfl rfl rfl rfl (e_new (x_bsl rfl (bsl1 Tryd.underlying35 Tryd.sizeOf3 Tryd.zeroValue3 rfl rfl))) ?_
  rintro _ w1_2 ⟨rfl, b1_2, fr1_2, sz1_2⟩
  replace L := L.fr0 fr1_2
  replace F := F.trans fr1_2.of0
  refine sc rfl rfl rfl rfl (c_fn rfl Tryd.call55 ((asked_c _ p nb hb N H x L _ _ [] [nd] (SlI.nil _) (SlI.blk (zs := [nd]) (c := 1) b1_2 (by simp))).mono (R' := fun v w' => v = .int .i64 0 ∧ w' = _) (fun v w' h => ⟨h.1.trans (congrArg _ (if_pos (by simp; omega))), h.2⟩))) ?_
  rintro _ wk ⟨rfl, hwk⟩
  obtain rfl := hwk.symm
  refine st rfl rfl rfl rfl (x_asg rfl) ?_
  refine rl_end rfl ?_
  refine al_k ?_
  refine cl_seq rfl ?_
  refine cl_reg rfl ?_
  refine st rfl rfl rfl rfl (x_move rfl) ?_
  refine st rfl rfl rfl rfl ((x_neq rfl rfl).b0 (by omega)) ?_
  refine rl_end rfl ?_
  refine al_k ?_
  refine cl_if0 rfl rfl ?_
  refine cl_skip rfl ?_
  refine al_k ?_
  refine cl_seq rfl ?_
  refine cl_seq rfl ?_
  refine cl_draw (by kernel_rfl) rfl [] (fun w' => w'.heap = w1_2.heap) ?_
  rintro wd4 frd4 hpd4
  refine ⟨hpd4, ?_⟩
  refine dt (i := 0) rfl rfl rfl rfl (by kernel_rfl) (fun _ => x_move rfl) ?_
  refine dt (i := 1) rfl rfl rfl rfl (by kernel_rfl) (fun _ => x_nil rfl) ?_
  refine dt (i := 2) rfl rfl rfl rfl (by kernel_rfl) (fun _ => x_fa rfl Tryd.underlying80 rfl Tryd.sizeOf77 0 rfl) ?_
  refine dl (i := 3) rfl rfl rfl rfl (by kernel_rfl) (by kernel_rfl) (fun w' hU => x_ld rfl Tryd.isAgg77 (heq hU (L.top.cell rfl))) ?_
  refine dt (i := 4) rfl rfl rfl rfl (by kernel_rfl) (fun _ => x_move rfl) ?_
  refine dt (i := 5) rfl rfl rfl rfl (by kernel_rfl) (fun _ => x_ia0 rfl rfl Tryd.underlying77 Tryd.sizeOf82 (by omega)) ?_
  refine dl (i := 6) rfl rfl rfl rfl (by kernel_rfl) (by kernel_rfl) (fun w' hU => x_ldn rfl Tryd.isAgg82 Tryd.sizeOf82 rfl (heqn hU (cell_e lenL L.nod hy rfl))) ?_
  refine dl (i := 7) rfl rfl rfl rfl (by kernel_rfl) (by kernel_rfl) (fun w' hU => x_ldn rfl Tryd.isAgg82 Tryd.sizeOf82 rfl (heqn hU L.glb)) ?_
  refine dt (i := 8) rfl rfl rfl rfl (by kernel_rfl) (fun _ => (x_eqs rfl rfl (egL _ _ _ _ _ _) (eqL _ _ _)).b1 rfl) ?_
  replace L := L.fr0 frd4
  replace F := F.trans frd4.of0
  replace b1_2 := b1_2.fr0 frd4
  refine dn (by kernel_rfl) ?_
  refine al_k ?_
  refine cl_if1 rfl rfl ?_
  refine cl_seq rfl ?_
  refine cl_reg rfl ?_
  refine st rfl rfl rfl rfl (x_asg rfl) ?_
  refine rl_end rfl ?_
  refine al_k ?_
  refine cl_ret rfl ?_
  refine fin1 rfl rfl ?_
  exact ⟨rfl, L, F⟩

theorem drop_ok (w : World) (p nb hb N H : Nat) (x : LS) (L : LsAt w p nb hb N H x) (W : WF N H x) (nd : Int) (hn : 0 ≤ nd ∧ nd < (N : Int)) (y : Link) (hy : x.nodes[nd.toNat]? = some y) (hlo : ¬ y = loose) : Cl Tryd.prog 53 [.pointer (some ⟨p, 0, none⟩), .int .i64 nd] w (fun v w' => v = .int .i64 0 ∧ LsAt w' p nb hb N H (x.remove nd) ∧ Fr [nb, hb] w w') := by
  have F := Fr.refl [nb, hb] w
  refine enter Tryd.func53 rfl Tryd.ntmps53 rfl ?_
  refine cl_seq rfl ?_
  refine cl_reg rfl ?_
  refine st rfl rfl rfl rfl (x_asg rfl) ?_
  refine rl_end rfl ?_
  refine al_k ?_
  refine cl_seq rfl ?_
  refine cl_seq rfl ?_
  refine cl_reg rfl ?_
  refine st rfl rfl rfl rfl (x_move rfl) ?_
  refine st rfl rfl rfl rfl (x_move rfl) ?_
  refine se rfl rfl rfl rfl (e_new (x_bsl rfl (bsl1 Tryd.underlying35 Tryd.sizeOf3 Tryd.zeroValue3 rfl rfl))) ?_
  rintro _ w1_2 ⟨rfl, b1_2, fr1_2, sz1_2⟩
  replace L := L.fr0 fr1_2
  replace F := F.trans fr1_2.of0
  refine sc rfl rfl rfl rfl (c_fn rfl Tryd.call55 ((asked_c _ p nb hb N H x L _ _ [] [nd] (SlI.nil _) (SlI.blk (zs := [nd]) (c := 1) b1_2 (by simp))).mono (R' := fun v w' => v = .int .i64 0 ∧ w' = _) (fun v w' h => ⟨h.1.trans (congrArg _ (if_pos (by simp; omega))), h.2⟩))) ?_
  rintro _ wk ⟨rfl, hwk⟩
  obtain rfl := hwk.symm
  refine st rfl rfl rfl rfl (x_asg rfl) ?_
  refine rl_end rfl ?_
  refine al_k ?_
  refine cl_seq rfl ?_
  refine cl_reg rfl ?_
  refine st rfl rfl rfl rfl (x_move rfl) ?_
  refine st rfl rfl rfl rfl ((x_neq rfl rfl).b0 (by omega)) ?_
  refine rl_end rfl ?_
  refine al_k ?_
  refine cl_if0 rfl rfl ?_
  refine cl_skip rfl ?_
  refine al_k ?_
  refine cl_seq rfl ?_
  refine cl_seq rfl ?_
  refine cl_draw (by kernel_rfl) rfl [] (fun w' => w'.heap = w1_2.heap) ?_
  rintro wd4 frd4 hpd4
  refine ⟨hpd4, ?_⟩
  refine dt (i := 0) rfl rfl rfl rfl (by kernel_rfl) (fun _ => x_move rfl) ?_
  refine dt (i := 1) rfl rfl rfl rfl (by kernel_rfl) (fun _ => x_nil rfl) ?_
  refine dt (i := 2) rfl rfl rfl rfl (by kernel_rfl) (fun _ => x_fa rfl Tryd.underlying80 rfl Tryd.sizeOf77 0 rfl) ?_
  refine dl (i := 3) rfl rfl rfl rfl (by kernel_rfl) (by kernel_rfl) (fun w' hU => x_ld rfl Tryd.isAgg77 (heq hU (L.top.cell rfl))) ?_
  refine dt (i := 4) rfl rfl rfl rfl (by kernel_rfl) (fun _ => x_move rfl) ?_
  refine dt (i := 5) rfl rfl rfl rfl (by kernel_rfl) (fun _ => x_ia0 rfl rfl Tryd.underlying77 Tryd.sizeOf82 (by omega)) ?_
  refine dl (i := 6) rfl rfl rfl rfl (by kernel_rfl) (by kernel_rfl) (fun w' hU => x_ldn rfl Tryd.isAgg82 Tryd.sizeOf82 rfl (heqn hU (cell_e lenL L.nod hy rfl))) ?_
  refine dl (i := 7) rfl rfl rfl rfl (by kernel_rfl) (by kernel_rfl) (fun w' hU => x_ldn rfl Tryd.isAgg82 Tryd.sizeOf82 rfl (heqn hU L.glb)) ?_
  refine dt (i := 8) rfl rfl rfl rfl (by kernel_rfl) (fun _ => (x_eqs rfl rfl (egL _ _ _ _ _ _) (eqL _ _ _)).b0 hlo) ?_
  replace L := L.fr0 frd4
  replace F := F.trans frd4.of0
  replace b1_2 := b1_2.fr0 frd4
  refine dn (by kernel_rfl) ?_
  refine al_k ?_
  refine cl_if0 rfl rfl ?_
  refine cl_skip rfl ?_
  refine al_k ?_
  refine cl_seq rfl ?_
  refine cl_reg rfl ?_
  refine st rfl rfl rfl rfl (x_move rfl) ?_
  refine st rfl rfl rfl rfl (x_move rfl) ?_
  refine sc rfl rfl rfl rfl (c_fn rfl Tryd.call57 (remove_c _ p nb hb N H x L W nd hn y hy hlo)) ?_
  rintro _ w9 ⟨rfl, L2, fr9⟩
  replace F := F.trans fr9
  refine rl_end rfl ?_
  refine al_k ?_
  refine cl_seq rfl ?_
  refine cl_reg rfl ?_
  refine st rfl rfl rfl rfl (x_asg rfl) ?_
  refine rl_end rfl ?_
  refine al_k ?_
  refine cl_ret rfl ?_
  refine fin1 rfl rfl ?_
  exact ⟨rfl, L2, F⟩

theorem row_bad_false (w : World) (p nb hb N H : Nat) (x : LS) (L : LsAt w p nb hb N H x) (li : Int) (hbad : ¬ (0 ≤ li ∧ li < (H : Int))) : Cl Tryd.prog 64 [.pointer (some ⟨p, 0, none⟩), .int .i64 li, .bool false] w (fun v w' => w'.ownsRow w.heap.size 3 1 v ([] : List Int).length (ints ([] : List Int)) ∧ LsAt w' p nb hb N H x ∧ Fr [] w w') := by
  have F := Fr.refl [] w
  refine enter Tryd.func64 rfl Tryd.ntmps64 rfl ?_
  refine cl_seq rfl ?_
  refine cl_reg rfl ?_
  refine st rfl rfl rfl rfl (x_asg rfl) ?_
  refine rl_end rfl ?_
  refine al_k ?_
  refine cl_seq rfl ?_
  refine cl_seq rfl ?_
  refine cl_reg rfl ?_
  refine st rfl rfl rfl rfl (x_move rfl) ?_
  refine st rfl rfl rfl rfl (x_move rfl) ?_
  refine se rfl rfl rfl rfl (e_new (x_bsl rfl (bsl1 Tryd.underlying35 Tryd.sizeOf3 Tryd.zeroValue3 rfl rfl))) ?_
  rintro _ w1_2 ⟨rfl, b1_2, fr1_2, sz1_2⟩
  replace L := L.fr0 fr1_2
  replace F := F.trans fr1_2.of0
  refine sc rfl rfl rfl rfl (c_fn rfl Tryd.call55 ((asked_c _ p nb hb N H x L _ _ [li] [] (SlI.blk (zs := [li]) (c := 1) b1_2 (by simp)) (SlI.nil _)).mono (R' := fun v w' => v = .int .i64 5 ∧ w' = _) (fun v w' h => ⟨h.1.trans (congrArg _ (if_neg (by simp; omega))), h.2⟩))) ?_
  rintro _ wk ⟨rfl, hwk⟩
  obtain rfl := hwk.symm
  refine st rfl rfl rfl rfl ((x_neq rfl rfl).b1 (by omega)) ?_
  refine rl_end rfl ?_
  refine al_k ?_
  refine cl_if1 rfl rfl ?_
  refine cl_seq rfl ?_
  refine cl_reg rfl ?_
  refine st rfl rfl rfl rfl (x_asg rfl) ?_
  refine rl_end rfl ?_
  refine al_k ?_
  refine cl_ret rfl ?_
  refine fin1 rfl rfl ?_
  exact ⟨own_nil _ _ _, L, F⟩

theorem row_false (w : World) (p nb hb N H : Nat) (x : LS) (L : LsAt w p nb hb N H x) (li : Int) (hl : 0 ≤ li ∧ li < (H : Int)) (u : Head) (hu : x.heads[li.toNat]? = some u) (xs : List Int) (hx : xs.length ≤ 100000) (h0 : u.fst = (xs[0]?).getD (-1)) (hch : ∀ k n, xs[k]? = some n → (0 ≤ n ∧ n < (N : Int)) ∧ ∃ y, x.nodes[n.toNat]? = some y ∧ y.nxt = (xs[k + 1]?).getD (-1)) : Cl Tryd.prog 64 [.pointer (some ⟨p, 0, none⟩), .int .i64 li, .bool false] w (fun v w' => w'.ownsRow w.heap.size 3 1 v xs.length (ints xs) ∧ LsAt w' p nb hb N H x ∧ Fr [] w w') := by
  have F := Fr.refl [] w
  have L0 := L
  refine enter Tryd.func64 rfl Tryd.ntmps64 rfl ?_
  refine cl_seq rfl ?_
  refine cl_reg rfl ?_
  refine st rfl rfl rfl rfl (x_asg rfl) ?_
  refine rl_end rfl ?_
  refine al_k ?_
  refine cl_seq rfl ?_
  refine cl_seq rfl ?_
  refine cl_reg rfl ?_
  refine st rfl rfl rfl rfl (x_move rfl) ?_
  refine st rfl rfl rfl rfl (x_move rfl) ?_
  refine se rfl rfl rfl rfl (e_new (x_bsl rfl (bsl1 Tryd.underlying35 Tryd.sizeOf3 Tryd.zeroValue3 rfl rfl))) ?_
  rintro _ w1_2 ⟨rfl, b1_2, fr1_2, sz1_2⟩
  replace L := L.fr0 fr1_2
  replace F := F.trans fr1_2.of0
  refine sc rfl rfl rfl rfl (c_fn rfl Tryd.call55 ((asked_c _ p nb hb N H x L _ _ [li] [] (SlI.blk (zs := [li]) (c := 1) b1_2 (by simp)) (SlI.nil _)).mono (R' := fun v w' => v = .int .i64 0 ∧ w' = _) (fun v w' h => ⟨h.1.trans (congrArg _ (if_pos (by simp; omega))), h.2⟩))) ?_
  rintro _ wk ⟨rfl, hwk⟩
  obtain rfl := hwk.symm
  refine st rfl rfl rfl rfl ((x_neq rfl rfl).b0 (by omega)) ?_
  refine rl_end rfl ?_
  refine al_k ?_
  refine cl_if0 rfl rfl ?_
  refine cl_skip rfl ?_
  refine al_k ?_
  refine cl_seq rfl ?_
  refine cl_reg rfl ?_
  refine st rfl rfl rfl rfl (x_asg rfl) ?_
  refine rl_end rfl ?_
  refine al_k ?_
  refine cl_seq rfl ?_
  refine cl_seq rfl ?_
  refine cl_reg rfl ?_
  refine st rfl rfl rfl rfl (x_move rfl) ?_
  refine rl_end rfl ?_
  refine al_k ?_
  refine cl_if0 rfl rfl ?_
  refine cl_skip rfl ?_
  refine al_k ?_
  refine cl_seq rfl ?_
  refine cl_seq rfl ?_
  refine cl_reg rfl ?_
  refine st rfl rfl rfl rfl (x_move rfl) ?_
  refine st rfl rfl rfl rfl (x_nil rfl) ?_
  refine st rfl rfl rfl rfl (x_fa rfl Tryd.underlying80 rfl Tryd.sizeOf78 1 rfl) ?_
  refine st rfl rfl rfl rfl (x_ld rfl Tryd.isAgg78 (L.top.cell rfl)) ?_
  refine st rfl rfl rfl rfl (x_move rfl) ?_
  refine st rfl rfl rfl rfl (x_ia0 rfl rfl Tryd.underlying78 Tryd.sizeOf84 (by omega)) ?_
  refine st rfl rfl rfl rfl (x_fa rfl Tryd.underlying84 rfl Tryd.sizeOf3 0 rfl) ?_
  refine st rfl rfl rfl rfl (x_ld rfl Tryd.isAgg3 (cell_f lenH L.hed hu rfl (by decide) rfl)) ?_
  refine st rfl rfl rfl rfl (x_asg rfl) ?_
  refine rl_end rfl ?_
  refine al_k ?_
  refine cl_block rfl ?_
  refine cl_loop (fun s : Nat × Value => [(9, .int .i64 ((xs[s.1]?).getD (-1))), (7, s.2), (0, .pointer (some ⟨p, 0, none⟩))]) (fun s w' => s.1 ≤ xs.length ∧ w'.ownsRow w.heap.size 3 1 s.2 s.1 (ints (xs.take s.1)) ∧ LsAt w' p nb hb N H x ∧ Fr [] w w') (fun s => xs.length - s.1) (0, .slice none 0 0) rfl ⟨(congrArg (fun q => some (Value.int .i64 q)) h0), rfl, rfl, trivial⟩ ?_ ?_
  · exact ⟨Nat.zero_le _, own_nil _ _ _, L, F⟩
  · skip
    rintro ⟨k, v⟩ wr ⟨hk, HO, L, F⟩
    dsimp only at hk HO ⊢
    refine cl_seq rfl ?_
    refine cl_seq rfl ?_
    replace L : LsAt wr p nb hb N H x := L
    refine cl_reg rfl ?_
    refine st rfl rfl rfl rfl (x_move rfl) ?_
    refine sf rfl rfl rfl rfl (x_neq rfl rfl) (fun c11_1 => ?_) (fun c11_1 => ?_)
    · skip
      refine rl_end rfl ?_
      refine al_k ?_
      refine cl_if1 rfl rfl ?_
      refine cl_skip rfl ?_
      refine al_k ?_
      refine cl_seq rfl ?_
      refine cl_block rfl ?_
      have hkl : k < xs.length := by
        rcases Nat.lt_or_ge k xs.length with h | h
        · exact h
        · rw [List.getElem?_eq_none h] at c11_1; exact absurd rfl c11_1
      obtain ⟨n, hn⟩ : ∃ n, xs[k]? = some n := ⟨_, List.getElem?_eq_getElem hkl⟩
      obtain ⟨hn0, y, hy, hy2⟩ := hch k n hn
      rw [hn]; dsimp only [Option.getD_some]
      refine cl_reg rfl ?_
      refine st rfl rfl rfl rfl (x_move rfl) ?_
      refine st rfl rfl rfl rfl (x_move rfl) ?_
      refine se rfl rfl rfl rfl (e_new (x_bsl rfl (bsl1 Tryd.underlying35 Tryd.sizeOf3 Tryd.zeroValue3 rfl rfl))) ?_
      rintro _ w2 ⟨rfl, b13_2, fr2, sz2⟩
      replace L := L.fr0 fr2
      replace F := F.trans fr2
      replace HO := own_fr0 HO fr2
      refine se rfl rfl rfl rfl (e_app 1 8 (.int .i64 0) [.int .i64 n] rfl rfl Tryd.underlying35 (by kernel_rfl) rfl (by decide) HO rfl b13_2.news (by simp; rfl) (by omega) (by omega) (F.size)) ?_
      rintro v1 w1 ⟨HO1, hg, hat⟩
      replace F := F.grown hg (own_ge HO)
      replace L := LsAt.gr (B := 0) L0 L hg (own_ge HO)
      replace HO := HO1
      refine st rfl rfl rfl rfl (x_asg rfl) ?_
      refine rl_end rfl ?_
      refine al_k ?_
      refine cl_reg rfl ?_
      refine st rfl rfl rfl rfl (x_move rfl) ?_
      refine st rfl rfl rfl rfl (x_nil rfl) ?_
      refine st rfl rfl rfl rfl (x_fa rfl Tryd.underlying80 rfl Tryd.sizeOf77 0 rfl) ?_
      refine st rfl rfl rfl rfl (x_ld rfl Tryd.isAgg77 (L.top.cell rfl)) ?_
      refine st rfl rfl rfl rfl (x_move rfl) ?_
      refine st rfl rfl rfl rfl (x_ia0 rfl rfl Tryd.underlying77 Tryd.sizeOf82 (by omega)) ?_
      refine st rfl rfl rfl rfl (x_fa rfl Tryd.underlying82 rfl Tryd.sizeOf3 2 rfl) ?_
      refine st rfl rfl rfl rfl (x_ld rfl Tryd.isAgg3 (cell_f lenL L.nod hy rfl (by decide) rfl)) ?_
      refine st rfl rfl rfl rfl (x_asg rfl) ?_
      refine rl_end rfl ?_
      refine again (k + 1, v1) (show xs.length - (k + 1) < xs.length - k by omega) ⟨(congrArg (fun q => some (Value.int .i64 q)) hy2), rfl, rfl, trivial⟩ ⟨by show k + 1 ≤ _; omega, ?_, L, F⟩
      have e : ints (xs.take (k + 1)) = ints (xs.take k) ++ [.int .i64 n] := by rw [List.take_add_one, hn]; simp [ints]
      show World.ownsRow _ _ _ _ v1 (k + 1) (ints (xs.take (k + 1)))
      rw [e]; exact HO
    · skip
      refine rl_end rfl ?_
      refine al_k ?_
      refine cl_if0 rfl rfl ?_
      refine cl_exit rfl ?_
      refine upd_self ?_
      refine al_k ?_
      refine cl_seq rfl ?_
      refine cl_reg rfl ?_
      refine st rfl rfl rfl rfl (x_move rfl) ?_
      refine st rfl rfl rfl rfl (x_asg rfl) ?_
      refine rl_end rfl ?_
      refine al_k ?_
      refine cl_ret rfl ?_
      refine fin1 rfl rfl ?_
      refine ⟨?_, L, F⟩
      have e : k = xs.length := by
        rcases Nat.lt_or_ge k xs.length with h | h
        · exfalso
          obtain ⟨n, hn⟩ : ∃ n, xs[k]? = some n := ⟨_, List.getElem?_eq_getElem h⟩
          obtain ⟨hn0, _⟩ := hch k n hn
          rw [hn] at c11_1
          dsimp only [Option.getD_some] at c11_1
          omega
        · omega
      subst e
      rwa [List.take_length] at HO

theorem row_bad_true (w : World) (p nb hb N H : Nat) (x : LS) (L : LsAt w p nb hb N H x) (li : Int) (hbad : ¬ (0 ≤ li ∧ li < (H : Int))) : Cl Tryd.prog 64 [.pointer (some ⟨p, 0, none⟩), .int .i64 li, .bool true] w (fun v w' => w'.ownsRow w.heap.size 3 1 v ([] : List Int).length (ints ([] : List Int)) ∧ LsAt w' p nb hb N H x ∧ Fr [] w w') := by
  have F := Fr.refl [] w
  refine enter Tryd.func64 rfl Tryd.ntmps64 rfl ?_
  refine cl_seq rfl ?_
  refine cl_reg rfl ?_
  refine st rfl rfl rfl rfl (x_asg rfl) ?_
  refine rl_end rfl ?_
  refine al_k ?_
  refine cl_seq rfl ?_
  refine cl_seq rfl ?_
  refine cl_reg rfl ?_
  refine st rfl rfl rfl rfl (x_move rfl) ?_
  refine st rfl rfl rfl rfl (x_move rfl) ?_
  refine se rfl rfl rfl rfl (e_new (x_bsl rfl (bsl1 Tryd.underlying35 Tryd.sizeOf3 Tryd.zeroValue3 rfl rfl))) ?_
  rintro _ w1_2 ⟨rfl, b1_2, fr1_2, sz1_2⟩
  replace L := L.fr0 fr1_2
  replace F := F.trans fr1_2.of0
  refine sc rfl rfl rfl rfl (c_fn rfl Tryd.call55 ((asked_c _ p nb hb N H x L _ _ [li] [] (SlI.blk (zs := [li]) (c := 1) b1_2 (by simp)) (SlI.nil _)).mono (R' := fun v w' => v = .int .i64 5 ∧ w' = _) (fun v w' h => ⟨h.1.trans (congrArg _ (if_neg (by simp; omega))), h.2⟩))) ?_
  rintro _ wk ⟨rfl, hwk⟩
  obtain rfl := hwk.symm
  refine st rfl rfl rfl rfl ((x_neq rfl rfl).b1 (by omega)) ?_
  refine rl_end rfl ?_
  refine al_k ?_
  refine cl_if1 rfl rfl ?_
  refine cl_seq rfl ?_
  refine cl_reg rfl ?_
  refine st rfl rfl rfl rfl (x_asg rfl) ?_
  refine rl_end rfl ?_
  refine al_k ?_
  refine cl_ret rfl ?_
  refine fin1 rfl rfl ?_
  exact ⟨own_nil _ _ _, L, F⟩

theorem row_true (w : World) (p nb hb N H : Nat) (x : LS) (L : LsAt w p nb hb N H x) (li : Int) (hl : 0 ≤ li ∧ li < (H : Int)) (u : Head) (hu : x.heads[li.toNat]? = some u) (xs : List Int) (hx : xs.length ≤ 100000) (h0 : u.lst = (xs[0]?).getD (-1)) (hch : ∀ k n, xs[k]? = some n → (0 ≤ n ∧ n < (N : Int)) ∧ ∃ y, x.nodes[n.toNat]? = some y ∧ y.prv = (xs[k + 1]?).getD (-1)) : Cl Tryd.prog 64 [.pointer (some ⟨p, 0, none⟩), .int .i64 li, .bool true] w (fun v w' => w'.ownsRow w.heap.size 3 1 v xs.length (ints xs) ∧ LsAt w' p nb hb N H x ∧ Fr [] w w') := by
  have F := Fr.refl [] w
  have L0 := L
  refine enter Tryd.func64 rfl Tryd.ntmps64 rfl ?_
  refine cl_seq rfl ?_
  refine cl_reg rfl ?_
  refine st rfl rfl rfl rfl (x_asg rfl) ?_
  refine rl_end rfl ?_
  refine al_k ?_
  refine cl_seq rfl ?_
  refine cl_seq rfl ?_
  refine cl_reg rfl ?_
  refine st rfl rfl rfl rfl (x_move rfl) ?_
  refine st rfl rfl rfl rfl (x_move rfl) ?_
  refine se rfl rfl rfl rfl (e_new (x_bsl rfl (bsl1 Tryd.underlying35 Tryd.sizeOf3 Tryd.zeroValue3 rfl rfl))) ?_
  rintro _ w1_2 ⟨rfl, b1_2, fr1_2, sz1_2⟩
  replace L := L.fr0 fr1_2
  replace F := F.trans fr1_2.of0
  refine sc rfl rfl rfl rfl (c_fn rfl Tryd.call55 ((asked_c _ p nb hb N H x L _ _ [li] [] (SlI.blk (zs := [li]) (c := 1) b1_2 (by simp)) (SlI.nil _)).mono (R' := fun v w' => v = .int .i64 0 ∧ w' = _) (fun v w' h => ⟨h.1.trans (congrArg _ (if_pos (by simp; omega))), h.2⟩))) ?_
  rintro _ wk ⟨rfl, hwk⟩
  obtain rfl := hwk.symm
  refine st rfl rfl rfl rfl ((x_neq rfl rfl).b0 (by omega)) ?_
  refine rl_end rfl ?_
  refine al_k ?_
  refine cl_if0 rfl rfl ?_
  refine cl_skip rfl ?_
  refine al_k ?_
  refine cl_seq rfl ?_
  refine cl_reg rfl ?_
  refine st rfl rfl rfl rfl (x_asg rfl) ?_
  refine rl_end rfl ?_
  refine al_k ?_
  refine cl_seq rfl ?_
  refine cl_seq rfl ?_
  refine cl_reg rfl ?_
  refine st rfl rfl rfl rfl (x_move rfl) ?_
  refine rl_end rfl ?_
  refine al_k ?_
  refine cl_if1 rfl rfl ?_
  refine cl_seq rfl ?_
  refine cl_seq rfl ?_
  refine cl_reg rfl ?_
  refine st rfl rfl rfl rfl (x_move rfl) ?_
  refine st rfl rfl rfl rfl (x_nil rfl) ?_
  refine st rfl rfl rfl rfl (x_fa rfl Tryd.underlying80 rfl Tryd.sizeOf78 1 rfl) ?_
  refine st rfl rfl rfl rfl (x_ld rfl Tryd.isAgg78 (L.top.cell rfl)) ?_
  refine st rfl rfl rfl rfl (x_move rfl) ?_
  refine st rfl rfl rfl rfl (x_ia0 rfl rfl Tryd.underlying78 Tryd.sizeOf84 (by omega)) ?_
  refine st rfl rfl rfl rfl (x_fa rfl Tryd.underlying84 rfl Tryd.sizeOf3 1 rfl) ?_
  refine st rfl rfl rfl rfl (x_ld rfl Tryd.isAgg3 (cell_f lenH L.hed hu rfl (by decide) rfl)) ?_
  refine st rfl rfl rfl rfl (x_asg rfl) ?_
  refine rl_end rfl ?_
  refine al_k ?_
  refine cl_block rfl ?_
  refine cl_loop (fun s : Nat × Value => [(8, .int .i64 ((xs[s.1]?).getD (-1))), (7, s.2), (0, .pointer (some ⟨p, 0, none⟩))]) (fun s w' => s.1 ≤ xs.length ∧ w'.ownsRow w.heap.size 3 1 s.2 s.1 (ints (xs.take s.1)) ∧ LsAt w' p nb hb N H x ∧ Fr [] w w') (fun s => xs.length - s.1) (0, .slice none 0 0) rfl ⟨(congrArg (fun q => some (Value.int .i64 q)) h0), rfl, rfl, trivial⟩ ?_ ?_
  · exact ⟨Nat.zero_le _, own_nil _ _ _, L, F⟩
  · skip
    rintro ⟨k, v⟩ wr ⟨hk, HO, L, F⟩
    dsimp only at hk HO ⊢
    refine cl_seq rfl ?_
    refine cl_seq rfl ?_
    replace L : LsAt wr p nb hb N H x := L
    refine cl_reg rfl ?_
    refine st rfl rfl rfl rfl (x_move rfl) ?_
    refine sf rfl rfl rfl rfl (x_neq rfl rfl) (fun c6_1 => ?_) (fun c6_1 => ?_)
    · skip
      refine rl_end rfl ?_
      refine al_k ?_
      refine cl_if1 rfl rfl ?_
      refine cl_skip rfl ?_
      refine al_k ?_
      refine cl_seq rfl ?_
      refine cl_block rfl ?_
      have hkl : k < xs.length := by
        rcases Nat.lt_or_ge k xs.length with h | h
        · exact h
        · rw [List.getElem?_eq_none h] at c6_1; exact absurd rfl c6_1
      obtain ⟨n, hn⟩ : ∃ n, xs[k]? = some n := ⟨_, List.getElem?_eq_getElem hkl⟩
      obtain ⟨hn0, y, hy, hy2⟩ := hch k n hn
      rw [hn]; dsimp only [Option.getD_some]
      refine cl_reg rfl ?_
      refine st rfl rfl rfl rfl (x_move rfl) ?_
      refine st rfl rfl rfl rfl (x_move rfl) ?_
      refine se rfl rfl rfl rfl (e_new (x_bsl rfl (bsl1 Tryd.underlying35 Tryd.sizeOf3 Tryd.zeroValue3 rfl rfl))) ?_
      rintro _ w2 ⟨rfl, b8_2, fr2, sz2⟩
      replace L := L.fr0 fr2
      replace F := F.trans fr2
      replace HO := own_fr0 HO fr2
      refine se rfl rfl rfl rfl (e_app 1 8 (.int .i64 0) [.int .i64 n] rfl rfl Tryd.underlying35 (by kernel_rfl) rfl (by decide) HO rfl b8_2.news (by simp; rfl) (by omega) (by omega) (F.size)) ?_
      rintro v1 w1 ⟨HO1, hg, hat⟩
      replace F := F.grown hg (own_ge HO)
      replace L := LsAt.gr (B := 0) L0 L hg (own_ge HO)
      replace HO := HO1
      refine st rfl rfl rfl rfl (x_asg rfl) ?_
      refine rl_end rfl ?_
      refine al_k ?_
      refine cl_reg rfl ?_
      refine st rfl rfl rfl rfl (x_move rfl) ?_
      refine st rfl rfl rfl rfl (x_nil rfl) ?_
      refine st rfl rfl rfl rfl (x_fa rfl Tryd.underlying80 rfl Tryd.sizeOf77 0 rfl) ?_
      refine st rfl rfl rfl rfl (x_ld rfl Tryd.isAgg77 (L.top.cell rfl)) ?_
      refine st rfl rfl rfl rfl (x_move rfl) ?_
      refine st rfl rfl rfl rfl (x_ia0 rfl rfl Tryd.underlying77 Tryd.sizeOf82 (by omega)) ?_
      refine st rfl rfl rfl rfl (x_fa rfl Tryd.underlying82 rfl Tryd.sizeOf3 1 rfl) ?_
      refine st rfl rfl rfl rfl (x_ld rfl Tryd.isAgg3 (cell_f lenL L.nod hy rfl (by decide) rfl)) ?_
      refine st rfl rfl rfl rfl (x_asg rfl) ?_
      refine rl_end rfl ?_
      refine again (k + 1, v1) (show xs.length - (k + 1) < xs.length - k by omega) ⟨(congrArg (fun q => some (Value.int .i64 q)) hy2), rfl, rfl, trivial⟩ ⟨by show k + 1 ≤ _; omega, ?_, L, F⟩
      have e : ints (xs.take (k + 1)) = ints (xs.take k) ++ [.int .i64 n] := by rw [List.take_add_one, hn]; simp [ints]
      show World.ownsRow _ _ _ _ v1 (k + 1) (ints (xs.take (k + 1)))
      rw [e]; exact HO
    · skip
      refine rl_end rfl ?_
      refine al_k ?_
      refine cl_if0 rfl rfl ?_
      refine cl_exit rfl ?_
      refine upd_self ?_
      refine al_k ?_
      refine cl_seq rfl ?_
      refine cl_reg rfl ?_
      refine st rfl rfl rfl rfl (x_move rfl) ?_
      refine st rfl rfl rfl rfl (x_asg rfl) ?_
      refine rl_end rfl ?_
      refine al_k ?_
      refine cl_ret rfl ?_
      refine fin1 rfl rfl ?_
      refine ⟨?_, L, F⟩
      have e : k = xs.length := by
        rcases Nat.lt_or_ge k xs.length with h | h
        · exfalso
          obtain ⟨n, hn⟩ : ∃ n, xs[k]? = some n := ⟨_, List.getElem?_eq_getElem h⟩
          obtain ⟨hn0, _⟩ := hch k n hn
          rw [hn] at c6_1
          dsimp only [Option.getD_some] at c6_1
          omega
        · omega
      subst e
      rwa [List.take_length] at HO

end Go.Proofs.YtcbkpekbfkaeeaaDoor.Ls
