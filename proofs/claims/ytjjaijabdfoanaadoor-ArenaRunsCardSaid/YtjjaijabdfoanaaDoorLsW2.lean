/- Lists by links: the walks of Pop, Len, Drop, Move, Of and row. -/
import Derived.Test.YtjjaijabdfoanaaDoorLsW1
set_option linter.unusedVariables false
namespace Go.Proofs.YtjjaijabdfoanaaDoor.Ls
open Go Go.RowKit Go.Proofs.YtjjaijabdfoanaaDoor.Sx Go.Proofs.YtjjaijabdfoanaaDoor
set_option maxRecDepth 100000

theorem pop_bad (w : World) (p nb hb N H : Nat) (x : LS) (L : LsAt w p nb hb N H x) (li : Int) (hbad : ¬ (0 ≤ li ∧ li < (H : Int))) : Cl Tryd.prog 29 [.pointer (some ⟨p, 0, none⟩), .int .i64 li] w (fun v w' => v = .tuple #[.int .i64 0, .bool false] ∧ LsAt w' p nb hb N H x ∧ Fr [nb, hb] w w') := by
  have F := Fr.refl [nb, hb] w
  refine enter Tryd.func29 rfl Tryd.ntmps29 rfl ?_
  refine cl_seq rfl ?_
  refine cl_reg rfl ?_
  refine st rfl rfl rfl rfl (x_asg rfl) ?_
  refine st rfl rfl rfl rfl (x_asg rfl) ?_
  refine rl_end rfl ?_
  refine al_k ?_
  refine cl_seq rfl ?_
  refine cl_seq rfl ?_
  refine cl_reg rfl ?_
  refine st rfl rfl rfl rfl (x_move rfl) ?_
  refine st rfl rfl rfl rfl (x_move rfl) ?_
  refine se rfl rfl rfl rfl (e_new (x_bsl rfl (bsl1 Tryd.underlying22 Tryd.sizeOf3 Tryd.zeroValue3 rfl rfl))) ?_
  rintro _ w1_2 ⟨rfl, b1_2, fr1_2, sz1_2⟩
  replace L := L.fr0 fr1_2
  replace F := F.trans fr1_2.of0
  refine sc rfl rfl rfl rfl (c_fn rfl Tryd.call42 ((asked_c _ p nb hb N H x L _ _ [li] [] (SlI.blk (zs := [li]) (c := 1) b1_2 (by simp)) (SlI.nil _)).mono (R' := fun v w' => v = .int .i64 5 ∧ w' = _) (fun v w' h => ⟨h.1.trans (congrArg _ (if_neg (by simp; omega))), h.2⟩))) ?_
  rintro _ wk ⟨rfl, hwk⟩
  obtain rfl := hwk.symm
  refine st rfl rfl rfl rfl ((x_neq rfl rfl).b1 (by omega)) ?_
  refine st rfl rfl rfl rfl (x_move rfl) ?_
  refine so rfl rfl rfl rfl ?_
  refine so rfl rfl rfl rfl ?_
  refine so rfl rfl rfl rfl ?_
  refine so rfl rfl rfl rfl ?_
  refine so rfl rfl rfl rfl ?_
  refine so rfl rfl rfl rfl ?_
  refine so rfl rfl rfl rfl ?_
  refine so rfl rfl rfl rfl ?_
  refine so rfl rfl rfl rfl ?_
  refine st rfl rfl rfl rfl (x_pick1 rfl rfl) ?_
  refine rl_end rfl ?_
  refine al_k ?_
  refine cl_if1 rfl rfl ?_
  refine cl_seq rfl ?_
  refine cl_reg rfl ?_
  refine st rfl rfl rfl rfl (x_asg rfl) ?_
  refine st rfl rfl rfl rfl (x_asg rfl) ?_
  refine rl_end rfl ?_
  refine al_k ?_
  refine cl_ret rfl ?_
  refine fin2 rfl rfl rfl ?_
  exact ⟨rfl, L, F⟩

theorem pop_none (w : World) (p nb hb N H : Nat) (x : LS) (L : LsAt w p nb hb N H x) (li : Int) (hl : 0 ≤ li ∧ li < (H : Int)) (u : Head) (hu : x.heads[li.toNat]? = some u) (hc : u.cnt = 0) : Cl Tryd.prog 29 [.pointer (some ⟨p, 0, none⟩), .int .i64 li] w (fun v w' => v = .tuple #[.int .i64 0, .bool false] ∧ LsAt w' p nb hb N H x ∧ Fr [nb, hb] w w') := by
  have F := Fr.refl [nb, hb] w
  refine enter Tryd.func29 rfl Tryd.ntmps29 rfl ?_
  refine cl_seq rfl ?_
  refine cl_reg rfl ?_
  refine st rfl rfl rfl rfl (x_asg rfl) ?_
  refine st rfl rfl rfl rfl (x_asg rfl) ?_
  refine rl_end rfl ?_
  refine al_k ?_
  refine cl_seq rfl ?_
  refine cl_seq rfl ?_
  refine cl_reg rfl ?_
  refine st rfl rfl rfl rfl (x_move rfl) ?_
  refine st rfl rfl rfl rfl (x_move rfl) ?_
  refine se rfl rfl rfl rfl (e_new (x_bsl rfl (bsl1 Tryd.underlying22 Tryd.sizeOf3 Tryd.zeroValue3 rfl rfl))) ?_
  rintro _ w1_2 ⟨rfl, b1_2, fr1_2, sz1_2⟩
  replace L := L.fr0 fr1_2
  replace F := F.trans fr1_2.of0
  refine sc rfl rfl rfl rfl (c_fn rfl Tryd.call42 ((asked_c _ p nb hb N H x L _ _ [li] [] (SlI.blk (zs := [li]) (c := 1) b1_2 (by simp)) (SlI.nil _)).mono (R' := fun v w' => v = .int .i64 0 ∧ w' = _) (fun v w' h => ⟨h.1.trans (congrArg _ (if_pos (by simp; omega))), h.2⟩))) ?_
  rintro _ wk ⟨rfl, hwk⟩
  obtain rfl := hwk.symm
  refine st rfl rfl rfl rfl ((x_neq rfl rfl).b0 (by omega)) ?_
  refine st rfl rfl rfl rfl (x_move rfl) ?_
  refine st rfl rfl rfl rfl (x_move rfl) ?_
  refine st rfl rfl rfl rfl (x_nil rfl) ?_
  refine st rfl rfl rfl rfl (x_fa rfl Tryd.underlying89 rfl Tryd.sizeOf87 1 rfl) ?_
  refine st rfl rfl rfl rfl (x_ld rfl Tryd.isAgg87 (L.top.cell rfl)) ?_
  refine st rfl rfl rfl rfl (x_move rfl) ?_
  refine st rfl rfl rfl rfl (x_ia0 rfl rfl Tryd.underlying87 Tryd.sizeOf93 (by omega)) ?_
  refine st rfl rfl rfl rfl (x_fa rfl Tryd.underlying93 rfl Tryd.sizeOf3 2 rfl) ?_
  refine st rfl rfl rfl rfl (x_ld rfl Tryd.isAgg3 (cell_f lenH L.hed hu rfl (by decide) rfl)) ?_
  refine st rfl rfl rfl rfl ((x_eql rfl rfl).b1 hc) ?_
  refine st rfl rfl rfl rfl (x_pick0 rfl rfl) ?_
  refine rl_end rfl ?_
  refine al_k ?_
  refine cl_if1 rfl rfl ?_
  refine cl_seq rfl ?_
  refine cl_reg rfl ?_
  refine st rfl rfl rfl rfl (x_asg rfl) ?_
  refine st rfl rfl rfl rfl (x_asg rfl) ?_
  refine rl_end rfl ?_
  refine al_k ?_
  refine cl_ret rfl ?_
  refine fin2 rfl rfl rfl ?_
  exact ⟨rfl, L, F⟩

theorem pop_some (w : World) (p nb hb N H : Nat) (x : LS) (L : LsAt w p nb hb N H x) (W : WF N H x) (li : Int) (hl : 0 ≤ li ∧ li < (H : Int)) (u : Head) (hu : x.heads[li.toNat]? = some u) (hc : ¬ u.cnt = 0) (y : Link) (hy : x.nodes[u.fst.toNat]? = some y) (hlo : ¬ y = loose) : Cl Tryd.prog 29 [.pointer (some ⟨p, 0, none⟩), .int .i64 li] w (fun v w' => v = .tuple #[.int .i64 u.fst, .bool true] ∧ LsAt w' p nb hb N H (x.remove u.fst) ∧ Fr [nb, hb] w w') := by
  have F := Fr.refl [nb, hb] w
  refine enter Tryd.func29 rfl Tryd.ntmps29 rfl ?_
  refine cl_seq rfl ?_
  refine cl_reg rfl ?_
  refine st rfl rfl rfl rfl (x_asg rfl) ?_
  refine st rfl rfl rfl rfl (x_asg rfl) ?_
  refine rl_end rfl ?_
  refine al_k ?_
  refine cl_seq rfl ?_
  refine cl_seq rfl ?_
  refine cl_reg rfl ?_
  refine st rfl rfl rfl rfl (x_move rfl) ?_
  refine st rfl rfl rfl rfl (x_move rfl) ?_
  refine se rfl rfl rfl rfl (e_new (x_bsl rfl (bsl1 Tryd.underlying22 Tryd.sizeOf3 Tryd.zeroValue3 rfl rfl))) ?_
  rintro _ w1_2 ⟨rfl, b1_2, fr1_2, sz1_2⟩
  replace L := L.fr0 fr1_2
  replace F := F.trans fr1_2.of0
  refine sc rfl rfl rfl rfl (c_fn rfl Tryd.call42 ((asked_c _ p nb hb N H x L _ _ [li] [] (SlI.blk (zs := [li]) (c := 1) b1_2 (by simp)) (SlI.nil _)).mono (R' := fun v w' => v = .int .i64 0 ∧ w' = _) (fun v w' h => ⟨h.1.trans (congrArg _ (if_pos (by simp; omega))), h.2⟩))) ?_
  rintro _ wk ⟨rfl, hwk⟩
  obtain rfl := hwk.symm
  refine st rfl rfl rfl rfl ((x_neq rfl rfl).b0 (by omega)) ?_
  refine st rfl rfl rfl rfl (x_move rfl) ?_
  refine st rfl rfl rfl rfl (x_move rfl) ?_
  refine st rfl rfl rfl rfl (x_nil rfl) ?_
  refine st rfl rfl rfl rfl (x_fa rfl Tryd.underlying89 rfl Tryd.sizeOf87 1 rfl) ?_
  refine st rfl rfl rfl rfl (x_ld rfl Tryd.isAgg87 (L.top.cell rfl)) ?_
  refine st rfl rfl rfl rfl (x_move rfl) ?_
  refine st rfl rfl rfl rfl (x_ia0 rfl rfl Tryd.underlying87 Tryd.sizeOf93 (by omega)) ?_
  refine st rfl rfl rfl rfl (x_fa rfl Tryd.underlying93 rfl Tryd.sizeOf3 2 rfl) ?_
  refine st rfl rfl rfl rfl (x_ld rfl Tryd.isAgg3 (cell_f lenH L.hed hu rfl (by decide) rfl)) ?_
  refine st rfl rfl rfl rfl ((x_eql rfl rfl).b0 hc) ?_
  refine st rfl rfl rfl rfl (x_pick0 rfl rfl) ?_
  refine rl_end rfl ?_
  refine al_k ?_
  refine cl_if0 rfl rfl ?_
  refine cl_skip rfl ?_
  refine al_k ?_
  refine cl_seq rfl ?_
  refine cl_reg rfl ?_
  refine st rfl rfl rfl rfl (x_move rfl) ?_
  refine st rfl rfl rfl rfl (x_nil rfl) ?_
  refine st rfl rfl rfl rfl (x_fa rfl Tryd.underlying89 rfl Tryd.sizeOf87 1 rfl) ?_
  refine st rfl rfl rfl rfl (x_ld rfl Tryd.isAgg87 (L.top.cell rfl)) ?_
  refine st rfl rfl rfl rfl (x_move rfl) ?_
  refine st rfl rfl rfl rfl (x_ia0 rfl rfl Tryd.underlying87 Tryd.sizeOf93 (by omega)) ?_
  refine st rfl rfl rfl rfl (x_fa rfl Tryd.underlying93 rfl Tryd.sizeOf3 0 rfl) ?_
  refine st rfl rfl rfl rfl (x_ld rfl Tryd.isAgg3 (cell_f lenH L.hed hu rfl (by decide) rfl)) ?_
  refine st rfl rfl rfl rfl (x_asg rfl) ?_
  refine rl_end rfl ?_
  refine al_k ?_
  refine cl_seq rfl ?_
  refine cl_reg rfl ?_
  refine st rfl rfl rfl rfl (x_move rfl) ?_
  refine st rfl rfl rfl rfl (x_move rfl) ?_
  refine sc rfl rfl rfl rfl (c_fn rfl Tryd.call43 (remove_c _ p nb hb N H x L W u.fst (W.hfst _ _ hu hc) y hy hlo)) ?_
  rintro _ w9 ⟨rfl, L2, fr9⟩
  replace F := F.trans fr9
  refine rl_end rfl ?_
  refine al_k ?_
  refine cl_seq rfl ?_
  refine cl_reg rfl ?_
  refine st rfl rfl rfl rfl (x_move rfl) ?_
  refine st rfl rfl rfl rfl (x_asg rfl) ?_
  refine st rfl rfl rfl rfl (x_asg rfl) ?_
  refine rl_end rfl ?_
  refine al_k ?_
  refine cl_ret rfl ?_
  refine fin2 rfl rfl rfl ?_
  exact ⟨rfl, L2, F⟩

theorem len_bad (w : World) (p nb hb N H : Nat) (x : LS) (L : LsAt w p nb hb N H x) (li : Int) (hbad : ¬ (0 ≤ li ∧ li < (H : Int))) : Cl Tryd.prog 37 [.pointer (some ⟨p, 0, none⟩), .int .i64 li] w (fun v w' => v = .int .i64 0 ∧ LsAt w' p nb hb N H x ∧ Fr [] w w') := by
  have F := Fr.refl [] w
  refine enter Tryd.func37 rfl Tryd.ntmps37 rfl ?_
  refine cl_seq rfl ?_
  refine cl_reg rfl ?_
  refine st rfl rfl rfl rfl (x_asg rfl) ?_
  refine rl_end rfl ?_
  refine al_k ?_
  refine cl_seq rfl ?_
  refine cl_seq rfl ?_
  refine cl_reg rfl ?_
  refine st rfl rfl rfl rfl (x_move rfl) ?_
  refine st rfl rfl rfl rfl (x_move rfl) ?_
  refine se rfl rfl rfl rfl (e_new (x_bsl rfl (bsl1 Tryd.underlying22 Tryd.sizeOf3 Tryd.zeroValue3 rfl rfl))) ?_
  rintro _ w1_2 ⟨rfl, b1_2, fr1_2, sz1_2⟩
  replace L := L.fr0 fr1_2
  replace F := F.trans fr1_2.of0
  refine sc rfl rfl rfl rfl (c_fn rfl Tryd.call42 ((asked_c _ p nb hb N H x L _ _ [li] [] (SlI.blk (zs := [li]) (c := 1) b1_2 (by simp)) (SlI.nil _)).mono (R' := fun v w' => v = .int .i64 5 ∧ w' = _) (fun v w' h => ⟨h.1.trans (congrArg _ (if_neg (by simp; omega))), h.2⟩))) ?_
  rintro _ wk ⟨rfl, hwk⟩
  obtain rfl := hwk.symm
  refine st rfl rfl rfl rfl ((x_neq rfl rfl).b1 (by omega)) ?_
  refine rl_end rfl ?_
  refine al_k ?_
  refine cl_if1 rfl rfl ?_
  refine cl_seq rfl ?_
  refine cl_reg rfl ?_
  refine st rfl rfl rfl rfl (x_asg rfl) ?_
  refine rl_end rfl ?_
  refine al_k ?_
  refine cl_ret rfl ?_
  refine fin1 rfl rfl ?_
  exact ⟨rfl, L, F⟩

theorem len_ok (w : World) (p nb hb N H : Nat) (x : LS) (L : LsAt w p nb hb N H x) (li : Int) (hl : 0 ≤ li ∧ li < (H : Int)) (u : Head) (hu : x.heads[li.toNat]? = some u) : Cl Tryd.prog 37 [.pointer (some ⟨p, 0, none⟩), .int .i64 li] w (fun v w' => v = .int .i64 u.cnt ∧ LsAt w' p nb hb N H x ∧ Fr [] w w') := by
  have F := Fr.refl [] w
  refine enter Tryd.func37 rfl Tryd.ntmps37 rfl ?_
  refine cl_seq rfl ?_
  refine cl_reg rfl ?_
  refine st rfl rfl rfl rfl (x_asg rfl) ?_
  refine rl_end rfl ?_
  refine al_k ?_
  refine cl_seq rfl ?_
  refine cl_seq rfl ?_
  refine cl_reg rfl ?_
  refine st rfl rfl rfl rfl (x_move rfl) ?_
  refine st rfl rfl rfl rfl (x_move rfl) ?_
  refine se rfl rfl rfl rfl (e_new (x_bsl rfl (bsl1 Tryd.underlying22 Tryd.sizeOf3 Tryd.zeroValue3 rfl rfl))) ?_
  rintro _ w1_2 ⟨rfl, b1_2, fr1_2, sz1_2⟩
  replace L := L.fr0 fr1_2
  replace F := F.trans fr1_2.of0
  refine sc rfl rfl rfl rfl (c_fn rfl Tryd.call42 ((asked_c _ p nb hb N H x L _ _ [li] [] (SlI.blk (zs := [li]) (c := 1) b1_2 (by simp)) (SlI.nil _)).mono (R' := fun v w' => v = .int .i64 0 ∧ w' = _) (fun v w' h => ⟨h.1.trans (congrArg _ (if_pos (by simp; omega))), h.2⟩))) ?_
  rintro _ wk ⟨rfl, hwk⟩
  obtain rfl := hwk.symm
  refine st rfl rfl rfl rfl ((x_neq rfl rfl).b0 (by omega)) ?_
  refine rl_end rfl ?_
  refine al_k ?_
  refine cl_if0 rfl rfl ?_
  refine cl_skip rfl ?_
  refine al_k ?_
  refine cl_seq rfl ?_
  refine cl_reg rfl ?_
  refine st rfl rfl rfl rfl (x_move rfl) ?_
  refine st rfl rfl rfl rfl (x_nil rfl) ?_
  refine st rfl rfl rfl rfl (x_fa rfl Tryd.underlying89 rfl Tryd.sizeOf87 1 rfl) ?_
  refine st rfl rfl rfl rfl (x_ld rfl Tryd.isAgg87 (L.top.cell rfl)) ?_
  refine st rfl rfl rfl rfl (x_move rfl) ?_
  refine st rfl rfl rfl rfl (x_ia0 rfl rfl Tryd.underlying87 Tryd.sizeOf93 (by omega)) ?_
  refine st rfl rfl rfl rfl (x_fa rfl Tryd.underlying93 rfl Tryd.sizeOf3 2 rfl) ?_
  refine st rfl rfl rfl rfl (x_ld rfl Tryd.isAgg3 (cell_f lenH L.hed hu rfl (by decide) rfl)) ?_
  refine st rfl rfl rfl rfl (x_asg rfl) ?_
  refine rl_end rfl ?_
  refine al_k ?_
  refine cl_ret rfl ?_
  refine fin1 rfl rfl ?_
  exact ⟨rfl, L, F⟩

end Go.Proofs.YtjjaijabdfoanaaDoor.Ls
