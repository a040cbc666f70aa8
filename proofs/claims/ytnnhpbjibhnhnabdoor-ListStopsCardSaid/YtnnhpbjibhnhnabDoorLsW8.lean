/- Lists by links: the walk of Take. -/
import Derived.Test.YtnnhpbjibhnhnabDoorLsTake
import Derived.Test.YtnnhpbjibhnhnabDoorLsW7
set_option linter.unusedVariables false
namespace Go.Proofs.YtnnhpbjibhnhnabDoor.Ls
open Go Go.RowKit Go.Proofs.YtnnhpbjibhnhnabDoor.Sx Go.Proofs.YtnnhpbjibhnhnabDoor
set_option maxRecDepth 100000

theorem take_bad (w : World) (p nb hb N H : Nat) (x : LS) (L : LsAt w p nb hb N H x) (to fr : Int) (hbad : ¬ ((0 ≤ to ∧ to < (H : Int)) ∧ (0 ≤ fr ∧ fr < (H : Int)))) : Cl Tryd.prog 25 [.pointer (some ⟨p, 0, none⟩), .int .i64 to, .int .i64 fr] w (fun v w' => v = .int .i64 5 ∧ LsAt w' p nb hb N H x ∧ Fr [nb, hb] w w') := by
  have F := Fr.refl [nb, hb] w
  refine enter Tryd.func25 rfl Tryd.ntmps25 rfl ?_
  refine cl_seq rfl ?_
  refine cl_reg rfl ?_
  refine st rfl rfl rfl rfl (x_asg rfl) ?_
  refine rl_end rfl ?_
  refine al_k ?_
  refine cl_seq rfl ?_
  refine cl_seq rfl ?_
  refine cl_reg rfl ?_
  refine st rfl rfl rfl rfl (x_move rfl) ?_
  refine st rfl rfl rfl rfl (x_move rfl) ?_
  refine st rfl rfl rfl rfl (x_move rfl) ?_
  refine se rfl rfl rfl rfl (e_new (x_bsl rfl (bsl2I _ _ _))) ?_
  rintro _ w1_3 ⟨rfl, b1_3, fr1_3, sz1_3⟩
  replace L := L.fr0 fr1_3
  replace F := F.trans fr1_3.of0
  refine sc rfl rfl rfl rfl (c_fn rfl Tryd.call28 ((asked_c _ p nb hb N H x L _ _ [to, fr] [] (SlI.blk (zs := [to, fr]) (c := 2) b1_3 (by simp)) (SlI.nil _)).mono (R' := fun v w' => v = .int .i64 5 ∧ w' = _) (fun v w' h => ⟨h.1.trans (congrArg _ (if_neg (by simp; omega))), h.2⟩))) ?_
  rintro _ wk ⟨rfl, hwk⟩
  obtain rfl := hwk.symm
  refine st rfl rfl rfl rfl (x_asg rfl) ?_
  refine rl_end rfl ?_
  refine al_k ?_
  refine cl_seq rfl ?_
  refine cl_reg rfl ?_
  refine st rfl rfl rfl rfl (x_move rfl) ?_
  refine st rfl rfl rfl rfl ((x_neq rfl rfl).b1 (by omega)) ?_
  refine rl_end rfl ?_
  refine al_k ?_
  refine cl_if1 rfl rfl ?_
  refine cl_seq rfl ?_
  refine cl_reg rfl ?_
  refine st rfl rfl rfl rfl (x_move rfl) ?_
  refine st rfl rfl rfl rfl (x_asg rfl) ?_
  refine rl_end rfl ?_
  refine al_k ?_
  refine cl_ret rfl ?_
  refine fin1 rfl rfl ?_
  exact ⟨rfl, L, F⟩

theorem take_self (w : World) (p nb hb N H : Nat) (x : LS) (L : LsAt w p nb hb N H x) (to fr : Int) (hto : 0 ≤ to ∧ to < (H : Int)) (hfr : 0 ≤ fr ∧ fr < (H : Int)) (he : to = fr) : Cl Tryd.prog 25 [.pointer (some ⟨p, 0, none⟩), .int .i64 to, .int .i64 fr] w (fun v w' => v = .int .i64 0 ∧ LsAt w' p nb hb N H x ∧ Fr [nb, hb] w w') := by
  have F := Fr.refl [nb, hb] w
  refine enter Tryd.func25 rfl Tryd.ntmps25 rfl ?_
  refine cl_seq rfl ?_
  refine cl_reg rfl ?_
  refine st rfl rfl rfl rfl (x_asg rfl) ?_
  refine rl_end rfl ?_
  refine al_k ?_
  refine cl_seq rfl ?_
  refine cl_seq rfl ?_
  refine cl_reg rfl ?_
  refine st rfl rfl rfl rfl (x_move rfl) ?_
  refine st rfl rfl rfl rfl (x_move rfl) ?_
  refine st rfl rfl rfl rfl (x_move rfl) ?_
  refine se rfl rfl rfl rfl (e_new (x_bsl rfl (bsl2I _ _ _))) ?_
  rintro _ w1_3 ⟨rfl, b1_3, fr1_3, sz1_3⟩
  replace L := L.fr0 fr1_3
  replace F := F.trans fr1_3.of0
  refine sc rfl rfl rfl rfl (c_fn rfl Tryd.call28 ((asked_c _ p nb hb N H x L _ _ [to, fr] [] (SlI.blk (zs := [to, fr]) (c := 2) b1_3 (by simp)) (SlI.nil _)).mono (R' := fun v w' => v = .int .i64 0 ∧ w' = _) (fun v w' h => ⟨h.1.trans (congrArg _ (if_pos (by simp; omega))), h.2⟩))) ?_
  rintro _ wk ⟨rfl, hwk⟩
  obtain rfl := hwk.symm
  refine st rfl rfl rfl rfl (x_asg rfl) ?_
  refine rl_end rfl ?_
  refine al_k ?_
  refine cl_seq rfl ?_
  refine cl_reg rfl ?_
  refine st rfl rfl rfl rfl (x_move rfl) ?_
  refine st rfl rfl rfl rfl ((x_neq rfl rfl).b0 (by omega)) ?_
  refine rl_end rfl ?_
  refine al_k ?_
  refine cl_if0 rfl rfl ?_
  refine cl_skip rfl ?_
  refine al_k ?_
  refine cl_seq rfl ?_
  refine cl_seq rfl ?_
  refine cl_reg rfl ?_
  refine st rfl rfl rfl rfl (x_move rfl) ?_
  refine st rfl rfl rfl rfl (x_move rfl) ?_
  refine st rfl rfl rfl rfl ((x_eql rfl rfl).b1 he) ?_
  refine st rfl rfl rfl rfl (x_move rfl) ?_
  refine so rfl rfl rfl rfl ?_
  refine so rfl rfl rfl rfl ?_
  refine so rfl rfl rfl rfl ?_
  refine so rfl rfl rfl rfl ?_
  refine so rfl rfl rfl rfl ?_
  refine so rfl rfl rfl rfl ?_
  refine so rfl rfl rfl rfl ?_
  refine so rfl rfl rfl rfl ?_
  refine so rfl rfl rfl rfl ?_
  refine st rfl rfl rfl rfl (x_pick1 rfl rfl) ?_
  refine rl_end rfl ?_
  refine al_k ?_
  refine cl_if1 rfl rfl ?_
  refine cl_seq rfl ?_
  refine cl_reg rfl ?_
  refine st rfl rfl rfl rfl (x_asg rfl) ?_
  refine rl_end rfl ?_
  refine al_k ?_
  refine cl_ret rfl ?_
  refine fin1 rfl rfl ?_
  exact ⟨rfl, L, F⟩

theorem take_none (w : World) (p nb hb N H : Nat) (x : LS) (L : LsAt w p nb hb N H x) (to fr : Int) (hto : 0 ≤ to ∧ to < (H : Int)) (hfr : 0 ≤ fr ∧ fr < (H : Int)) (he : ¬ to = fr) (f : Head) (hf : x.heads[fr.toNat]? = some f) (hc : f.cnt = 0) : Cl Tryd.prog 25 [.pointer (some ⟨p, 0, none⟩), .int .i64 to, .int .i64 fr] w (fun v w' => v = .int .i64 0 ∧ LsAt w' p nb hb N H x ∧ Fr [nb, hb] w w') := by
  have F := Fr.refl [nb, hb] w
  refine enter Tryd.func25 rfl Tryd.ntmps25 rfl ?_
  refine cl_seq rfl ?_
  refine cl_reg rfl ?_
  refine st rfl rfl rfl rfl (x_asg rfl) ?_
  refine rl_end rfl ?_
  refine al_k ?_
  refine cl_seq rfl ?_
  refine cl_seq rfl ?_
  refine cl_reg rfl ?_
  refine st rfl rfl rfl rfl (x_move rfl) ?_
  refine st rfl rfl rfl rfl (x_move rfl) ?_
  refine st rfl rfl rfl rfl (x_move rfl) ?_
  refine se rfl rfl rfl rfl (e_new (x_bsl rfl (bsl2I _ _ _))) ?_
  rintro _ w1_3 ⟨rfl, b1_3, fr1_3, sz1_3⟩
  replace L := L.fr0 fr1_3
  replace F := F.trans fr1_3.of0
  refine sc rfl rfl rfl rfl (c_fn rfl Tryd.call28 ((asked_c _ p nb hb N H x L _ _ [to, fr] [] (SlI.blk (zs := [to, fr]) (c := 2) b1_3 (by simp)) (SlI.nil _)).mono (R' := fun v w' => v = .int .i64 0 ∧ w' = _) (fun v w' h => ⟨h.1.trans (congrArg _ (if_pos (by simp; omega))), h.2⟩))) ?_
  rintro _ wk ⟨rfl, hwk⟩
  obtain rfl := hwk.symm
  refine st rfl rfl rfl rfl (x_asg rfl) ?_
  refine rl_end rfl ?_
  refine al_k ?_
  refine cl_seq rfl ?_
  refine cl_reg rfl ?_
  refine st rfl rfl rfl rfl (x_move rfl) ?_
  refine st rfl rfl rfl rfl ((x_neq rfl rfl).b0 (by omega)) ?_
  refine rl_end rfl ?_
  refine al_k ?_
  refine cl_if0 rfl rfl ?_
  refine cl_skip rfl ?_
  refine al_k ?_
  refine cl_seq rfl ?_
  refine cl_seq rfl ?_
  refine cl_reg rfl ?_
  refine st rfl rfl rfl rfl (x_move rfl) ?_
  refine st rfl rfl rfl rfl (x_move rfl) ?_
  refine st rfl rfl rfl rfl ((x_eql rfl rfl).b0 he) ?_
  refine st rfl rfl rfl rfl (x_move rfl) ?_
  refine st rfl rfl rfl rfl (x_move rfl) ?_
  refine st rfl rfl rfl rfl (x_nil rfl) ?_
  refine st rfl rfl rfl rfl (x_fa rfl Tryd.underlying55 rfl Tryd.sizeOf53 1 rfl) ?_
  refine st rfl rfl rfl rfl (x_ld rfl Tryd.isAgg53 (L.top.cell rfl)) ?_
  refine st rfl rfl rfl rfl (x_move rfl) ?_
  refine st rfl rfl rfl rfl (x_ia0 rfl rfl Tryd.underlying53 Tryd.sizeOf63 (by omega)) ?_
  refine st rfl rfl rfl rfl (x_fa rfl Tryd.underlying63 rfl Tryd.sizeOf3 2 rfl) ?_
  refine st rfl rfl rfl rfl (x_ld rfl Tryd.isAgg3 (cell_f lenH L.hed hf rfl (by decide) rfl)) ?_
  refine st rfl rfl rfl rfl ((x_eql rfl rfl).b1 hc) ?_
  refine st rfl rfl rfl rfl (x_pick0 rfl rfl) ?_
  refine rl_end rfl ?_
  refine al_k ?_
  refine cl_if1 rfl rfl ?_
  refine cl_seq rfl ?_
  refine cl_reg rfl ?_
  refine st rfl rfl rfl rfl (x_asg rfl) ?_
  refine rl_end rfl ?_
  refine al_k ?_
  refine cl_ret rfl ?_
  refine fin1 rfl rfl ?_
  exact ⟨rfl, L, F⟩

theorem nodup_take {l : List Int} (hd : l.Nodup) {k : Nat} {n : Int} (hn : l[k]? = some n) : n ∉ l.take k := by
  intro h
  obtain ⟨j, hj⟩ := List.getElem?_of_mem h
  rw [List.getElem?_take] at hj
  split at hj
  · have := nodup_inj hd hj hn; omega
  · cases hj

theorem take_go1 (w : World) (p nb hb N H : Nat) (x : LS) (L : LsAt w p nb hb N H x) (to fr : Int) (hto : 0 ≤ to ∧ to < (H : Int)) (hfr : 0 ≤ fr ∧ fr < (H : Int)) (he : ¬ to = fr) (f : Head) (hf : x.heads[fr.toNat]? = some f) (hc : ¬ f.cnt = 0) (l : List Int) (hf0 : f.fst = (l[0]?).getD (-1)) (hff : 0 ≤ f.fst ∧ f.fst < (N : Int)) (hnd : l.Nodup) (hch : ∀ k n, l[k]? = some n → (0 ≤ n ∧ n < (N : Int)) ∧ ∃ y, x.nodes[n.toNat]? = some y ∧ y.nxt = (l[k + 1]?).getD (-1)) (t : Head) (ht0 : x.heads[to.toNat]? = some t) (ht : t.lst = -1) (htl : t.lst = -1 ∨ 0 ≤ t.lst ∧ t.lst < (N : Int)) (hcs : 0 ≤ t.cnt ∧ t.cnt ≤ 1000000 ∧ 0 ≤ f.cnt ∧ f.cnt ≤ 1000000) : Cl Tryd.prog 25 [.pointer (some ⟨p, 0, none⟩), .int .i64 to, .int .i64 fr] w (fun v w' => v = .int .i64 0 ∧ LsAt w' p nb hb N H (x.take l to fr t f) ∧ Fr [nb, hb] w w') := by
  have F := Fr.refl [nb, hb] w
  have F0 := F
  refine enter Tryd.func25 rfl Tryd.ntmps25 rfl ?_
  refine cl_seq rfl ?_
  refine cl_reg rfl ?_
  refine st rfl rfl rfl rfl (x_asg rfl) ?_
  refine rl_end rfl ?_
  refine al_k ?_
  refine cl_seq rfl ?_
  refine cl_seq rfl ?_
  refine cl_reg rfl ?_
  refine st rfl rfl rfl rfl (x_move rfl) ?_
  refine st rfl rfl rfl rfl (x_move rfl) ?_
  refine st rfl rfl rfl rfl (x_move rfl) ?_
  refine se rfl rfl rfl rfl (e_new (x_bsl rfl (bsl2I _ _ _))) ?_
  rintro _ w1_3 ⟨rfl, b1_3, fr1_3, sz1_3⟩
  replace L := L.fr0 fr1_3
  replace F := F.trans fr1_3.of0
  refine sc rfl rfl rfl rfl (c_fn rfl Tryd.call28 ((asked_c _ p nb hb N H x L _ _ [to, fr] [] (SlI.blk (zs := [to, fr]) (c := 2) b1_3 (by simp)) (SlI.nil _)).mono (R' := fun v w' => v = .int .i64 0 ∧ w' = _) (fun v w' h => ⟨h.1.trans (congrArg _ (if_pos (by simp; omega))), h.2⟩))) ?_
  rintro _ wk ⟨rfl, hwk⟩
  obtain rfl := hwk.symm
  refine st rfl rfl rfl rfl (x_asg rfl) ?_
  refine rl_end rfl ?_
  refine al_k ?_
  refine cl_seq rfl ?_
  refine cl_reg rfl ?_
  refine st rfl rfl rfl rfl (x_move rfl) ?_
  refine st rfl rfl rfl rfl ((x_neq rfl rfl).b0 (by omega)) ?_
  refine rl_end rfl ?_
  refine al_k ?_
  refine cl_if0 rfl rfl ?_
  refine cl_skip rfl ?_
  refine al_k ?_
  refine cl_seq rfl ?_
  refine cl_seq rfl ?_
  refine cl_reg rfl ?_
  refine st rfl rfl rfl rfl (x_move rfl) ?_
  refine st rfl rfl rfl rfl (x_move rfl) ?_
  refine st rfl rfl rfl rfl ((x_eql rfl rfl).b0 he) ?_
  refine st rfl rfl rfl rfl (x_move rfl) ?_
  refine st rfl rfl rfl rfl (x_move rfl) ?_
  refine st rfl rfl rfl rfl (x_nil rfl) ?_
  refine st rfl rfl rfl rfl (x_fa rfl Tryd.underlying55 rfl Tryd.sizeOf53 1 rfl) ?_
  refine st rfl rfl rfl rfl (x_ld rfl Tryd.isAgg53 (L.top.cell rfl)) ?_
  refine st rfl rfl rfl rfl (x_move rfl) ?_
  refine st rfl rfl rfl rfl (x_ia0 rfl rfl Tryd.underlying53 Tryd.sizeOf63 (by omega)) ?_
  refine st rfl rfl rfl rfl (x_fa rfl Tryd.underlying63 rfl Tryd.sizeOf3 2 rfl) ?_
  refine st rfl rfl rfl rfl (x_ld rfl Tryd.isAgg3 (cell_f lenH L.hed hf rfl (by decide) rfl)) ?_
  refine st rfl rfl rfl rfl ((x_eql rfl rfl).b0 hc) ?_
  refine st rfl rfl rfl rfl (x_pick0 rfl rfl) ?_
  refine rl_end rfl ?_
  refine al_k ?_
  refine cl_if0 rfl rfl ?_
  refine cl_skip rfl ?_
  refine al_k ?_
  refine cl_seq rfl ?_
  refine cl_seq rfl ?_
  refine cl_reg rfl ?_
  refine st rfl rfl rfl rfl (x_move rfl) ?_
  refine st rfl rfl rfl rfl (x_nil rfl) ?_
  refine st rfl rfl rfl rfl (x_fa rfl Tryd.underlying55 rfl Tryd.sizeOf53 1 rfl) ?_
  refine st rfl rfl rfl rfl (x_ld rfl Tryd.isAgg53 (L.top.cell rfl)) ?_
  refine st rfl rfl rfl rfl (x_move rfl) ?_
  refine st rfl rfl rfl rfl (x_ia0 rfl rfl Tryd.underlying53 Tryd.sizeOf63 (by omega)) ?_
  refine st rfl rfl rfl rfl (x_fa rfl Tryd.underlying63 rfl Tryd.sizeOf3 0 rfl) ?_
  refine st rfl rfl rfl rfl (x_ld rfl Tryd.isAgg3 (cell_f lenH L.hed hf rfl (by decide) rfl)) ?_
  refine st rfl rfl rfl rfl (x_asg rfl) ?_
  refine rl_end rfl ?_
  refine al_k ?_
  refine cl_block rfl ?_
  refine cl_loop (fun k : Nat => [(8, .int .i64 ((l[k]?).getD (-1))), (0, .pointer (some ⟨p, 0, none⟩)), (1, .int .i64 to), (2, .int .i64 fr)]) (fun k w' => k ≤ l.length ∧ LsAt w' p nb hb N H ⟨relab x.nodes (l.take k) to, x.heads⟩ ∧ Fr [nb, hb] w w') (fun k => l.length - k) 0 rfl ⟨(congrArg (fun q => some (Value.int .i64 q)) hf0), rfl, rfl, rfl, trivial⟩ ?_ ?_
  · exact ⟨Nat.zero_le _, L, F⟩
  · skip
    rintro k wr ⟨hk, L, F⟩
    refine cl_seq rfl ?_
    refine cl_seq rfl ?_
    refine cl_reg rfl ?_
    refine st rfl rfl rfl rfl (x_move rfl) ?_
    refine sf rfl rfl rfl rfl (x_neq rfl rfl) (fun c7_1 => ?_) (fun c7_1 => ?_)
    · skip
      refine rl_end rfl ?_
      refine al_k ?_
      refine cl_if1 rfl rfl ?_
      refine cl_skip rfl ?_
      refine al_k ?_
      refine cl_seq rfl ?_
      refine cl_block rfl ?_
      have hkl : k < l.length := by
        rcases Nat.lt_or_ge k l.length with h | h
        · exact h
        · rw [List.getElem?_eq_none h] at c7_1; exact absurd rfl c7_1
      obtain ⟨n, hn⟩ : ∃ n, l[k]? = some n := ⟨_, List.getElem?_eq_getElem hkl⟩
      obtain ⟨hn0, y, hy, hy2⟩ := hch k n hn
      rw [hn]; dsimp only [Option.getD_some]
      have hyk : (relab x.nodes (l.take k) to)[n.toNat]? = some y := by rw [relab_get _ _ _ (fun q hq => by obtain ⟨j, hj⟩ := List.getElem?_of_mem (List.mem_of_mem_take hq); exact (hch j q hj).1.1) n hn0.1, if_neg (nodup_take hnd hn)]; exact hy
      have hrl : relab x.nodes (l.take (k + 1)) to = (relab x.nodes (l.take k) to).set n.toNat { y with lst := to } := by rw [List.take_add_one, hn]; exact (relab_snoc _ _ _ _).trans (upd_some _ hyk)
      have hu9 : ((relab x.nodes (l.take k) to).set n.toNat { y with lst := to })[n.toNat]? = some { y with lst := to } := get_set hyk
      refine cl_reg rfl ?_
      refine st rfl rfl rfl rfl (x_move rfl) ?_
      refine st rfl rfl rfl rfl (x_nil rfl) ?_
      refine st rfl rfl rfl rfl (x_fa rfl Tryd.underlying55 rfl Tryd.sizeOf52 0 rfl) ?_
      refine st rfl rfl rfl rfl (x_ld rfl Tryd.isAgg52 (L.top.cell rfl)) ?_
      refine st rfl rfl rfl rfl (x_move rfl) ?_
      refine st rfl rfl rfl rfl (x_move rfl) ?_
      refine st rfl rfl rfl rfl (x_ia0 rfl rfl Tryd.underlying52 Tryd.sizeOf61 (by omega)) ?_
      refine st rfl rfl rfl rfl (x_fa rfl Tryd.underlying61 rfl Tryd.sizeOf3 0 rfl) ?_
      refine sv rfl rfl rfl (v_f lenL { y with lst := to } rfl rfl rfl rfl rfl Tryd.sizeOf3 L.nod hyk (by decide) rfl) ?_
      rintro w1 ⟨hN1, fr1⟩
      replace L := L.setN hN1 fr1 (by simpa using L.lenN)
      replace F := F.trans (fr1.mono (by simp))
      refine rl_end rfl ?_
      refine al_k ?_
      refine cl_reg rfl ?_
      refine st rfl rfl rfl rfl (x_move rfl) ?_
      refine st rfl rfl rfl rfl (x_nil rfl) ?_
      refine st rfl rfl rfl rfl (x_fa rfl Tryd.underlying55 rfl Tryd.sizeOf52 0 rfl) ?_
      refine st rfl rfl rfl rfl (x_ld rfl Tryd.isAgg52 (L.top.cell rfl)) ?_
      refine st rfl rfl rfl rfl (x_move rfl) ?_
      refine st rfl rfl rfl rfl (x_ia0 rfl rfl Tryd.underlying52 Tryd.sizeOf61 (by omega)) ?_
      refine st rfl rfl rfl rfl (x_fa rfl Tryd.underlying61 rfl Tryd.sizeOf3 2 rfl) ?_
      refine st rfl rfl rfl rfl (x_ld rfl Tryd.isAgg3 (cell_f lenL L.nod hu9 rfl (by decide) rfl)) ?_
      refine st rfl rfl rfl rfl (x_asg rfl) ?_
      refine rl_end rfl ?_
      refine again (k + 1) (by omega) ⟨(congrArg (fun q => some (Value.int .i64 q)) hy2), rfl, rfl, rfl, trivial⟩ ⟨by omega, ?_, F⟩
      rw [hrl]; exact L
    · skip
      refine rl_end rfl ?_
      refine al_k ?_
      refine cl_if0 rfl rfl ?_
      refine cl_exit rfl ?_
      refine upd_self ?_
      refine al_k ?_
      refine cl_seq rfl ?_
      have ek : k = l.length := by
        rcases Nat.lt_or_ge k l.length with h | h
        · exfalso
          obtain ⟨n, hn⟩ : ∃ n, l[k]? = some n := ⟨_, List.getElem?_eq_getElem h⟩
          obtain ⟨hn0, _⟩ := hch k n hn
          rw [hn] at c7_1
          dsimp only [Option.getD_some] at c7_1
          omega
        · omega
      subst ek
      rw [List.take_length] at L
      refine cl_draw (by kernel_rfl) rfl [15] (fun w' => LsAt w' p nb hb N H ⟨relab x.nodes l to, x.heads⟩) ?_
      rintro wd10 frd10 hpd10
      replace L := L.fr0 frd10
      replace F := F.trans frd10.of0
      refine ⟨L, ?_⟩
      refine dt (i := 0) rfl rfl rfl rfl (by kernel_rfl) (fun _ => x_move rfl) ?_
      refine dt (i := 1) rfl rfl rfl rfl (by kernel_rfl) (fun _ => x_nil rfl) ?_
      refine dt (i := 2) rfl rfl rfl rfl (by kernel_rfl) (fun _ => x_fa rfl Tryd.underlying55 rfl Tryd.sizeOf53 1 rfl) ?_
      refine dl (i := 3) rfl rfl rfl rfl (by kernel_rfl) (by kernel_rfl) (fun w' hU => x_ld rfl Tryd.isAgg53 (hU.top.cell rfl)) ?_
      refine dt (i := 4) rfl rfl rfl rfl (by kernel_rfl) (fun _ => x_move rfl) ?_
      refine dt (i := 5) rfl rfl rfl rfl (by kernel_rfl) (fun _ => x_ia0 rfl rfl Tryd.underlying53 Tryd.sizeOf63 (by omega)) ?_
      refine dt (i := 6) rfl rfl rfl rfl (by kernel_rfl) (fun _ => x_move rfl) ?_
      refine dt (i := 7) rfl rfl rfl rfl (by kernel_rfl) (fun _ => x_nil rfl) ?_
      refine dt (i := 8) rfl rfl rfl rfl (by kernel_rfl) (fun _ => x_fa rfl Tryd.underlying55 rfl Tryd.sizeOf53 1 rfl) ?_
      refine dl (i := 9) rfl rfl rfl rfl (by kernel_rfl) (by kernel_rfl) (fun w' hU => x_ld rfl Tryd.isAgg53 (hU.top.cell rfl)) ?_
      refine dt (i := 10) rfl rfl rfl rfl (by kernel_rfl) (fun _ => x_move rfl) ?_
      refine dt (i := 11) rfl rfl rfl rfl (by kernel_rfl) (fun _ => x_ia0 rfl rfl Tryd.underlying53 Tryd.sizeOf63 (by omega)) ?_
      refine dl (i := 12) rfl rfl rfl rfl (by kernel_rfl) (by kernel_rfl) (fun w' hU => x_ldn rfl Tryd.isAgg63 Tryd.sizeOf63 rfl (cell_e lenH hU.hed hf rfl)) ?_
      refine d1 (i := 13) (by kernel_rfl) ?_
      refine oe rfl rfl rfl rfl (e_new (x_alloc Tryd.zeroValue63 rfl)) ?_
      rintro _ w10 ⟨rfl, b10_13, fr10, sz10⟩
      have hcb : w.heap.size ≤ _ := F.size
      have hpn := L.top.lt
      have hnn := L.nod.lt
      have hhn := L.hed.lt
      replace L := L.fr0 fr10
      replace F := F.trans fr10.of0
      generalize hcq : World.heap wd10 = hq at *
      have hz0 : 0 < hq.size := by omega
      generalize hcq2 : hq.size = cb at *
      refine ⟨.inr L, ?_⟩
      have hcb := F0.size
      refine dt (i := 14) rfl rfl rfl rfl (by kernel_rfl) (fun _ => x_asg rfl) ?_
      refine d1 (i := 15) (by kernel_rfl) ?_
      refine osv rfl rfl rfl (v_n rfl rfl (oneH f) Tryd.sizeOf63 rfl b10_13 (by decide)) ?_
      rintro wc ⟨hC, frc⟩
      replace hC : Blk wc cb 63 (encH f) := hC
      replace L := L.fr frc (by simp; omega) (by simp; omega) (by simp; omega) (by simp; omega)
      replace F := F.trans_new frc (by intro q hq; simp at hq; subst hq; exact .inr hcb)
      refine ⟨.inl (by kernel_rfl), ?_⟩
      refine dn (by kernel_rfl) ?_
      refine al_k ?_
      refine cl_seq rfl ?_
      obtain ⟨y1, hy1⟩ := get_of (i := f.fst) (xs := relab x.nodes l to) L.lenN hff
      refine cl_draw (by kernel_rfl) rfl [12] (fun w' => w'.heap = wc.heap) ?_
      rintro wd11 frd11 hpd11
      refine ⟨hpd11, ?_⟩
      refine dt (i := 0) rfl rfl rfl rfl (by kernel_rfl) (fun _ => x_move rfl) ?_
      refine dt (i := 1) rfl rfl rfl rfl (by kernel_rfl) (fun _ => x_nil rfl) ?_
      refine dt (i := 2) rfl rfl rfl rfl (by kernel_rfl) (fun _ => x_fa rfl Tryd.underlying55 rfl Tryd.sizeOf52 0 rfl) ?_
      refine dl (i := 3) rfl rfl rfl rfl (by kernel_rfl) (by kernel_rfl) (fun w' hU => x_ld rfl Tryd.isAgg52 (heq hU (L.top.cell rfl))) ?_
      refine dt (i := 4) rfl rfl rfl rfl (by kernel_rfl) (fun _ => x_fa rfl Tryd.underlying63 rfl Tryd.sizeOf3 0 rfl) ?_
      refine dl (i := 5) rfl rfl rfl rfl (by kernel_rfl) (by kernel_rfl) (fun w' hU => x_ld rfl Tryd.isAgg3 (heq hU (hC.cell rfl))) ?_
      refine dt (i := 6) rfl rfl rfl rfl (by kernel_rfl) (fun _ => x_move rfl) ?_
      refine dt (i := 7) rfl rfl rfl rfl (by kernel_rfl) (fun _ => x_nil rfl) ?_
      refine dt (i := 8) rfl rfl rfl rfl (by kernel_rfl) (fun _ => x_fa rfl Tryd.underlying63 rfl Tryd.sizeOf3 1 rfl) ?_
      refine dl (i := 9) rfl rfl rfl rfl (by kernel_rfl) (by kernel_rfl) (fun w' hU => x_ld rfl Tryd.isAgg3 (heq hU (cell_f lenH L.hed ht0 rfl (by decide) rfl))) ?_
      refine dt (i := 10) rfl rfl rfl rfl (by kernel_rfl) (fun _ => x_ia0 rfl rfl Tryd.underlying52 Tryd.sizeOf61 (by omega)) ?_
      refine dt (i := 11) rfl rfl rfl rfl (by kernel_rfl) (fun _ => x_fa rfl Tryd.underlying61 rfl Tryd.sizeOf3 1 rfl) ?_
      replace L := L.fr0 frd11
      replace F := F.trans frd11.of0
      replace hC := hC.fr0 frd11
      refine d1 (i := 12) (by kernel_rfl) ?_
      refine osv rfl rfl rfl (v_f lenL { y1 with prv := t.lst } rfl rfl rfl rfl rfl Tryd.sizeOf3 L.nod hy1 (by decide) rfl) ?_
      rintro w2 ⟨hN2, fr2⟩
      replace L := L.setN hN2 fr2 (by simpa using L.lenN)
      replace F := F.trans (fr2.mono (by simp))
      replace hC := hC.fr fr2 (by simp; omega)
      refine ⟨.inl (by kernel_rfl), ?_⟩
      refine dn (by kernel_rfl) ?_
      refine al_k ?_
      refine cl_seq rfl ?_
      refine cl_seq rfl ?_
      refine cl_reg rfl ?_
      refine st rfl rfl rfl rfl (x_move rfl) ?_
      refine st rfl rfl rfl rfl (x_nil rfl) ?_
      refine st rfl rfl rfl rfl (x_fa rfl Tryd.underlying63 rfl Tryd.sizeOf3 1 rfl) ?_
      refine st rfl rfl rfl rfl (x_ld rfl Tryd.isAgg3 (cell_f lenH L.hed ht0 rfl (by decide) rfl)) ?_
      refine st rfl rfl rfl rfl ((x_eql rfl rfl).b1 ht) ?_
      refine rl_end rfl ?_
      refine al_k ?_
      refine cl_if1 rfl rfl ?_
      refine cl_reg rfl ?_
      refine st rfl rfl rfl rfl (x_move rfl) ?_
      refine st rfl rfl rfl rfl (x_fa rfl Tryd.underlying63 rfl Tryd.sizeOf3 0 rfl) ?_
      refine st rfl rfl rfl rfl (x_ld rfl Tryd.isAgg3 (hC.cell rfl)) ?_
      refine st rfl rfl rfl rfl (x_nil rfl) ?_
      refine st rfl rfl rfl rfl (x_fa rfl Tryd.underlying63 rfl Tryd.sizeOf3 0 rfl) ?_
      refine sv rfl rfl rfl (v_f lenH { t with fst := f.fst } rfl rfl rfl rfl rfl Tryd.sizeOf3 L.hed ht0 (by decide) rfl) ?_
      rintro w3 ⟨hH3, fr3⟩
      replace L := L.setH hH3 fr3 (by simpa using L.lenH)
      replace F := F.trans (fr3.mono (by simp))
      replace hC := hC.fr fr3 (by simp; omega)
      have ht1 := get_set (v := { t with fst := f.fst }) ht0
      refine rl_end rfl ?_
      refine al_k ?_
      refine cl_seq rfl ?_
      have hc2 := cell_f lenH L.hed ht1 (o := to.toNat * 3 + 2) (j := 2) rfl (by decide) rfl
      refine cl_draw (by kernel_rfl) rfl [16] (fun w' => Blk w' cb 63 (encH f) ∧ w'.cell? ⟨hb, to.toNat * 3 + 2, none⟩ = some (.int .i64 t.cnt)) ?_
      rintro wd15 frd15 hpd15
      replace L := L.fr0 frd15
      replace F := F.trans frd15.of0
      replace hC := hC.fr0 frd15
      replace hc2 := frd15.cell hc2 (by simp)
      refine ⟨⟨hC, hc2⟩, ?_⟩
      refine dt (i := 0) rfl rfl rfl rfl (by kernel_rfl) (fun _ => x_move rfl) ?_
      refine dt (i := 1) rfl rfl rfl rfl (by kernel_rfl) (fun _ => x_move rfl) ?_
      refine dt (i := 2) rfl rfl rfl rfl (by kernel_rfl) (fun _ => x_fa rfl Tryd.underlying63 rfl Tryd.sizeOf3 1 rfl) ?_
      refine dl (i := 3) rfl rfl rfl rfl (by kernel_rfl) (by kernel_rfl) (fun w' hU => x_ld rfl Tryd.isAgg3 (hU.1.cell rfl)) ?_
      refine dt (i := 4) rfl rfl rfl rfl (by kernel_rfl) (fun _ => x_move rfl) ?_
      refine dt (i := 5) rfl rfl rfl rfl (by kernel_rfl) (fun _ => x_nil rfl) ?_
      refine dt (i := 6) rfl rfl rfl rfl (by kernel_rfl) (fun _ => x_fa rfl Tryd.underlying63 rfl Tryd.sizeOf3 2 rfl) ?_
      refine dl (i := 7) rfl rfl rfl rfl (by kernel_rfl) (by kernel_rfl) (fun w' hU => x_ld rfl Tryd.isAgg3 hU.2) ?_
      refine dt (i := 8) rfl rfl rfl rfl (by kernel_rfl) (fun _ => x_fa rfl Tryd.underlying63 rfl Tryd.sizeOf3 2 rfl) ?_
      refine dl (i := 9) rfl rfl rfl rfl (by kernel_rfl) (by kernel_rfl) (fun w' hU => x_ld rfl Tryd.isAgg3 (hU.1.cell rfl)) ?_
      refine dt (i := 10) rfl rfl rfl rfl (by kernel_rfl) (fun _ => x_add rfl rfl (by constructor <;> (try dsimp only) <;> omega)) ?_
      refine dt (i := 11) rfl rfl rfl rfl (by kernel_rfl) (fun _ => x_nil rfl) ?_
      refine dt (i := 12) rfl rfl rfl rfl (by kernel_rfl) (fun _ => x_fa rfl Tryd.underlying63 rfl Tryd.sizeOf3 1 rfl) ?_
      refine d1 (i := 13) (by kernel_rfl) ?_
      refine osv rfl rfl rfl (v_f lenH { { t with fst := f.fst } with lst := f.lst } rfl rfl rfl rfl rfl Tryd.sizeOf3 L.hed ht1 (by decide) rfl) ?_
      rintro w4 ⟨hH4, fr4⟩
      replace L := L.setH hH4 fr4 (by simpa using L.lenH)
      replace F := F.trans (fr4.mono (by simp))
      replace hC := hC.fr fr4 (by simp; omega)
      have ht2 := get_set (v := { { t with fst := f.fst } with lst := f.lst }) ht1
      refine ⟨.inr ⟨hC, cell_f lenH L.hed ht2 rfl (by decide) rfl⟩, ?_⟩
      refine dt (i := 14) rfl rfl rfl rfl (by kernel_rfl) (fun _ => x_nil rfl) ?_
      refine dt (i := 15) rfl rfl rfl rfl (by kernel_rfl) (fun _ => x_fa rfl Tryd.underlying63 rfl Tryd.sizeOf3 2 rfl) ?_
      refine d1 (i := 16) (by kernel_rfl) ?_
      refine osv rfl rfl rfl (v_f lenH { { { t with fst := f.fst } with lst := f.lst } with cnt := t.cnt + f.cnt } rfl rfl rfl rfl rfl Tryd.sizeOf3 L.hed ht2 (by decide) rfl) ?_
      rintro w5 ⟨hH5, fr5⟩
      replace L := L.setH hH5 fr5 (by simpa using L.lenH)
      replace F := F.trans (fr5.mono (by simp))
      refine ⟨.inl (by kernel_rfl), ?_⟩
      refine dn (by kernel_rfl) ?_
      refine al_k ?_
      refine cl_seq rfl ?_
      refine cl_reg rfl ?_
      refine st rfl rfl rfl rfl (x_move rfl) ?_
      refine st rfl rfl rfl rfl (x_nil rfl) ?_
      refine st rfl rfl rfl rfl (x_fa rfl Tryd.underlying55 rfl Tryd.sizeOf53 1 rfl) ?_
      refine st rfl rfl rfl rfl (x_ld rfl Tryd.isAgg53 (L.top.cell rfl)) ?_
      refine st rfl rfl rfl rfl (x_move rfl) ?_
      refine st rfl rfl rfl rfl (x_build rfl (bldH _ _ _ _)) ?_
      refine st rfl rfl rfl rfl (x_ia0 rfl rfl Tryd.underlying53 Tryd.sizeOf63 (by omega)) ?_
      refine sv rfl rfl rfl (v_e lenH ⟨-1, -1, 0⟩ rfl rfl rfl rfl (oneH _) Tryd.sizeOf63 L.hed (by have := L.lenH; omega)) ?_
      rintro w6 ⟨hH6, fr6⟩
      replace L := L.setH hH6 fr6 (by simpa using L.lenH)
      replace F := F.trans (fr6.mono (by simp))
      refine rl_end rfl ?_
      refine al_k ?_
      refine cl_seq rfl ?_
      refine cl_reg rfl ?_
      refine st rfl rfl rfl rfl (x_asg rfl) ?_
      refine rl_end rfl ?_
      refine al_k ?_
      refine cl_ret rfl ?_
      refine fin1 rfl rfl ?_
      refine ⟨rfl, ?_, F⟩
      simp only [LS.take, if_pos ht, upd_some _ ht0, upd_some _ hy1, upd_some _ ht2, upd_some _ ht1]
      exact L

theorem take_go0 (w : World) (p nb hb N H : Nat) (x : LS) (L : LsAt w p nb hb N H x) (to fr : Int) (hto : 0 ≤ to ∧ to < (H : Int)) (hfr : 0 ≤ fr ∧ fr < (H : Int)) (he : ¬ to = fr) (f : Head) (hf : x.heads[fr.toNat]? = some f) (hc : ¬ f.cnt = 0) (l : List Int) (hf0 : f.fst = (l[0]?).getD (-1)) (hff : 0 ≤ f.fst ∧ f.fst < (N : Int)) (hnd : l.Nodup) (hch : ∀ k n, l[k]? = some n → (0 ≤ n ∧ n < (N : Int)) ∧ ∃ y, x.nodes[n.toNat]? = some y ∧ y.nxt = (l[k + 1]?).getD (-1)) (t : Head) (ht0 : x.heads[to.toNat]? = some t) (ht : ¬ t.lst = -1) (htl : t.lst = -1 ∨ 0 ≤ t.lst ∧ t.lst < (N : Int)) (hcs : 0 ≤ t.cnt ∧ t.cnt ≤ 1000000 ∧ 0 ≤ f.cnt ∧ f.cnt ≤ 1000000) : Cl Tryd.prog 25 [.pointer (some ⟨p, 0, none⟩), .int .i64 to, .int .i64 fr] w (fun v w' => v = .int .i64 0 ∧ LsAt w' p nb hb N H (x.take l to fr t f) ∧ Fr [nb, hb] w w') := by
  have F := Fr.refl [nb, hb] w
  have F0 := F
  refine enter Tryd.func25 rfl Tryd.ntmps25 rfl ?_
  refine cl_seq rfl ?_
  refine cl_reg rfl ?_
  refine st rfl rfl rfl rfl (x_asg rfl) ?_
  refine rl_end rfl ?_
  refine al_k ?_
  refine cl_seq rfl ?_
  refine cl_seq rfl ?_
  refine cl_reg rfl ?_
  refine st rfl rfl rfl rfl (x_move rfl) ?_
  refine st rfl rfl rfl rfl (x_move rfl) ?_
  refine st rfl rfl rfl rfl (x_move rfl) ?_
  refine se rfl rfl rfl rfl (e_new (x_bsl rfl (bsl2I _ _ _))) ?_
  rintro _ w1_3 ⟨rfl, b1_3, fr1_3, sz1_3⟩
  replace L := L.fr0 fr1_3
  replace F := F.trans fr1_3.of0
  refine sc rfl rfl rfl rfl (c_fn rfl Tryd.call28 ((asked_c _ p nb hb N H x L _ _ [to, fr] [] (SlI.blk (zs := [to, fr]) (c := 2) b1_3 (by simp)) (SlI.nil _)).mono (R' := fun v w' => v = .int .i64 0 ∧ w' = _) (fun v w' h => ⟨h.1.trans (congrArg _ (if_pos (by simp; omega))), h.2⟩))) ?_
  rintro _ wk ⟨rfl, hwk⟩
  obtain rfl := hwk.symm
  refine st rfl rfl rfl rfl (x_asg rfl) ?_
  refine rl_end rfl ?_
  refine al_k ?_
  refine cl_seq rfl ?_
  refine cl_reg rfl ?_
  refine st rfl rfl rfl rfl (x_move rfl) ?_
  refine st rfl rfl rfl rfl ((x_neq rfl rfl).b0 (by omega)) ?_
  refine rl_end rfl ?_
  refine al_k ?_
  refine cl_if0 rfl rfl ?_
  refine cl_skip rfl ?_
  refine al_k ?_
  refine cl_seq rfl ?_
  refine cl_seq rfl ?_
  refine cl_reg rfl ?_
  refine st rfl rfl rfl rfl (x_move rfl) ?_
  refine st rfl rfl rfl rfl (x_move rfl) ?_
  refine st rfl rfl rfl rfl ((x_eql rfl rfl).b0 he) ?_
  refine st rfl rfl rfl rfl (x_move rfl) ?_
  refine st rfl rfl rfl rfl (x_move rfl) ?_
  refine st rfl rfl rfl rfl (x_nil rfl) ?_
  refine st rfl rfl rfl rfl (x_fa rfl Tryd.underlying55 rfl Tryd.sizeOf53 1 rfl) ?_
  refine st rfl rfl rfl rfl (x_ld rfl Tryd.isAgg53 (L.top.cell rfl)) ?_
  refine st rfl rfl rfl rfl (x_move rfl) ?_
  refine st rfl rfl rfl rfl (x_ia0 rfl rfl Tryd.underlying53 Tryd.sizeOf63 (by omega)) ?_
  refine st rfl rfl rfl rfl (x_fa rfl Tryd.underlying63 rfl Tryd.sizeOf3 2 rfl) ?_
  refine st rfl rfl rfl rfl (x_ld rfl Tryd.isAgg3 (cell_f lenH L.hed hf rfl (by decide) rfl)) ?_
  refine st rfl rfl rfl rfl ((x_eql rfl rfl).b0 hc) ?_
  refine st rfl rfl rfl rfl (x_pick0 rfl rfl) ?_
  refine rl_end rfl ?_
  refine al_k ?_
  refine cl_if0 rfl rfl ?_
  refine cl_skip rfl ?_
  refine al_k ?_
  refine cl_seq rfl ?_
  refine cl_seq rfl ?_
  refine cl_reg rfl ?_
  refine st rfl rfl rfl rfl (x_move rfl) ?_
  refine st rfl rfl rfl rfl (x_nil rfl) ?_
  refine st rfl rfl rfl rfl (x_fa rfl Tryd.underlying55 rfl Tryd.sizeOf53 1 rfl) ?_
  refine st rfl rfl rfl rfl (x_ld rfl Tryd.isAgg53 (L.top.cell rfl)) ?_
  refine st rfl rfl rfl rfl (x_move rfl) ?_
  refine st rfl rfl rfl rfl (x_ia0 rfl rfl Tryd.underlying53 Tryd.sizeOf63 (by omega)) ?_
  refine st rfl rfl rfl rfl (x_fa rfl Tryd.underlying63 rfl Tryd.sizeOf3 0 rfl) ?_
  refine st rfl rfl rfl rfl (x_ld rfl Tryd.isAgg3 (cell_f lenH L.hed hf rfl (by decide) rfl)) ?_
  refine st rfl rfl rfl rfl (x_asg rfl) ?_
  refine rl_end rfl ?_
  refine al_k ?_
  refine cl_block rfl ?_
  refine cl_loop (fun k : Nat => [(8, .int .i64 ((l[k]?).getD (-1))), (0, .pointer (some ⟨p, 0, none⟩)), (1, .int .i64 to), (2, .int .i64 fr)]) (fun k w' => k ≤ l.length ∧ LsAt w' p nb hb N H ⟨relab x.nodes (l.take k) to, x.heads⟩ ∧ Fr [nb, hb] w w') (fun k => l.length - k) 0 rfl ⟨(congrArg (fun q => some (Value.int .i64 q)) hf0), rfl, rfl, rfl, trivial⟩ ?_ ?_
  · exact ⟨Nat.zero_le _, L, F⟩
  · skip
    rintro k wr ⟨hk, L, F⟩
    refine cl_seq rfl ?_
    refine cl_seq rfl ?_
    refine cl_reg rfl ?_
    refine st rfl rfl rfl rfl (x_move rfl) ?_
    refine sf rfl rfl rfl rfl (x_neq rfl rfl) (fun c7_1 => ?_) (fun c7_1 => ?_)
    · skip
      refine rl_end rfl ?_
      refine al_k ?_
      refine cl_if1 rfl rfl ?_
      refine cl_skip rfl ?_
      refine al_k ?_
      refine cl_seq rfl ?_
      refine cl_block rfl ?_
      have hkl : k < l.length := by
        rcases Nat.lt_or_ge k l.length with h | h
        · exact h
        · rw [List.getElem?_eq_none h] at c7_1; exact absurd rfl c7_1
      obtain ⟨n, hn⟩ : ∃ n, l[k]? = some n := ⟨_, List.getElem?_eq_getElem hkl⟩
      obtain ⟨hn0, y, hy, hy2⟩ := hch k n hn
      rw [hn]; dsimp only [Option.getD_some]
      have hyk : (relab x.nodes (l.take k) to)[n.toNat]? = some y := by rw [relab_get _ _ _ (fun q hq => by obtain ⟨j, hj⟩ := List.getElem?_of_mem (List.mem_of_mem_take hq); exact (hch j q hj).1.1) n hn0.1, if_neg (nodup_take hnd hn)]; exact hy
      have hrl : relab x.nodes (l.take (k + 1)) to = (relab x.nodes (l.take k) to).set n.toNat { y with lst := to } := by rw [List.take_add_one, hn]; exact (relab_snoc _ _ _ _).trans (upd_some _ hyk)
      have hu9 : ((relab x.nodes (l.take k) to).set n.toNat { y with lst := to })[n.toNat]? = some { y with lst := to } := get_set hyk
      refine cl_reg rfl ?_
      refine st rfl rfl rfl rfl (x_move rfl) ?_
      refine st rfl rfl rfl rfl (x_nil rfl) ?_
      refine st rfl rfl rfl rfl (x_fa rfl Tryd.underlying55 rfl Tryd.sizeOf52 0 rfl) ?_
      refine st rfl rfl rfl rfl (x_ld rfl Tryd.isAgg52 (L.top.cell rfl)) ?_
      refine st rfl rfl rfl rfl (x_move rfl) ?_
      refine st rfl rfl rfl rfl (x_move rfl) ?_
      refine st rfl rfl rfl rfl (x_ia0 rfl rfl Tryd.underlying52 Tryd.sizeOf61 (by omega)) ?_
      refine st rfl rfl rfl rfl (x_fa rfl Tryd.underlying61 rfl Tryd.sizeOf3 0 rfl) ?_
      refine sv rfl rfl rfl (v_f lenL { y with lst := to } rfl rfl rfl rfl rfl Tryd.sizeOf3 L.nod hyk (by decide) rfl) ?_
      rintro w1 ⟨hN1, fr1⟩
      replace L := L.setN hN1 fr1 (by simpa using L.lenN)
      replace F := F.trans (fr1.mono (by simp))
      refine rl_end rfl ?_
      refine al_k ?_
      refine cl_reg rfl ?_
      refine st rfl rfl rfl rfl (x_move rfl) ?_
      refine st rfl rfl rfl rfl (x_nil rfl) ?_
      refine st rfl rfl rfl rfl (x_fa rfl Tryd.underlying55 rfl Tryd.sizeOf52 0 rfl) ?_
      refine st rfl rfl rfl rfl (x_ld rfl Tryd.isAgg52 (L.top.cell rfl)) ?_
      refine st rfl rfl rfl rfl (x_move rfl) ?_
      refine st rfl rfl rfl rfl (x_ia0 rfl rfl Tryd.underlying52 Tryd.sizeOf61 (by omega)) ?_
      refine st rfl rfl rfl rfl (x_fa rfl Tryd.underlying61 rfl Tryd.sizeOf3 2 rfl) ?_
      refine st rfl rfl rfl rfl (x_ld rfl Tryd.isAgg3 (cell_f lenL L.nod hu9 rfl (by decide) rfl)) ?_
      refine st rfl rfl rfl rfl (x_asg rfl) ?_
      refine rl_end rfl ?_
      refine again (k + 1) (by omega) ⟨(congrArg (fun q => some (Value.int .i64 q)) hy2), rfl, rfl, rfl, trivial⟩ ⟨by omega, ?_, F⟩
      rw [hrl]; exact L
    · skip
      refine rl_end rfl ?_
      refine al_k ?_
      refine cl_if0 rfl rfl ?_
      refine cl_exit rfl ?_
      refine upd_self ?_
      refine al_k ?_
      refine cl_seq rfl ?_
      have ek : k = l.length := by
        rcases Nat.lt_or_ge k l.length with h | h
        · exfalso
          obtain ⟨n, hn⟩ : ∃ n, l[k]? = some n := ⟨_, List.getElem?_eq_getElem h⟩
          obtain ⟨hn0, _⟩ := hch k n hn
          rw [hn] at c7_1
          dsimp only [Option.getD_some] at c7_1
          omega
        · omega
      subst ek
      rw [List.take_length] at L
      refine cl_draw (by kernel_rfl) rfl [15] (fun w' => LsAt w' p nb hb N H ⟨relab x.nodes l to, x.heads⟩) ?_
      rintro wd10 frd10 hpd10
      replace L := L.fr0 frd10
      replace F := F.trans frd10.of0
      refine ⟨L, ?_⟩
      refine dt (i := 0) rfl rfl rfl rfl (by kernel_rfl) (fun _ => x_move rfl) ?_
      refine dt (i := 1) rfl rfl rfl rfl (by kernel_rfl) (fun _ => x_nil rfl) ?_
      refine dt (i := 2) rfl rfl rfl rfl (by kernel_rfl) (fun _ => x_fa rfl Tryd.underlying55 rfl Tryd.sizeOf53 1 rfl) ?_
      refine dl (i := 3) rfl rfl rfl rfl (by kernel_rfl) (by kernel_rfl) (fun w' hU => x_ld rfl Tryd.isAgg53 (hU.top.cell rfl)) ?_
      refine dt (i := 4) rfl rfl rfl rfl (by kernel_rfl) (fun _ => x_move rfl) ?_
      refine dt (i := 5) rfl rfl rfl rfl (by kernel_rfl) (fun _ => x_ia0 rfl rfl Tryd.underlying53 Tryd.sizeOf63 (by omega)) ?_
      refine dt (i := 6) rfl rfl rfl rfl (by kernel_rfl) (fun _ => x_move rfl) ?_
      refine dt (i := 7) rfl rfl rfl rfl (by kernel_rfl) (fun _ => x_nil rfl) ?_
      refine dt (i := 8) rfl rfl rfl rfl (by kernel_rfl) (fun _ => x_fa rfl Tryd.underlying55 rfl Tryd.sizeOf53 1 rfl) ?_
      refine dl (i := 9) rfl rfl rfl rfl (by kernel_rfl) (by kernel_rfl) (fun w' hU => x_ld rfl Tryd.isAgg53 (hU.top.cell rfl)) ?_
      refine dt (i := 10) rfl rfl rfl rfl (by kernel_rfl) (fun _ => x_move rfl) ?_
      refine dt (i := 11) rfl rfl rfl rfl (by kernel_rfl) (fun _ => x_ia0 rfl rfl Tryd.underlying53 Tryd.sizeOf63 (by omega)) ?_
      refine dl (i := 12) rfl rfl rfl rfl (by kernel_rfl) (by kernel_rfl) (fun w' hU => x_ldn rfl Tryd.isAgg63 Tryd.sizeOf63 rfl (cell_e lenH hU.hed hf rfl)) ?_
      refine d1 (i := 13) (by kernel_rfl) ?_
      refine oe rfl rfl rfl rfl (e_new (x_alloc Tryd.zeroValue63 rfl)) ?_
      rintro _ w10 ⟨rfl, b10_13, fr10, sz10⟩
      have hcb : w.heap.size ≤ _ := F.size
      have hpn := L.top.lt
      have hnn := L.nod.lt
      have hhn := L.hed.lt
      replace L := L.fr0 fr10
      replace F := F.trans fr10.of0
      generalize hcq : World.heap wd10 = hq at *
      have hz0 : 0 < hq.size := by omega
      generalize hcq2 : hq.size = cb at *
      refine ⟨.inr L, ?_⟩
      have hcb := F0.size
      refine dt (i := 14) rfl rfl rfl rfl (by kernel_rfl) (fun _ => x_asg rfl) ?_
      refine d1 (i := 15) (by kernel_rfl) ?_
      refine osv rfl rfl rfl (v_n rfl rfl (oneH f) Tryd.sizeOf63 rfl b10_13 (by decide)) ?_
      rintro wc ⟨hC, frc⟩
      replace hC : Blk wc cb 63 (encH f) := hC
      replace L := L.fr frc (by simp; omega) (by simp; omega) (by simp; omega) (by simp; omega)
      replace F := F.trans_new frc (by intro q hq; simp at hq; subst hq; exact .inr hcb)
      refine ⟨.inl (by kernel_rfl), ?_⟩
      refine dn (by kernel_rfl) ?_
      refine al_k ?_
      refine cl_seq rfl ?_
      obtain ⟨y1, hy1⟩ := get_of (i := f.fst) (xs := relab x.nodes l to) L.lenN hff
      refine cl_draw (by kernel_rfl) rfl [12] (fun w' => w'.heap = wc.heap) ?_
      rintro wd11 frd11 hpd11
      refine ⟨hpd11, ?_⟩
      refine dt (i := 0) rfl rfl rfl rfl (by kernel_rfl) (fun _ => x_move rfl) ?_
      refine dt (i := 1) rfl rfl rfl rfl (by kernel_rfl) (fun _ => x_nil rfl) ?_
      refine dt (i := 2) rfl rfl rfl rfl (by kernel_rfl) (fun _ => x_fa rfl Tryd.underlying55 rfl Tryd.sizeOf52 0 rfl) ?_
      refine dl (i := 3) rfl rfl rfl rfl (by kernel_rfl) (by kernel_rfl) (fun w' hU => x_ld rfl Tryd.isAgg52 (heq hU (L.top.cell rfl))) ?_
      refine dt (i := 4) rfl rfl rfl rfl (by kernel_rfl) (fun _ => x_fa rfl Tryd.underlying63 rfl Tryd.sizeOf3 0 rfl) ?_
      refine dl (i := 5) rfl rfl rfl rfl (by kernel_rfl) (by kernel_rfl) (fun w' hU => x_ld rfl Tryd.isAgg3 (heq hU (hC.cell rfl))) ?_
      refine dt (i := 6) rfl rfl rfl rfl (by kernel_rfl) (fun _ => x_move rfl) ?_
      refine dt (i := 7) rfl rfl rfl rfl (by kernel_rfl) (fun _ => x_nil rfl) ?_
      refine dt (i := 8) rfl rfl rfl rfl (by kernel_rfl) (fun _ => x_fa rfl Tryd.underlying63 rfl Tryd.sizeOf3 1 rfl) ?_
      refine dl (i := 9) rfl rfl rfl rfl (by kernel_rfl) (by kernel_rfl) (fun w' hU => x_ld rfl Tryd.isAgg3 (heq hU (cell_f lenH L.hed ht0 rfl (by decide) rfl))) ?_
      refine dt (i := 10) rfl rfl rfl rfl (by kernel_rfl) (fun _ => x_ia0 rfl rfl Tryd.underlying52 Tryd.sizeOf61 (by omega)) ?_
      refine dt (i := 11) rfl rfl rfl rfl (by kernel_rfl) (fun _ => x_fa rfl Tryd.underlying61 rfl Tryd.sizeOf3 1 rfl) ?_
      replace L := L.fr0 frd11
      replace F := F.trans frd11.of0
      replace hC := hC.fr0 frd11
      refine d1 (i := 12) (by kernel_rfl) ?_
      refine osv rfl rfl rfl (v_f lenL { y1 with prv := t.lst } rfl rfl rfl rfl rfl Tryd.sizeOf3 L.nod hy1 (by decide) rfl) ?_
      rintro w2 ⟨hN2, fr2⟩
      replace L := L.setN hN2 fr2 (by simpa using L.lenN)
      replace F := F.trans (fr2.mono (by simp))
      replace hC := hC.fr fr2 (by simp; omega)
      refine ⟨.inl (by kernel_rfl), ?_⟩
      refine dn (by kernel_rfl) ?_
      refine al_k ?_
      refine cl_seq rfl ?_
      refine cl_seq rfl ?_
      refine cl_reg rfl ?_
      refine st rfl rfl rfl rfl (x_move rfl) ?_
      refine st rfl rfl rfl rfl (x_nil rfl) ?_
      refine st rfl rfl rfl rfl (x_fa rfl Tryd.underlying63 rfl Tryd.sizeOf3 1 rfl) ?_
      refine st rfl rfl rfl rfl (x_ld rfl Tryd.isAgg3 (cell_f lenH L.hed ht0 rfl (by decide) rfl)) ?_
      refine st rfl rfl rfl rfl ((x_eql rfl rfl).b0 ht) ?_
      refine rl_end rfl ?_
      refine al_k ?_
      refine cl_if0 rfl rfl ?_
      obtain ⟨y2, hy2⟩ := get_of (i := t.lst) L.lenN (by omega)
      refine cl_draw (by kernel_rfl) rfl [12] (fun w' => w'.heap = w2.heap) ?_
      rintro wd14 frd14 hpd14
      refine ⟨hpd14, ?_⟩
      refine dt (i := 0) rfl rfl rfl rfl (by kernel_rfl) (fun _ => x_move rfl) ?_
      refine dt (i := 1) rfl rfl rfl rfl (by kernel_rfl) (fun _ => x_nil rfl) ?_
      refine dt (i := 2) rfl rfl rfl rfl (by kernel_rfl) (fun _ => x_fa rfl Tryd.underlying55 rfl Tryd.sizeOf52 0 rfl) ?_
      refine dl (i := 3) rfl rfl rfl rfl (by kernel_rfl) (by kernel_rfl) (fun w' hU => x_ld rfl Tryd.isAgg52 (heq hU (L.top.cell rfl))) ?_
      refine dt (i := 4) rfl rfl rfl rfl (by kernel_rfl) (fun _ => x_move rfl) ?_
      refine dt (i := 5) rfl rfl rfl rfl (by kernel_rfl) (fun _ => x_nil rfl) ?_
      refine dt (i := 6) rfl rfl rfl rfl (by kernel_rfl) (fun _ => x_fa rfl Tryd.underlying63 rfl Tryd.sizeOf3 1 rfl) ?_
      refine dl (i := 7) rfl rfl rfl rfl (by kernel_rfl) (by kernel_rfl) (fun w' hU => x_ld rfl Tryd.isAgg3 (heq hU (cell_f lenH L.hed ht0 rfl (by decide) rfl))) ?_
      refine dt (i := 8) rfl rfl rfl rfl (by kernel_rfl) (fun _ => x_fa rfl Tryd.underlying63 rfl Tryd.sizeOf3 0 rfl) ?_
      refine dl (i := 9) rfl rfl rfl rfl (by kernel_rfl) (by kernel_rfl) (fun w' hU => x_ld rfl Tryd.isAgg3 (heq hU (hC.cell rfl))) ?_
      refine dt (i := 10) rfl rfl rfl rfl (by kernel_rfl) (fun _ => x_ia0 rfl rfl Tryd.underlying52 Tryd.sizeOf61 (by omega)) ?_
      refine dt (i := 11) rfl rfl rfl rfl (by kernel_rfl) (fun _ => x_fa rfl Tryd.underlying61 rfl Tryd.sizeOf3 2 rfl) ?_
      replace L := L.fr0 frd14
      replace F := F.trans frd14.of0
      replace hC := hC.fr0 frd14
      refine d1 (i := 12) (by kernel_rfl) ?_
      refine osv rfl rfl rfl (v_f lenL { y2 with nxt := f.fst } rfl rfl rfl rfl rfl Tryd.sizeOf3 L.nod hy2 (by decide) rfl) ?_
      rintro w3 ⟨hN3, fr3⟩
      replace L := L.setN hN3 fr3 (by simpa using L.lenN)
      replace F := F.trans (fr3.mono (by simp))
      replace hC := hC.fr fr3 (by simp; omega)
      refine ⟨.inl (by kernel_rfl), ?_⟩
      refine dn (by kernel_rfl) ?_
      refine al_k ?_
      refine cl_seq rfl ?_
      have hc2 := cell_f lenH L.hed ht0 (o := to.toNat * 3 + 2) (j := 2) rfl (by decide) rfl
      refine cl_draw (by kernel_rfl) rfl [16] (fun w' => Blk w' cb 63 (encH f) ∧ w'.cell? ⟨hb, to.toNat * 3 + 2, none⟩ = some (.int .i64 t.cnt)) ?_
      rintro wd15 frd15 hpd15
      replace L := L.fr0 frd15
      replace F := F.trans frd15.of0
      replace hC := hC.fr0 frd15
      replace hc2 := frd15.cell hc2 (by simp)
      refine ⟨⟨hC, hc2⟩, ?_⟩
      refine dt (i := 0) rfl rfl rfl rfl (by kernel_rfl) (fun _ => x_move rfl) ?_
      refine dt (i := 1) rfl rfl rfl rfl (by kernel_rfl) (fun _ => x_move rfl) ?_
      refine dt (i := 2) rfl rfl rfl rfl (by kernel_rfl) (fun _ => x_fa rfl Tryd.underlying63 rfl Tryd.sizeOf3 1 rfl) ?_
      refine dl (i := 3) rfl rfl rfl rfl (by kernel_rfl) (by kernel_rfl) (fun w' hU => x_ld rfl Tryd.isAgg3 (hU.1.cell rfl)) ?_
      refine dt (i := 4) rfl rfl rfl rfl (by kernel_rfl) (fun _ => x_move rfl) ?_
      refine dt (i := 5) rfl rfl rfl rfl (by kernel_rfl) (fun _ => x_nil rfl) ?_
      refine dt (i := 6) rfl rfl rfl rfl (by kernel_rfl) (fun _ => x_fa rfl Tryd.underlying63 rfl Tryd.sizeOf3 2 rfl) ?_
      refine dl (i := 7) rfl rfl rfl rfl (by kernel_rfl) (by kernel_rfl) (fun w' hU => x_ld rfl Tryd.isAgg3 hU.2) ?_
      refine dt (i := 8) rfl rfl rfl rfl (by kernel_rfl) (fun _ => x_fa rfl Tryd.underlying63 rfl Tryd.sizeOf3 2 rfl) ?_
      refine dl (i := 9) rfl rfl rfl rfl (by kernel_rfl) (by kernel_rfl) (fun w' hU => x_ld rfl Tryd.isAgg3 (hU.1.cell rfl)) ?_
      refine dt (i := 10) rfl rfl rfl rfl (by kernel_rfl) (fun _ => x_add rfl rfl (by constructor <;> (try dsimp only) <;> omega)) ?_
      refine dt (i := 11) rfl rfl rfl rfl (by kernel_rfl) (fun _ => x_nil rfl) ?_
      refine dt (i := 12) rfl rfl rfl rfl (by kernel_rfl) (fun _ => x_fa rfl Tryd.underlying63 rfl Tryd.sizeOf3 1 rfl) ?_
      refine d1 (i := 13) (by kernel_rfl) ?_
      refine osv rfl rfl rfl (v_f lenH { t with lst := f.lst } rfl rfl rfl rfl rfl Tryd.sizeOf3 L.hed ht0 (by decide) rfl) ?_
      rintro w4 ⟨hH4, fr4⟩
      replace L := L.setH hH4 fr4 (by simpa using L.lenH)
      replace F := F.trans (fr4.mono (by simp))
      replace hC := hC.fr fr4 (by simp; omega)
      have ht2 := get_set (v := { t with lst := f.lst }) ht0
      refine ⟨.inr ⟨hC, cell_f lenH L.hed ht2 rfl (by decide) rfl⟩, ?_⟩
      refine dt (i := 14) rfl rfl rfl rfl (by kernel_rfl) (fun _ => x_nil rfl) ?_
      refine dt (i := 15) rfl rfl rfl rfl (by kernel_rfl) (fun _ => x_fa rfl Tryd.underlying63 rfl Tryd.sizeOf3 2 rfl) ?_
      refine d1 (i := 16) (by kernel_rfl) ?_
      refine osv rfl rfl rfl (v_f lenH { { t with lst := f.lst } with cnt := t.cnt + f.cnt } rfl rfl rfl rfl rfl Tryd.sizeOf3 L.hed ht2 (by decide) rfl) ?_
      rintro w5 ⟨hH5, fr5⟩
      replace L := L.setH hH5 fr5 (by simpa using L.lenH)
      replace F := F.trans (fr5.mono (by simp))
      refine ⟨.inl (by kernel_rfl), ?_⟩
      refine dn (by kernel_rfl) ?_
      refine al_k ?_
      refine cl_seq rfl ?_
      refine cl_reg rfl ?_
      refine st rfl rfl rfl rfl (x_move rfl) ?_
      refine st rfl rfl rfl rfl (x_nil rfl) ?_
      refine st rfl rfl rfl rfl (x_fa rfl Tryd.underlying55 rfl Tryd.sizeOf53 1 rfl) ?_
      refine st rfl rfl rfl rfl (x_ld rfl Tryd.isAgg53 (L.top.cell rfl)) ?_
      refine st rfl rfl rfl rfl (x_move rfl) ?_
      refine st rfl rfl rfl rfl (x_build rfl (bldH _ _ _ _)) ?_
      refine st rfl rfl rfl rfl (x_ia0 rfl rfl Tryd.underlying53 Tryd.sizeOf63 (by omega)) ?_
      refine sv rfl rfl rfl (v_e lenH ⟨-1, -1, 0⟩ rfl rfl rfl rfl (oneH _) Tryd.sizeOf63 L.hed (by have := L.lenH; omega)) ?_
      rintro w6 ⟨hH6, fr6⟩
      replace L := L.setH hH6 fr6 (by simpa using L.lenH)
      replace F := F.trans (fr6.mono (by simp))
      refine rl_end rfl ?_
      refine al_k ?_
      refine cl_seq rfl ?_
      refine cl_reg rfl ?_
      refine st rfl rfl rfl rfl (x_asg rfl) ?_
      refine rl_end rfl ?_
      refine al_k ?_
      refine cl_ret rfl ?_
      refine fin1 rfl rfl ?_
      refine ⟨rfl, ?_, F⟩
      simp only [LS.take, if_neg ht, upd_some _ ht0, upd_some _ hy1, upd_some _ ht2, upd_some _ hy2]
      exact L

end Go.Proofs.YtnnhpbjibhnhnabDoor.Ls
