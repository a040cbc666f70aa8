/- The arena: the walk of New. -/
import Derived.Test.YtjjaijabdfoanaaDoorArW3
import Derived.Test.YtjjaijabdfoanaaDoorArN
set_option linter.unusedVariables false
namespace Go.Proofs.YtjjaijabdfoanaaDoor.Arn
open Go Go.RowKit Go.Proofs.YtjjaijabdfoanaaDoor.Sx Go.Proofs.YtjjaijabdfoanaaDoor.Ls Go.Proofs.YtjjaijabdfoanaaDoor
set_option maxRecDepth 100000

theorem bldA (n : Nat) (w : World) : (Instr.build 64 [(3, .int .i64 n)].toArray).run Tryd.prog w = .ok (.agg (preC (.slice none 0 0) n).toArray) w := by kernel_rfl
theorem bldS (m : Int) (w : World) : (Instr.build 68 [(0, .int .i64 m)].toArray).run Tryd.prog w = .ok (.agg [.int .i64 m, .int .u64 0, .int .u64 0, .bool false].toArray) w := by kernel_rfl
theorem bslS (m : Int) (w : World) : (Instr.buildSlice 60 1 [(0, .agg [.int .i64 m, .int .u64 0, .int .u64 0, .bool false].toArray)].toArray).run Tryd.prog w = .ok (.slice (some ⟨w.heap.size, 0, none⟩) 1 1) (w.alloc (.cells [.int .i64 m, .int .u64 0, .int .u64 0, .bool false].toArray 68)) := by kernel_rfl

theorem anew_c (w : World) (hG : Glb w) (A0 : Option Addr) (c0 : Nat) (qs : List Int) (hql : qs.length ≤ 9223372036854775807) (hrow : ∀ (j : Nat) q, qs[j]? = some q → ∃ a, A0 = some a ∧ w.cell? (a.add (((j : Nat) : Int).toNat * 1)) = some (.int .i64 q)) :
    Cl Tryd.prog 10 [.slice A0 qs.length c0] w (fun v w' => (okQ qs ∧ ∃ k : AK, v = .tuple #[.pointer (some ⟨k.ap, 0, none⟩), .int .i64 0] ∧ ArAt w' k (Ar.new qs) ∧ w.heap.size ≤ k.ap ∧ w.heap.size ≤ k.sb ∧ w.heap.size ≤ k.p ∧ w.heap.size ≤ k.nb ∧ w.heap.size ≤ k.hb ∧ Fr [] w w') ∨ (¬ okQ qs ∧ v = .tuple #[.pointer none, .int .i64 60] ∧ Fr [] w w')) := by
  have F := Fr.refl [] w
  refine enter Tryd.func10 rfl Tryd.ntmps10 rfl ?_
  refine cl_seq rfl ?_
  refine cl_reg rfl ?_
  refine st rfl rfl rfl rfl (x_asg rfl) ?_
  refine st rfl rfl rfl rfl (x_asg rfl) ?_
  refine rl_end rfl ?_
  refine al_k ?_
  refine cl_seq rfl ?_
  refine cl_seq rfl ?_
  refine cl_reg rfl ?_
  refine st rfl rfl rfl rfl (x_move rfl) ?_
  refine st rfl rfl rfl rfl (x_len rfl Tryd.underlying22) ?_
  refine sf rfl rfl rfl rfl (x_lss rfl rfl) (fun c1_2 => ?_) (fun c1_2 => ?_)
  · skip
    refine st rfl rfl rfl rfl (x_move rfl) ?_
    refine so rfl rfl rfl rfl ?_
    refine so rfl rfl rfl rfl ?_
    refine so rfl rfl rfl rfl ?_
    refine st rfl rfl rfl rfl (x_pick1 rfl rfl) ?_
    refine rl_end rfl ?_
    refine al_k ?_
    refine cl_if1 rfl rfl ?_
    refine cl_seq rfl ?_
    refine cl_reg rfl ?_
    refine st rfl rfl rfl rfl (x_asg rfl) ?_
    refine st rfl rfl rfl rfl (x_asg rfl) ?_
    refine rl_end rfl ?_
    refine al_k ?_
    refine cl_ret rfl ?_
    refine fin2 rfl rfl rfl ?_
    exact .inr ⟨fun h => by have := h.1; omega, rfl, F⟩
  · skip
    refine st rfl rfl rfl rfl (x_move rfl) ?_
    refine st rfl rfl rfl rfl (x_move rfl) ?_
    refine st rfl rfl rfl rfl (x_len rfl Tryd.underlying22) ?_
    refine sf rfl rfl rfl rfl (x_gtr rfl rfl) (fun c1_6 => ?_) (fun c1_6 => ?_)
    · skip
      refine st rfl rfl rfl rfl (x_pick0 rfl rfl) ?_
      refine rl_end rfl ?_
      refine al_k ?_
      refine cl_if1 rfl rfl ?_
      refine cl_seq rfl ?_
      refine cl_reg rfl ?_
      refine st rfl rfl rfl rfl (x_asg rfl) ?_
      refine st rfl rfl rfl rfl (x_asg rfl) ?_
      refine rl_end rfl ?_
      refine al_k ?_
      refine cl_ret rfl ?_
      refine fin2 rfl rfl rfl ?_
      exact .inr ⟨fun h => by have := h.1; omega, rfl, F⟩
    · skip
      refine st rfl rfl rfl rfl (x_pick0 rfl rfl) ?_
      refine rl_end rfl ?_
      refine al_k ?_
      refine cl_if0 rfl rfl ?_
      refine cl_skip rfl ?_
      refine al_k ?_
      refine cl_seq rfl ?_
      refine cl_reg rfl ?_
      refine st rfl rfl rfl rfl (x_move rfl) ?_
      refine st rfl rfl rfl rfl (x_len rfl Tryd.underlying22) ?_
      refine st rfl rfl rfl rfl (x_build rfl (bldA _ _)) ?_
      refine se rfl rfl rfl rfl (e_new (x_box (cs := preC (.slice none 0 0) qs.length) rfl rfl)) ?_
      rintro _ w3 ⟨rfl, bA, fr, _⟩
      replace F := F.trans fr
      have hap := bA.lt
      generalize hqa : w.heap.size = ap at bA hap ⊢
      refine st rfl rfl rfl rfl (x_asg rfl) ?_
      refine rl_end rfl ?_
      refine al_k ?_
      refine cl_seq rfl ?_
      refine cl_seq rfl ?_
      refine cl_reg rfl ?_
      refine st rfl rfl rfl rfl (x_move rfl) ?_
      refine st rfl rfl rfl rfl (x_len rfl Tryd.underlying22) ?_
      refine st rfl rfl rfl rfl (x_move rfl) ?_
      refine rl_end rfl ?_
      refine al_k ?_
      refine cl_block rfl ?_
      refine cl_loop (fun s : Nat × Value => [(25, .int .i64 s.1), (24, .int .i64 qs.length), (23, .slice A0 qs.length c0), (4, .pointer (some ⟨ap, 0, none⟩)), (0, .slice A0 qs.length c0)]) (fun s w' => s.1 ≤ qs.length ∧ (∀ (i : Nat) q, i < s.1 → qs[i]? = some q → 0 ≤ q ∧ q ≤ 256) ∧ Blk w' ap 64 (preC s.2 qs.length) ∧ w'.ownsRow w3.heap.size 68 4 s.2 (mkS qs s.1).length (flat encS (mkS qs s.1)) ∧ Fr [] w w' ∧ w3.heap.size ≤ w'.heap.size) (fun s => qs.length - s.1) (0, .slice none 0 0) rfl ⟨rfl, rfl, rfl, rfl, rfl, trivial⟩ ?_ ?_
      · exact ⟨Nat.zero_le _, fun i q h => absurd h (by omega), bA, own_nil _ _ _, F, Nat.le_refl _⟩
      · skip
        rintro ⟨m, svl⟩ wr ⟨hm, hq, bA, HO, F, zs⟩
        dsimp only at hm hq bA HO ⊢
        refine cl_seq rfl ?_
        refine cl_reg rfl ?_
        refine sf rfl rfl rfl rfl (x_lss rfl rfl) (fun c5_0 => ?_) (fun c5_0 => ?_)
        · skip
          refine rl_end rfl ?_
          refine al_k ?_
          refine cl_seq rfl ?_
          refine cl_if1 rfl rfl ?_
          refine cl_skip rfl ?_
          refine al_k ?_
          refine cl_seq rfl ?_
          refine cl_block rfl ?_
          refine cl_seq rfl ?_
          have hml : m < qs.length := by omega
          obtain ⟨q, hqm⟩ : ∃ q, qs[m]? = some q := ⟨_, List.getElem?_eq_getElem hml⟩
          obtain ⟨a, rfl, hc⟩ := hrow m q hqm
          replace hc := F.cell hc (by simp)
          refine cl_reg rfl ?_
          refine st rfl rfl rfl rfl (x_move rfl) ?_
          refine st rfl rfl rfl rfl (x_iag rfl rfl Tryd.underlying22 Tryd.sizeOf3 (by omega)) ?_
          refine st rfl rfl rfl rfl (x_ld rfl Tryd.isAgg3 hc) ?_
          refine st rfl rfl rfl rfl (x_asg rfl) ?_
          refine st rfl rfl rfl rfl (x_asg rfl) ?_
          refine rl_end rfl ?_
          refine al_k ?_
          refine cl_seq rfl ?_
          refine cl_seq rfl ?_
          refine cl_reg rfl ?_
          refine st rfl rfl rfl rfl (x_move rfl) ?_
          refine sf rfl rfl rfl rfl (x_lss rfl rfl) (fun c7_1 => ?_) (fun c7_1 => ?_)
          · skip
            refine st rfl rfl rfl rfl (x_move rfl) ?_
            refine so rfl rfl rfl rfl ?_
            refine so rfl rfl rfl rfl ?_
            refine st rfl rfl rfl rfl (x_pick1 rfl rfl) ?_
            refine rl_end rfl ?_
            refine al_k ?_
            refine cl_if1 rfl rfl ?_
            refine cl_seq rfl ?_
            refine cl_reg rfl ?_
            refine st rfl rfl rfl rfl (x_asg rfl) ?_
            refine st rfl rfl rfl rfl (x_asg rfl) ?_
            refine rl_end rfl ?_
            refine al_k ?_
            refine cl_ret rfl ?_
            refine fin2 rfl rfl rfl ?_
            exact .inr ⟨fun h => by have := h.2 m q hqm; omega, rfl, F⟩
          · skip
            refine st rfl rfl rfl rfl (x_move rfl) ?_
            refine st rfl rfl rfl rfl (x_move rfl) ?_
            refine sf rfl rfl rfl rfl (x_gtr rfl rfl) (fun c7_4 => ?_) (fun c7_4 => ?_)
            · skip
              refine st rfl rfl rfl rfl (x_pick0 rfl rfl) ?_
              refine rl_end rfl ?_
              refine al_k ?_
              refine cl_if1 rfl rfl ?_
              refine cl_seq rfl ?_
              refine cl_reg rfl ?_
              refine st rfl rfl rfl rfl (x_asg rfl) ?_
              refine st rfl rfl rfl rfl (x_asg rfl) ?_
              refine rl_end rfl ?_
              refine al_k ?_
              refine cl_ret rfl ?_
              refine fin2 rfl rfl rfl ?_
              exact .inr ⟨fun h => by have := h.2 m q hqm; omega, rfl, F⟩
            · skip
              refine st rfl rfl rfl rfl (x_pick0 rfl rfl) ?_
              refine rl_end rfl ?_
              refine al_k ?_
              refine cl_if0 rfl rfl ?_
              refine cl_skip rfl ?_
              refine al_k ?_
              refine cl_seq rfl ?_
              have hmk := mkS_len m (fun i q hi h => (hq i q hi h).2)
              refine cl_reg rfl ?_
              refine st rfl rfl rfl rfl (x_move rfl) ?_
              refine st rfl rfl rfl rfl (x_move rfl) ?_
              refine rl_end rfl ?_
              refine al_k ?_
              refine cl_block rfl ?_
              refine cl_loop (fun s : Nat × Value => [(37, .int .i64 s.1), (36, .int .i64 q), (5, .int .i64 m), (25, .int .i64 m), (24, .int .i64 qs.length), (23, .slice (some a) qs.length c0), (4, .pointer (some ⟨ap, 0, none⟩)), (0, .slice (some a) qs.length c0)]) (fun s w' => (s.1 : Int) ≤ q ∧ Blk w' ap 64 (preC s.2 qs.length) ∧ w'.ownsRow w3.heap.size 68 4 s.2 (mkS qs m ++ List.replicate s.1 (⟨m, 0, 0, false⟩ : Sl)).length (flat encS (mkS qs m ++ List.replicate s.1 (⟨m, 0, 0, false⟩ : Sl))) ∧ Fr [] w w' ∧ w3.heap.size ≤ w'.heap.size) (fun s => q.toNat - s.1) (0, svl) rfl ⟨rfl, rfl, rfl, rfl, rfl, rfl, rfl, rfl, trivial⟩ ?_ ?_
              · exact ⟨by dsimp only; omega, bA, by simpa using HO, F, zs⟩
              · skip
                rintro ⟨j, sv2⟩ wr2 ⟨hj, bA, HO, F, zs⟩
                dsimp only at hj bA HO ⊢
                have hln : (mkS qs m ++ List.replicate j (⟨m, 0, 0, false⟩ : Sl)).length ≤ 100000 := by rw [List.length_append, List.length_replicate]; omega
                refine cl_seq rfl ?_
                refine cl_reg rfl ?_
                refine sf rfl rfl rfl rfl (x_lss rfl rfl) (fun c10_0 => ?_) (fun c10_0 => ?_)
                · skip
                  refine rl_end rfl ?_
                  refine al_k ?_
                  refine cl_seq rfl ?_
                  refine cl_if1 rfl rfl ?_
                  refine cl_skip rfl ?_
                  refine al_k ?_
                  refine cl_seq rfl ?_
                  refine cl_block rfl ?_
                  refine cl_reg rfl ?_
                  refine st rfl rfl rfl rfl (x_move rfl) ?_
                  refine st rfl rfl rfl rfl (x_move rfl) ?_
                  refine st rfl rfl rfl rfl (x_nil rfl) ?_
                  refine st rfl rfl rfl rfl (x_fa rfl Tryd.underlying64 rfl Tryd.sizeOf60 0 rfl) ?_
                  refine st rfl rfl rfl rfl (x_ld rfl Tryd.isAgg60 (bA.cell rfl)) ?_
                  refine st rfl rfl rfl rfl (x_move rfl) ?_
                  refine st rfl rfl rfl rfl (x_build rfl (bldS _ _)) ?_
                  refine se rfl rfl rfl rfl (e_new (x_bsl rfl (bslS _ _))) ?_
                  rintro _ w11 ⟨rfl, b11, fr, _⟩
                  replace F := F.trans fr
                  replace zs := Nat.le_trans zs fr.size
                  replace HO := own_fr0 HO fr
                  replace bA := bA.fr0 fr
                  refine se rfl rfl rfl rfl (e_app 4 32 (.agg [.int .i64 0, .int .u64 0, .int .u64 0, .bool false].toArray) (encS ⟨m, 0, 0, false⟩) rfl rfl Tryd.underlying60 (by kernel_rfl) rfl (by decide) HO rfl b11.news (oneS _) (by omega) (by omega) zs) ?_
                  rintro v1 w12 ⟨HO1, hg, hat⟩
                  have hge := own_ge HO
                  replace bA := bA.fr (Fr.of_grown hg) (by intro hmm; cases hq2 : sv2.ownBlock with | none => simp [hq2] at hmm | some r => simp [hq2] at hmm; have := hge _ hq2; omega)
                  replace F := F.grown hg (fun q hq => Nat.le_trans (by omega) (hge q hq))
                  replace zs := Nat.le_trans zs (Fr.of_grown hg).size
                  clear HO
                  rw [← flat_snoc] at HO1
                  obtain ⟨A1, c1, rfl, _⟩ := own_slice HO1
                  refine st rfl rfl rfl rfl (x_nil rfl) ?_
                  refine st rfl rfl rfl rfl (x_fa rfl Tryd.underlying64 rfl Tryd.sizeOf60 0 rfl) ?_
                  refine sv rfl rfl rfl (v_1 rfl rfl rfl rfl Tryd.sizeOf60 bA (by simp [preC])) ?_
                  rintro w13 ⟨bA2, fr13⟩
                  replace bA : Blk w13 ap 64 (preC (.slice A1 _ c1) qs.length) := bA2
                  replace HO1 := own_fr HO1 fr13 (by intro q hq; simp at hq; omega)
                  replace F := F.trans_new fr13 (by intro q hq; simp at hq; right; omega)
                  replace zs := Nat.le_trans zs fr13.size
                  refine rl_end rfl ?_
                  refine al_k ?_
                  refine cl_reg rfl ?_
                  refine st rfl rfl rfl rfl (x_add rfl rfl (by omega)) ?_
                  refine st rfl rfl rfl rfl (x_move rfl) ?_
                  refine rl_end rfl ?_
                  refine again (j + 1, _) (show q.toNat - (j + 1) < q.toNat - j by omega) ⟨rfl, rfl, rfl, rfl, rfl, rfl, rfl, rfl, trivial⟩ ⟨by dsimp only; omega, bA, ?_, F, zs⟩
                  have er : (mkS qs m ++ List.replicate (j + 1) (⟨m, 0, 0, false⟩ : Sl)) = (mkS qs m ++ List.replicate j (⟨m, 0, 0, false⟩ : Sl)) ++ [(⟨m, 0, 0, false⟩ : Sl)] := by rw [List.replicate_succ', ← List.append_assoc]
                  dsimp only
                  rw [er, show ((mkS qs m ++ List.replicate j (⟨m, 0, 0, false⟩ : Sl)) ++ [(⟨m, 0, 0, false⟩ : Sl)]).length = (mkS qs m ++ List.replicate j (⟨m, 0, 0, false⟩ : Sl)).length + 1 from List.length_append]
                  exact HO1
                · skip
                  refine rl_end rfl ?_
                  refine al_k ?_
                  refine cl_seq rfl ?_
                  refine cl_if0 rfl rfl ?_
                  refine cl_exit rfl ?_
                  refine upd_self ?_
                  refine al_k ?_
                  refine cl_reg rfl ?_
                  refine st rfl rfl rfl rfl (x_add rfl rfl (by omega)) ?_
                  refine st rfl rfl rfl rfl (x_move rfl) ?_
                  refine rl_end rfl ?_
                  have ej : (j : Int) = q := by omega
                  have ej2 : j = q.toNat := by omega
                  refine again (m + 1, sv2) (show qs.length - (m + 1) < qs.length - m by omega) ⟨rfl, rfl, rfl, rfl, rfl, trivial⟩ ⟨by dsimp only; omega, ?_, bA, ?_, F, zs⟩
                  · intro i q2 hi h2
                    rcases Nat.lt_or_ge i m with h | h
                    · exact hq i q2 h h2
                    · obtain rfl : i = m := by dsimp only at hi; omega
                      rw [hqm] at h2
                      obtain rfl := Option.some.inj h2
                      omega
                  · dsimp only
                    rw [mkS_succ hqm, ← ej2]
                    exact HO
        · skip
          refine rl_end rfl ?_
          refine al_k ?_
          refine cl_seq rfl ?_
          refine cl_if0 rfl rfl ?_
          refine cl_exit rfl ?_
          refine upd_self ?_
          refine al_k ?_
          refine cl_seq rfl ?_
          have em : m = qs.length := by omega
          subst em
          have hok : okQ qs := ⟨⟨by omega, by omega⟩, fun i q h => hq i q (List.getElem?_eq_some_iff.1 h).1 h⟩
          have hnl := mkS_len qs.length (fun i q _ h => (hok.2 i q h).2)
          obtain ⟨A, c, sb, rfl, hsa, hsb, hSb⟩ := own_form HO hap bA.lt
          have hG1 := hG.fr F (by simp)
          have hgz : 0 < ap := by have := World.block_lt_of_cell? w _ (hG 0 _ rfl); rw [hqa] at this; exact this
          have zap := bA.lt
          have zF := F.size
          refine cl_reg rfl ?_
          refine st rfl rfl rfl rfl (x_move rfl) ?_
          refine st rfl rfl rfl rfl (x_nil rfl) ?_
          refine st rfl rfl rfl rfl (x_fa rfl Tryd.underlying64 rfl Tryd.sizeOf60 0 rfl) ?_
          refine st rfl rfl rfl rfl (x_ld rfl Tryd.isAgg60 (bA.cell rfl)) ?_
          refine st rfl rfl rfl rfl (x_len rfl Tryd.underlying60) ?_
          refine st rfl rfl rfl rfl (x_move rfl) ?_
          refine st rfl rfl rfl rfl (x_len rfl Tryd.underlying22) ?_
          refine sc rfl rfl rfl rfl (c_fn rfl Tryd.call26 (new_r (mkS qs qs.length).length qs.length hG1 (by omega) (by omega))) ?_
          rintro _ w14 ⟨p, nb, hb, rfl, Q, g1, g2, g3, fr⟩
          replace F := F.trans fr
          replace bA := bA.fr0 fr
          replace hSb := hSb.fr0 fr
          have bA0 := bA
          have hnn : p ≠ ap ∧ nb ≠ ap ∧ hb ≠ ap := by omega
          have hnb : nb ≠ sb ∧ hb ≠ sb := by omega
          refine st rfl rfl rfl rfl (x_move rfl) ?_
          refine st rfl rfl rfl rfl (x_ext rfl rfl) ?_
          refine st rfl rfl rfl rfl (x_ext rfl rfl) ?_
          refine st rfl rfl rfl rfl (x_asg rfl) ?_
          refine st rfl rfl rfl rfl (x_asg rfl) ?_
          refine rl_end rfl ?_
          refine al_k ?_
          refine cl_seq rfl ?_
          refine cl_seq rfl ?_
          refine cl_reg rfl ?_
          refine st rfl rfl rfl rfl (x_move rfl) ?_
          refine st rfl rfl rfl rfl ((x_neq rfl rfl).b0 (fun h => h rfl)) ?_
          refine rl_end rfl ?_
          refine al_k ?_
          refine cl_if0 rfl rfl ?_
          refine cl_skip rfl ?_
          refine al_k ?_
          refine cl_seq rfl ?_
          refine cl_reg rfl ?_
          refine st rfl rfl rfl rfl (x_move rfl) ?_
          refine st rfl rfl rfl rfl (x_move rfl) ?_
          refine st rfl rfl rfl rfl (x_nil rfl) ?_
          refine st rfl rfl rfl rfl (x_fa rfl Tryd.underlying64 rfl Tryd.sizeOf61 1 rfl) ?_
          refine sv rfl rfl rfl (v_1 rfl rfl rfl rfl Tryd.sizeOf61 bA (by simp [preC])) ?_
          rintro w17 ⟨bA2, fr17⟩
          replace bA : Blk w17 ap 64 (topC (.slice A (mkS qs qs.length).length c) p (List.replicate 16 0) qs.length) := bA2
          replace hSb := hSb.fr fr17 (fun h => by obtain ⟨_, _, b⟩ := hSb h; have := b.ne bA0 (by decide); simpa using this)
          replace Q := Q.fr fr17 (by simp; omega) (by simp; omega) (by simp; omega) (by simp; omega)
          replace F := F.trans_new fr17 (by intro q hq; simp at hq; right; omega)
          refine rl_end rfl ?_
          refine al_k ?_
          refine cl_seq rfl ?_
          refine cl_seq rfl ?_
          refine cl_reg rfl ?_
          refine st rfl rfl rfl rfl (x_move rfl) ?_
          refine st rfl rfl rfl rfl (x_nil rfl) ?_
          refine st rfl rfl rfl rfl (x_fa rfl Tryd.underlying64 rfl Tryd.sizeOf60 0 rfl) ?_
          refine st rfl rfl rfl rfl (x_ld rfl Tryd.isAgg60 (bA.cell rfl)) ?_
          refine st rfl rfl rfl rfl (x_len rfl Tryd.underlying60) ?_
          refine st rfl rfl rfl rfl (x_move rfl) ?_
          refine rl_end rfl ?_
          refine al_k ?_
          refine cl_block rfl ?_
          refine cl_loop (fun i : Nat => [(75, .int .i64 i), (74, .int .i64 (mkS qs qs.length).length), (73, .slice A (mkS qs qs.length).length c), (7, .pointer (some ⟨p, 0, none⟩)), (4, .pointer (some ⟨ap, 0, none⟩))]) (fun i w' => i ≤ (mkS qs qs.length).length ∧ LsR w' p nb hb (mkS qs qs.length).length qs.length (rowsU (mkS qs qs.length) qs.length i) ∧ Blk w' ap 64 (topC (.slice A (mkS qs qs.length).length c) p (List.replicate 16 0) qs.length) ∧ SbAt w' sb A (mkS qs qs.length) ∧ Fr [] w w') (fun i => (mkS qs qs.length).length - i) 0 rfl ⟨rfl, rfl, rfl, rfl, rfl, trivial⟩ ?_ ?_
          · exact ⟨Nat.zero_le _, by rw [rowsU_zero]; exact Q, bA, hSb, F⟩
          · skip
            rintro i wr4 ⟨hi, Q, bA, hSb, F⟩
            refine cl_seq rfl ?_
            refine cl_reg rfl ?_
            refine sf rfl rfl rfl rfl (x_lss rfl rfl) (fun c19_0 => ?_) (fun c19_0 => ?_)
            · skip
              refine rl_end rfl ?_
              refine al_k ?_
              refine cl_seq rfl ?_
              refine cl_if1 rfl rfl ?_
              refine cl_skip rfl ?_
              refine al_k ?_
              refine cl_seq rfl ?_
              refine cl_block rfl ?_
              refine cl_seq rfl ?_
              obtain ⟨s, hs⟩ : ∃ s, (mkS qs qs.length)[i]? = some s := ⟨_, List.getElem?_eq_getElem (by omega)⟩
              obtain ⟨rfl, rest, bS⟩ := hSb (ne_of_at hs)
              obtain ⟨pt, hpt, rfl⟩ := mkS_part hs
              refine cl_reg rfl ?_
              refine st rfl rfl rfl rfl (x_move rfl) ?_
              refine st rfl rfl rfl rfl (x_ia0 rfl rfl Tryd.underlying60 Tryd.sizeOf68 (by omega)) ?_
              refine st rfl rfl rfl rfl (x_ldn rfl Tryd.isAgg68 Tryd.sizeOf68 rfl (cell_p bS hs)) ?_
              have gF := F.size
              have zK : p < wr4.heap.size ∧ nb < wr4.heap.size ∧ hb < wr4.heap.size ∧ ap < wr4.heap.size ∧ sb < wr4.heap.size := by obtain ⟨⟨y, L, _⟩, _⟩ := Q; exact ⟨L.top.lt, L.nod.lt, L.hed.lt, bA.lt, bS.lt⟩
              refine se rfl rfl rfl rfl (e_new (x_alloc Tryd.zeroValue68 rfl)) ?_
              rintro _ w20 ⟨rfl, bC, fr, _⟩
              replace F := F.trans fr
              replace bA := bA.fr0 fr
              replace hSb := hSb.fr0 fr
              replace Q := Q.fr0 fr
              have gC := bC.lt
              refine st rfl rfl rfl rfl (x_asg rfl) ?_
              refine sv rfl rfl rfl (v_n rfl rfl (oneS _) Tryd.sizeOf68 rfl bC (by decide)) ?_
              rintro w21 ⟨bC2, fr21⟩
              replace bC : Blk w21 _ 68 (encS ⟨pt, 0, 0, false⟩) := bC2
              replace bA := bA.fr fr21 (by simp; omega)
              replace hSb := hSb.fr fr21 (fun _ => by simp; omega)
              replace Q := Q.fr fr21 (by simp; omega) (by simp; omega) (by simp; omega) (by simp; omega)
              replace F := F.trans_new fr21 (by intro q hq; simp at hq; right; omega)
              refine rl_end rfl ?_
              refine al_k ?_
              refine cl_reg rfl ?_
              refine st rfl rfl rfl rfl (x_move rfl) ?_
              refine st rfl rfl rfl rfl (x_fa rfl Tryd.underlying68 rfl Tryd.sizeOf3 0 rfl) ?_
              refine st rfl rfl rfl rfl (x_ld rfl Tryd.isAgg3 (bC.cell rfl)) ?_
              refine st rfl rfl rfl rfl (x_move rfl) ?_
              refine sc rfl rfl rfl rfl (c_fn rfl Tryd.call27 (push_r Q (pt : Int) (i : Int))) ?_
              rintro _ w22 ⟨rfl, Q2, fr⟩
              rw [rowsU_push hs hpt rfl] at Q2
              replace Q := Q2
              clear Q2
              replace bA := bA.fr fr (by simp; omega)
              replace hSb := hSb.fr fr (fun _ => by simp; omega)
              replace F := F.trans_new fr (by intro q hq; simp at hq; right; omega)
              refine rl_end rfl ?_
              refine al_k ?_
              refine cl_reg rfl ?_
              refine st rfl rfl rfl rfl (x_add rfl rfl (by omega)) ?_
              refine st rfl rfl rfl rfl (x_move rfl) ?_
              refine rl_end rfl ?_
              refine again (i + 1) (by omega) ⟨rfl, rfl, rfl, rfl, rfl, trivial⟩ ⟨by omega, Q, bA, hSb, F⟩
            · skip
              refine rl_end rfl ?_
              refine al_k ?_
              refine cl_seq rfl ?_
              refine cl_if0 rfl rfl ?_
              refine cl_exit rfl ?_
              refine upd_self ?_
              refine al_k ?_
              refine cl_seq rfl ?_
              refine cl_reg rfl ?_
              refine st rfl rfl rfl rfl (x_move rfl) ?_
              refine st rfl rfl rfl rfl (x_asg rfl) ?_
              refine st rfl rfl rfl rfl (x_asg rfl) ?_
              refine rl_end rfl ?_
              refine al_k ?_
              refine cl_ret rfl ?_
              refine fin2 rfl rfl rfl ?_
              have ei : i = (mkS qs qs.length).length := by omega
              subst ei
              exact .inl ⟨hok, ⟨ap, sb, p, nb, hb, c, A⟩, rfl, new_at hok bA hSb Q (by omega) (by omega), by dsimp only; omega, by dsimp only; omega, by dsimp only; omega, by dsimp only; omega, by dsimp only; omega, F⟩

end Go.Proofs.YtjjaijabdfoanaaDoor.Arn
