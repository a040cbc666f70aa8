/- The arena: the walk of the law ArenaSums. -/
import Derived.Test.YtjjaijabdfoanaaDoorArW10
import Derived.Test.YtjjaijabdfoanaaDoorArS
set_option linter.unusedVariables false
namespace Go.Proofs.YtjjaijabdfoanaaDoor.Arn
open Go Go.RowKit Go.Proofs.YtjjaijabdfoanaaDoor.Sx Go.Proofs.YtjjaijabdfoanaaDoor.Ls Go.Proofs.YtjjaijabdfoanaaDoor
set_option maxRecDepth 100000

theorem sums_no (w : World) (hG : Glb w) (A0 : Option Addr) (n c0 : Nat) (hc0 : n ≤ c0) (qs : List Int) (hql : qs.length = min n 17) (hno : ¬ okQ qs) (hrow : ∀ (j : Nat) q, qs[j]? = some q → ∃ a, A0 = some a ∧ w.cell? (a.add (((j : Nat) : Int).toNat * 1)) = some (.int .i64 q)) (A2 : Option Addr) (ln2 cp2 : Nat) : Cl Tryd.prog 6 [.slice A0 n c0, .slice A2 ln2 cp2] w (fun v w' => v = .bool true ∧ Fr [] w w') := by
  have F := Fr.refl [] w
  refine enter Tryd.func6 rfl Tryd.ntmps6 rfl ?_
  refine cl_seq rfl ?_
  refine cl_reg rfl ?_
  refine st rfl rfl rfl rfl (x_asg rfl) ?_
  refine rl_end rfl ?_
  refine al_k ?_
  refine cl_seq rfl ?_
  refine cl_seq rfl ?_
  refine cl_reg rfl ?_
  refine sc rfl rfl rfl rfl (c_fn rfl Tryd.call8 (awake_c w hG)) ?_
  rintro _ w1 ⟨rfl, fr⟩
  replace F := F.trans fr
  replace hrow : ∀ (j : Nat) q, qs[j]? = some q → ∃ a, A0 = some a ∧ w1.cell? (a.add (((j : Nat) : Int).toNat * 1)) = some (.int .i64 q) := fun j q h => let ⟨a, e, c⟩ := hrow j q h; ⟨a, e, fr.cell c (by simp)⟩
  refine st rfl rfl rfl rfl (x_not1 rfl) ?_
  refine rl_end rfl ?_
  refine al_k ?_
  refine cl_if0 rfl rfl ?_
  refine cl_skip rfl ?_
  refine al_k ?_
  refine cl_seq rfl ?_
  refine cl_reg rfl ?_
  refine st rfl rfl rfl rfl (x_move rfl) ?_
  refine sc rfl rfl rfl rfl (c_fn rfl Tryd.call9 (few_c _ A0 n c0 hc0)) ?_
  rintro _ wk ⟨rfl, hwk⟩
  obtain rfl := hwk.symm
  rw [← hql]
  refine st rfl rfl rfl rfl (x_asg rfl) ?_
  refine rl_end rfl ?_
  refine al_k ?_
  refine cl_seq rfl ?_
  refine cl_reg rfl ?_
  refine st rfl rfl rfl rfl (x_move rfl) ?_
  refine sc rfl rfl rfl rfl (c_fn rfl Tryd.call10 (anew_no _ (hG.fr F (by simp)) A0 c0 qs (by omega) hno hrow)) ?_
  rintro _ w4 ⟨rfl, fr⟩
  replace F := F.trans fr
  refine st rfl rfl rfl rfl (x_move rfl) ?_
  refine st rfl rfl rfl rfl (x_ext rfl rfl) ?_
  refine st rfl rfl rfl rfl (x_ext rfl rfl) ?_
  refine st rfl rfl rfl rfl (x_asg rfl) ?_
  refine st rfl rfl rfl rfl (x_asg rfl) ?_
  refine rl_end rfl ?_
  refine al_k ?_
  refine cl_seq rfl ?_
  refine cl_seq rfl ?_
  refine cl_reg rfl ?_
  refine st rfl rfl rfl rfl (x_move rfl) ?_
  refine st rfl rfl rfl rfl ((x_neq rfl rfl).b1 (by decide)) ?_
  refine st rfl rfl rfl rfl (x_move rfl) ?_
  refine so rfl rfl rfl rfl ?_
  refine so rfl rfl rfl rfl ?_
  refine st rfl rfl rfl rfl (x_pick1 rfl rfl) ?_
  refine rl_end rfl ?_
  refine al_k ?_
  refine cl_if1 rfl rfl ?_
  refine cl_seq rfl ?_
  refine cl_reg rfl ?_
  refine st rfl rfl rfl rfl (x_move rfl) ?_
  refine st rfl rfl rfl rfl (x_eqlp rfl rfl Tryd.underlying26) ?_
  refine st rfl rfl rfl rfl (x_asg rfl) ?_
  refine rl_end rfl ?_
  refine al_k ?_
  refine cl_ret rfl ?_
  refine fin1 rfl rfl ?_
  exact ⟨rfl, F⟩

theorem sums_ok (w : World) (hG : Glb w) (A0 : Option Addr) (n c0 : Nat) (hc0 : n ≤ c0) (qs : List Int) (hql : qs.length = min n 17) (hok : okQ qs) (hrow : ∀ (j : Nat) q, qs[j]? = some q → ∃ a, A0 = some a ∧ w.cell? (a.add (((j : Nat) : Int).toNat * 1)) = some (.int .i64 q)) (A2 : Option Addr) (ln2 cp2 : Nat) (hln : ln2 ≤ 9223372036854775807) (hp : ∀ j : Nat, j < ln2 → ∃ (x : Addr) (z0 : Int) (z1 : Int) (z2 : Int) (z3 : Int) (z4 : Int), A2 = some x ∧ (∀ i v, [(.int .i64 z0 : Value), .int .i64 z1, .int .i64 z2, .int .u64 z3, .int .u64 z4][i]? = some v → w.cell? ((x.add (((j : Nat) : Int).toNat * 5)).add i) = some v) ∧ (Lit.int .i64 z0).wf = true ∧ (Lit.int .i64 z1).wf = true ∧ (Lit.int .i64 z2).wf = true ∧ (Lit.int .u64 z3).wf = true ∧ (Lit.int .u64 z4).wf = true) : Cl Tryd.prog 6 [.slice A0 n c0, .slice A2 ln2 cp2] w (fun v w' => v = .bool true ∧ Fr [] w w') := by
  have F := Fr.refl [] w
  have hrow0 := hrow
  refine enter Tryd.func6 rfl Tryd.ntmps6 rfl ?_
  refine cl_seq rfl ?_
  refine cl_reg rfl ?_
  refine st rfl rfl rfl rfl (x_asg rfl) ?_
  refine rl_end rfl ?_
  refine al_k ?_
  refine cl_seq rfl ?_
  refine cl_seq rfl ?_
  refine cl_reg rfl ?_
  refine sc rfl rfl rfl rfl (c_fn rfl Tryd.call8 (awake_c w hG)) ?_
  rintro _ w1 ⟨rfl, fr⟩
  replace F := F.trans fr
  replace hrow : ∀ (j : Nat) q, qs[j]? = some q → ∃ a, A0 = some a ∧ w1.cell? (a.add (((j : Nat) : Int).toNat * 1)) = some (.int .i64 q) := fun j q h => let ⟨a, e, c⟩ := hrow j q h; ⟨a, e, fr.cell c (by simp)⟩
  refine st rfl rfl rfl rfl (x_not1 rfl) ?_
  refine rl_end rfl ?_
  refine al_k ?_
  refine cl_if0 rfl rfl ?_
  refine cl_skip rfl ?_
  refine al_k ?_
  refine cl_seq rfl ?_
  refine cl_reg rfl ?_
  refine st rfl rfl rfl rfl (x_move rfl) ?_
  refine sc rfl rfl rfl rfl (c_fn rfl Tryd.call9 (few_c _ A0 n c0 hc0)) ?_
  rintro _ wk ⟨rfl, hwk⟩
  obtain rfl := hwk.symm
  rw [← hql]
  refine st rfl rfl rfl rfl (x_asg rfl) ?_
  refine rl_end rfl ?_
  refine al_k ?_
  refine cl_seq rfl ?_
  refine cl_reg rfl ?_
  refine st rfl rfl rfl rfl (x_move rfl) ?_
  refine sc rfl rfl rfl rfl (c_fn rfl Tryd.call10 (anew_b _ (hG.fr F (by simp)) A0 c0 qs hok hrow)) ?_
  rintro _ w4 ⟨k, rfl, K, zk, zb, fr⟩
  have zF := F.size
  replace F := F.trans fr
  have H : St w w4 w4.heap.size k (Ar.new qs) (.slice none 0 0) (.slice none 0 0) [] [] := ⟨K, Two.nil _ _, F, by omega, zb, Nat.le_refl _, Nat.lt_of_le_of_lt (Nat.zero_le _) (World.block_lt_of_cell? w _ (hG 0 _ rfl))⟩
  generalize hBq : w4.heap.size = B at H
  clear K F zk zb zF
  refine st rfl rfl rfl rfl (x_move rfl) ?_
  refine st rfl rfl rfl rfl (x_ext rfl rfl) ?_
  refine st rfl rfl rfl rfl (x_ext rfl rfl) ?_
  refine st rfl rfl rfl rfl (x_asg rfl) ?_
  refine st rfl rfl rfl rfl (x_asg rfl) ?_
  refine rl_end rfl ?_
  refine al_k ?_
  refine cl_seq rfl ?_
  refine cl_seq rfl ?_
  refine cl_reg rfl ?_
  refine st rfl rfl rfl rfl (x_move rfl) ?_
  refine st rfl rfl rfl rfl ((x_neq rfl rfl).b0 (fun h => h rfl)) ?_
  refine st rfl rfl rfl rfl (x_move rfl) ?_
  refine st rfl rfl rfl rfl (x_move rfl) ?_
  refine st rfl rfl rfl rfl (x_eqlp rfl rfl Tryd.underlying26) ?_
  refine st rfl rfl rfl rfl (x_pick0 rfl rfl) ?_
  refine rl_end rfl ?_
  refine al_k ?_
  refine cl_if0 rfl rfl ?_
  refine cl_skip rfl ?_
  refine al_k ?_
  refine cl_seq rfl ?_
  refine cl_seq rfl ?_
  refine cl_reg rfl ?_
  refine st rfl rfl rfl rfl (x_asg rfl) ?_
  refine rl_end rfl ?_
  refine al_k ?_
  refine cl_block rfl ?_
  refine cl_loop (fun s : Nat × Ar => [(7, .int .i64 s.1), (5, .pointer (some ⟨k.ap, 0, none⟩)), (1, .slice A2 ln2 cp2), (0, .slice A0 qs.length c0)]) (fun s w' => (s.1 ≤ ln2 ∧ s.1 ≤ 60) ∧ St w w' B k s.2 (.slice none 0 0) (.slice none 0 0) [] [] ∧ Sz qs s.2) (fun s => 60 - s.1) (0, Ar.new qs) rfl ⟨rfl, rfl, rfl, rfl, trivial⟩ ?_ ?_
  · exact ⟨⟨Nat.zero_le _, Nat.zero_le _⟩, H, Sz.new hok⟩
  · skip
    rintro ⟨i, x⟩ wr ⟨⟨hi, hi6⟩, H, hS⟩
    dsimp only at hi hi6 H hS ⊢
    refine cl_seq rfl ?_
    refine cl_seq rfl ?_
    refine cl_reg rfl ?_
    refine st rfl rfl rfl rfl (x_move rfl) ?_
    refine st rfl rfl rfl rfl (x_move rfl) ?_
    refine st rfl rfl rfl rfl (x_len rfl Tryd.underlying23) ?_
    refine sf rfl rfl rfl rfl (x_lss rfl rfl) (fun c8_3 => ?_) (fun c8_3 => ?_)
    · skip
      refine st rfl rfl rfl rfl (x_move rfl) ?_
      refine st rfl rfl rfl rfl (x_move rfl) ?_
      refine sf rfl rfl rfl rfl (x_lss rfl rfl) (fun c8_6 => ?_) (fun c8_6 => ?_)
      · skip
        refine st rfl rfl rfl rfl (x_pick1 rfl rfl) ?_
        refine rl_end rfl ?_
        refine al_k ?_
        refine cl_if1 rfl rfl ?_
        refine cl_skip rfl ?_
        refine al_k ?_
        refine cl_seq rfl ?_
        refine cl_block rfl ?_
        refine cl_seq rfl ?_
        have hil : i < ln2 := by omega
        obtain ⟨ad, kd, pt, nn, gg, xx, rfl, hc, _⟩ := hp i hil
        replace hc : ∀ j v, ([.int .i64 kd, .int .i64 pt, .int .i64 nn, .int .u64 gg, .int .u64 xx] : List Value)[j]? = some v → wr.cell? ((ad.add (((i : Nat) : Int).toNat * 5)).add j) = some v := fun j v h => H.F.cell (hc j v h) (by simp)
        refine cl_reg rfl ?_
        refine st rfl rfl rfl rfl (x_move rfl) ?_
        refine st rfl rfl rfl rfl (x_move rfl) ?_
        refine st rfl rfl rfl rfl (x_iag rfl rfl Tryd.underlying23 Tryd.sizeOf35 (by omega)) ?_
        refine st rfl rfl rfl rfl (x_ldg (cs := [.int .i64 kd, .int .i64 pt, .int .i64 nn, .int .u64 gg, .int .u64 xx]) rfl Tryd.isAgg35 Tryd.sizeOf35 rfl hc) ?_
        refine se rfl rfl rfl rfl (e_new (x_alloc Tryd.zeroValue35 rfl)) ?_
        rintro _ w11 ⟨rfl, b10, fr, _⟩
        have hfb := H.T.fresh _ (Nat.le_refl wr.heap.size)
        have hbo := H.zB
        replace H := H.fr0 fr
        generalize hboq : wr.heap.size = bo at b10 hfb hbo ⊢
        clear fr
        refine sv rfl rfl rfl (v_n (vs := [.int .i64 kd, .int .i64 pt, .int .i64 nn, .int .u64 gg, .int .u64 xx]) rfl rfl (by intro v hv; simp at hv; rcases hv with rfl | rfl | rfl | rfl | rfl <;> rfl) Tryd.sizeOf35 rfl b10 (by decide)) ?_
        rintro w11b ⟨b10b, fr⟩
        replace b10 : Blk w11b bo 35 [.int .i64 kd, .int .i64 pt, .int .i64 nn, .int .u64 gg, .int .u64 xx] := b10b
        replace H := H.own1 fr ⟨hbo, hfb⟩
        clear fr b10b
        refine rl_end rfl ?_
        refine al_k ?_
        refine cl_seq rfl ?_
        refine cl_reg rfl ?_
        refine st rfl rfl rfl rfl (x_fa rfl Tryd.underlying35 rfl Tryd.sizeOf3 0 rfl) ?_
        refine st rfl rfl rfl rfl (x_ld rfl Tryd.isAgg3 (b10.cell rfl)) ?_
        refine rl_end rfl ?_
        refine al_k ?_
        refine cl_block rfl ?_
        refine cl_seq rfl ?_
        refine cl_reg rfl ?_
        refine sf rfl rfl rfl rfl (x_eql rfl rfl) (fun c13_0 => ?_) (fun c13_0 => ?_)
        · skip
          refine st rfl rfl rfl rfl (x_asg rfl) ?_
          refine rl_end rfl ?_
          refine al_k ?_
          refine cl_if1 rfl rfl ?_
          refine cl_seq rfl ?_
          refine cl_reg rfl ?_
          refine st rfl rfl rfl rfl (x_move rfl) ?_
          refine st rfl rfl rfl rfl (x_fa rfl Tryd.underlying35 rfl Tryd.sizeOf3 1 rfl) ?_
          refine st rfl rfl rfl rfl (x_ld rfl Tryd.isAgg3 (b10.cell rfl)) ?_
          refine sc rfl rfl rfl rfl (c_fn rfl Tryd.call11 (alloc_a H.K hS.I pt)) ?_
          rintro _ w13 ⟨rfl, K, fr⟩
          have har := hS.I.alloc_read pt
          replace b10 := H.bx b10 hbo fr
          replace H := H.ar K fr
          clear K fr
          refine st rfl rfl rfl rfl (x_move rfl) ?_
          refine st rfl rfl rfl rfl (x_ext rfl rfl) ?_
          refine st rfl rfl rfl rfl (x_ext rfl rfl) ?_
          refine se rfl rfl rfl rfl (e_new (x_alloc Tryd.zeroValue33 rfl)) ?_
          rintro _ w13b ⟨rfl, b11, fr, _⟩
          have hfc := H.T.fresh _ (Nat.le_refl w13.heap.size)
          have hbp := H.zB
          replace H := H.fr0 fr
          generalize hbpq : w13.heap.size = bp at b11 hfc hbp ⊢
          clear fr b10
          refine sv rfl rfl rfl (v_n (vs := [.int .i64 (x.alloc pt).2.1, .int .u64 (x.alloc pt).2.2.1]) rfl rfl (by intro v hv; simp at hv; rcases hv with rfl | rfl <;> rfl) Tryd.sizeOf33 rfl b11 (by decide)) ?_
          rintro w13c ⟨b11b, fr⟩
          replace b11 : Blk w13c bp 33 [.int .i64 (x.alloc pt).2.1, .int .u64 (x.alloc pt).2.2.1] := b11b
          replace H := H.own1 fr ⟨hbp, hfc⟩
          clear fr b11b
          refine st rfl rfl rfl rfl (x_asg rfl) ?_
          refine rl_end rfl ?_
          refine al_k ?_
          refine cl_seq rfl ?_
          refine cl_reg rfl ?_
          refine st rfl rfl rfl rfl (x_move rfl) ?_
          refine st rfl rfl rfl rfl (x_ldn rfl Tryd.isAgg33 Tryd.sizeOf33 rfl (by intro j v hv; rw [Nat.zero_add]; exact b11.cell hv)) ?_
          refine sc rfl rfl rfl rfl (c_fn rfl Tryd.call13 (read_a _ k (x.alloc pt).1 H.K (x.alloc pt).2.1 (x.alloc pt).2.2.1)) ?_
          rintro _ w15 ⟨rfl, fr⟩
          replace H := H.fr0 fr
          clear fr
          refine st rfl rfl rfl rfl (x_move rfl) ?_
          refine st rfl rfl rfl rfl (x_ext rfl rfl) ?_
          refine st rfl rfl rfl rfl (x_ext rfl rfl) ?_
          refine st rfl rfl rfl rfl (x_asg rfl) ?_
          refine st rfl rfl rfl rfl (x_asg rfl) ?_
          refine rl_end rfl ?_
          refine al_k ?_
          refine cl_seq rfl ?_
          refine cl_reg rfl ?_
          refine st rfl rfl rfl rfl (x_move rfl) ?_
          refine sf rfl rfl rfl rfl (x_eql rfl rfl) (fun c16_1 => ?_) (fun c16_1 => ?_)
          · skip
            refine st rfl rfl rfl rfl (x_move rfl) ?_
            refine st rfl rfl rfl rfl (x_move rfl) ?_
            refine st rfl rfl rfl rfl ((x_neq rfl rfl).b0 (fun h => h (by rw [har c16_1]))) ?_
            refine st rfl rfl rfl rfl (x_move rfl) ?_
            refine st rfl rfl rfl rfl (x_move rfl) ?_
            refine st rfl rfl rfl rfl ((x_neq rfl rfl).b0 (fun h => h (by rw [har c16_1]))) ?_
            refine st rfl rfl rfl rfl (x_pick0 rfl rfl) ?_
            refine st rfl rfl rfl rfl (x_pick1 rfl rfl) ?_
            refine rl_end rfl ?_
            refine al_k ?_
            refine cl_if0 rfl rfl ?_
            refine cl_skip rfl ?_
            refine al_k ?_
            refine cl_reg rfl ?_
            refine st rfl rfl rfl rfl (x_move rfl) ?_
            refine st rfl rfl rfl rfl (x_add rfl rfl (by omega)) ?_
            refine st rfl rfl rfl rfl (x_asg rfl) ?_
            refine rl_end rfl ?_
            refine again (i + 1, (x.alloc pt).1) (show 60 - (i + 1) < 60 - i by omega) ⟨rfl, rfl, rfl, rfl, trivial⟩ ⟨⟨by dsimp only; omega, by dsimp only; omega⟩, H, hS.alloc pt⟩
          · skip
            refine st rfl rfl rfl rfl (x_move rfl) ?_
            refine so rfl rfl rfl rfl ?_
            refine so rfl rfl rfl rfl ?_
            refine so rfl rfl rfl rfl ?_
            refine so rfl rfl rfl rfl ?_
            refine so rfl rfl rfl rfl ?_
            refine so rfl rfl rfl rfl ?_
            refine st rfl rfl rfl rfl (x_pick0 rfl rfl) ?_
            refine rl_end rfl ?_
            refine al_k ?_
            refine cl_if0 rfl rfl ?_
            refine cl_skip rfl ?_
            refine al_k ?_
            refine cl_reg rfl ?_
            refine st rfl rfl rfl rfl (x_move rfl) ?_
            refine st rfl rfl rfl rfl (x_add rfl rfl (by omega)) ?_
            refine st rfl rfl rfl rfl (x_asg rfl) ?_
            refine rl_end rfl ?_
            refine again (i + 1, (x.alloc pt).1) (show 60 - (i + 1) < 60 - i by omega) ⟨rfl, rfl, rfl, rfl, trivial⟩ ⟨⟨by dsimp only; omega, by dsimp only; omega⟩, H, hS.alloc pt⟩
        · skip
          refine st rfl rfl rfl rfl (x_asg rfl) ?_
          refine rl_end rfl ?_
          refine al_k ?_
          refine cl_if0 rfl rfl ?_
          refine cl_seq rfl ?_
          refine cl_reg rfl ?_
          refine sf rfl rfl rfl rfl (x_eql rfl rfl) (fun c18_0 => ?_) (fun c18_0 => ?_)
          · skip
            refine st rfl rfl rfl rfl (x_asg rfl) ?_
            refine rl_end rfl ?_
            refine al_k ?_
            refine cl_if1 rfl rfl ?_
            refine cl_reg rfl ?_
            refine st rfl rfl rfl rfl (x_move rfl) ?_
            refine st rfl rfl rfl rfl (x_fa rfl Tryd.underlying35 rfl Tryd.sizeOf33 2 rfl) ?_
            refine st rfl rfl rfl rfl (x_ldn rfl Tryd.isAgg33 Tryd.sizeOf33 rfl (blk_two b10)) ?_
            refine st rfl rfl rfl rfl (x_fa rfl Tryd.underlying35 rfl Tryd.sizeOf31 4 rfl) ?_
            refine st rfl rfl rfl rfl (x_ld rfl Tryd.isAgg31 (b10.cell rfl)) ?_
            refine sc rfl rfl rfl rfl (c_fn rfl Tryd.call15 (write_a _ k x H.K nn gg xx)) ?_
            rintro _ w19 ⟨rfl, K, fr⟩
            replace b10 := H.bx b10 hbo fr
            replace H := H.ar K fr
            clear K fr
            refine rl_end rfl ?_
            refine al_k ?_
            refine cl_reg rfl ?_
            refine st rfl rfl rfl rfl (x_move rfl) ?_
            refine st rfl rfl rfl rfl (x_add rfl rfl (by omega)) ?_
            refine st rfl rfl rfl rfl (x_asg rfl) ?_
            refine rl_end rfl ?_
            refine again (i + 1, (x.write nn gg xx).1) (show 60 - (i + 1) < 60 - i by omega) ⟨rfl, rfl, rfl, rfl, trivial⟩ ⟨⟨by dsimp only; omega, by dsimp only; omega⟩, H, hS.write nn gg xx⟩
          · skip
            refine st rfl rfl rfl rfl (x_asg rfl) ?_
            refine rl_end rfl ?_
            refine al_k ?_
            refine cl_if0 rfl rfl ?_
            refine cl_seq rfl ?_
            refine cl_reg rfl ?_
            refine sf rfl rfl rfl rfl (x_eql rfl rfl) (fun c20_0 => ?_) (fun c20_0 => ?_)
            · skip
              refine st rfl rfl rfl rfl (x_asg rfl) ?_
              refine rl_end rfl ?_
              refine al_k ?_
              refine cl_if1 rfl rfl ?_
              refine cl_reg rfl ?_
              refine st rfl rfl rfl rfl (x_move rfl) ?_
              refine st rfl rfl rfl rfl (x_fa rfl Tryd.underlying35 rfl Tryd.sizeOf33 2 rfl) ?_
              refine st rfl rfl rfl rfl (x_ldn rfl Tryd.isAgg33 Tryd.sizeOf33 rfl (blk_two b10)) ?_
              refine sc rfl rfl rfl rfl (c_fn rfl Tryd.call12 (free_a H.K hS.I nn gg)) ?_
              rintro _ w21 ⟨rfl, K, fr⟩
              replace b10 := H.bx b10 hbo fr
              replace H := H.ar K fr
              clear K fr
              refine rl_end rfl ?_
              refine al_k ?_
              refine cl_reg rfl ?_
              refine st rfl rfl rfl rfl (x_move rfl) ?_
              refine st rfl rfl rfl rfl (x_add rfl rfl (by omega)) ?_
              refine st rfl rfl rfl rfl (x_asg rfl) ?_
              refine rl_end rfl ?_
              refine again (i + 1, (x.drop nn gg).1) (show 60 - (i + 1) < 60 - i by omega) ⟨rfl, rfl, rfl, rfl, trivial⟩ ⟨⟨by dsimp only; omega, by dsimp only; omega⟩, H, hS.drop nn gg⟩
            · skip
              refine st rfl rfl rfl rfl (x_asg rfl) ?_
              refine rl_end rfl ?_
              refine al_k ?_
              refine cl_if0 rfl rfl ?_
              refine cl_reg rfl ?_
              refine st rfl rfl rfl rfl (x_move rfl) ?_
              refine st rfl rfl rfl rfl (x_fa rfl Tryd.underlying35 rfl Tryd.sizeOf33 2 rfl) ?_
              refine st rfl rfl rfl rfl (x_ldn rfl Tryd.isAgg33 Tryd.sizeOf33 rfl (blk_two b10)) ?_
              refine sc rfl rfl rfl rfl (c_fn rfl Tryd.call13 (read_a _ k x H.K nn gg)) ?_
              rintro _ w12 ⟨rfl, fr⟩
              replace H := H.fr0 fr
              clear fr
              refine rl_end rfl ?_
              refine al_k ?_
              refine cl_reg rfl ?_
              refine st rfl rfl rfl rfl (x_move rfl) ?_
              refine st rfl rfl rfl rfl (x_add rfl rfl (by omega)) ?_
              refine st rfl rfl rfl rfl (x_asg rfl) ?_
              refine rl_end rfl ?_
              refine again (i + 1, x) (show 60 - (i + 1) < 60 - i by omega) ⟨rfl, rfl, rfl, rfl, trivial⟩ ⟨⟨by dsimp only; omega, by dsimp only; omega⟩, H, hS⟩
      · skip
        refine st rfl rfl rfl rfl (x_pick1 rfl rfl) ?_
        refine rl_end rfl ?_
        refine al_k ?_
        refine cl_if0 rfl rfl ?_
        refine cl_exit rfl ?_
        refine upd_self ?_
        refine al_k ?_
        refine cl_seq rfl ?_
        refine cl_reg rfl ?_
        refine st rfl rfl rfl rfl (x_asg rfl) ?_
        refine rl_end rfl ?_
        refine al_k ?_
        refine cl_seq rfl ?_
        refine cl_seq rfl ?_
        refine cl_reg rfl ?_
        refine st rfl rfl rfl rfl (x_asg rfl) ?_
        refine rl_end rfl ?_
        refine al_k ?_
        refine cl_block rfl ?_
        refine cl_loop (fun p : Nat => [(14, .int .i64 p), (13, .int .i64 ((mkS qs p).length : Nat)), (5, .pointer (some ⟨k.ap, 0, none⟩)), (0, .slice A0 qs.length c0)]) (fun p w' => p ≤ qs.length ∧ St w w' B k x (.slice none 0 0) (.slice none 0 0) [] []) (fun p => qs.length - p) 0 rfl ⟨rfl, rfl, rfl, rfl, trivial⟩ ?_ ?_
        · exact ⟨Nat.zero_le _, H⟩
        · skip
          rintro p wp ⟨hpl, H⟩
          refine cl_seq rfl ?_
          refine cl_seq rfl ?_
          refine cl_reg rfl ?_
          refine st rfl rfl rfl rfl (x_move rfl) ?_
          refine st rfl rfl rfl rfl (x_move rfl) ?_
          refine st rfl rfl rfl rfl (x_len rfl Tryd.underlying22) ?_
          refine sf rfl rfl rfl rfl (x_lss rfl rfl) (fun c24_3 => ?_) (fun c24_3 => ?_)
          · skip
            refine rl_end rfl ?_
            refine al_k ?_
            refine cl_if1 rfl rfl ?_
            refine cl_skip rfl ?_
            refine al_k ?_
            refine cl_seq rfl ?_
            refine cl_block rfl ?_
            refine cl_seq rfl ?_
            have hpl2 : p < qs.length := by omega
            obtain ⟨q, hqp⟩ : ∃ q, qs[p]? = some q := ⟨_, List.getElem?_eq_getElem hpl2⟩
            obtain ⟨hq0, hq256⟩ := hok.2 p q hqp
            obtain ⟨cc, ff, hc1, hc2, hc3, hcf, hnm⟩ := hS.sum hqp hq0
            obtain ⟨aq, rfl, hcq⟩ := hrow0 p q hqp
            refine cl_reg rfl ?_
            refine st rfl rfl rfl rfl (x_move rfl) ?_
            refine st rfl rfl rfl rfl (x_move rfl) ?_
            refine sc rfl rfl rfl rfl (c_fn rfl Tryd.call21 (counts_a _ k x H.K (p : Int))) ?_
            rintro _ w26 ⟨rfl, fr⟩
            replace H := H.fr0 fr
            clear fr
            rw [hc1, hc2, hc3]
            refine st rfl rfl rfl rfl (x_move rfl) ?_
            refine st rfl rfl rfl rfl (x_ext rfl rfl) ?_
            refine st rfl rfl rfl rfl (x_ext rfl rfl) ?_
            refine st rfl rfl rfl rfl (x_ext rfl rfl) ?_
            refine st rfl rfl rfl rfl (x_asg rfl) ?_
            refine st rfl rfl rfl rfl (x_asg rfl) ?_
            refine st rfl rfl rfl rfl (x_asg rfl) ?_
            refine rl_end rfl ?_
            refine al_k ?_
            refine cl_seq rfl ?_
            refine cl_reg rfl ?_
            refine st rfl rfl rfl rfl (x_move rfl) ?_
            refine st rfl rfl rfl rfl (x_move rfl) ?_
            refine sc rfl rfl rfl rfl (c_fn rfl Tryd.call23 (held_c _ k x H.K (by have := H.K.lts.1.1; omega) (p : Int) 1000 (by decide))) ?_
            rintro _ w27 ⟨A9, c9, kk, rfl, hk, hkl, _, fr⟩
            replace H := H.fr0 fr
            clear fr
            have ekk : kk = cc := by rw [hnm] at hk hkl; split at hk <;> omega
            refine st rfl rfl rfl rfl (x_move rfl) ?_
            refine st rfl rfl rfl rfl (x_ext rfl rfl) ?_
            refine st rfl rfl rfl rfl (x_ext rfl rfl) ?_
            refine st rfl rfl rfl rfl (x_asg rfl) ?_
            refine st rfl rfl rfl rfl (x_asg rfl) ?_
            refine rl_end rfl ?_
            refine al_k ?_
            refine cl_seq rfl ?_
            refine cl_seq rfl ?_
            refine cl_reg rfl ?_
            refine st rfl rfl rfl rfl (x_move rfl) ?_
            refine st rfl rfl rfl rfl ((x_neq rfl rfl).b0 (fun h => h rfl)) ?_
            refine st rfl rfl rfl rfl (x_move rfl) ?_
            refine st rfl rfl rfl rfl (x_move rfl) ?_
            refine st rfl rfl rfl rfl (x_move rfl) ?_
            refine st rfl rfl rfl rfl (x_add rfl rfl (by omega)) ?_
            refine st rfl rfl rfl rfl (x_move rfl) ?_
            refine st rfl rfl rfl rfl (x_move rfl) ?_
            refine st rfl rfl rfl rfl (x_iag rfl rfl Tryd.underlying22 Tryd.sizeOf3 (by omega)) ?_
            refine st rfl rfl rfl rfl (x_ld rfl Tryd.isAgg3 (H.F.cell hcq (by simp))) ?_
            refine st rfl rfl rfl rfl ((x_neq rfl rfl).b0 (fun h => h hcf)) ?_
            refine st rfl rfl rfl rfl (x_pick0 rfl rfl) ?_
            refine st rfl rfl rfl rfl (x_move rfl) ?_
            refine st rfl rfl rfl rfl (x_move rfl) ?_
            refine st rfl rfl rfl rfl ((x_lss rfl rfl).b0 (by omega)) ?_
            refine st rfl rfl rfl rfl (x_pick0 rfl rfl) ?_
            refine st rfl rfl rfl rfl (x_move rfl) ?_
            refine st rfl rfl rfl rfl (x_move rfl) ?_
            refine st rfl rfl rfl rfl ((x_lss rfl rfl).b0 (by omega)) ?_
            refine st rfl rfl rfl rfl (x_pick0 rfl rfl) ?_
            refine st rfl rfl rfl rfl (x_move rfl) ?_
            refine st rfl rfl rfl rfl (x_move rfl) ?_
            refine st rfl rfl rfl rfl (x_not1 rfl) ?_
            refine st rfl rfl rfl rfl (x_pick0 rfl rfl) ?_
            refine st rfl rfl rfl rfl (x_move rfl) ?_
            refine st rfl rfl rfl rfl (x_move rfl) ?_
            refine st rfl rfl rfl rfl (x_len rfl Tryd.underlying30) ?_
            refine st rfl rfl rfl rfl (x_move rfl) ?_
            refine st rfl rfl rfl rfl ((x_neq rfl rfl).b0 (fun h => h (by omega))) ?_
            refine st rfl rfl rfl rfl (x_pick0 rfl rfl) ?_
            refine rl_end rfl ?_
            refine al_k ?_
            refine cl_if0 rfl rfl ?_
            refine cl_skip rfl ?_
            refine al_k ?_
            refine cl_seq rfl ?_
            refine cl_reg rfl ?_
            refine st rfl rfl rfl rfl (x_asg rfl) ?_
            refine rl_end rfl ?_
            refine al_k ?_
            refine cl_block rfl ?_
            refine cl_loop (fun kq : Nat => [(20, .int .i64 kq), (14, .int .i64 p), (13, .int .i64 (((mkS qs p).length + kq : Nat) : Int)), (5, .pointer (some ⟨k.ap, 0, none⟩)), (0, .slice (some aq) qs.length c0)]) (fun kq w' => (kq : Int) ≤ q ∧ St w w' B k x (.slice none 0 0) (.slice none 0 0) [] []) (fun kq => q.toNat - kq) 0 rfl ⟨rfl, rfl, rfl, rfl, rfl, trivial⟩ ?_ ?_
            · exact ⟨by omega, H⟩
            · skip
              rintro kq wk ⟨hkq, H⟩
              refine cl_seq rfl ?_
              refine cl_seq rfl ?_
              refine cl_reg rfl ?_
              refine st rfl rfl rfl rfl (x_move rfl) ?_
              refine st rfl rfl rfl rfl (x_move rfl) ?_
              refine st rfl rfl rfl rfl (x_move rfl) ?_
              refine st rfl rfl rfl rfl (x_iag rfl rfl Tryd.underlying22 Tryd.sizeOf3 (by omega)) ?_
              refine st rfl rfl rfl rfl (x_ld rfl Tryd.isAgg3 (H.F.cell hcq (by simp))) ?_
              refine sf rfl rfl rfl rfl (x_lss rfl rfl) (fun c31_5 => ?_) (fun c31_5 => ?_)
              · skip
                refine rl_end rfl ?_
                refine al_k ?_
                refine cl_if1 rfl rfl ?_
                refine cl_skip rfl ?_
                refine al_k ?_
                refine cl_seq rfl ?_
                refine cl_block rfl ?_
                refine cl_seq rfl ?_
                obtain ⟨s, hs, hsp⟩ := hS.at hqp c31_5
                obtain ⟨l1, l2, l3⟩ := look_at hs
                have hpt := part_some (x := x) (N := (((mkS qs p).length + kq : Nat) : Int)) (by omega) (by rw [Int.toNat_natCast]; exact hs)
                have hp1 : (x.part_ (((mkS qs p).length + kq : Nat) : Int)).1 = p := by rw [hpt]; exact hsp
                have hp2 : (x.part_ (((mkS qs p).length + kq : Nat) : Int)).2 = true := by rw [hpt]
                have hsl := (List.getElem?_eq_some_iff.1 hs).1
                have hs0 := H.K.sl0
                refine cl_reg rfl ?_
                refine st rfl rfl rfl rfl (x_move rfl) ?_
                refine st rfl rfl rfl rfl (x_move rfl) ?_
                refine sc rfl rfl rfl rfl (c_fn rfl Tryd.call18 (look_a _ k x H.K (((mkS qs p).length + kq : Nat) : Int))) ?_
                rintro _ w33 ⟨rfl, fr⟩
                replace H := H.fr0 fr
                clear fr
                rw [l1, l2, l3]
                refine st rfl rfl rfl rfl (x_move rfl) ?_
                refine st rfl rfl rfl rfl (x_ext rfl rfl) ?_
                refine st rfl rfl rfl rfl (x_ext rfl rfl) ?_
                refine st rfl rfl rfl rfl (x_ext rfl rfl) ?_
                cases hf33_6 : (s.held)
                · skip
                  refine st rfl rfl rfl rfl (x_asg rfl) ?_
                  refine st rfl rfl rfl rfl (x_asg rfl) ?_
                  refine st rfl rfl rfl rfl (x_asg rfl) ?_
                  refine rl_end rfl ?_
                  refine al_k ?_
                  refine cl_seq rfl ?_
                  refine cl_reg rfl ?_
                  refine st rfl rfl rfl rfl (x_move rfl) ?_
                  refine st rfl rfl rfl rfl (x_move rfl) ?_
                  refine sc rfl rfl rfl rfl (c_fn rfl Tryd.call14 (part_a _ k x H.K (((mkS qs p).length + kq : Nat) : Int))) ?_
                  rintro _ wk ⟨rfl, hwk⟩
                  obtain rfl := hwk.symm
                  rw [hp1, hp2]
                  refine st rfl rfl rfl rfl (x_move rfl) ?_
                  refine st rfl rfl rfl rfl (x_ext rfl rfl) ?_
                  refine st rfl rfl rfl rfl (x_ext rfl rfl) ?_
                  refine st rfl rfl rfl rfl (x_asg rfl) ?_
                  refine st rfl rfl rfl rfl (x_asg rfl) ?_
                  refine rl_end rfl ?_
                  refine al_k ?_
                  refine cl_seq rfl ?_
                  refine cl_seq rfl ?_
                  refine cl_reg rfl ?_
                  refine st rfl rfl rfl rfl (x_move rfl) ?_
                  refine st rfl rfl rfl rfl (x_not0 rfl) ?_
                  refine st rfl rfl rfl rfl (x_move rfl) ?_
                  refine st rfl rfl rfl rfl (x_move rfl) ?_
                  refine st rfl rfl rfl rfl ((x_neq rfl rfl).b0 (fun h => h (hS.I.pay _ _ hs hf33_6))) ?_
                  refine st rfl rfl rfl rfl (x_pick1 rfl rfl) ?_
                  refine st rfl rfl rfl rfl (x_move rfl) ?_
                  refine st rfl rfl rfl rfl (x_move rfl) ?_
                  refine st rfl rfl rfl rfl (x_not1 rfl) ?_
                  refine st rfl rfl rfl rfl (x_pick0 rfl rfl) ?_
                  refine st rfl rfl rfl rfl (x_move rfl) ?_
                  refine st rfl rfl rfl rfl (x_move rfl) ?_
                  refine st rfl rfl rfl rfl (x_move rfl) ?_
                  refine st rfl rfl rfl rfl ((x_neq rfl rfl).b0 (fun h => h rfl)) ?_
                  refine st rfl rfl rfl rfl (x_pick0 rfl rfl) ?_
                  refine rl_end rfl ?_
                  refine al_k ?_
                  refine cl_if0 rfl rfl ?_
                  refine cl_skip rfl ?_
                  refine al_k ?_
                  refine cl_reg rfl ?_
                  refine st rfl rfl rfl rfl (x_move rfl) ?_
                  refine st rfl rfl rfl rfl (x_add rfl rfl (by omega)) ?_
                  refine st rfl rfl rfl rfl (x_asg rfl) ?_
                  refine rl_end rfl ?_
                  refine al_k ?_
                  refine cl_reg rfl ?_
                  refine st rfl rfl rfl rfl (x_move rfl) ?_
                  refine st rfl rfl rfl rfl (x_add rfl rfl (by omega)) ?_
                  refine st rfl rfl rfl rfl (x_asg rfl) ?_
                  refine rl_end rfl ?_
                  refine again (kq + 1) (by omega) ⟨rfl, rfl, rfl, rfl, rfl, trivial⟩ ⟨by omega, H⟩
                · skip
                  refine st rfl rfl rfl rfl (x_asg rfl) ?_
                  refine st rfl rfl rfl rfl (x_asg rfl) ?_
                  refine st rfl rfl rfl rfl (x_asg rfl) ?_
                  refine rl_end rfl ?_
                  refine al_k ?_
                  refine cl_seq rfl ?_
                  refine cl_reg rfl ?_
                  refine st rfl rfl rfl rfl (x_move rfl) ?_
                  refine st rfl rfl rfl rfl (x_move rfl) ?_
                  refine sc rfl rfl rfl rfl (c_fn rfl Tryd.call14 (part_a _ k x H.K (((mkS qs p).length + kq : Nat) : Int))) ?_
                  rintro _ wk ⟨rfl, hwk⟩
                  obtain rfl := hwk.symm
                  rw [hp1, hp2]
                  refine st rfl rfl rfl rfl (x_move rfl) ?_
                  refine st rfl rfl rfl rfl (x_ext rfl rfl) ?_
                  refine st rfl rfl rfl rfl (x_ext rfl rfl) ?_
                  refine st rfl rfl rfl rfl (x_asg rfl) ?_
                  refine st rfl rfl rfl rfl (x_asg rfl) ?_
                  refine rl_end rfl ?_
                  refine al_k ?_
                  refine cl_seq rfl ?_
                  refine cl_seq rfl ?_
                  refine cl_reg rfl ?_
                  refine st rfl rfl rfl rfl (x_move rfl) ?_
                  refine st rfl rfl rfl rfl (x_not1 rfl) ?_
                  refine st rfl rfl rfl rfl (x_move rfl) ?_
                  refine so rfl rfl rfl rfl ?_
                  refine so rfl rfl rfl rfl ?_
                  refine st rfl rfl rfl rfl (x_pick0 rfl rfl) ?_
                  refine st rfl rfl rfl rfl (x_move rfl) ?_
                  refine st rfl rfl rfl rfl (x_move rfl) ?_
                  refine st rfl rfl rfl rfl (x_not1 rfl) ?_
                  refine st rfl rfl rfl rfl (x_pick0 rfl rfl) ?_
                  refine st rfl rfl rfl rfl (x_move rfl) ?_
                  refine st rfl rfl rfl rfl (x_move rfl) ?_
                  refine st rfl rfl rfl rfl (x_move rfl) ?_
                  refine st rfl rfl rfl rfl ((x_neq rfl rfl).b0 (fun h => h rfl)) ?_
                  refine st rfl rfl rfl rfl (x_pick0 rfl rfl) ?_
                  refine rl_end rfl ?_
                  refine al_k ?_
                  refine cl_if0 rfl rfl ?_
                  refine cl_skip rfl ?_
                  refine al_k ?_
                  refine cl_reg rfl ?_
                  refine st rfl rfl rfl rfl (x_move rfl) ?_
                  refine st rfl rfl rfl rfl (x_add rfl rfl (by omega)) ?_
                  refine st rfl rfl rfl rfl (x_asg rfl) ?_
                  refine rl_end rfl ?_
                  refine al_k ?_
                  refine cl_reg rfl ?_
                  refine st rfl rfl rfl rfl (x_move rfl) ?_
                  refine st rfl rfl rfl rfl (x_add rfl rfl (by omega)) ?_
                  refine st rfl rfl rfl rfl (x_asg rfl) ?_
                  refine rl_end rfl ?_
                  refine again (kq + 1) (by omega) ⟨rfl, rfl, rfl, rfl, rfl, trivial⟩ ⟨by omega, H⟩
              · skip
                refine rl_end rfl ?_
                refine al_k ?_
                refine cl_if0 rfl rfl ?_
                refine cl_exit rfl ?_
                refine upd_self ?_
                refine al_k ?_
                refine cl_reg rfl ?_
                refine st rfl rfl rfl rfl (x_move rfl) ?_
                refine st rfl rfl rfl rfl (x_add rfl rfl (by omega)) ?_
                refine st rfl rfl rfl rfl (x_asg rfl) ?_
                refine rl_end rfl ?_
                have en : (mkS qs (p + 1)).length = (mkS qs p).length + kq := by
                  rw [mkS_succ hqp, List.length_append, List.length_replicate]
                  omega
                refine again (p + 1) (by omega) ⟨rfl, (by rw [en]; rfl), rfl, rfl, trivial⟩ ⟨by omega, H⟩
          · skip
            refine rl_end rfl ?_
            refine al_k ?_
            refine cl_if0 rfl rfl ?_
            refine cl_exit rfl ?_
            refine upd_self ?_
            refine al_k ?_
            refine cl_seq rfl ?_
            have ep : p = qs.length := by omega
            subst ep
            have hpe := part_end x (mkS qs qs.length).length (by rw [hS.len]; exact Nat.le_refl _)
            refine cl_reg rfl ?_
            refine st rfl rfl rfl rfl (x_move rfl) ?_
            refine st rfl rfl rfl rfl (x_move rfl) ?_
            refine sc rfl rfl rfl rfl (c_fn rfl Tryd.call14 (part_a _ k x H.K ((mkS qs qs.length).length : Nat))) ?_
            rintro _ wk ⟨rfl, hwk⟩
            obtain rfl := hwk.symm
            rw [hpe]
            refine st rfl rfl rfl rfl (x_move rfl) ?_
            refine st rfl rfl rfl rfl (x_ext rfl rfl) ?_
            refine st rfl rfl rfl rfl (x_ext rfl rfl) ?_
            refine st rfl rfl rfl rfl (x_asg rfl) ?_
            refine st rfl rfl rfl rfl (x_asg rfl) ?_
            refine rl_end rfl ?_
            refine al_k ?_
            refine cl_seq rfl ?_
            refine cl_reg rfl ?_
            refine st rfl rfl rfl rfl (x_move rfl) ?_
            refine st rfl rfl rfl rfl (x_not0 rfl) ?_
            refine st rfl rfl rfl rfl (x_asg rfl) ?_
            refine rl_end rfl ?_
            refine al_k ?_
            refine cl_ret rfl ?_
            refine fin1 rfl rfl ?_
            exact ⟨rfl, H.F⟩
    · skip
      refine st rfl rfl rfl rfl (x_move rfl) ?_
      refine so rfl rfl rfl rfl ?_
      refine so rfl rfl rfl rfl ?_
      refine st rfl rfl rfl rfl (x_pick0 rfl rfl) ?_
      refine rl_end rfl ?_
      refine al_k ?_
      refine cl_if0 rfl rfl ?_
      refine cl_exit rfl ?_
      refine upd_self ?_
      refine al_k ?_
      refine cl_seq rfl ?_
      refine cl_reg rfl ?_
      refine st rfl rfl rfl rfl (x_asg rfl) ?_
      refine rl_end rfl ?_
      refine al_k ?_
      refine cl_seq rfl ?_
      refine cl_seq rfl ?_
      refine cl_reg rfl ?_
      refine st rfl rfl rfl rfl (x_asg rfl) ?_
      refine rl_end rfl ?_
      refine al_k ?_
      refine cl_block rfl ?_
      refine cl_loop (fun p : Nat => [(14, .int .i64 p), (13, .int .i64 ((mkS qs p).length : Nat)), (5, .pointer (some ⟨k.ap, 0, none⟩)), (0, .slice A0 qs.length c0)]) (fun p w' => p ≤ qs.length ∧ St w w' B k x (.slice none 0 0) (.slice none 0 0) [] []) (fun p => qs.length - p) 0 rfl ⟨rfl, rfl, rfl, rfl, trivial⟩ ?_ ?_
      · exact ⟨Nat.zero_le _, H⟩
      · skip
        rintro p wp ⟨hpl, H⟩
        refine cl_seq rfl ?_
        refine cl_seq rfl ?_
        refine cl_reg rfl ?_
        refine st rfl rfl rfl rfl (x_move rfl) ?_
        refine st rfl rfl rfl rfl (x_move rfl) ?_
        refine st rfl rfl rfl rfl (x_len rfl Tryd.underlying22) ?_
        refine sf rfl rfl rfl rfl (x_lss rfl rfl) (fun c24_3 => ?_) (fun c24_3 => ?_)
        · skip
          refine rl_end rfl ?_
          refine al_k ?_
          refine cl_if1 rfl rfl ?_
          refine cl_skip rfl ?_
          refine al_k ?_
          refine cl_seq rfl ?_
          refine cl_block rfl ?_
          refine cl_seq rfl ?_
          have hpl2 : p < qs.length := by omega
          obtain ⟨q, hqp⟩ : ∃ q, qs[p]? = some q := ⟨_, List.getElem?_eq_getElem hpl2⟩
          obtain ⟨hq0, hq256⟩ := hok.2 p q hqp
          obtain ⟨cc, ff, hc1, hc2, hc3, hcf, hnm⟩ := hS.sum hqp hq0
          obtain ⟨aq, rfl, hcq⟩ := hrow0 p q hqp
          refine cl_reg rfl ?_
          refine st rfl rfl rfl rfl (x_move rfl) ?_
          refine st rfl rfl rfl rfl (x_move rfl) ?_
          refine sc rfl rfl rfl rfl (c_fn rfl Tryd.call21 (counts_a _ k x H.K (p : Int))) ?_
          rintro _ w26 ⟨rfl, fr⟩
          replace H := H.fr0 fr
          clear fr
          rw [hc1, hc2, hc3]
          refine st rfl rfl rfl rfl (x_move rfl) ?_
          refine st rfl rfl rfl rfl (x_ext rfl rfl) ?_
          refine st rfl rfl rfl rfl (x_ext rfl rfl) ?_
          refine st rfl rfl rfl rfl (x_ext rfl rfl) ?_
          refine st rfl rfl rfl rfl (x_asg rfl) ?_
          refine st rfl rfl rfl rfl (x_asg rfl) ?_
          refine st rfl rfl rfl rfl (x_asg rfl) ?_
          refine rl_end rfl ?_
          refine al_k ?_
          refine cl_seq rfl ?_
          refine cl_reg rfl ?_
          refine st rfl rfl rfl rfl (x_move rfl) ?_
          refine st rfl rfl rfl rfl (x_move rfl) ?_
          refine sc rfl rfl rfl rfl (c_fn rfl Tryd.call23 (held_c _ k x H.K (by have := H.K.lts.1.1; omega) (p : Int) 1000 (by decide))) ?_
          rintro _ w27 ⟨A9, c9, kk, rfl, hk, hkl, _, fr⟩
          replace H := H.fr0 fr
          clear fr
          have ekk : kk = cc := by rw [hnm] at hk hkl; split at hk <;> omega
          refine st rfl rfl rfl rfl (x_move rfl) ?_
          refine st rfl rfl rfl rfl (x_ext rfl rfl) ?_
          refine st rfl rfl rfl rfl (x_ext rfl rfl) ?_
          refine st rfl rfl rfl rfl (x_asg rfl) ?_
          refine st rfl rfl rfl rfl (x_asg rfl) ?_
          refine rl_end rfl ?_
          refine al_k ?_
          refine cl_seq rfl ?_
          refine cl_seq rfl ?_
          refine cl_reg rfl ?_
          refine st rfl rfl rfl rfl (x_move rfl) ?_
          refine st rfl rfl rfl rfl ((x_neq rfl rfl).b0 (fun h => h rfl)) ?_
          refine st rfl rfl rfl rfl (x_move rfl) ?_
          refine st rfl rfl rfl rfl (x_move rfl) ?_
          refine st rfl rfl rfl rfl (x_move rfl) ?_
          refine st rfl rfl rfl rfl (x_add rfl rfl (by omega)) ?_
          refine st rfl rfl rfl rfl (x_move rfl) ?_
          refine st rfl rfl rfl rfl (x_move rfl) ?_
          refine st rfl rfl rfl rfl (x_iag rfl rfl Tryd.underlying22 Tryd.sizeOf3 (by omega)) ?_
          refine st rfl rfl rfl rfl (x_ld rfl Tryd.isAgg3 (H.F.cell hcq (by simp))) ?_
          refine st rfl rfl rfl rfl ((x_neq rfl rfl).b0 (fun h => h hcf)) ?_
          refine st rfl rfl rfl rfl (x_pick0 rfl rfl) ?_
          refine st rfl rfl rfl rfl (x_move rfl) ?_
          refine st rfl rfl rfl rfl (x_move rfl) ?_
          refine st rfl rfl rfl rfl ((x_lss rfl rfl).b0 (by omega)) ?_
          refine st rfl rfl rfl rfl (x_pick0 rfl rfl) ?_
          refine st rfl rfl rfl rfl (x_move rfl) ?_
          refine st rfl rfl rfl rfl (x_move rfl) ?_
          refine st rfl rfl rfl rfl ((x_lss rfl rfl).b0 (by omega)) ?_
          refine st rfl rfl rfl rfl (x_pick0 rfl rfl) ?_
          refine st rfl rfl rfl rfl (x_move rfl) ?_
          refine st rfl rfl rfl rfl (x_move rfl) ?_
          refine st rfl rfl rfl rfl (x_not1 rfl) ?_
          refine st rfl rfl rfl rfl (x_pick0 rfl rfl) ?_
          refine st rfl rfl rfl rfl (x_move rfl) ?_
          refine st rfl rfl rfl rfl (x_move rfl) ?_
          refine st rfl rfl rfl rfl (x_len rfl Tryd.underlying30) ?_
          refine st rfl rfl rfl rfl (x_move rfl) ?_
          refine st rfl rfl rfl rfl ((x_neq rfl rfl).b0 (fun h => h (by omega))) ?_
          refine st rfl rfl rfl rfl (x_pick0 rfl rfl) ?_
          refine rl_end rfl ?_
          refine al_k ?_
          refine cl_if0 rfl rfl ?_
          refine cl_skip rfl ?_
          refine al_k ?_
          refine cl_seq rfl ?_
          refine cl_reg rfl ?_
          refine st rfl rfl rfl rfl (x_asg rfl) ?_
          refine rl_end rfl ?_
          refine al_k ?_
          refine cl_block rfl ?_
          refine cl_loop (fun kq : Nat => [(20, .int .i64 kq), (14, .int .i64 p), (13, .int .i64 (((mkS qs p).length + kq : Nat) : Int)), (5, .pointer (some ⟨k.ap, 0, none⟩)), (0, .slice (some aq) qs.length c0)]) (fun kq w' => (kq : Int) ≤ q ∧ St w w' B k x (.slice none 0 0) (.slice none 0 0) [] []) (fun kq => q.toNat - kq) 0 rfl ⟨rfl, rfl, rfl, rfl, rfl, trivial⟩ ?_ ?_
          · exact ⟨by omega, H⟩
          · skip
            rintro kq wk ⟨hkq, H⟩
            refine cl_seq rfl ?_
            refine cl_seq rfl ?_
            refine cl_reg rfl ?_
            refine st rfl rfl rfl rfl (x_move rfl) ?_
            refine st rfl rfl rfl rfl (x_move rfl) ?_
            refine st rfl rfl rfl rfl (x_move rfl) ?_
            refine st rfl rfl rfl rfl (x_iag rfl rfl Tryd.underlying22 Tryd.sizeOf3 (by omega)) ?_
            refine st rfl rfl rfl rfl (x_ld rfl Tryd.isAgg3 (H.F.cell hcq (by simp))) ?_
            refine sf rfl rfl rfl rfl (x_lss rfl rfl) (fun c31_5 => ?_) (fun c31_5 => ?_)
            · skip
              refine rl_end rfl ?_
              refine al_k ?_
              refine cl_if1 rfl rfl ?_
              refine cl_skip rfl ?_
              refine al_k ?_
              refine cl_seq rfl ?_
              refine cl_block rfl ?_
              refine cl_seq rfl ?_
              obtain ⟨s, hs, hsp⟩ := hS.at hqp c31_5
              obtain ⟨l1, l2, l3⟩ := look_at hs
              have hpt := part_some (x := x) (N := (((mkS qs p).length + kq : Nat) : Int)) (by omega) (by rw [Int.toNat_natCast]; exact hs)
              have hp1 : (x.part_ (((mkS qs p).length + kq : Nat) : Int)).1 = p := by rw [hpt]; exact hsp
              have hp2 : (x.part_ (((mkS qs p).length + kq : Nat) : Int)).2 = true := by rw [hpt]
              have hsl := (List.getElem?_eq_some_iff.1 hs).1
              have hs0 := H.K.sl0
              refine cl_reg rfl ?_
              refine st rfl rfl rfl rfl (x_move rfl) ?_
              refine st rfl rfl rfl rfl (x_move rfl) ?_
              refine sc rfl rfl rfl rfl (c_fn rfl Tryd.call18 (look_a _ k x H.K (((mkS qs p).length + kq : Nat) : Int))) ?_
              rintro _ w33 ⟨rfl, fr⟩
              replace H := H.fr0 fr
              clear fr
              rw [l1, l2, l3]
              refine st rfl rfl rfl rfl (x_move rfl) ?_
              refine st rfl rfl rfl rfl (x_ext rfl rfl) ?_
              refine st rfl rfl rfl rfl (x_ext rfl rfl) ?_
              refine st rfl rfl rfl rfl (x_ext rfl rfl) ?_
              cases hf33_6 : (s.held)
              · skip
                refine st rfl rfl rfl rfl (x_asg rfl) ?_
                refine st rfl rfl rfl rfl (x_asg rfl) ?_
                refine st rfl rfl rfl rfl (x_asg rfl) ?_
                refine rl_end rfl ?_
                refine al_k ?_
                refine cl_seq rfl ?_
                refine cl_reg rfl ?_
                refine st rfl rfl rfl rfl (x_move rfl) ?_
                refine st rfl rfl rfl rfl (x_move rfl) ?_
                refine sc rfl rfl rfl rfl (c_fn rfl Tryd.call14 (part_a _ k x H.K (((mkS qs p).length + kq : Nat) : Int))) ?_
                rintro _ wk ⟨rfl, hwk⟩
                obtain rfl := hwk.symm
                rw [hp1, hp2]
                refine st rfl rfl rfl rfl (x_move rfl) ?_
                refine st rfl rfl rfl rfl (x_ext rfl rfl) ?_
                refine st rfl rfl rfl rfl (x_ext rfl rfl) ?_
                refine st rfl rfl rfl rfl (x_asg rfl) ?_
                refine st rfl rfl rfl rfl (x_asg rfl) ?_
                refine rl_end rfl ?_
                refine al_k ?_
                refine cl_seq rfl ?_
                refine cl_seq rfl ?_
                refine cl_reg rfl ?_
                refine st rfl rfl rfl rfl (x_move rfl) ?_
                refine st rfl rfl rfl rfl (x_not0 rfl) ?_
                refine st rfl rfl rfl rfl (x_move rfl) ?_
                refine st rfl rfl rfl rfl (x_move rfl) ?_
                refine st rfl rfl rfl rfl ((x_neq rfl rfl).b0 (fun h => h (hS.I.pay _ _ hs hf33_6))) ?_
                refine st rfl rfl rfl rfl (x_pick1 rfl rfl) ?_
                refine st rfl rfl rfl rfl (x_move rfl) ?_
                refine st rfl rfl rfl rfl (x_move rfl) ?_
                refine st rfl rfl rfl rfl (x_not1 rfl) ?_
                refine st rfl rfl rfl rfl (x_pick0 rfl rfl) ?_
                refine st rfl rfl rfl rfl (x_move rfl) ?_
                refine st rfl rfl rfl rfl (x_move rfl) ?_
                refine st rfl rfl rfl rfl (x_move rfl) ?_
                refine st rfl rfl rfl rfl ((x_neq rfl rfl).b0 (fun h => h rfl)) ?_
                refine st rfl rfl rfl rfl (x_pick0 rfl rfl) ?_
                refine rl_end rfl ?_
                refine al_k ?_
                refine cl_if0 rfl rfl ?_
                refine cl_skip rfl ?_
                refine al_k ?_
                refine cl_reg rfl ?_
                refine st rfl rfl rfl rfl (x_move rfl) ?_
                refine st rfl rfl rfl rfl (x_add rfl rfl (by omega)) ?_
                refine st rfl rfl rfl rfl (x_asg rfl) ?_
                refine rl_end rfl ?_
                refine al_k ?_
                refine cl_reg rfl ?_
                refine st rfl rfl rfl rfl (x_move rfl) ?_
                refine st rfl rfl rfl rfl (x_add rfl rfl (by omega)) ?_
                refine st rfl rfl rfl rfl (x_asg rfl) ?_
                refine rl_end rfl ?_
                refine again (kq + 1) (by omega) ⟨rfl, rfl, rfl, rfl, rfl, trivial⟩ ⟨by omega, H⟩
              · skip
                refine st rfl rfl rfl rfl (x_asg rfl) ?_
                refine st rfl rfl rfl rfl (x_asg rfl) ?_
                refine st rfl rfl rfl rfl (x_asg rfl) ?_
                refine rl_end rfl ?_
                refine al_k ?_
                refine cl_seq rfl ?_
                refine cl_reg rfl ?_
                refine st rfl rfl rfl rfl (x_move rfl) ?_
                refine st rfl rfl rfl rfl (x_move rfl) ?_
                refine sc rfl rfl rfl rfl (c_fn rfl Tryd.call14 (part_a _ k x H.K (((mkS qs p).length + kq : Nat) : Int))) ?_
                rintro _ wk ⟨rfl, hwk⟩
                obtain rfl := hwk.symm
                rw [hp1, hp2]
                refine st rfl rfl rfl rfl (x_move rfl) ?_
                refine st rfl rfl rfl rfl (x_ext rfl rfl) ?_
                refine st rfl rfl rfl rfl (x_ext rfl rfl) ?_
                refine st rfl rfl rfl rfl (x_asg rfl) ?_
                refine st rfl rfl rfl rfl (x_asg rfl) ?_
                refine rl_end rfl ?_
                refine al_k ?_
                refine cl_seq rfl ?_
                refine cl_seq rfl ?_
                refine cl_reg rfl ?_
                refine st rfl rfl rfl rfl (x_move rfl) ?_
                refine st rfl rfl rfl rfl (x_not1 rfl) ?_
                refine st rfl rfl rfl rfl (x_move rfl) ?_
                refine so rfl rfl rfl rfl ?_
                refine so rfl rfl rfl rfl ?_
                refine st rfl rfl rfl rfl (x_pick0 rfl rfl) ?_
                refine st rfl rfl rfl rfl (x_move rfl) ?_
                refine st rfl rfl rfl rfl (x_move rfl) ?_
                refine st rfl rfl rfl rfl (x_not1 rfl) ?_
                refine st rfl rfl rfl rfl (x_pick0 rfl rfl) ?_
                refine st rfl rfl rfl rfl (x_move rfl) ?_
                refine st rfl rfl rfl rfl (x_move rfl) ?_
                refine st rfl rfl rfl rfl (x_move rfl) ?_
                refine st rfl rfl rfl rfl ((x_neq rfl rfl).b0 (fun h => h rfl)) ?_
                refine st rfl rfl rfl rfl (x_pick0 rfl rfl) ?_
                refine rl_end rfl ?_
                refine al_k ?_
                refine cl_if0 rfl rfl ?_
                refine cl_skip rfl ?_
                refine al_k ?_
                refine cl_reg rfl ?_
                refine st rfl rfl rfl rfl (x_move rfl) ?_
                refine st rfl rfl rfl rfl (x_add rfl rfl (by omega)) ?_
                refine st rfl rfl rfl rfl (x_asg rfl) ?_
                refine rl_end rfl ?_
                refine al_k ?_
                refine cl_reg rfl ?_
                refine st rfl rfl rfl rfl (x_move rfl) ?_
                refine st rfl rfl rfl rfl (x_add rfl rfl (by omega)) ?_
                refine st rfl rfl rfl rfl (x_asg rfl) ?_
                refine rl_end rfl ?_
                refine again (kq + 1) (by omega) ⟨rfl, rfl, rfl, rfl, rfl, trivial⟩ ⟨by omega, H⟩
            · skip
              refine rl_end rfl ?_
              refine al_k ?_
              refine cl_if0 rfl rfl ?_
              refine cl_exit rfl ?_
              refine upd_self ?_
              refine al_k ?_
              refine cl_reg rfl ?_
              refine st rfl rfl rfl rfl (x_move rfl) ?_
              refine st rfl rfl rfl rfl (x_add rfl rfl (by omega)) ?_
              refine st rfl rfl rfl rfl (x_asg rfl) ?_
              refine rl_end rfl ?_
              have en : (mkS qs (p + 1)).length = (mkS qs p).length + kq := by
                rw [mkS_succ hqp, List.length_append, List.length_replicate]
                omega
              refine again (p + 1) (by omega) ⟨rfl, (by rw [en]; rfl), rfl, rfl, trivial⟩ ⟨by omega, H⟩
        · skip
          refine rl_end rfl ?_
          refine al_k ?_
          refine cl_if0 rfl rfl ?_
          refine cl_exit rfl ?_
          refine upd_self ?_
          refine al_k ?_
          refine cl_seq rfl ?_
          have ep : p = qs.length := by omega
          subst ep
          have hpe := part_end x (mkS qs qs.length).length (by rw [hS.len]; exact Nat.le_refl _)
          refine cl_reg rfl ?_
          refine st rfl rfl rfl rfl (x_move rfl) ?_
          refine st rfl rfl rfl rfl (x_move rfl) ?_
          refine sc rfl rfl rfl rfl (c_fn rfl Tryd.call14 (part_a _ k x H.K ((mkS qs qs.length).length : Nat))) ?_
          rintro _ wk ⟨rfl, hwk⟩
          obtain rfl := hwk.symm
          rw [hpe]
          refine st rfl rfl rfl rfl (x_move rfl) ?_
          refine st rfl rfl rfl rfl (x_ext rfl rfl) ?_
          refine st rfl rfl rfl rfl (x_ext rfl rfl) ?_
          refine st rfl rfl rfl rfl (x_asg rfl) ?_
          refine st rfl rfl rfl rfl (x_asg rfl) ?_
          refine rl_end rfl ?_
          refine al_k ?_
          refine cl_seq rfl ?_
          refine cl_reg rfl ?_
          refine st rfl rfl rfl rfl (x_move rfl) ?_
          refine st rfl rfl rfl rfl (x_not0 rfl) ?_
          refine st rfl rfl rfl rfl (x_asg rfl) ?_
          refine rl_end rfl ?_
          refine al_k ?_
          refine cl_ret rfl ?_
          refine fin1 rfl rfl ?_
          exact ⟨rfl, H.F⟩

theorem sums_c (w : World) (hG : Glb w) (A0 : Option Addr) (n c0 : Nat) (hn : n ≤ 9223372036854775807) (hq : ∀ j : Nat, j < n → ∃ (x : Addr) (z : Int), A0 = some x ∧ w.cell? (x.add (((j : Nat) : Int).toNat * 1)) = some (.int .i64 z) ∧ (Lit.int .i64 z).wf = true) (hc0 : n ≤ c0) (A2 : Option Addr) (ln2 cp2 : Nat) (hln : ln2 ≤ 9223372036854775807) (hp : ∀ j : Nat, j < ln2 → ∃ (x : Addr) (z0 : Int) (z1 : Int) (z2 : Int) (z3 : Int) (z4 : Int), A2 = some x ∧ (∀ i v, [(.int .i64 z0 : Value), .int .i64 z1, .int .i64 z2, .int .u64 z3, .int .u64 z4][i]? = some v → w.cell? ((x.add (((j : Nat) : Int).toNat * 5)).add i) = some v) ∧ (Lit.int .i64 z0).wf = true ∧ (Lit.int .i64 z1).wf = true ∧ (Lit.int .i64 z2).wf = true ∧ (Lit.int .u64 z3).wf = true ∧ (Lit.int .u64 z4).wf = true) :
    Cl Tryd.prog 6 [.slice A0 n c0, .slice A2 ln2 cp2] w (fun v w' => v = .bool true ∧ Fr [] w w') := by
  obtain ⟨qs, hql, hrow⟩ := pick_row hq (min n 17) (Nat.min_le_left _ _)
  by_cases hok : okQ qs
  · exact sums_ok w hG A0 n c0 hc0 qs hql hok hrow A2 ln2 cp2 hln hp
  · exact sums_no w hG A0 n c0 hc0 qs hql hok hrow A2 ln2 cp2

end Go.Proofs.YtjjaijabdfoanaaDoor.Arn
