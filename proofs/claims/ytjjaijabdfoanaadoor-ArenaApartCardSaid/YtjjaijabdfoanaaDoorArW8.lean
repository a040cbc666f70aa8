/- The arena: the walk of the law ArenaApart. -/
import Derived.Test.YtjjaijabdfoanaaDoorArW7
import Derived.Test.YtjjaijabdfoanaaDoorArF
set_option linter.unusedVariables false
namespace Go.Proofs.YtjjaijabdfoanaaDoor.Arn
open Go Go.RowKit Go.Proofs.YtjjaijabdfoanaaDoor.Sx Go.Proofs.YtjjaijabdfoanaaDoor.Ls Go.Proofs.YtjjaijabdfoanaaDoor
set_option maxRecDepth 100000

theorem apart_no (w : World) (hG : Glb w) (A0 : Option Addr) (n c0 : Nat) (hc0 : n ≤ c0) (qs : List Int) (hql : qs.length = min n 17) (hno : ¬ okQ qs) (hrow : ∀ (j : Nat) q, qs[j]? = some q → ∃ a, A0 = some a ∧ w.cell? (a.add (((j : Nat) : Int).toNat * 1)) = some (.int .i64 q)) (A2 : Option Addr) (ln2 cp2 : Nat) (part : Int) : Cl Tryd.prog 4 [.slice A0 n c0, .int .i64 part, .slice A2 ln2 cp2] w (fun v w' => v = .bool true ∧ Fr [] w w') := by
  have F := Fr.refl [] w
  refine enter Tryd.func4 rfl Tryd.ntmps4 rfl ?_
  refine cl_seq rfl ?_
  refine cl_reg rfl ?_
  refine st rfl rfl rfl rfl (x_asg rfl) ?_
  refine rl_end rfl ?_
  refine al_k ?_
  refine cl_seq rfl ?_
  refine cl_seq rfl ?_
  refine cl_reg rfl ?_
  refine sc rfl rfl rfl rfl (c_fn rfl Tryd.call8 (awake_c w hG)) ?_
  rintro _ w1 ⟨rfl, fr⟩
  replace F := F.trans fr
  replace hrow : ∀ (j : Nat) q, qs[j]? = some q → ∃ a, A0 = some a ∧ w1.cell? (a.add (((j : Nat) : Int).toNat * 1)) = some (.int .i64 q) := fun j q h => let ⟨a, e, c⟩ := hrow j q h; ⟨a, e, fr.cell c (by simp)⟩
  refine st rfl rfl rfl rfl (x_not1 rfl) ?_
  refine rl_end rfl ?_
  refine al_k ?_
  refine cl_if0 rfl rfl ?_
  refine cl_skip rfl ?_
  refine al_k ?_
  refine cl_seq rfl ?_
  refine cl_reg rfl ?_
  refine st rfl rfl rfl rfl (x_move rfl) ?_
  refine sc rfl rfl rfl rfl (c_fn rfl Tryd.call9 (few_c _ A0 n c0 hc0)) ?_
  rintro _ wk ⟨rfl, hwk⟩
  obtain rfl := hwk.symm
  rw [← hql]
  refine st rfl rfl rfl rfl (x_asg rfl) ?_
  refine rl_end rfl ?_
  refine al_k ?_
  refine cl_seq rfl ?_
  refine cl_reg rfl ?_
  refine st rfl rfl rfl rfl (x_move rfl) ?_
  refine sc rfl rfl rfl rfl (c_fn rfl Tryd.call10 (anew_no _ (hG.fr F (by simp)) A0 c0 qs (by omega) hno hrow)) ?_
  rintro _ w4 ⟨rfl, fr⟩
  replace F := F.trans fr
  replace hrow : ∀ (j : Nat) q, qs[j]? = some q → ∃ a, A0 = some a ∧ w4.cell? (a.add (((j : Nat) : Int).toNat * 1)) = some (.int .i64 q) := fun j q h => let ⟨a, e, c⟩ := hrow j q h; ⟨a, e, fr.cell c (by simp)⟩
  refine st rfl rfl rfl rfl (x_move rfl) ?_
  refine st rfl rfl rfl rfl (x_ext rfl rfl) ?_
  refine st rfl rfl rfl rfl (x_ext rfl rfl) ?_
  refine st rfl rfl rfl rfl (x_asg rfl) ?_
  refine st rfl rfl rfl rfl (x_asg rfl) ?_
  refine rl_end rfl ?_
  refine al_k ?_
  refine cl_seq rfl ?_
  refine cl_reg rfl ?_
  refine st rfl rfl rfl rfl (x_move rfl) ?_
  refine sc rfl rfl rfl rfl (c_fn rfl Tryd.call10 (anew_no _ (hG.fr F (by simp)) A0 c0 qs (by omega) hno hrow)) ?_
  rintro _ w4 ⟨rfl, fr⟩
  replace F := F.trans fr
  replace hrow : ∀ (j : Nat) q, qs[j]? = some q → ∃ a, A0 = some a ∧ w4.cell? (a.add (((j : Nat) : Int).toNat * 1)) = some (.int .i64 q) := fun j q h => let ⟨a, e, c⟩ := hrow j q h; ⟨a, e, fr.cell c (by simp)⟩
  refine st rfl rfl rfl rfl (x_move rfl) ?_
  refine st rfl rfl rfl rfl (x_ext rfl rfl) ?_
  refine st rfl rfl rfl rfl (x_ext rfl rfl) ?_
  refine st rfl rfl rfl rfl (x_asg rfl) ?_
  refine st rfl rfl rfl rfl (x_asg rfl) ?_
  refine rl_end rfl ?_
  refine al_k ?_
  refine cl_seq rfl ?_
  refine cl_seq rfl ?_
  refine cl_reg rfl ?_
  refine st rfl rfl rfl rfl (x_move rfl) ?_
  refine st rfl rfl rfl rfl ((x_neq rfl rfl).b1 (by decide)) ?_
  refine st rfl rfl rfl rfl (x_move rfl) ?_
  refine so rfl rfl rfl rfl ?_
  refine so rfl rfl rfl rfl ?_
  refine st rfl rfl rfl rfl (x_pick1 rfl rfl) ?_
  refine st rfl rfl rfl rfl (x_move rfl) ?_
  refine so rfl rfl rfl rfl ?_
  refine so rfl rfl rfl rfl ?_
  refine st rfl rfl rfl rfl (x_pick1 rfl rfl) ?_
  refine st rfl rfl rfl rfl (x_move rfl) ?_
  refine so rfl rfl rfl rfl ?_
  refine so rfl rfl rfl rfl ?_
  refine st rfl rfl rfl rfl (x_pick1 rfl rfl) ?_
  refine rl_end rfl ?_
  refine al_k ?_
  refine cl_if1 rfl rfl ?_
  refine cl_seq rfl ?_
  refine cl_reg rfl ?_
  refine st rfl rfl rfl rfl (x_move rfl) ?_
  refine st rfl rfl rfl rfl (x_eqlp rfl rfl Tryd.underlying26) ?_
  refine st rfl rfl rfl rfl (x_move rfl) ?_
  refine st rfl rfl rfl rfl (x_move rfl) ?_
  refine st rfl rfl rfl rfl (x_eqlp rfl rfl Tryd.underlying26) ?_
  refine st rfl rfl rfl rfl (x_pick1 rfl rfl) ?_
  refine st rfl rfl rfl rfl (x_asg rfl) ?_
  refine rl_end rfl ?_
  refine al_k ?_
  refine cl_ret rfl ?_
  refine fin1 rfl rfl ?_
  exact ⟨rfl, F⟩

theorem apart_ok (w : World) (hG : Glb w) (A0 : Option Addr) (n c0 : Nat) (hc0 : n ≤ c0) (qs : List Int) (hql : qs.length = min n 17) (hok : okQ qs) (hrow : ∀ (j : Nat) q, qs[j]? = some q → ∃ a, A0 = some a ∧ w.cell? (a.add (((j : Nat) : Int).toNat * 1)) = some (.int .i64 q)) (A2 : Option Addr) (ln2 cp2 : Nat) (hln : ln2 ≤ 9223372036854775807) (hp : ∀ j : Nat, j < ln2 → ∃ (x : Addr) (z0 : Int) (z1 : Int) (z2 : Int) (z3 : Int) (z4 : Int), A2 = some x ∧ (∀ i v, [(.int .i64 z0 : Value), .int .i64 z1, .int .i64 z2, .int .u64 z3, .int .u64 z4][i]? = some v → w.cell? ((x.add (((j : Nat) : Int).toNat * 5)).add i) = some v) ∧ (Lit.int .i64 z0).wf = true ∧ (Lit.int .i64 z1).wf = true ∧ (Lit.int .i64 z2).wf = true ∧ (Lit.int .u64 z3).wf = true ∧ (Lit.int .u64 z4).wf = true) (part : Int) : Cl Tryd.prog 4 [.slice A0 n c0, .int .i64 part, .slice A2 ln2 cp2] w (fun v w' => v = .bool true ∧ Fr [] w w') := by
  have F := Fr.refl [] w
  refine enter Tryd.func4 rfl Tryd.ntmps4 rfl ?_
  refine cl_seq rfl ?_
  refine cl_reg rfl ?_
  refine st rfl rfl rfl rfl (x_asg rfl) ?_
  refine rl_end rfl ?_
  refine al_k ?_
  refine cl_seq rfl ?_
  refine cl_seq rfl ?_
  refine cl_reg rfl ?_
  refine sc rfl rfl rfl rfl (c_fn rfl Tryd.call8 (awake_c w hG)) ?_
  rintro _ w1 ⟨rfl, fr⟩
  replace F := F.trans fr
  replace hrow : ∀ (j : Nat) q, qs[j]? = some q → ∃ a, A0 = some a ∧ w1.cell? (a.add (((j : Nat) : Int).toNat * 1)) = some (.int .i64 q) := fun j q h => let ⟨a, e, c⟩ := hrow j q h; ⟨a, e, fr.cell c (by simp)⟩
  refine st rfl rfl rfl rfl (x_not1 rfl) ?_
  refine rl_end rfl ?_
  refine al_k ?_
  refine cl_if0 rfl rfl ?_
  refine cl_skip rfl ?_
  refine al_k ?_
  refine cl_seq rfl ?_
  refine cl_reg rfl ?_
  refine st rfl rfl rfl rfl (x_move rfl) ?_
  refine sc rfl rfl rfl rfl (c_fn rfl Tryd.call9 (few_c _ A0 n c0 hc0)) ?_
  rintro _ wk ⟨rfl, hwk⟩
  obtain rfl := hwk.symm
  rw [← hql]
  refine st rfl rfl rfl rfl (x_asg rfl) ?_
  refine rl_end rfl ?_
  refine al_k ?_
  refine cl_seq rfl ?_
  refine cl_reg rfl ?_
  refine st rfl rfl rfl rfl (x_move rfl) ?_
  refine sc rfl rfl rfl rfl (c_fn rfl Tryd.call10 (anew_b _ (hG.fr F (by simp)) A0 c0 qs hok hrow)) ?_
  rintro _ w4 ⟨k1, rfl, K1, zk, zb, fr⟩
  have zF := F.size
  replace F := F.trans fr
  replace hrow : ∀ (j : Nat) q, qs[j]? = some q → ∃ a, A0 = some a ∧ w4.cell? (a.add (((j : Nat) : Int).toNat * 1)) = some (.int .i64 q) := fun j q h => let ⟨a, e, c⟩ := hrow j q h; ⟨a, e, fr.cell c (by simp)⟩
  refine st rfl rfl rfl rfl (x_move rfl) ?_
  refine st rfl rfl rfl rfl (x_ext rfl rfl) ?_
  refine st rfl rfl rfl rfl (x_ext rfl rfl) ?_
  refine st rfl rfl rfl rfl (x_asg rfl) ?_
  refine st rfl rfl rfl rfl (x_asg rfl) ?_
  refine rl_end rfl ?_
  refine al_k ?_
  refine cl_seq rfl ?_
  refine cl_reg rfl ?_
  refine st rfl rfl rfl rfl (x_move rfl) ?_
  refine sc rfl rfl rfl rfl (c_fn rfl Tryd.call10 (anew_b _ (hG.fr F (by simp)) A0 c0 qs hok hrow)) ?_
  rintro _ w5 ⟨k2, rfl, K2, zk2, zb2, fr⟩
  replace F := F.trans fr
  replace K1 := K1.fr0 fr
  have H : Tw w w5 w4.heap.size w5.heap.size k1 k2 (Ar.new qs) (Ar.new qs) := ⟨K1, K2, F, by omega, zb, zk2, zb2, Nat.le_refl _, Nat.lt_of_le_of_lt (Nat.zero_le _) (World.block_lt_of_cell? w _ (hG 0 _ rfl))⟩
  generalize hBq : w5.heap.size = B2 at H
  generalize hBq1 : w4.heap.size = B1 at H
  clear K1 K2 F zk zb zF zk2 zb2 hrow fr
  refine st rfl rfl rfl rfl (x_move rfl) ?_
  refine st rfl rfl rfl rfl (x_ext rfl rfl) ?_
  refine st rfl rfl rfl rfl (x_ext rfl rfl) ?_
  refine st rfl rfl rfl rfl (x_asg rfl) ?_
  refine st rfl rfl rfl rfl (x_asg rfl) ?_
  refine rl_end rfl ?_
  refine al_k ?_
  refine cl_seq rfl ?_
  refine cl_seq rfl ?_
  refine cl_reg rfl ?_
  refine st rfl rfl rfl rfl (x_move rfl) ?_
  refine st rfl rfl rfl rfl ((x_neq rfl rfl).b0 (fun h => h rfl)) ?_
  refine st rfl rfl rfl rfl (x_move rfl) ?_
  refine st rfl rfl rfl rfl (x_move rfl) ?_
  refine st rfl rfl rfl rfl ((x_neq rfl rfl).b0 (fun h => h rfl)) ?_
  refine st rfl rfl rfl rfl (x_pick0 rfl rfl) ?_
  refine st rfl rfl rfl rfl (x_move rfl) ?_
  refine st rfl rfl rfl rfl (x_move rfl) ?_
  refine st rfl rfl rfl rfl (x_eqlp rfl rfl Tryd.underlying26) ?_
  refine st rfl rfl rfl rfl (x_pick0 rfl rfl) ?_
  refine st rfl rfl rfl rfl (x_move rfl) ?_
  refine st rfl rfl rfl rfl (x_move rfl) ?_
  refine st rfl rfl rfl rfl (x_eqlp rfl rfl Tryd.underlying26) ?_
  refine st rfl rfl rfl rfl (x_pick0 rfl rfl) ?_
  refine rl_end rfl ?_
  refine al_k ?_
  refine cl_if0 rfl rfl ?_
  refine cl_skip rfl ?_
  refine al_k ?_
  refine cl_seq rfl ?_
  refine cl_seq rfl ?_
  refine cl_reg rfl ?_
  refine st rfl rfl rfl rfl (x_asg rfl) ?_
  refine rl_end rfl ?_
  refine al_k ?_
  refine cl_block rfl ?_
  refine cl_loop (fun s : Nat × Ar × Ar => [(11, .int .i64 s.1), (7, .pointer (some ⟨k1.ap, 0, none⟩)), (9, .pointer (some ⟨k2.ap, 0, none⟩)), (2, .slice A2 ln2 cp2), (1, .int .i64 part)]) (fun s w' => (s.1 ≤ ln2 ∧ s.1 ≤ 60) ∧ Tw w w' B1 B2 k1 k2 s.2.1 s.2.2 ∧ Ap part s.2.1 s.2.2) (fun s => 60 - s.1) (0, Ar.new qs, Ar.new qs) rfl ⟨rfl, rfl, rfl, rfl, rfl, trivial⟩ ?_ ?_
  · exact ⟨⟨Nat.zero_le _, Nat.zero_le _⟩, H, Ap.new hok⟩
  · skip
    rintro ⟨i, a, b⟩ wr ⟨⟨hi, hi6⟩, H, hR⟩
    dsimp only at hi hi6 H hR ⊢
    refine cl_seq rfl ?_
    refine cl_seq rfl ?_
    refine cl_reg rfl ?_
    refine st rfl rfl rfl rfl (x_move rfl) ?_
    refine st rfl rfl rfl rfl (x_move rfl) ?_
    refine st rfl rfl rfl rfl (x_len rfl Tryd.underlying23) ?_
    refine sf rfl rfl rfl rfl (x_lss rfl rfl) (fun c9_3 => ?_) (fun c9_3 => ?_)
    · skip
      refine st rfl rfl rfl rfl (x_move rfl) ?_
      refine st rfl rfl rfl rfl (x_move rfl) ?_
      refine sf rfl rfl rfl rfl (x_lss rfl rfl) (fun c9_6 => ?_) (fun c9_6 => ?_)
      · skip
        refine st rfl rfl rfl rfl (x_pick1 rfl rfl) ?_
        refine rl_end rfl ?_
        refine al_k ?_
        refine cl_if1 rfl rfl ?_
        refine cl_skip rfl ?_
        refine al_k ?_
        refine cl_seq rfl ?_
        refine cl_block rfl ?_
        refine cl_seq rfl ?_
        have hil : i < ln2 := by omega
        obtain ⟨ad, kd, pt, nn, gg, xx, rfl, hc, _⟩ := hp i hil
        replace hc : ∀ j v, ([.int .i64 kd, .int .i64 pt, .int .i64 nn, .int .u64 gg, .int .u64 xx] : List Value)[j]? = some v → wr.cell? ((ad.add (((i : Nat) : Int).toNat * 5)).add j) = some v := fun j v h => H.F.cell (hc j v h) (by simp)
        refine cl_reg rfl ?_
        refine st rfl rfl rfl rfl (x_move rfl) ?_
        refine st rfl rfl rfl rfl (x_move rfl) ?_
        refine st rfl rfl rfl rfl (x_iag rfl rfl Tryd.underlying23 Tryd.sizeOf35 (by omega)) ?_
        refine st rfl rfl rfl rfl (x_ldg (cs := [.int .i64 kd, .int .i64 pt, .int .i64 nn, .int .u64 gg, .int .u64 xx]) rfl Tryd.isAgg35 Tryd.sizeOf35 rfl hc) ?_
        refine se rfl rfl rfl rfl (e_new (x_alloc Tryd.zeroValue35 rfl)) ?_
        rintro _ w11 ⟨rfl, b10, fr, _⟩
        have hbo := H.zB
        replace H := H.fr0 fr
        generalize hboq : wr.heap.size = bo at b10 hbo ⊢
        clear fr
        refine sv rfl rfl rfl (v_n (vs := [.int .i64 kd, .int .i64 pt, .int .i64 nn, .int .u64 gg, .int .u64 xx]) rfl rfl (by intro v hv; simp at hv; rcases hv with rfl | rfl | rfl | rfl | rfl <;> rfl) Tryd.sizeOf35 rfl b10 (by decide)) ?_
        rintro w11b ⟨b10b, fr⟩
        replace b10 : Blk w11b bo 35 [.int .i64 kd, .int .i64 pt, .int .i64 nn, .int .u64 gg, .int .u64 xx] := b10b
        replace H := H.own1 fr hbo
        clear fr b10b
        refine rl_end rfl ?_
        refine al_k ?_
        refine cl_seq rfl ?_
        refine cl_reg rfl ?_
        refine st rfl rfl rfl rfl (x_fa rfl Tryd.underlying35 rfl Tryd.sizeOf3 1 rfl) ?_
        refine st rfl rfl rfl rfl (x_ld rfl Tryd.isAgg3 (b10.cell rfl)) ?_
        refine st rfl rfl rfl rfl (x_asg rfl) ?_
        refine rl_end rfl ?_
        refine al_k ?_
        refine cl_seq rfl ?_
        refine cl_seq rfl ?_
        refine cl_reg rfl ?_
        refine st rfl rfl rfl rfl (x_fa rfl Tryd.underlying35 rfl Tryd.sizeOf3 0 rfl) ?_
        refine st rfl rfl rfl rfl (x_ld rfl Tryd.isAgg3 (b10.cell rfl)) ?_
        refine sf rfl rfl rfl rfl (x_neq rfl rfl) (fun c13_2 => ?_) (fun c13_2 => ?_)
        · skip
          refine rl_end rfl ?_
          refine al_k ?_
          refine cl_if1 rfl rfl ?_
          refine cl_reg rfl ?_
          refine st rfl rfl rfl rfl (x_move rfl) ?_
          refine st rfl rfl rfl rfl (x_fa rfl Tryd.underlying35 rfl Tryd.sizeOf33 2 rfl) ?_
          refine st rfl rfl rfl rfl (x_fa rfl Tryd.underlying33 rfl Tryd.sizeOf3 0 rfl) ?_
          refine st rfl rfl rfl rfl (x_ld rfl Tryd.isAgg3 (b10.cell rfl)) ?_
          refine sc rfl rfl rfl rfl (c_fn rfl Tryd.call14 (part_a _ k1 a H.K1 nn)) ?_
          rintro _ wk ⟨rfl, hwk⟩
          obtain rfl := hwk.symm
          refine st rfl rfl rfl rfl (x_move rfl) ?_
          refine st rfl rfl rfl rfl (x_ext rfl rfl) ?_
          refine st rfl rfl rfl rfl (x_ext rfl rfl) ?_
          refine st rfl rfl rfl rfl (x_asg rfl) ?_
          refine rl_end rfl ?_
          refine al_k ?_
          refine cl_block rfl ?_
          refine cl_seq rfl ?_
          refine cl_reg rfl ?_
          refine st rfl rfl rfl rfl (x_fa rfl Tryd.underlying35 rfl Tryd.sizeOf3 0 rfl) ?_
          refine st rfl rfl rfl rfl (x_ld rfl Tryd.isAgg3 (b10.cell rfl)) ?_
          refine st rfl rfl rfl rfl ((x_eql rfl rfl).b0 (by omega)) ?_
          refine st rfl rfl rfl rfl (x_move rfl) ?_
          refine so rfl rfl rfl rfl ?_
          refine so rfl rfl rfl rfl ?_
          refine so rfl rfl rfl rfl ?_
          refine st rfl rfl rfl rfl (x_pick0 rfl rfl) ?_
          refine st rfl rfl rfl rfl (x_asg rfl) ?_
          refine rl_end rfl ?_
          refine al_k ?_
          refine cl_if0 rfl rfl ?_
          refine cl_seq rfl ?_
          refine cl_reg rfl ?_
          refine st rfl rfl rfl rfl (x_fa rfl Tryd.underlying35 rfl Tryd.sizeOf3 0 rfl) ?_
          refine st rfl rfl rfl rfl (x_ld rfl Tryd.isAgg3 (b10.cell rfl)) ?_
          refine sf rfl rfl rfl rfl (x_eql rfl rfl) (fun c21_2 => ?_) (fun c21_2 => ?_)
          · skip
            refine st rfl rfl rfl rfl (x_move rfl) ?_
            refine st rfl rfl rfl rfl (x_move rfl) ?_
            refine st rfl rfl rfl rfl (x_move rfl) ?_
            refine sf rfl rfl rfl rfl (x_eql rfl rfl) (fun c21_6 => ?_) (fun c21_6 => ?_)
            · skip
              refine st rfl rfl rfl rfl (x_pick1 rfl rfl) ?_
              refine st rfl rfl rfl rfl (x_asg rfl) ?_
              refine rl_end rfl ?_
              refine al_k ?_
              refine cl_if1 rfl rfl ?_
              refine cl_seq rfl ?_
              refine cl_draw (by kernel_rfl) rfl [] (fun w' => Blk w' bo 35 [.int .i64 kd, .int .i64 pt, .int .i64 nn, .int .u64 gg, .int .u64 xx]) ?_
              rintro wd22 fr hpd
              replace H := H.fr0 fr
              replace b10 := b10.fr0 fr
              have hown : (a.part_ nn).1 = part := by omega
              have hB := hR.drop gg hown
              refine ⟨b10, ?_⟩
              refine dt (i := 0) rfl rfl rfl rfl (by kernel_rfl) (fun _ => x_move rfl) ?_
              refine dt (i := 1) rfl rfl rfl rfl (by kernel_rfl) (fun _ => x_fa rfl Tryd.underlying35 rfl Tryd.sizeOf33 2 rfl) ?_
              refine dl (i := 2) rfl rfl rfl rfl (by kernel_rfl) (by kernel_rfl) (fun w' hU => x_ldn rfl Tryd.isAgg33 Tryd.sizeOf33 rfl (blk_two hU)) ?_
              refine dt (i := 4) rfl rfl rfl rfl (by kernel_rfl) (fun _ => x_move rfl) ?_
              refine dt (i := 5) rfl rfl rfl rfl (by kernel_rfl) (fun _ => x_fa rfl Tryd.underlying35 rfl Tryd.sizeOf33 2 rfl) ?_
              refine dl (i := 6) rfl rfl rfl rfl (by kernel_rfl) (by kernel_rfl) (fun w' hU => x_ldn rfl Tryd.isAgg33 Tryd.sizeOf33 rfl (blk_two hU)) ?_
              refine d1 (i := 3) (by kernel_rfl) ?_
              refine oc rfl rfl rfl rfl (c_fn rfl Tryd.call12 (free_a H.K1 hR.Ia nn gg)) ?_
              rintro _ w22a ⟨rfl, K, fr⟩
              replace b10 := H.bx1 b10 hbo fr
              replace H := H.ar1 K fr
              clear K fr
              refine ⟨.inr b10, ?_⟩
              refine d1 (i := 7) (by kernel_rfl) ?_
              refine oc rfl rfl rfl rfl (c_fn rfl Tryd.call12 (free_a H.K2 hR.Ib nn gg)) ?_
              rintro _ w22b ⟨rfl, K, fr⟩
              replace b10 := H.bx2 b10 hbo fr
              replace H := H.ar2 K fr
              clear K fr
              refine ⟨.inr b10, ?_⟩
              refine dt (i := 8) rfl rfl rfl rfl (by kernel_rfl) (fun _ => (x_neq rfl rfl).b0 (fun h => h hB.1)) ?_
              refine dn (by kernel_rfl) ?_
              refine al_k ?_
              refine cl_if0 rfl rfl ?_
              refine cl_skip rfl ?_
              refine al_k ?_
              refine cl_reg rfl ?_
              refine st rfl rfl rfl rfl (x_move rfl) ?_
              refine st rfl rfl rfl rfl (x_add rfl rfl (by omega)) ?_
              refine st rfl rfl rfl rfl (x_asg rfl) ?_
              refine rl_end rfl ?_
              refine again (i + 1, (a.drop nn gg).1, (b.drop nn gg).1) (show 60 - (i + 1) < 60 - i by omega) ⟨rfl, rfl, rfl, rfl, rfl, trivial⟩ ⟨⟨by dsimp only; omega, by dsimp only; omega⟩, H, hB.2⟩
            · skip
              refine st rfl rfl rfl rfl (x_pick1 rfl rfl) ?_
              refine st rfl rfl rfl rfl (x_asg rfl) ?_
              refine rl_end rfl ?_
              refine al_k ?_
              refine cl_if0 rfl rfl ?_
              refine cl_seq rfl ?_
              refine cl_reg rfl ?_
              refine st rfl rfl rfl rfl (x_fa rfl Tryd.underlying35 rfl Tryd.sizeOf3 0 rfl) ?_
              refine st rfl rfl rfl rfl (x_ld rfl Tryd.isAgg3 (b10.cell rfl)) ?_
              refine st rfl rfl rfl rfl ((x_eql rfl rfl).b0 (by omega)) ?_
              refine st rfl rfl rfl rfl (x_move rfl) ?_
              refine so rfl rfl rfl rfl ?_
              refine so rfl rfl rfl rfl ?_
              refine so rfl rfl rfl rfl ?_
              refine st rfl rfl rfl rfl (x_pick0 rfl rfl) ?_
              refine st rfl rfl rfl rfl (x_asg rfl) ?_
              refine rl_end rfl ?_
              refine al_k ?_
              refine cl_if0 rfl rfl ?_
              refine cl_seq rfl ?_
              refine cl_reg rfl ?_
              refine st rfl rfl rfl rfl (x_move rfl) ?_
              refine st rfl rfl rfl rfl (x_move rfl) ?_
              refine st rfl rfl rfl rfl ((x_eql rfl rfl).b0 (by omega)) ?_
              refine st rfl rfl rfl rfl (x_asg rfl) ?_
              refine rl_end rfl ?_
              refine al_k ?_
              refine cl_if0 rfl rfl ?_
              refine cl_seq rfl ?_
              refine cl_reg rfl ?_
              refine st rfl rfl rfl rfl (x_fa rfl Tryd.underlying35 rfl Tryd.sizeOf3 0 rfl) ?_
              refine st rfl rfl rfl rfl (x_ld rfl Tryd.isAgg3 (b10.cell rfl)) ?_
              refine st rfl rfl rfl rfl ((x_eql rfl rfl).b0 (by omega)) ?_
              refine st rfl rfl rfl rfl (x_asg rfl) ?_
              refine rl_end rfl ?_
              refine al_k ?_
              refine cl_if0 rfl rfl ?_
              refine cl_seq rfl ?_
              refine cl_reg rfl ?_
              refine st rfl rfl rfl rfl (x_fa rfl Tryd.underlying35 rfl Tryd.sizeOf3 0 rfl) ?_
              refine st rfl rfl rfl rfl (x_ld rfl Tryd.isAgg3 (b10.cell rfl)) ?_
              refine st rfl rfl rfl rfl ((x_eql rfl rfl).b1 (by omega)) ?_
              refine st rfl rfl rfl rfl (x_asg rfl) ?_
              refine rl_end rfl ?_
              refine al_k ?_
              refine cl_if1 rfl rfl ?_
              have hown : ¬ (a.part_ nn).1 = part := by omega
              refine cl_reg rfl ?_
              refine st rfl rfl rfl rfl (x_move rfl) ?_
              refine st rfl rfl rfl rfl (x_fa rfl Tryd.underlying35 rfl Tryd.sizeOf33 2 rfl) ?_
              refine st rfl rfl rfl rfl (x_ldn rfl Tryd.isAgg33 Tryd.sizeOf33 rfl (blk_two b10)) ?_
              refine sc rfl rfl rfl rfl (c_fn rfl Tryd.call12 (free_a H.K1 hR.Ia nn gg)) ?_
              rintro _ w35 ⟨rfl, K, fr⟩
              replace b10 := H.bx1 b10 hbo fr
              replace H := H.ar1 K fr
              clear K fr
              refine rl_end rfl ?_
              refine al_k ?_
              refine cl_reg rfl ?_
              refine st rfl rfl rfl rfl (x_move rfl) ?_
              refine st rfl rfl rfl rfl (x_add rfl rfl (by omega)) ?_
              refine st rfl rfl rfl rfl (x_asg rfl) ?_
              refine rl_end rfl ?_
              refine again (i + 1, (a.drop nn gg).1, b) (show 60 - (i + 1) < 60 - i by omega) ⟨rfl, rfl, rfl, rfl, rfl, trivial⟩ ⟨⟨by dsimp only; omega, by dsimp only; omega⟩, H, (hR.drop' gg hown)⟩
          · skip
            refine st rfl rfl rfl rfl (x_move rfl) ?_
            refine so rfl rfl rfl rfl ?_
            refine so rfl rfl rfl rfl ?_
            refine so rfl rfl rfl rfl ?_
            refine st rfl rfl rfl rfl (x_pick0 rfl rfl) ?_
            refine st rfl rfl rfl rfl (x_asg rfl) ?_
            refine rl_end rfl ?_
            refine al_k ?_
            refine cl_if0 rfl rfl ?_
            refine cl_seq rfl ?_
            refine cl_reg rfl ?_
            refine st rfl rfl rfl rfl (x_fa rfl Tryd.underlying35 rfl Tryd.sizeOf3 0 rfl) ?_
            refine st rfl rfl rfl rfl (x_ld rfl Tryd.isAgg3 (b10.cell rfl)) ?_
            refine sf rfl rfl rfl rfl (x_eql rfl rfl) (fun c24_2 => ?_) (fun c24_2 => ?_)
            · skip
              refine st rfl rfl rfl rfl (x_move rfl) ?_
              refine st rfl rfl rfl rfl (x_move rfl) ?_
              refine st rfl rfl rfl rfl (x_move rfl) ?_
              refine sf rfl rfl rfl rfl (x_eql rfl rfl) (fun c24_6 => ?_) (fun c24_6 => ?_)
              · skip
                refine st rfl rfl rfl rfl (x_pick1 rfl rfl) ?_
                refine st rfl rfl rfl rfl (x_asg rfl) ?_
                refine rl_end rfl ?_
                refine al_k ?_
                refine cl_if1 rfl rfl ?_
                refine cl_seq rfl ?_
                refine cl_draw (by kernel_rfl) rfl [] (fun w' => Blk w' bo 35 [.int .i64 kd, .int .i64 pt, .int .i64 nn, .int .u64 gg, .int .u64 xx]) ?_
                rintro wd25 fr hpd
                replace H := H.fr0 fr
                replace b10 := b10.fr0 fr
                have hown : (a.part_ nn).1 = part := by omega
                have hB := hR.write gg xx hown
                refine ⟨b10, ?_⟩
                refine dt (i := 0) rfl rfl rfl rfl (by kernel_rfl) (fun _ => x_move rfl) ?_
                refine dt (i := 1) rfl rfl rfl rfl (by kernel_rfl) (fun _ => x_fa rfl Tryd.underlying35 rfl Tryd.sizeOf33 2 rfl) ?_
                refine dl (i := 2) rfl rfl rfl rfl (by kernel_rfl) (by kernel_rfl) (fun w' hU => x_ldn rfl Tryd.isAgg33 Tryd.sizeOf33 rfl (blk_two hU)) ?_
                refine dt (i := 3) rfl rfl rfl rfl (by kernel_rfl) (fun _ => x_fa rfl Tryd.underlying35 rfl Tryd.sizeOf31 4 rfl) ?_
                refine dl (i := 4) rfl rfl rfl rfl (by kernel_rfl) (by kernel_rfl) (fun w' hU => x_ld rfl Tryd.isAgg31 (hU.cell rfl)) ?_
                refine dt (i := 6) rfl rfl rfl rfl (by kernel_rfl) (fun _ => x_move rfl) ?_
                refine dt (i := 7) rfl rfl rfl rfl (by kernel_rfl) (fun _ => x_fa rfl Tryd.underlying35 rfl Tryd.sizeOf33 2 rfl) ?_
                refine dl (i := 8) rfl rfl rfl rfl (by kernel_rfl) (by kernel_rfl) (fun w' hU => x_ldn rfl Tryd.isAgg33 Tryd.sizeOf33 rfl (blk_two hU)) ?_
                refine dt (i := 9) rfl rfl rfl rfl (by kernel_rfl) (fun _ => x_fa rfl Tryd.underlying35 rfl Tryd.sizeOf31 4 rfl) ?_
                refine dl (i := 10) rfl rfl rfl rfl (by kernel_rfl) (by kernel_rfl) (fun w' hU => x_ld rfl Tryd.isAgg31 (hU.cell rfl)) ?_
                refine d1 (i := 5) (by kernel_rfl) ?_
                refine oc rfl rfl rfl rfl (c_fn rfl Tryd.call15 (write_a _ k1 a H.K1 nn gg xx)) ?_
                rintro _ w25a ⟨rfl, K, fr⟩
                replace b10 := H.bx1 b10 hbo fr
                replace H := H.ar1 K fr
                clear K fr
                refine ⟨.inr b10, ?_⟩
                refine d1 (i := 11) (by kernel_rfl) ?_
                refine oc rfl rfl rfl rfl (c_fn rfl Tryd.call15 (write_a _ k2 b H.K2 nn gg xx)) ?_
                rintro _ w25b ⟨rfl, K, fr⟩
                replace b10 := H.bx2 b10 hbo fr
                replace H := H.ar2 K fr
                clear K fr
                refine ⟨.inr b10, ?_⟩
                refine dt (i := 12) rfl rfl rfl rfl (by kernel_rfl) (fun _ => (x_neq rfl rfl).b0 (fun h => h hB.1)) ?_
                refine dn (by kernel_rfl) ?_
                refine al_k ?_
                refine cl_if0 rfl rfl ?_
                refine cl_skip rfl ?_
                refine al_k ?_
                refine cl_reg rfl ?_
                refine st rfl rfl rfl rfl (x_move rfl) ?_
                refine st rfl rfl rfl rfl (x_add rfl rfl (by omega)) ?_
                refine st rfl rfl rfl rfl (x_asg rfl) ?_
                refine rl_end rfl ?_
                refine again (i + 1, (a.write nn gg xx).1, (b.write nn gg xx).1) (show 60 - (i + 1) < 60 - i by omega) ⟨rfl, rfl, rfl, rfl, rfl, trivial⟩ ⟨⟨by dsimp only; omega, by dsimp only; omega⟩, H, hB.2⟩
              · skip
                refine st rfl rfl rfl rfl (x_pick1 rfl rfl) ?_
                refine st rfl rfl rfl rfl (x_asg rfl) ?_
                refine rl_end rfl ?_
                refine al_k ?_
                refine cl_if0 rfl rfl ?_
                refine cl_seq rfl ?_
                refine cl_reg rfl ?_
                refine st rfl rfl rfl rfl (x_move rfl) ?_
                refine st rfl rfl rfl rfl (x_move rfl) ?_
                refine st rfl rfl rfl rfl ((x_eql rfl rfl).b0 (by omega)) ?_
                refine st rfl rfl rfl rfl (x_asg rfl) ?_
                refine rl_end rfl ?_
                refine al_k ?_
                refine cl_if0 rfl rfl ?_
                refine cl_seq rfl ?_
                refine cl_reg rfl ?_
                refine st rfl rfl rfl rfl (x_fa rfl Tryd.underlying35 rfl Tryd.sizeOf3 0 rfl) ?_
                refine st rfl rfl rfl rfl (x_ld rfl Tryd.isAgg3 (b10.cell rfl)) ?_
                refine st rfl rfl rfl rfl ((x_eql rfl rfl).b0 (by omega)) ?_
                refine st rfl rfl rfl rfl (x_asg rfl) ?_
                refine rl_end rfl ?_
                refine al_k ?_
                refine cl_if0 rfl rfl ?_
                refine cl_seq rfl ?_
                refine cl_reg rfl ?_
                refine st rfl rfl rfl rfl (x_fa rfl Tryd.underlying35 rfl Tryd.sizeOf3 0 rfl) ?_
                refine st rfl rfl rfl rfl (x_ld rfl Tryd.isAgg3 (b10.cell rfl)) ?_
                refine st rfl rfl rfl rfl ((x_eql rfl rfl).b0 (by omega)) ?_
                refine st rfl rfl rfl rfl (x_asg rfl) ?_
                refine rl_end rfl ?_
                refine al_k ?_
                refine cl_if0 rfl rfl ?_
                have hown : ¬ (a.part_ nn).1 = part := by omega
                refine cl_reg rfl ?_
                refine st rfl rfl rfl rfl (x_move rfl) ?_
                refine st rfl rfl rfl rfl (x_fa rfl Tryd.underlying35 rfl Tryd.sizeOf33 2 rfl) ?_
                refine st rfl rfl rfl rfl (x_ldn rfl Tryd.isAgg33 Tryd.sizeOf33 rfl (blk_two b10)) ?_
                refine st rfl rfl rfl rfl (x_fa rfl Tryd.underlying35 rfl Tryd.sizeOf31 4 rfl) ?_
                refine st rfl rfl rfl rfl (x_ld rfl Tryd.isAgg31 (b10.cell rfl)) ?_
                refine sc rfl rfl rfl rfl (c_fn rfl Tryd.call15 (write_a _ k1 a H.K1 nn gg xx)) ?_
                rintro _ w15 ⟨rfl, K, fr⟩
                replace b10 := H.bx1 b10 hbo fr
                replace H := H.ar1 K fr
                clear K fr
                refine rl_end rfl ?_
                refine al_k ?_
                refine cl_reg rfl ?_
                refine st rfl rfl rfl rfl (x_move rfl) ?_
                refine st rfl rfl rfl rfl (x_add rfl rfl (by omega)) ?_
                refine st rfl rfl rfl rfl (x_asg rfl) ?_
                refine rl_end rfl ?_
                refine again (i + 1, (a.write nn gg xx).1, b) (show 60 - (i + 1) < 60 - i by omega) ⟨rfl, rfl, rfl, rfl, rfl, trivial⟩ ⟨⟨by dsimp only; omega, by dsimp only; omega⟩, H, (hR.write' gg xx hown)⟩
            · skip
              refine st rfl rfl rfl rfl (x_move rfl) ?_
              refine so rfl rfl rfl rfl ?_
              refine so rfl rfl rfl rfl ?_
              refine so rfl rfl rfl rfl ?_
              refine st rfl rfl rfl rfl (x_pick0 rfl rfl) ?_
              refine st rfl rfl rfl rfl (x_asg rfl) ?_
              refine rl_end rfl ?_
              refine al_k ?_
              refine cl_if0 rfl rfl ?_
              refine cl_seq rfl ?_
              refine cl_reg rfl ?_
              refine st rfl rfl rfl rfl (x_move rfl) ?_
              refine st rfl rfl rfl rfl (x_move rfl) ?_
              refine sf rfl rfl rfl rfl (x_eql rfl rfl) (fun c27_2 => ?_) (fun c27_2 => ?_)
              · skip
                refine st rfl rfl rfl rfl (x_asg rfl) ?_
                refine rl_end rfl ?_
                refine al_k ?_
                refine cl_if1 rfl rfl ?_
                refine cl_seq rfl ?_
                have hown : (a.part_ nn).1 = part := by omega
                have hB := hR.read gg hown
                refine cl_reg rfl ?_
                refine st rfl rfl rfl rfl (x_move rfl) ?_
                refine st rfl rfl rfl rfl (x_fa rfl Tryd.underlying35 rfl Tryd.sizeOf33 2 rfl) ?_
                refine st rfl rfl rfl rfl (x_ldn rfl Tryd.isAgg33 Tryd.sizeOf33 rfl (blk_two b10)) ?_
                refine sc rfl rfl rfl rfl (c_fn rfl Tryd.call13 (read_a _ k1 a H.K1 nn gg)) ?_
                rintro _ w28 ⟨rfl, fr⟩
                replace b10 := b10.fr0 fr
                replace H := H.fr0 fr
                clear fr
                refine st rfl rfl rfl rfl (x_move rfl) ?_
                refine st rfl rfl rfl rfl (x_ext rfl rfl) ?_
                refine st rfl rfl rfl rfl (x_ext rfl rfl) ?_
                refine st rfl rfl rfl rfl (x_asg rfl) ?_
                refine st rfl rfl rfl rfl (x_asg rfl) ?_
                refine rl_end rfl ?_
                refine al_k ?_
                refine cl_seq rfl ?_
                refine cl_reg rfl ?_
                refine st rfl rfl rfl rfl (x_move rfl) ?_
                refine st rfl rfl rfl rfl (x_fa rfl Tryd.underlying35 rfl Tryd.sizeOf33 2 rfl) ?_
                refine st rfl rfl rfl rfl (x_ldn rfl Tryd.isAgg33 Tryd.sizeOf33 rfl (blk_two b10)) ?_
                refine sc rfl rfl rfl rfl (c_fn rfl Tryd.call13 (read_a _ k2 b H.K2 nn gg)) ?_
                rintro _ w29 ⟨rfl, fr⟩
                replace b10 := b10.fr0 fr
                replace H := H.fr0 fr
                clear fr
                refine st rfl rfl rfl rfl (x_move rfl) ?_
                refine st rfl rfl rfl rfl (x_ext rfl rfl) ?_
                refine st rfl rfl rfl rfl (x_ext rfl rfl) ?_
                refine st rfl rfl rfl rfl (x_asg rfl) ?_
                refine st rfl rfl rfl rfl (x_asg rfl) ?_
                refine rl_end rfl ?_
                refine al_k ?_
                refine cl_seq rfl ?_
                refine cl_reg rfl ?_
                refine st rfl rfl rfl rfl (x_move rfl) ?_
                refine st rfl rfl rfl rfl (x_move rfl) ?_
                refine st rfl rfl rfl rfl ((x_neq rfl rfl).b0 (fun h => h (by rw [hB]))) ?_
                refine st rfl rfl rfl rfl (x_move rfl) ?_
                refine st rfl rfl rfl rfl (x_move rfl) ?_
                refine st rfl rfl rfl rfl (x_move rfl) ?_
                refine st rfl rfl rfl rfl ((x_neq rfl rfl).b0 (fun h => h (by rw [hB]))) ?_
                refine st rfl rfl rfl rfl (x_pick0 rfl rfl) ?_
                refine rl_end rfl ?_
                refine al_k ?_
                refine cl_if0 rfl rfl ?_
                refine cl_skip rfl ?_
                refine al_k ?_
                refine cl_reg rfl ?_
                refine st rfl rfl rfl rfl (x_move rfl) ?_
                refine st rfl rfl rfl rfl (x_add rfl rfl (by omega)) ?_
                refine st rfl rfl rfl rfl (x_asg rfl) ?_
                refine rl_end rfl ?_
                refine again (i + 1, a, b) (show 60 - (i + 1) < 60 - i by omega) ⟨rfl, rfl, rfl, rfl, rfl, trivial⟩ ⟨⟨by dsimp only; omega, by dsimp only; omega⟩, H, hR⟩
              · skip
                refine st rfl rfl rfl rfl (x_asg rfl) ?_
                refine rl_end rfl ?_
                refine al_k ?_
                refine cl_if0 rfl rfl ?_
                refine cl_seq rfl ?_
                refine cl_reg rfl ?_
                refine st rfl rfl rfl rfl (x_fa rfl Tryd.underlying35 rfl Tryd.sizeOf3 0 rfl) ?_
                refine st rfl rfl rfl rfl (x_ld rfl Tryd.isAgg3 (b10.cell rfl)) ?_
                refine st rfl rfl rfl rfl ((x_eql rfl rfl).b0 (by omega)) ?_
                refine st rfl rfl rfl rfl (x_asg rfl) ?_
                refine rl_end rfl ?_
                refine al_k ?_
                refine cl_if0 rfl rfl ?_
                refine cl_seq rfl ?_
                refine cl_reg rfl ?_
                refine st rfl rfl rfl rfl (x_fa rfl Tryd.underlying35 rfl Tryd.sizeOf3 0 rfl) ?_
                refine st rfl rfl rfl rfl (x_ld rfl Tryd.isAgg3 (b10.cell rfl)) ?_
                refine st rfl rfl rfl rfl ((x_eql rfl rfl).b0 (by omega)) ?_
                refine st rfl rfl rfl rfl (x_asg rfl) ?_
                refine rl_end rfl ?_
                refine al_k ?_
                refine cl_if0 rfl rfl ?_
                have hown : ¬ (a.part_ nn).1 = part := by omega
                refine cl_reg rfl ?_
                refine st rfl rfl rfl rfl (x_move rfl) ?_
                refine st rfl rfl rfl rfl (x_fa rfl Tryd.underlying35 rfl Tryd.sizeOf33 2 rfl) ?_
                refine st rfl rfl rfl rfl (x_ldn rfl Tryd.isAgg33 Tryd.sizeOf33 rfl (blk_two b10)) ?_
                refine st rfl rfl rfl rfl (x_fa rfl Tryd.underlying35 rfl Tryd.sizeOf31 4 rfl) ?_
                refine st rfl rfl rfl rfl (x_ld rfl Tryd.isAgg31 (b10.cell rfl)) ?_
                refine sc rfl rfl rfl rfl (c_fn rfl Tryd.call15 (write_a _ k1 a H.K1 nn gg xx)) ?_
                rintro _ w15 ⟨rfl, K, fr⟩
                replace b10 := H.bx1 b10 hbo fr
                replace H := H.ar1 K fr
                clear K fr
                refine rl_end rfl ?_
                refine al_k ?_
                refine cl_reg rfl ?_
                refine st rfl rfl rfl rfl (x_move rfl) ?_
                refine st rfl rfl rfl rfl (x_add rfl rfl (by omega)) ?_
                refine st rfl rfl rfl rfl (x_asg rfl) ?_
                refine rl_end rfl ?_
                refine again (i + 1, (a.write nn gg xx).1, b) (show 60 - (i + 1) < 60 - i by omega) ⟨rfl, rfl, rfl, rfl, rfl, trivial⟩ ⟨⟨by dsimp only; omega, by dsimp only; omega⟩, H, (hR.write' gg xx hown)⟩
        · skip
          refine rl_end rfl ?_
          refine al_k ?_
          refine cl_if0 rfl rfl ?_
          refine cl_skip rfl ?_
          refine al_k ?_
          refine cl_block rfl ?_
          refine cl_seq rfl ?_
          refine cl_reg rfl ?_
          refine st rfl rfl rfl rfl (x_fa rfl Tryd.underlying35 rfl Tryd.sizeOf3 0 rfl) ?_
          refine st rfl rfl rfl rfl (x_ld rfl Tryd.isAgg3 (b10.cell rfl)) ?_
          refine st rfl rfl rfl rfl ((x_eql rfl rfl).b1 (by omega)) ?_
          refine st rfl rfl rfl rfl (x_move rfl) ?_
          refine st rfl rfl rfl rfl (x_move rfl) ?_
          refine st rfl rfl rfl rfl (x_move rfl) ?_
          refine sf rfl rfl rfl rfl (x_eql rfl rfl) (fun c16_6 => ?_) (fun c16_6 => ?_)
          · skip
            refine st rfl rfl rfl rfl (x_pick1 rfl rfl) ?_
            refine st rfl rfl rfl rfl (x_asg rfl) ?_
            refine rl_end rfl ?_
            refine al_k ?_
            refine cl_if1 rfl rfl ?_
            refine cl_seq rfl ?_
            refine cl_reg rfl ?_
            refine st rfl rfl rfl rfl (x_move rfl) ?_
            refine st rfl rfl rfl rfl (x_move rfl) ?_
            refine sc rfl rfl rfl rfl (c_fn rfl Tryd.call11 (alloc_a H.K1 hR.Ia part)) ?_
            rintro _ w17 ⟨rfl, K, fr⟩
            have hAl := hR.alloc
            replace H := H.ar1 K fr
            clear K fr b10
            refine st rfl rfl rfl rfl (x_move rfl) ?_
            refine st rfl rfl rfl rfl (x_ext rfl rfl) ?_
            refine st rfl rfl rfl rfl (x_ext rfl rfl) ?_
            refine se rfl rfl rfl rfl (e_new (x_alloc Tryd.zeroValue33 rfl)) ?_
            rintro _ w17a ⟨rfl, ba, fr, _⟩
            have hob := H.zB
            replace H := H.fr0 fr
            generalize hqob : w17.heap.size = ob at ba hob ⊢
            clear fr
            refine sv rfl rfl rfl (v_n (vs := [.int .i64 (a.alloc part).2.1, .int .u64 (a.alloc part).2.2.1]) rfl rfl (by intro v hv; simp at hv; rcases hv with rfl | rfl <;> rfl) Tryd.sizeOf33 rfl ba (by decide)) ?_
            rintro w17b ⟨bb2, fr⟩
            replace ba : Blk w17b ob 33 [.int .i64 (a.alloc part).2.1, .int .u64 (a.alloc part).2.2.1] := bb2
            replace H := H.own1 fr hob
            clear fr bb2
            refine st rfl rfl rfl rfl (x_asg rfl) ?_
            refine rl_end rfl ?_
            refine al_k ?_
            refine cl_seq rfl ?_
            refine cl_reg rfl ?_
            refine st rfl rfl rfl rfl (x_move rfl) ?_
            refine st rfl rfl rfl rfl (x_move rfl) ?_
            refine sc rfl rfl rfl rfl (c_fn rfl Tryd.call11 (alloc_a H.K2 hR.Ib part)) ?_
            rintro _ w18 ⟨rfl, K, fr⟩
            replace ba := H.bx2 ba hob fr
            replace H := H.ar2 K fr
            clear K fr
            refine st rfl rfl rfl rfl (x_move rfl) ?_
            refine st rfl rfl rfl rfl (x_ext rfl rfl) ?_
            refine st rfl rfl rfl rfl (x_ext rfl rfl) ?_
            refine se rfl rfl rfl rfl (e_new (x_alloc Tryd.zeroValue33 rfl)) ?_
            rintro _ w18a ⟨rfl, bb, fr, _⟩
            have hoc := H.zB
            have hne : ob ≠ w18.heap.size := by have := ba.lt; omega
            replace H := H.fr0 fr
            replace ba := ba.fr0 fr
            generalize hqoc : w18.heap.size = oc at bb hoc hne ⊢
            clear fr
            refine sv rfl rfl rfl (v_n (vs := [.int .i64 (b.alloc part).2.1, .int .u64 (b.alloc part).2.2.1]) rfl rfl (by intro v hv; simp at hv; rcases hv with rfl | rfl <;> rfl) Tryd.sizeOf33 rfl bb (by decide)) ?_
            rintro w18b ⟨bb2, fr⟩
            replace bb : Blk w18b oc 33 [.int .i64 (b.alloc part).2.1, .int .u64 (b.alloc part).2.2.1] := bb2
            replace H := H.own1 fr hoc
            replace ba := ba.fr fr (by simpa using hne)
            clear fr bb2
            refine st rfl rfl rfl rfl (x_asg rfl) ?_
            refine rl_end rfl ?_
            refine al_k ?_
            refine cl_seq rfl ?_
            have hA3 : (a.alloc part).2.1 = (b.alloc part).2.1 ∧ (a.alloc part).2.2.1 = (b.alloc part).2.2.1 ∧ (a.alloc part).2.2.2 = (b.alloc part).2.2.2 := by rw [hAl.1]; exact ⟨rfl, rfl, rfl⟩
            refine cl_reg rfl ?_
            refine st rfl rfl rfl rfl (x_ldn rfl Tryd.isAgg33 Tryd.sizeOf33 rfl (by intro j v hv; rw [Nat.zero_add]; exact ba.cell hv)) ?_
            refine st rfl rfl rfl rfl (x_ldn rfl Tryd.isAgg33 Tryd.sizeOf33 rfl (by intro j v hv; rw [Nat.zero_add]; exact bb.cell hv)) ?_
            refine st rfl rfl rfl rfl ((x_eqs rfl rfl (egN _ _ _ _ _ _ _ _) (neN _ _ _ _ _)).b0 (fun h => h ⟨hA3.1, hA3.2.1⟩)) ?_
            refine st rfl rfl rfl rfl (x_move rfl) ?_
            refine st rfl rfl rfl rfl (x_move rfl) ?_
            refine st rfl rfl rfl rfl (x_move rfl) ?_
            refine st rfl rfl rfl rfl ((x_neq rfl rfl).b0 (fun h => h hA3.2.2)) ?_
            refine st rfl rfl rfl rfl (x_pick0 rfl rfl) ?_
            refine rl_end rfl ?_
            refine al_k ?_
            refine cl_if0 rfl rfl ?_
            refine cl_skip rfl ?_
            refine al_k ?_
            refine cl_reg rfl ?_
            refine st rfl rfl rfl rfl (x_move rfl) ?_
            refine st rfl rfl rfl rfl (x_add rfl rfl (by omega)) ?_
            refine st rfl rfl rfl rfl (x_asg rfl) ?_
            refine rl_end rfl ?_
            refine again (i + 1, (a.alloc part).1, (b.alloc part).1) (show 60 - (i + 1) < 60 - i by omega) ⟨rfl, rfl, rfl, rfl, rfl, trivial⟩ ⟨⟨by dsimp only; omega, by dsimp only; omega⟩, H, hAl.2⟩
          · skip
            refine st rfl rfl rfl rfl (x_pick1 rfl rfl) ?_
            refine st rfl rfl rfl rfl (x_asg rfl) ?_
            refine rl_end rfl ?_
            refine al_k ?_
            refine cl_if0 rfl rfl ?_
            refine cl_seq rfl ?_
            refine cl_reg rfl ?_
            refine st rfl rfl rfl rfl (x_fa rfl Tryd.underlying35 rfl Tryd.sizeOf3 0 rfl) ?_
            refine st rfl rfl rfl rfl (x_ld rfl Tryd.isAgg3 (b10.cell rfl)) ?_
            refine st rfl rfl rfl rfl ((x_eql rfl rfl).b0 (by omega)) ?_
            refine st rfl rfl rfl rfl (x_move rfl) ?_
            refine so rfl rfl rfl rfl ?_
            refine so rfl rfl rfl rfl ?_
            refine so rfl rfl rfl rfl ?_
            refine st rfl rfl rfl rfl (x_pick0 rfl rfl) ?_
            refine st rfl rfl rfl rfl (x_asg rfl) ?_
            refine rl_end rfl ?_
            refine al_k ?_
            refine cl_if0 rfl rfl ?_
            refine cl_seq rfl ?_
            refine cl_reg rfl ?_
            refine st rfl rfl rfl rfl (x_fa rfl Tryd.underlying35 rfl Tryd.sizeOf3 0 rfl) ?_
            refine st rfl rfl rfl rfl (x_ld rfl Tryd.isAgg3 (b10.cell rfl)) ?_
            refine st rfl rfl rfl rfl ((x_eql rfl rfl).b0 (by omega)) ?_
            refine st rfl rfl rfl rfl (x_move rfl) ?_
            refine so rfl rfl rfl rfl ?_
            refine so rfl rfl rfl rfl ?_
            refine so rfl rfl rfl rfl ?_
            refine st rfl rfl rfl rfl (x_pick0 rfl rfl) ?_
            refine st rfl rfl rfl rfl (x_asg rfl) ?_
            refine rl_end rfl ?_
            refine al_k ?_
            refine cl_if0 rfl rfl ?_
            refine cl_seq rfl ?_
            refine cl_reg rfl ?_
            refine st rfl rfl rfl rfl (x_move rfl) ?_
            refine st rfl rfl rfl rfl (x_move rfl) ?_
            refine st rfl rfl rfl rfl ((x_eql rfl rfl).b0 (by omega)) ?_
            refine st rfl rfl rfl rfl (x_asg rfl) ?_
            refine rl_end rfl ?_
            refine al_k ?_
            refine cl_if0 rfl rfl ?_
            refine cl_seq rfl ?_
            refine cl_reg rfl ?_
            refine st rfl rfl rfl rfl (x_fa rfl Tryd.underlying35 rfl Tryd.sizeOf3 0 rfl) ?_
            refine st rfl rfl rfl rfl (x_ld rfl Tryd.isAgg3 (b10.cell rfl)) ?_
            refine st rfl rfl rfl rfl ((x_eql rfl rfl).b1 (by omega)) ?_
            refine st rfl rfl rfl rfl (x_asg rfl) ?_
            refine rl_end rfl ?_
            refine al_k ?_
            refine cl_if1 rfl rfl ?_
            refine cl_reg rfl ?_
            refine st rfl rfl rfl rfl (x_move rfl) ?_
            refine st rfl rfl rfl rfl (x_move rfl) ?_
            refine sc rfl rfl rfl rfl (c_fn rfl Tryd.call11 (alloc_a H.K1 hR.Ia pt)) ?_
            rintro _ w33 ⟨rfl, K, fr⟩
            replace b10 := H.bx1 b10 hbo fr
            replace H := H.ar1 K fr
            clear K fr
            refine rl_end rfl ?_
            refine al_k ?_
            refine cl_reg rfl ?_
            refine st rfl rfl rfl rfl (x_move rfl) ?_
            refine st rfl rfl rfl rfl (x_add rfl rfl (by omega)) ?_
            refine st rfl rfl rfl rfl (x_asg rfl) ?_
            refine rl_end rfl ?_
            refine again (i + 1, (a.alloc pt).1, b) (show 60 - (i + 1) < 60 - i by omega) ⟨rfl, rfl, rfl, rfl, rfl, trivial⟩ ⟨⟨by dsimp only; omega, by dsimp only; omega⟩, H, (hR.alloc' (by omega))⟩
      · skip
        refine st rfl rfl rfl rfl (x_pick1 rfl rfl) ?_
        refine rl_end rfl ?_
        refine al_k ?_
        refine cl_if0 rfl rfl ?_
        refine cl_exit rfl ?_
        refine upd_self ?_
        refine al_k ?_
        refine cl_seq rfl ?_
        refine cl_reg rfl ?_
        refine st rfl rfl rfl rfl (x_asg rfl) ?_
        refine rl_end rfl ?_
        refine al_k ?_
        refine cl_ret rfl ?_
        refine fin1 rfl rfl ?_
        exact ⟨rfl, H.F⟩
    · skip
      refine st rfl rfl rfl rfl (x_move rfl) ?_
      refine so rfl rfl rfl rfl ?_
      refine so rfl rfl rfl rfl ?_
      refine st rfl rfl rfl rfl (x_pick0 rfl rfl) ?_
      refine rl_end rfl ?_
      refine al_k ?_
      refine cl_if0 rfl rfl ?_
      refine cl_exit rfl ?_
      refine upd_self ?_
      refine al_k ?_
      refine cl_seq rfl ?_
      refine cl_reg rfl ?_
      refine st rfl rfl rfl rfl (x_asg rfl) ?_
      refine rl_end rfl ?_
      refine al_k ?_
      refine cl_ret rfl ?_
      refine fin1 rfl rfl ?_
      exact ⟨rfl, H.F⟩

theorem apart_c (w : World) (hG : Glb w) (A0 : Option Addr) (n c0 : Nat) (hn : n ≤ 9223372036854775807) (hq : ∀ j : Nat, j < n → ∃ (x : Addr) (z : Int), A0 = some x ∧ w.cell? (x.add (((j : Nat) : Int).toNat * 1)) = some (.int .i64 z) ∧ (Lit.int .i64 z).wf = true) (hc0 : n ≤ c0) (part : Int) (A2 : Option Addr) (ln2 cp2 : Nat) (hln : ln2 ≤ 9223372036854775807) (hp : ∀ j : Nat, j < ln2 → ∃ (x : Addr) (z0 : Int) (z1 : Int) (z2 : Int) (z3 : Int) (z4 : Int), A2 = some x ∧ (∀ i v, [(.int .i64 z0 : Value), .int .i64 z1, .int .i64 z2, .int .u64 z3, .int .u64 z4][i]? = some v → w.cell? ((x.add (((j : Nat) : Int).toNat * 5)).add i) = some v) ∧ (Lit.int .i64 z0).wf = true ∧ (Lit.int .i64 z1).wf = true ∧ (Lit.int .i64 z2).wf = true ∧ (Lit.int .u64 z3).wf = true ∧ (Lit.int .u64 z4).wf = true) :
    Cl Tryd.prog 4 [.slice A0 n c0, .int .i64 part, .slice A2 ln2 cp2] w (fun v w' => v = .bool true ∧ Fr [] w w') := by
  obtain ⟨qs, hql, hrow⟩ := pick_row hq (min n 17) (Nat.min_le_left _ _)
  by_cases hok : okQ qs
  · exact apart_ok w hG A0 n c0 hc0 qs hql hok hrow A2 ln2 cp2 hln hp part
  · exact apart_no w hG A0 n c0 hc0 qs hql hok hrow A2 ln2 cp2 part

end Go.Proofs.YtjjaijabdfoanaaDoor.Arn
