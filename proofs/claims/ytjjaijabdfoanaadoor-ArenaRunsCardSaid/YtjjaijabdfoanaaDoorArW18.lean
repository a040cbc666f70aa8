/- The arena: the walk of the law ArenaRuns. -/
import Derived.Test.YtjjaijabdfoanaaDoorArW17
set_option linter.unusedVariables false
namespace Go.Proofs.YtjjaijabdfoanaaDoor.Arn
open Go Go.RowKit Go.Proofs.YtjjaijabdfoanaaDoor.Sx Go.Proofs.YtjjaijabdfoanaaDoor.Ls Go.Proofs.YtjjaijabdfoanaaDoor
set_option maxRecDepth 100000

theorem rnew_ok (w : World) (A0 : Option Addr) (c0 : Nat) (qs : List Int) (hl : qs.length ≤ 1000) (hok : okQ qs) (hrow : ∀ (j : Nat) q, qs[j]? = some q → ∃ a, A0 = some a ∧ w.cell? (a.add (((j : Nat) : Int).toNat * 1)) = some (.int .i64 q)) :
    Cl Tryd.prog 16 [.slice A0 qs.length c0] w (fun v w' => ∃ (B : Nat) (r : RK), v = .tuple #[.pointer (some ⟨r.rp, 0, none⟩), .int .i64 0] ∧ RAt w' w.heap.size B r qs (Ar.new qs) ∧ Fr [] w w') :=
  (rnew_c w A0 c0 qs hl hrow).mono (fun v w' h => h.elim (fun h => h.2) (fun h => absurd hok h.1))
theorem rnew_no (w : World) (A0 : Option Addr) (c0 : Nat) (qs : List Int) (hl : qs.length ≤ 1000) (hno : ¬ okQ qs) (hrow : ∀ (j : Nat) q, qs[j]? = some q → ∃ a, A0 = some a ∧ w.cell? (a.add (((j : Nat) : Int).toNat * 1)) = some (.int .i64 q)) :
    Cl Tryd.prog 16 [.slice A0 qs.length c0] w (fun v w' => v = .tuple #[.pointer none, .int .i64 60] ∧ Fr [] w w') :=
  (rnew_c w A0 c0 qs hl hrow).mono (fun v w' h => h.elim (fun h => absurd h.1 hno) (fun h => h.2))
theorem rowq_fr0 {w w' : World} {A0 : Option Addr} {qs : List Int} (h : ∀ (j : Nat) q, qs[j]? = some q → ∃ a, A0 = some a ∧ w.cell? (a.add (((j : Nat) : Int).toNat * 1)) = some (.int .i64 q)) (f : Fr [] w w') : ∀ (j : Nat) q, qs[j]? = some q → ∃ a, A0 = some a ∧ w'.cell? (a.add (((j : Nat) : Int).toNat * 1)) = some (.int .i64 q) :=
  fun j q hj => let ⟨a, e, c⟩ := h j q hj; ⟨a, e, f.cell c (by simp)⟩
theorem own_len {w : World} {B e sz n m c : Nat} {A : Option Addr} {xs : List Value} (h : w.ownsRow B e sz (.slice A n c) n xs) (hn : n = m) : w.ownsRow B e sz (.slice A m c) m xs := by subst hn; exact h
theorem wf_le {n : Int} (h : (Lit.int .i64 n).wf = true) : n ≤ 9223372036854775807 := by
  simp [Lit.wf, IntKind.min, IntKind.max, IntKind.signed, IntKind.bits] at h
  omega

theorem runs_no (w : World) (hG : Glb w) (A0 : Option Addr) (n c0 : Nat) (hc0 : n ≤ c0) (qs : List Int) (hql : qs.length = min n 17) (hno : ¬ okQ qs) (hrow : ∀ (j : Nat) q, qs[j]? = some q → ∃ a, A0 = some a ∧ w.cell? (a.add (((j : Nat) : Int).toNat * 1)) = some (.int .i64 q)) (A2 : Option Addr) (ln2 cp2 : Nat) (nq : Int) (hnq : nq ≤ 9223372036854775807) (part most : Int) : Cl Tryd.prog 5 [.slice A0 n c0, .slice A2 ln2 cp2, .int .i64 nq, .int .i64 part, .int .i64 most] w (fun v w' => v = .bool true ∧ Fr [] w w') := by
  have F := Fr.refl [] w
  refine enter Tryd.func5 rfl Tryd.ntmps5 rfl ?_
  refine cl_seq rfl ?_
  refine cl_reg rfl ?_
  refine st rfl rfl rfl rfl (x_asg rfl) ?_
  refine rl_end rfl ?_
  refine al_k ?_
  refine cl_seq rfl ?_
  refine cl_seq rfl ?_
  refine cl_reg rfl ?_
  refine sc rfl rfl rfl rfl (c_fn rfl Tryd.call8 (awake_c w hG)) ?_
  rintro _ w1 ⟨rfl, fr⟩
  replace F := F.trans fr
  replace hrow : ∀ (j : Nat) q, qs[j]? = some q → ∃ a, A0 = some a ∧ w1.cell? (a.add (((j : Nat) : Int).toNat * 1)) = some (.int .i64 q) := fun j q h => let ⟨a, e, c⟩ := hrow j q h; ⟨a, e, fr.cell c (by simp)⟩
  refine st rfl rfl rfl rfl (x_not1 rfl) ?_
  refine rl_end rfl ?_
  refine al_k ?_
  refine cl_if0 rfl rfl ?_
  refine cl_skip rfl ?_
  refine al_k ?_
  refine cl_seq rfl ?_
  refine cl_reg rfl ?_
  refine st rfl rfl rfl rfl (x_move rfl) ?_
  refine sc rfl rfl rfl rfl (c_fn rfl Tryd.call9 (few_c _ A0 n c0 hc0)) ?_
  rintro _ wk ⟨rfl, hwk⟩
  obtain rfl := hwk.symm
  rw [← hql]
  refine st rfl rfl rfl rfl (x_asg rfl) ?_
  refine rl_end rfl ?_
  refine al_k ?_
  refine cl_seq rfl ?_
  refine cl_reg rfl ?_
  refine st rfl rfl rfl rfl (x_move rfl) ?_
  refine sc rfl rfl rfl rfl (c_fn rfl Tryd.call10 (anew_no _ (hG.fr F (by simp)) A0 c0 qs (by omega) hno hrow)) ?_
  rintro _ w4 ⟨rfl, fr⟩
  replace F := F.trans fr
  replace hrow := rowq_fr0 hrow fr
  clear fr
  refine st rfl rfl rfl rfl (x_move rfl) ?_
  refine st rfl rfl rfl rfl (x_ext rfl rfl) ?_
  refine st rfl rfl rfl rfl (x_ext rfl rfl) ?_
  refine st rfl rfl rfl rfl (x_asg rfl) ?_
  refine st rfl rfl rfl rfl (x_asg rfl) ?_
  refine rl_end rfl ?_
  refine al_k ?_
  refine cl_seq rfl ?_
  refine cl_reg rfl ?_
  refine st rfl rfl rfl rfl (x_move rfl) ?_
  refine sc rfl rfl rfl rfl (c_fn rfl Tryd.call16 (rnew_no _ A0 c0 qs (by omega) hno hrow)) ?_
  rintro _ w5 ⟨rfl, fr⟩
  replace F := F.trans fr
  replace hrow := rowq_fr0 hrow fr
  clear fr
  refine st rfl rfl rfl rfl (x_move rfl) ?_
  refine st rfl rfl rfl rfl (x_ext rfl rfl) ?_
  refine st rfl rfl rfl rfl (x_ext rfl rfl) ?_
  refine st rfl rfl rfl rfl (x_asg rfl) ?_
  refine st rfl rfl rfl rfl (x_asg rfl) ?_
  refine rl_end rfl ?_
  refine al_k ?_
  refine cl_seq rfl ?_
  refine cl_seq rfl ?_
  refine cl_reg rfl ?_
  refine st rfl rfl rfl rfl (x_move rfl) ?_
  refine st rfl rfl rfl rfl (x_move rfl) ?_
  refine st rfl rfl rfl rfl ((x_neq rfl rfl).b0 (fun h => h rfl)) ?_
  refine st rfl rfl rfl rfl (x_move rfl) ?_
  refine st rfl rfl rfl rfl (x_move rfl) ?_
  refine st rfl rfl rfl rfl (x_eqlp rfl rfl Tryd.underlying26) ?_
  refine st rfl rfl rfl rfl (x_move rfl) ?_
  refine st rfl rfl rfl rfl (x_eqlp rfl rfl Tryd.underlying47) ?_
  refine st rfl rfl rfl rfl (x_neqb rfl rfl Tryd.underlying4) ?_
  refine st rfl rfl rfl rfl (x_pick0 rfl rfl) ?_
  refine rl_end rfl ?_
  refine al_k ?_
  refine cl_if0 rfl rfl ?_
  refine cl_skip rfl ?_
  refine al_k ?_
  refine cl_seq rfl ?_
  refine cl_seq rfl ?_
  refine cl_reg rfl ?_
  refine st rfl rfl rfl rfl (x_move rfl) ?_
  refine st rfl rfl rfl rfl (x_eqlp rfl rfl Tryd.underlying47) ?_
  refine rl_end rfl ?_
  refine al_k ?_
  refine cl_if1 rfl rfl ?_
  refine cl_seq rfl ?_
  refine cl_reg rfl ?_
  refine st rfl rfl rfl rfl (x_asg rfl) ?_
  refine rl_end rfl ?_
  refine al_k ?_
  refine cl_ret rfl ?_
  refine fin1 rfl rfl ?_
  exact ⟨rfl, F⟩

theorem runs_ok (w : World) (hG : Glb w) (A0 : Option Addr) (n c0 : Nat) (hc0 : n ≤ c0) (qs : List Int) (hql : qs.length = min n 17) (hok : okQ qs) (hrow : ∀ (j : Nat) q, qs[j]? = some q → ∃ a, A0 = some a ∧ w.cell? (a.add (((j : Nat) : Int).toNat * 1)) = some (.int .i64 q)) (A2 : Option Addr) (ln2 cp2 : Nat) (hln : ln2 ≤ 9223372036854775807) (hp : ∀ j : Nat, j < ln2 → ∃ (x : Addr) (z0 : Int) (z1 : Int) (z2 : Int) (z3 : Int) (z4 : Int), A2 = some x ∧ (∀ i v, [(.int .i64 z0 : Value), .int .i64 z1, .int .i64 z2, .int .u64 z3, .int .u64 z4][i]? = some v → w.cell? ((x.add (((j : Nat) : Int).toNat * 5)).add i) = some v) ∧ (Lit.int .i64 z0).wf = true ∧ (Lit.int .i64 z1).wf = true ∧ (Lit.int .i64 z2).wf = true ∧ (Lit.int .u64 z3).wf = true ∧ (Lit.int .u64 z4).wf = true) (nq : Int) (hnq : nq ≤ 9223372036854775807) (part most : Int) : Cl Tryd.prog 5 [.slice A0 n c0, .slice A2 ln2 cp2, .int .i64 nq, .int .i64 part, .int .i64 most] w (fun v w' => v = .bool true ∧ Fr [] w w') := by
  have F := Fr.refl [] w
  refine enter Tryd.func5 rfl Tryd.ntmps5 rfl ?_
  refine cl_seq rfl ?_
  refine cl_reg rfl ?_
  refine st rfl rfl rfl rfl (x_asg rfl) ?_
  refine rl_end rfl ?_
  refine al_k ?_
  refine cl_seq rfl ?_
  refine cl_seq rfl ?_
  refine cl_reg rfl ?_
  refine sc rfl rfl rfl rfl (c_fn rfl Tryd.call8 (awake_c w hG)) ?_
  rintro _ w1 ⟨rfl, fr⟩
  replace F := F.trans fr
  replace hrow : ∀ (j : Nat) q, qs[j]? = some q → ∃ a, A0 = some a ∧ w1.cell? (a.add (((j : Nat) : Int).toNat * 1)) = some (.int .i64 q) := fun j q h => let ⟨a, e, c⟩ := hrow j q h; ⟨a, e, fr.cell c (by simp)⟩
  refine st rfl rfl rfl rfl (x_not1 rfl) ?_
  refine rl_end rfl ?_
  refine al_k ?_
  refine cl_if0 rfl rfl ?_
  refine cl_skip rfl ?_
  refine al_k ?_
  refine cl_seq rfl ?_
  refine cl_reg rfl ?_
  refine st rfl rfl rfl rfl (x_move rfl) ?_
  refine sc rfl rfl rfl rfl (c_fn rfl Tryd.call9 (few_c _ A0 n c0 hc0)) ?_
  rintro _ wk ⟨rfl, hwk⟩
  obtain rfl := hwk.symm
  rw [← hql]
  refine st rfl rfl rfl rfl (x_asg rfl) ?_
  refine rl_end rfl ?_
  refine al_k ?_
  refine cl_seq rfl ?_
  refine cl_reg rfl ?_
  refine st rfl rfl rfl rfl (x_move rfl) ?_
  refine sc rfl rfl rfl rfl (c_fn rfl Tryd.call10 (anew_b _ (hG.fr F (by simp)) A0 c0 qs hok hrow)) ?_
  rintro _ w4 ⟨k, rfl, K, zk, zb, fr⟩
  have zF := F.size
  replace F := F.trans fr
  replace hrow := rowq_fr0 hrow fr
  clear fr
  refine st rfl rfl rfl rfl (x_move rfl) ?_
  refine st rfl rfl rfl rfl (x_ext rfl rfl) ?_
  refine st rfl rfl rfl rfl (x_ext rfl rfl) ?_
  refine st rfl rfl rfl rfl (x_asg rfl) ?_
  refine st rfl rfl rfl rfl (x_asg rfl) ?_
  refine rl_end rfl ?_
  refine al_k ?_
  refine cl_seq rfl ?_
  refine cl_reg rfl ?_
  refine st rfl rfl rfl rfl (x_move rfl) ?_
  refine sc rfl rfl rfl rfl (c_fn rfl Tryd.call16 (rnew_ok _ A0 c0 qs (by omega) hok hrow)) ?_
  rintro _ w5 ⟨B, r, rfl, R, fr⟩
  replace F := F.trans fr
  replace hrow := rowq_fr0 hrow fr
  replace K := K.fr0 fr
  clear fr
  have H : Bt w w5 k r w4.heap.size B qs (Ar.new qs) := ⟨K, R, Sz.new hok, F, by omega, zb⟩
  generalize hBq : w4.heap.size = B0 at H
  clear K R F zk zb zF hrow
  refine st rfl rfl rfl rfl (x_move rfl) ?_
  refine st rfl rfl rfl rfl (x_ext rfl rfl) ?_
  refine st rfl rfl rfl rfl (x_ext rfl rfl) ?_
  refine st rfl rfl rfl rfl (x_asg rfl) ?_
  refine st rfl rfl rfl rfl (x_asg rfl) ?_
  refine rl_end rfl ?_
  refine al_k ?_
  refine cl_seq rfl ?_
  refine cl_seq rfl ?_
  refine cl_reg rfl ?_
  refine st rfl rfl rfl rfl (x_move rfl) ?_
  refine st rfl rfl rfl rfl (x_move rfl) ?_
  refine st rfl rfl rfl rfl ((x_neq rfl rfl).b0 (fun h => h rfl)) ?_
  refine st rfl rfl rfl rfl (x_move rfl) ?_
  refine st rfl rfl rfl rfl (x_move rfl) ?_
  refine st rfl rfl rfl rfl (x_eqlp rfl rfl Tryd.underlying26) ?_
  refine st rfl rfl rfl rfl (x_move rfl) ?_
  refine st rfl rfl rfl rfl (x_eqlp rfl rfl Tryd.underlying47) ?_
  refine st rfl rfl rfl rfl (x_neqb rfl rfl Tryd.underlying4) ?_
  refine st rfl rfl rfl rfl (x_pick0 rfl rfl) ?_
  refine rl_end rfl ?_
  refine al_k ?_
  refine cl_if0 rfl rfl ?_
  refine cl_skip rfl ?_
  refine al_k ?_
  refine cl_seq rfl ?_
  refine cl_seq rfl ?_
  refine cl_reg rfl ?_
  refine st rfl rfl rfl rfl (x_move rfl) ?_
  refine st rfl rfl rfl rfl (x_eqlp rfl rfl Tryd.underlying47) ?_
  refine rl_end rfl ?_
  refine al_k ?_
  refine cl_if0 rfl rfl ?_
  refine cl_skip rfl ?_
  refine al_k ?_
  refine cl_seq rfl ?_
  refine cl_seq rfl ?_
  refine cl_reg rfl ?_
  refine st rfl rfl rfl rfl (x_asg rfl) ?_
  refine rl_end rfl ?_
  refine al_k ?_
  refine cl_block rfl ?_
  refine cl_loop (fun s : Nat × Ar => [(15, .int .i64 s.1), (11, .pointer (some ⟨k.ap, 0, none⟩)), (13, .pointer (some ⟨r.rp, 0, none⟩)), (1, .slice A2 ln2 cp2), (2, .int .i64 nq), (3, .int .i64 part), (4, .int .i64 most)]) (fun s w' => (s.1 ≤ ln2 ∧ s.1 ≤ 60) ∧ Bt w w' k r B0 B qs s.2) (fun s => 60 - s.1) (0, Ar.new qs) rfl ⟨rfl, rfl, rfl, rfl, rfl, rfl, rfl, trivial⟩ ?_ ?_
  · exact ⟨⟨Nat.zero_le _, Nat.zero_le _⟩, H⟩
  · skip
    rintro ⟨i, x⟩ wr ⟨⟨hi, hi6⟩, H⟩
    dsimp only at hi hi6 H ⊢
    refine cl_seq rfl ?_
    refine cl_seq rfl ?_
    refine cl_reg rfl ?_
    refine st rfl rfl rfl rfl (x_move rfl) ?_
    refine st rfl rfl rfl rfl (x_move rfl) ?_
    refine st rfl rfl rfl rfl (x_len rfl Tryd.underlying23) ?_
    refine sf rfl rfl rfl rfl (x_lss rfl rfl) (fun c11_3 => ?_) (fun c11_3 => ?_)
    · skip
      refine st rfl rfl rfl rfl (x_move rfl) ?_
      refine st rfl rfl rfl rfl (x_move rfl) ?_
      refine sf rfl rfl rfl rfl (x_lss rfl rfl) (fun c11_6 => ?_) (fun c11_6 => ?_)
      · skip
        refine st rfl rfl rfl rfl (x_pick1 rfl rfl) ?_
        refine rl_end rfl ?_
        refine al_k ?_
        refine cl_if1 rfl rfl ?_
        refine cl_skip rfl ?_
        refine al_k ?_
        refine cl_seq rfl ?_
        refine cl_block rfl ?_
        refine cl_seq rfl ?_
        have hil : i < ln2 := by omega
        obtain ⟨ad, kd, pt, nn, gg, xx, rfl, hc, _⟩ := hp i hil
        replace hc : ∀ j v, ([.int .i64 kd, .int .i64 pt, .int .i64 nn, .int .u64 gg, .int .u64 xx] : List Value)[j]? = some v → wr.cell? ((ad.add (((i : Nat) : Int).toNat * 5)).add j) = some v := fun j v h => H.F.cell (hc j v h) (by simp)
        refine cl_reg rfl ?_
        refine st rfl rfl rfl rfl (x_move rfl) ?_
        refine st rfl rfl rfl rfl (x_move rfl) ?_
        refine st rfl rfl rfl rfl (x_move rfl) ?_
        refine st rfl rfl rfl rfl (x_move rfl) ?_
        refine st rfl rfl rfl rfl (x_iag rfl rfl Tryd.underlying23 Tryd.sizeOf35 (by omega)) ?_
        refine st rfl rfl rfl rfl (x_ldg (cs := [.int .i64 kd, .int .i64 pt, .int .i64 nn, .int .u64 gg, .int .u64 xx]) rfl Tryd.isAgg35 Tryd.sizeOf35 rfl hc) ?_
        refine sc rfl rfl rfl rfl (c_fn rfl Tryd.call17 (step_c H hok kd pt nn gg xx)) ?_
        rintro _ w13 ⟨rfl, H⟩
        refine st rfl rfl rfl rfl (x_not1 rfl) ?_
        refine rl_end rfl ?_
        refine al_k ?_
        refine cl_if0 rfl rfl ?_
        refine cl_skip rfl ?_
        refine al_k ?_
        refine cl_reg rfl ?_
        refine st rfl rfl rfl rfl (x_move rfl) ?_
        refine st rfl rfl rfl rfl (x_add rfl rfl (by omega)) ?_
        refine st rfl rfl rfl rfl (x_asg rfl) ?_
        refine rl_end rfl ?_
        refine again (i + 1, stepX x kd pt nn gg xx) (show 60 - (i + 1) < 60 - i by omega) ⟨rfl, rfl, rfl, rfl, rfl, rfl, rfl, trivial⟩ ⟨⟨by dsimp only; omega, by dsimp only; omega⟩, H⟩
      · skip
        refine st rfl rfl rfl rfl (x_pick1 rfl rfl) ?_
        refine rl_end rfl ?_
        refine al_k ?_
        refine cl_if0 rfl rfl ?_
        refine cl_exit rfl ?_
        refine upd_self ?_
        refine al_k ?_
        refine cl_seq rfl ?_
        refine cl_reg rfl ?_
        refine st rfl rfl rfl rfl (x_move rfl) ?_
        refine st rfl rfl rfl rfl (x_move rfl) ?_
        refine sc rfl rfl rfl rfl (c_fn rfl Tryd.call18 (look_a _ k x H.K nq)) ?_
        rintro _ w15 ⟨rfl, fr⟩
        replace H := H.fr0 fr
        clear fr
        refine st rfl rfl rfl rfl (x_move rfl) ?_
        refine st rfl rfl rfl rfl (x_ext rfl rfl) ?_
        refine st rfl rfl rfl rfl (x_ext rfl rfl) ?_
        refine st rfl rfl rfl rfl (x_ext rfl rfl) ?_
        refine st rfl rfl rfl rfl (x_asg rfl) ?_
        refine st rfl rfl rfl rfl (x_asg rfl) ?_
        refine st rfl rfl rfl rfl (x_asg rfl) ?_
        refine rl_end rfl ?_
        refine al_k ?_
        refine cl_seq rfl ?_
        refine cl_reg rfl ?_
        refine st rfl rfl rfl rfl (x_move rfl) ?_
        refine st rfl rfl rfl rfl (x_move rfl) ?_
        refine sc rfl rfl rfl rfl (c_fn rfl Tryd.call19 (rlook_c _ B0 B r qs x H.R nq)) ?_
        rintro _ w16 ⟨rfl, fr⟩
        replace H := H.fr0 fr
        clear fr
        refine st rfl rfl rfl rfl (x_move rfl) ?_
        refine st rfl rfl rfl rfl (x_ext rfl rfl) ?_
        refine st rfl rfl rfl rfl (x_ext rfl rfl) ?_
        refine st rfl rfl rfl rfl (x_ext rfl rfl) ?_
        refine st rfl rfl rfl rfl (x_asg rfl) ?_
        refine st rfl rfl rfl rfl (x_asg rfl) ?_
        refine st rfl rfl rfl rfl (x_asg rfl) ?_
        refine rl_end rfl ?_
        refine al_k ?_
        refine cl_seq rfl ?_
        refine cl_reg rfl ?_
        refine st rfl rfl rfl rfl (x_move rfl) ?_
        refine st rfl rfl rfl rfl (x_move rfl) ?_
        refine sc rfl rfl rfl rfl (c_fn rfl Tryd.call14 (part_a _ k x H.K nq)) ?_
        rintro _ wk ⟨rfl, hwk⟩
        obtain rfl := hwk.symm
        refine st rfl rfl rfl rfl (x_move rfl) ?_
        refine st rfl rfl rfl rfl (x_ext rfl rfl) ?_
        refine st rfl rfl rfl rfl (x_ext rfl rfl) ?_
        refine st rfl rfl rfl rfl (x_asg rfl) ?_
        refine st rfl rfl rfl rfl (x_asg rfl) ?_
        refine rl_end rfl ?_
        refine al_k ?_
        refine cl_seq rfl ?_
        refine cl_reg rfl ?_
        refine st rfl rfl rfl rfl (x_move rfl) ?_
        refine st rfl rfl rfl rfl (x_move rfl) ?_
        refine sc rfl rfl rfl rfl (c_fn rfl Tryd.call20 (rPart_c _ B0 B r qs x H.R H.S hok nq hnq)) ?_
        rintro _ wk ⟨rfl, hwk⟩
        obtain rfl := hwk.symm
        refine st rfl rfl rfl rfl (x_move rfl) ?_
        refine st rfl rfl rfl rfl (x_ext rfl rfl) ?_
        refine st rfl rfl rfl rfl (x_ext rfl rfl) ?_
        refine st rfl rfl rfl rfl (x_asg rfl) ?_
        refine st rfl rfl rfl rfl (x_asg rfl) ?_
        refine rl_end rfl ?_
        refine al_k ?_
        refine cl_seq rfl ?_
        refine cl_reg rfl ?_
        refine st rfl rfl rfl rfl (x_move rfl) ?_
        refine st rfl rfl rfl rfl (x_move rfl) ?_
        refine sc rfl rfl rfl rfl (c_fn rfl Tryd.call21 (counts_a _ k x H.K part)) ?_
        rintro _ w19 ⟨rfl, fr⟩
        replace H := H.fr0 fr
        clear fr
        refine st rfl rfl rfl rfl (x_move rfl) ?_
        refine st rfl rfl rfl rfl (x_ext rfl rfl) ?_
        refine st rfl rfl rfl rfl (x_ext rfl rfl) ?_
        refine st rfl rfl rfl rfl (x_ext rfl rfl) ?_
        refine st rfl rfl rfl rfl (x_asg rfl) ?_
        refine st rfl rfl rfl rfl (x_asg rfl) ?_
        refine st rfl rfl rfl rfl (x_asg rfl) ?_
        refine rl_end rfl ?_
        refine al_k ?_
        refine cl_seq rfl ?_
        refine cl_reg rfl ?_
        refine st rfl rfl rfl rfl (x_move rfl) ?_
        refine st rfl rfl rfl rfl (x_move rfl) ?_
        refine sc rfl rfl rfl rfl (c_fn rfl Tryd.call22 (rcounts_c _ B0 B r qs x H.R H.S hok part)) ?_
        rintro _ w20 ⟨rfl, fr⟩
        replace H := H.fr0 fr
        clear fr
        refine st rfl rfl rfl rfl (x_move rfl) ?_
        refine st rfl rfl rfl rfl (x_ext rfl rfl) ?_
        refine st rfl rfl rfl rfl (x_ext rfl rfl) ?_
        refine st rfl rfl rfl rfl (x_ext rfl rfl) ?_
        refine st rfl rfl rfl rfl (x_asg rfl) ?_
        refine st rfl rfl rfl rfl (x_asg rfl) ?_
        refine st rfl rfl rfl rfl (x_asg rfl) ?_
        refine rl_end rfl ?_
        refine al_k ?_
        refine cl_seq rfl ?_
        refine cl_seq rfl ?_
        refine cl_reg rfl ?_
        refine st rfl rfl rfl rfl (x_move rfl) ?_
        refine sf rfl rfl rfl rfl (x_lss rfl rfl) (fun c21_1 => ?_) (fun c21_1 => ?_)
        · skip
          refine st rfl rfl rfl rfl (x_move rfl) ?_
          refine so rfl rfl rfl rfl ?_
          refine so rfl rfl rfl rfl ?_
          refine st rfl rfl rfl rfl (x_pick1 rfl rfl) ?_
          refine rl_end rfl ?_
          refine al_k ?_
          refine cl_if1 rfl rfl ?_
          refine cl_reg rfl ?_
          refine st rfl rfl rfl rfl (x_asg rfl) ?_
          refine rl_end rfl ?_
          refine al_k ?_
          refine cl_seq rfl ?_
          obtain ⟨M, hMq, hM⟩ : ∃ M : Int, M = 300 ∧ (1 ≤ M ∧ M ≤ 300) := ⟨300, rfl, by omega⟩
          rw [← hMq]
          refine cl_reg rfl ?_
          refine st rfl rfl rfl rfl (x_move rfl) ?_
          refine st rfl rfl rfl rfl (x_move rfl) ?_
          refine st rfl rfl rfl rfl (x_move rfl) ?_
          refine sc rfl rfl rfl rfl (c_fn rfl Tryd.call23 (held_c _ k x H.K (by have := H.K.lts.1.1; omega) part M hM.1)) ?_
          rintro _ w23 ⟨A9, c9, kk, rfl, hk, hkl, HO9, fr⟩
          replace H := H.fr0 fr
          clear fr
          refine st rfl rfl rfl rfl (x_move rfl) ?_
          refine st rfl rfl rfl rfl (x_ext rfl rfl) ?_
          refine st rfl rfl rfl rfl (x_ext rfl rfl) ?_
          refine st rfl rfl rfl rfl (x_asg rfl) ?_
          refine st rfl rfl rfl rfl (x_asg rfl) ?_
          refine rl_end rfl ?_
          refine al_k ?_
          refine cl_seq rfl ?_
          refine cl_reg rfl ?_
          refine st rfl rfl rfl rfl (x_move rfl) ?_
          refine st rfl rfl rfl rfl (x_move rfl) ?_
          refine sc rfl rfl rfl rfl (c_fn rfl Tryd.call24 (rheld_c _ B0 B r qs x H.R H.S hok part)) ?_
          rintro _ w24 ⟨A8, c8, rfl, HO8, fr⟩
          replace H := H.fr0 fr
          replace HO9 := own_fr0 HO9 fr
          clear fr
          refine st rfl rfl rfl rfl (x_asg rfl) ?_
          refine rl_end rfl ?_
          refine al_k ?_
          refine cl_seq rfl ?_
          have ekk : ((names x part).take kk).length = kk := by rw [List.length_take]; omega
          have hcap := own_cap HO8
          have hn6 : (names x part).length ≤ 65536 := by (have := heldN_len x part; have := H.K.sl0; have := names_len x part; omega)
          refine cl_reg rfl ?_
          refine st rfl rfl rfl rfl (x_move rfl) ?_
          refine st rfl rfl rfl rfl (x_move rfl) ?_
          refine st rfl rfl rfl rfl ((x_eql rfl rfl).b1 rfl) ?_
          refine st rfl rfl rfl rfl (x_move rfl) ?_
          refine st rfl rfl rfl rfl (x_move rfl) ?_
          refine st rfl rfl rfl rfl (x_move rfl) ?_
          refine st rfl rfl rfl rfl ((x_eql rfl rfl).b1 rfl) ?_
          refine st rfl rfl rfl rfl (x_pick1 rfl rfl) ?_
          refine st rfl rfl rfl rfl (x_move rfl) ?_
          refine st rfl rfl rfl rfl (x_move rfl) ?_
          refine st rfl rfl rfl rfl (x_move rfl) ?_
          refine st rfl rfl rfl rfl ((x_eqlb rfl rfl Tryd.underlying4).of (congrArg Value.bool (beq_self_eq_true _))) ?_
          refine st rfl rfl rfl rfl (x_pick1 rfl rfl) ?_
          refine st rfl rfl rfl rfl (x_move rfl) ?_
          refine st rfl rfl rfl rfl (x_move rfl) ?_
          refine st rfl rfl rfl rfl (x_move rfl) ?_
          refine st rfl rfl rfl rfl ((x_eql rfl rfl).b1 rfl) ?_
          refine st rfl rfl rfl rfl (x_pick1 rfl rfl) ?_
          refine st rfl rfl rfl rfl (x_move rfl) ?_
          refine st rfl rfl rfl rfl (x_move rfl) ?_
          refine st rfl rfl rfl rfl (x_move rfl) ?_
          refine st rfl rfl rfl rfl ((x_eqlb rfl rfl Tryd.underlying4).of (congrArg Value.bool (beq_self_eq_true _))) ?_
          refine st rfl rfl rfl rfl (x_pick1 rfl rfl) ?_
          refine st rfl rfl rfl rfl (x_move rfl) ?_
          refine st rfl rfl rfl rfl (x_move rfl) ?_
          refine st rfl rfl rfl rfl (x_move rfl) ?_
          refine st rfl rfl rfl rfl ((x_eql rfl rfl).b1 rfl) ?_
          refine st rfl rfl rfl rfl (x_pick1 rfl rfl) ?_
          refine st rfl rfl rfl rfl (x_move rfl) ?_
          refine st rfl rfl rfl rfl (x_move rfl) ?_
          refine st rfl rfl rfl rfl (x_move rfl) ?_
          refine st rfl rfl rfl rfl ((x_eql rfl rfl).b1 rfl) ?_
          refine st rfl rfl rfl rfl (x_pick1 rfl rfl) ?_
          refine st rfl rfl rfl rfl (x_move rfl) ?_
          refine st rfl rfl rfl rfl (x_move rfl) ?_
          refine st rfl rfl rfl rfl (x_move rfl) ?_
          refine st rfl rfl rfl rfl ((x_eql rfl rfl).b1 rfl) ?_
          refine st rfl rfl rfl rfl (x_pick1 rfl rfl) ?_
          refine st rfl rfl rfl rfl (x_move rfl) ?_
          refine st rfl rfl rfl rfl (x_move rfl) ?_
          refine st rfl rfl rfl rfl (x_pick1 rfl rfl) ?_
          refine st rfl rfl rfl rfl (x_move rfl) ?_
          refine st rfl rfl rfl rfl (x_move rfl) ?_
          refine st rfl rfl rfl rfl (x_move rfl) ?_
          refine st rfl rfl rfl rfl (x_move rfl) ?_
          refine st rfl rfl rfl rfl (x_len rfl Tryd.underlying30) ?_
          refine st rfl rfl rfl rfl (x_move rfl) ?_
          refine st rfl rfl rfl rfl (x_min rfl rfl) ?_
          refine st rfl rfl rfl rfl ((x_slh rfl rfl Tryd.underlying30 Tryd.sizeOf33 (by split <;> omega))) ?_
          rw [← hk, Int.toNat_natCast]
          have HOx := own_len HO9 ekk.symm
          have hsm := samesl_c w24 A9 A8 c9 c8 ((names x part).take kk) (by omega) (fun j y h => own_atA HOx h) (fun j y h => own_atA HO8 (by rw [List.getElem?_take] at h; split at h; exact h; cases h))
          rw [ekk] at hsm
          refine sc rfl rfl rfl rfl (c_fn rfl Tryd.call25 hsm) ?_
          rintro _ w25 ⟨rfl, fr⟩
          replace H := H.fr0 fr
          clear fr
          refine st rfl rfl rfl rfl (x_pick1 rfl rfl) ?_
          refine st rfl rfl rfl rfl (x_asg rfl) ?_
          refine rl_end rfl ?_
          refine al_k ?_
          refine cl_ret rfl ?_
          refine fin1 rfl rfl ?_
          exact ⟨rfl, H.F⟩
        · skip
          refine st rfl rfl rfl rfl (x_move rfl) ?_
          refine st rfl rfl rfl rfl (x_move rfl) ?_
          refine sf rfl rfl rfl rfl (x_gtr rfl rfl) (fun c21_4 => ?_) (fun c21_4 => ?_)
          · skip
            refine st rfl rfl rfl rfl (x_pick0 rfl rfl) ?_
            refine rl_end rfl ?_
            refine al_k ?_
            refine cl_if1 rfl rfl ?_
            refine cl_reg rfl ?_
            refine st rfl rfl rfl rfl (x_asg rfl) ?_
            refine rl_end rfl ?_
            refine al_k ?_
            refine cl_seq rfl ?_
            obtain ⟨M, hMq, hM⟩ : ∃ M : Int, M = 300 ∧ (1 ≤ M ∧ M ≤ 300) := ⟨300, rfl, by omega⟩
            rw [← hMq]
            refine cl_reg rfl ?_
            refine st rfl rfl rfl rfl (x_move rfl) ?_
            refine st rfl rfl rfl rfl (x_move rfl) ?_
            refine st rfl rfl rfl rfl (x_move rfl) ?_
            refine sc rfl rfl rfl rfl (c_fn rfl Tryd.call23 (held_c _ k x H.K (by have := H.K.lts.1.1; omega) part M hM.1)) ?_
            rintro _ w23 ⟨A9, c9, kk, rfl, hk, hkl, HO9, fr⟩
            replace H := H.fr0 fr
            clear fr
            refine st rfl rfl rfl rfl (x_move rfl) ?_
            refine st rfl rfl rfl rfl (x_ext rfl rfl) ?_
            refine st rfl rfl rfl rfl (x_ext rfl rfl) ?_
            refine st rfl rfl rfl rfl (x_asg rfl) ?_
            refine st rfl rfl rfl rfl (x_asg rfl) ?_
            refine rl_end rfl ?_
            refine al_k ?_
            refine cl_seq rfl ?_
            refine cl_reg rfl ?_
            refine st rfl rfl rfl rfl (x_move rfl) ?_
            refine st rfl rfl rfl rfl (x_move rfl) ?_
            refine sc rfl rfl rfl rfl (c_fn rfl Tryd.call24 (rheld_c _ B0 B r qs x H.R H.S hok part)) ?_
            rintro _ w24 ⟨A8, c8, rfl, HO8, fr⟩
            replace H := H.fr0 fr
            replace HO9 := own_fr0 HO9 fr
            clear fr
            refine st rfl rfl rfl rfl (x_asg rfl) ?_
            refine rl_end rfl ?_
            refine al_k ?_
            refine cl_seq rfl ?_
            have ekk : ((names x part).take kk).length = kk := by rw [List.length_take]; omega
            have hcap := own_cap HO8
            have hn6 : (names x part).length ≤ 65536 := by (have := heldN_len x part; have := H.K.sl0; have := names_len x part; omega)
            refine cl_reg rfl ?_
            refine st rfl rfl rfl rfl (x_move rfl) ?_
            refine st rfl rfl rfl rfl (x_move rfl) ?_
            refine st rfl rfl rfl rfl ((x_eql rfl rfl).b1 rfl) ?_
            refine st rfl rfl rfl rfl (x_move rfl) ?_
            refine st rfl rfl rfl rfl (x_move rfl) ?_
            refine st rfl rfl rfl rfl (x_move rfl) ?_
            refine st rfl rfl rfl rfl ((x_eql rfl rfl).b1 rfl) ?_
            refine st rfl rfl rfl rfl (x_pick1 rfl rfl) ?_
            refine st rfl rfl rfl rfl (x_move rfl) ?_
            refine st rfl rfl rfl rfl (x_move rfl) ?_
            refine st rfl rfl rfl rfl (x_move rfl) ?_
            refine st rfl rfl rfl rfl ((x_eqlb rfl rfl Tryd.underlying4).of (congrArg Value.bool (beq_self_eq_true _))) ?_
            refine st rfl rfl rfl rfl (x_pick1 rfl rfl) ?_
            refine st rfl rfl rfl rfl (x_move rfl) ?_
            refine st rfl rfl rfl rfl (x_move rfl) ?_
            refine st rfl rfl rfl rfl (x_move rfl) ?_
            refine st rfl rfl rfl rfl ((x_eql rfl rfl).b1 rfl) ?_
            refine st rfl rfl rfl rfl (x_pick1 rfl rfl) ?_
            refine st rfl rfl rfl rfl (x_move rfl) ?_
            refine st rfl rfl rfl rfl (x_move rfl) ?_
            refine st rfl rfl rfl rfl (x_move rfl) ?_
            refine st rfl rfl rfl rfl ((x_eqlb rfl rfl Tryd.underlying4).of (congrArg Value.bool (beq_self_eq_true _))) ?_
            refine st rfl rfl rfl rfl (x_pick1 rfl rfl) ?_
            refine st rfl rfl rfl rfl (x_move rfl) ?_
            refine st rfl rfl rfl rfl (x_move rfl) ?_
            refine st rfl rfl rfl rfl (x_move rfl) ?_
            refine st rfl rfl rfl rfl ((x_eql rfl rfl).b1 rfl) ?_
            refine st rfl rfl rfl rfl (x_pick1 rfl rfl) ?_
            refine st rfl rfl rfl rfl (x_move rfl) ?_
            refine st rfl rfl rfl rfl (x_move rfl) ?_
            refine st rfl rfl rfl rfl (x_move rfl) ?_
            refine st rfl rfl rfl rfl ((x_eql rfl rfl).b1 rfl) ?_
            refine st rfl rfl rfl rfl (x_pick1 rfl rfl) ?_
            refine st rfl rfl rfl rfl (x_move rfl) ?_
            refine st rfl rfl rfl rfl (x_move rfl) ?_
            refine st rfl rfl rfl rfl (x_move rfl) ?_
            refine st rfl rfl rfl rfl ((x_eql rfl rfl).b1 rfl) ?_
            refine st rfl rfl rfl rfl (x_pick1 rfl rfl) ?_
            refine st rfl rfl rfl rfl (x_move rfl) ?_
            refine st rfl rfl rfl rfl (x_move rfl) ?_
            refine st rfl rfl rfl rfl (x_pick1 rfl rfl) ?_
            refine st rfl rfl rfl rfl (x_move rfl) ?_
            refine st rfl rfl rfl rfl (x_move rfl) ?_
            refine st rfl rfl rfl rfl (x_move rfl) ?_
            refine st rfl rfl rfl rfl (x_move rfl) ?_
            refine st rfl rfl rfl rfl (x_len rfl Tryd.underlying30) ?_
            refine st rfl rfl rfl rfl (x_move rfl) ?_
            refine st rfl rfl rfl rfl (x_min rfl rfl) ?_
            refine st rfl rfl rfl rfl ((x_slh rfl rfl Tryd.underlying30 Tryd.sizeOf33 (by split <;> omega))) ?_
            rw [← hk, Int.toNat_natCast]
            have HOx := own_len HO9 ekk.symm
            have hsm := samesl_c w24 A9 A8 c9 c8 ((names x part).take kk) (by omega) (fun j y h => own_atA HOx h) (fun j y h => own_atA HO8 (by rw [List.getElem?_take] at h; split at h; exact h; cases h))
            rw [ekk] at hsm
            refine sc rfl rfl rfl rfl (c_fn rfl Tryd.call25 hsm) ?_
            rintro _ w25 ⟨rfl, fr⟩
            replace H := H.fr0 fr
            clear fr
            refine st rfl rfl rfl rfl (x_pick1 rfl rfl) ?_
            refine st rfl rfl rfl rfl (x_asg rfl) ?_
            refine rl_end rfl ?_
            refine al_k ?_
            refine cl_ret rfl ?_
            refine fin1 rfl rfl ?_
            exact ⟨rfl, H.F⟩
          · skip
            refine st rfl rfl rfl rfl (x_pick0 rfl rfl) ?_
            refine rl_end rfl ?_
            refine al_k ?_
            refine cl_if0 rfl rfl ?_
            refine cl_skip rfl ?_
            refine al_k ?_
            refine cl_seq rfl ?_
            have hM : 1 ≤ (most : Int) ∧ (most : Int) ≤ 300 := by omega
            generalize hMq : (most : Int) = M at hM ⊢
            refine cl_reg rfl ?_
            refine st rfl rfl rfl rfl (x_move rfl) ?_
            refine st rfl rfl rfl rfl (x_move rfl) ?_
            refine st rfl rfl rfl rfl (x_move rfl) ?_
            refine sc rfl rfl rfl rfl (c_fn rfl Tryd.call23 (held_c _ k x H.K (by have := H.K.lts.1.1; omega) part M hM.1)) ?_
            rintro _ w23 ⟨A9, c9, kk, rfl, hk, hkl, HO9, fr⟩
            replace H := H.fr0 fr
            clear fr
            refine st rfl rfl rfl rfl (x_move rfl) ?_
            refine st rfl rfl rfl rfl (x_ext rfl rfl) ?_
            refine st rfl rfl rfl rfl (x_ext rfl rfl) ?_
            refine st rfl rfl rfl rfl (x_asg rfl) ?_
            refine st rfl rfl rfl rfl (x_asg rfl) ?_
            refine rl_end rfl ?_
            refine al_k ?_
            refine cl_seq rfl ?_
            refine cl_reg rfl ?_
            refine st rfl rfl rfl rfl (x_move rfl) ?_
            refine st rfl rfl rfl rfl (x_move rfl) ?_
            refine sc rfl rfl rfl rfl (c_fn rfl Tryd.call24 (rheld_c _ B0 B r qs x H.R H.S hok part)) ?_
            rintro _ w24 ⟨A8, c8, rfl, HO8, fr⟩
            replace H := H.fr0 fr
            replace HO9 := own_fr0 HO9 fr
            clear fr
            refine st rfl rfl rfl rfl (x_asg rfl) ?_
            refine rl_end rfl ?_
            refine al_k ?_
            refine cl_seq rfl ?_
            have ekk : ((names x part).take kk).length = kk := by rw [List.length_take]; omega
            have hcap := own_cap HO8
            have hn6 : (names x part).length ≤ 65536 := by (have := heldN_len x part; have := H.K.sl0; have := names_len x part; omega)
            refine cl_reg rfl ?_
            refine st rfl rfl rfl rfl (x_move rfl) ?_
            refine st rfl rfl rfl rfl (x_move rfl) ?_
            refine st rfl rfl rfl rfl ((x_eql rfl rfl).b1 rfl) ?_
            refine st rfl rfl rfl rfl (x_move rfl) ?_
            refine st rfl rfl rfl rfl (x_move rfl) ?_
            refine st rfl rfl rfl rfl (x_move rfl) ?_
            refine st rfl rfl rfl rfl ((x_eql rfl rfl).b1 rfl) ?_
            refine st rfl rfl rfl rfl (x_pick1 rfl rfl) ?_
            refine st rfl rfl rfl rfl (x_move rfl) ?_
            refine st rfl rfl rfl rfl (x_move rfl) ?_
            refine st rfl rfl rfl rfl (x_move rfl) ?_
            refine st rfl rfl rfl rfl ((x_eqlb rfl rfl Tryd.underlying4).of (congrArg Value.bool (beq_self_eq_true _))) ?_
            refine st rfl rfl rfl rfl (x_pick1 rfl rfl) ?_
            refine st rfl rfl rfl rfl (x_move rfl) ?_
            refine st rfl rfl rfl rfl (x_move rfl) ?_
            refine st rfl rfl rfl rfl (x_move rfl) ?_
            refine st rfl rfl rfl rfl ((x_eql rfl rfl).b1 rfl) ?_
            refine st rfl rfl rfl rfl (x_pick1 rfl rfl) ?_
            refine st rfl rfl rfl rfl (x_move rfl) ?_
            refine st rfl rfl rfl rfl (x_move rfl) ?_
            refine st rfl rfl rfl rfl (x_move rfl) ?_
            refine st rfl rfl rfl rfl ((x_eqlb rfl rfl Tryd.underlying4).of (congrArg Value.bool (beq_self_eq_true _))) ?_
            refine st rfl rfl rfl rfl (x_pick1 rfl rfl) ?_
            refine st rfl rfl rfl rfl (x_move rfl) ?_
            refine st rfl rfl rfl rfl (x_move rfl) ?_
            refine st rfl rfl rfl rfl (x_move rfl) ?_
            refine st rfl rfl rfl rfl ((x_eql rfl rfl).b1 rfl) ?_
            refine st rfl rfl rfl rfl (x_pick1 rfl rfl) ?_
            refine st rfl rfl rfl rfl (x_move rfl) ?_
            refine st rfl rfl rfl rfl (x_move rfl) ?_
            refine st rfl rfl rfl rfl (x_move rfl) ?_
            refine st rfl rfl rfl rfl ((x_eql rfl rfl).b1 rfl) ?_
            refine st rfl rfl rfl rfl (x_pick1 rfl rfl) ?_
            refine st rfl rfl rfl rfl (x_move rfl) ?_
            refine st rfl rfl rfl rfl (x_move rfl) ?_
            refine st rfl rfl rfl rfl (x_move rfl) ?_
            refine st rfl rfl rfl rfl ((x_eql rfl rfl).b1 rfl) ?_
            refine st rfl rfl rfl rfl (x_pick1 rfl rfl) ?_
            refine st rfl rfl rfl rfl (x_move rfl) ?_
            refine st rfl rfl rfl rfl (x_move rfl) ?_
            refine st rfl rfl rfl rfl (x_pick1 rfl rfl) ?_
            refine st rfl rfl rfl rfl (x_move rfl) ?_
            refine st rfl rfl rfl rfl (x_move rfl) ?_
            refine st rfl rfl rfl rfl (x_move rfl) ?_
            refine st rfl rfl rfl rfl (x_move rfl) ?_
            refine st rfl rfl rfl rfl (x_len rfl Tryd.underlying30) ?_
            refine st rfl rfl rfl rfl (x_move rfl) ?_
            refine st rfl rfl rfl rfl (x_min rfl rfl) ?_
            refine st rfl rfl rfl rfl ((x_slh rfl rfl Tryd.underlying30 Tryd.sizeOf33 (by split <;> omega))) ?_
            rw [← hk, Int.toNat_natCast]
            have HOx := own_len HO9 ekk.symm
            have hsm := samesl_c w24 A9 A8 c9 c8 ((names x part).take kk) (by omega) (fun j y h => own_atA HOx h) (fun j y h => own_atA HO8 (by rw [List.getElem?_take] at h; split at h; exact h; cases h))
            rw [ekk] at hsm
            refine sc rfl rfl rfl rfl (c_fn rfl Tryd.call25 hsm) ?_
            rintro _ w25 ⟨rfl, fr⟩
            replace H := H.fr0 fr
            clear fr
            refine st rfl rfl rfl rfl (x_pick1 rfl rfl) ?_
            refine st rfl rfl rfl rfl (x_asg rfl) ?_
            refine rl_end rfl ?_
            refine al_k ?_
            refine cl_ret rfl ?_
            refine fin1 rfl rfl ?_
            exact ⟨rfl, H.F⟩
    · skip
      refine st rfl rfl rfl rfl (x_move rfl) ?_
      refine so rfl rfl rfl rfl ?_
      refine so rfl rfl rfl rfl ?_
      refine st rfl rfl rfl rfl (x_pick0 rfl rfl) ?_
      refine rl_end rfl ?_
      refine al_k ?_
      refine cl_if0 rfl rfl ?_
      refine cl_exit rfl ?_
      refine upd_self ?_
      refine al_k ?_
      refine cl_seq rfl ?_
      refine cl_reg rfl ?_
      refine st rfl rfl rfl rfl (x_move rfl) ?_
      refine st rfl rfl rfl rfl (x_move rfl) ?_
      refine sc rfl rfl rfl rfl (c_fn rfl Tryd.call18 (look_a _ k x H.K nq)) ?_
      rintro _ w15 ⟨rfl, fr⟩
      replace H := H.fr0 fr
      clear fr
      refine st rfl rfl rfl rfl (x_move rfl) ?_
      refine st rfl rfl rfl rfl (x_ext rfl rfl) ?_
      refine st rfl rfl rfl rfl (x_ext rfl rfl) ?_
      refine st rfl rfl rfl rfl (x_ext rfl rfl) ?_
      refine st rfl rfl rfl rfl (x_asg rfl) ?_
      refine st rfl rfl rfl rfl (x_asg rfl) ?_
      refine st rfl rfl rfl rfl (x_asg rfl) ?_
      refine rl_end rfl ?_
      refine al_k ?_
      refine cl_seq rfl ?_
      refine cl_reg rfl ?_
      refine st rfl rfl rfl rfl (x_move rfl) ?_
      refine st rfl rfl rfl rfl (x_move rfl) ?_
      refine sc rfl rfl rfl rfl (c_fn rfl Tryd.call19 (rlook_c _ B0 B r qs x H.R nq)) ?_
      rintro _ w16 ⟨rfl, fr⟩
      replace H := H.fr0 fr
      clear fr
      refine st rfl rfl rfl rfl (x_move rfl) ?_
      refine st rfl rfl rfl rfl (x_ext rfl rfl) ?_
      refine st rfl rfl rfl rfl (x_ext rfl rfl) ?_
      refine st rfl rfl rfl rfl (x_ext rfl rfl) ?_
      refine st rfl rfl rfl rfl (x_asg rfl) ?_
      refine st rfl rfl rfl rfl (x_asg rfl) ?_
      refine st rfl rfl rfl rfl (x_asg rfl) ?_
      refine rl_end rfl ?_
      refine al_k ?_
      refine cl_seq rfl ?_
      refine cl_reg rfl ?_
      refine st rfl rfl rfl rfl (x_move rfl) ?_
      refine st rfl rfl rfl rfl (x_move rfl) ?_
      refine sc rfl rfl rfl rfl (c_fn rfl Tryd.call14 (part_a _ k x H.K nq)) ?_
      rintro _ wk ⟨rfl, hwk⟩
      obtain rfl := hwk.symm
      refine st rfl rfl rfl rfl (x_move rfl) ?_
      refine st rfl rfl rfl rfl (x_ext rfl rfl) ?_
      refine st rfl rfl rfl rfl (x_ext rfl rfl) ?_
      refine st rfl rfl rfl rfl (x_asg rfl) ?_
      refine st rfl rfl rfl rfl (x_asg rfl) ?_
      refine rl_end rfl ?_
      refine al_k ?_
      refine cl_seq rfl ?_
      refine cl_reg rfl ?_
      refine st rfl rfl rfl rfl (x_move rfl) ?_
      refine st rfl rfl rfl rfl (x_move rfl) ?_
      refine sc rfl rfl rfl rfl (c_fn rfl Tryd.call20 (rPart_c _ B0 B r qs x H.R H.S hok nq hnq)) ?_
      rintro _ wk ⟨rfl, hwk⟩
      obtain rfl := hwk.symm
      refine st rfl rfl rfl rfl (x_move rfl) ?_
      refine st rfl rfl rfl rfl (x_ext rfl rfl) ?_
      refine st rfl rfl rfl rfl (x_ext rfl rfl) ?_
      refine st rfl rfl rfl rfl (x_asg rfl) ?_
      refine st rfl rfl rfl rfl (x_asg rfl) ?_
      refine rl_end rfl ?_
      refine al_k ?_
      refine cl_seq rfl ?_
      refine cl_reg rfl ?_
      refine st rfl rfl rfl rfl (x_move rfl) ?_
      refine st rfl rfl rfl rfl (x_move rfl) ?_
      refine sc rfl rfl rfl rfl (c_fn rfl Tryd.call21 (counts_a _ k x H.K part)) ?_
      rintro _ w19 ⟨rfl, fr⟩
      replace H := H.fr0 fr
      clear fr
      refine st rfl rfl rfl rfl (x_move rfl) ?_
      refine st rfl rfl rfl rfl (x_ext rfl rfl) ?_
      refine st rfl rfl rfl rfl (x_ext rfl rfl) ?_
      refine st rfl rfl rfl rfl (x_ext rfl rfl) ?_
      refine st rfl rfl rfl rfl (x_asg rfl) ?_
      refine st rfl rfl rfl rfl (x_asg rfl) ?_
      refine st rfl rfl rfl rfl (x_asg rfl) ?_
      refine rl_end rfl ?_
      refine al_k ?_
      refine cl_seq rfl ?_
      refine cl_reg rfl ?_
      refine st rfl rfl rfl rfl (x_move rfl) ?_
      refine st rfl rfl rfl rfl (x_move rfl) ?_
      refine sc rfl rfl rfl rfl (c_fn rfl Tryd.call22 (rcounts_c _ B0 B r qs x H.R H.S hok part)) ?_
      rintro _ w20 ⟨rfl, fr⟩
      replace H := H.fr0 fr
      clear fr
      refine st rfl rfl rfl rfl (x_move rfl) ?_
      refine st rfl rfl rfl rfl (x_ext rfl rfl) ?_
      refine st rfl rfl rfl rfl (x_ext rfl rfl) ?_
      refine st rfl rfl rfl rfl (x_ext rfl rfl) ?_
      refine st rfl rfl rfl rfl (x_asg rfl) ?_
      refine st rfl rfl rfl rfl (x_asg rfl) ?_
      refine st rfl rfl rfl rfl (x_asg rfl) ?_
      refine rl_end rfl ?_
      refine al_k ?_
      refine cl_seq rfl ?_
      refine cl_seq rfl ?_
      refine cl_reg rfl ?_
      refine st rfl rfl rfl rfl (x_move rfl) ?_
      refine sf rfl rfl rfl rfl (x_lss rfl rfl) (fun c21_1 => ?_) (fun c21_1 => ?_)
      · skip
        refine st rfl rfl rfl rfl (x_move rfl) ?_
        refine so rfl rfl rfl rfl ?_
        refine so rfl rfl rfl rfl ?_
        refine st rfl rfl rfl rfl (x_pick1 rfl rfl) ?_
        refine rl_end rfl ?_
        refine al_k ?_
        refine cl_if1 rfl rfl ?_
        refine cl_reg rfl ?_
        refine st rfl rfl rfl rfl (x_asg rfl) ?_
        refine rl_end rfl ?_
        refine al_k ?_
        refine cl_seq rfl ?_
        obtain ⟨M, hMq, hM⟩ : ∃ M : Int, M = 300 ∧ (1 ≤ M ∧ M ≤ 300) := ⟨300, rfl, by omega⟩
        rw [← hMq]
        refine cl_reg rfl ?_
        refine st rfl rfl rfl rfl (x_move rfl) ?_
        refine st rfl rfl rfl rfl (x_move rfl) ?_
        refine st rfl rfl rfl rfl (x_move rfl) ?_
        refine sc rfl rfl rfl rfl (c_fn rfl Tryd.call23 (held_c _ k x H.K (by have := H.K.lts.1.1; omega) part M hM.1)) ?_
        rintro _ w23 ⟨A9, c9, kk, rfl, hk, hkl, HO9, fr⟩
        replace H := H.fr0 fr
        clear fr
        refine st rfl rfl rfl rfl (x_move rfl) ?_
        refine st rfl rfl rfl rfl (x_ext rfl rfl) ?_
        refine st rfl rfl rfl rfl (x_ext rfl rfl) ?_
        refine st rfl rfl rfl rfl (x_asg rfl) ?_
        refine st rfl rfl rfl rfl (x_asg rfl) ?_
        refine rl_end rfl ?_
        refine al_k ?_
        refine cl_seq rfl ?_
        refine cl_reg rfl ?_
        refine st rfl rfl rfl rfl (x_move rfl) ?_
        refine st rfl rfl rfl rfl (x_move rfl) ?_
        refine sc rfl rfl rfl rfl (c_fn rfl Tryd.call24 (rheld_c _ B0 B r qs x H.R H.S hok part)) ?_
        rintro _ w24 ⟨A8, c8, rfl, HO8, fr⟩
        replace H := H.fr0 fr
        replace HO9 := own_fr0 HO9 fr
        clear fr
        refine st rfl rfl rfl rfl (x_asg rfl) ?_
        refine rl_end rfl ?_
        refine al_k ?_
        refine cl_seq rfl ?_
        have ekk : ((names x part).take kk).length = kk := by rw [List.length_take]; omega
        have hcap := own_cap HO8
        have hn6 : (names x part).length ≤ 65536 := by (have := heldN_len x part; have := H.K.sl0; have := names_len x part; omega)
        refine cl_reg rfl ?_
        refine st rfl rfl rfl rfl (x_move rfl) ?_
        refine st rfl rfl rfl rfl (x_move rfl) ?_
        refine st rfl rfl rfl rfl ((x_eql rfl rfl).b1 rfl) ?_
        refine st rfl rfl rfl rfl (x_move rfl) ?_
        refine st rfl rfl rfl rfl (x_move rfl) ?_
        refine st rfl rfl rfl rfl (x_move rfl) ?_
        refine st rfl rfl rfl rfl ((x_eql rfl rfl).b1 rfl) ?_
        refine st rfl rfl rfl rfl (x_pick1 rfl rfl) ?_
        refine st rfl rfl rfl rfl (x_move rfl) ?_
        refine st rfl rfl rfl rfl (x_move rfl) ?_
        refine st rfl rfl rfl rfl (x_move rfl) ?_
        refine st rfl rfl rfl rfl ((x_eqlb rfl rfl Tryd.underlying4).of (congrArg Value.bool (beq_self_eq_true _))) ?_
        refine st rfl rfl rfl rfl (x_pick1 rfl rfl) ?_
        refine st rfl rfl rfl rfl (x_move rfl) ?_
        refine st rfl rfl rfl rfl (x_move rfl) ?_
        refine st rfl rfl rfl rfl (x_move rfl) ?_
        refine st rfl rfl rfl rfl ((x_eql rfl rfl).b1 rfl) ?_
        refine st rfl rfl rfl rfl (x_pick1 rfl rfl) ?_
        refine st rfl rfl rfl rfl (x_move rfl) ?_
        refine st rfl rfl rfl rfl (x_move rfl) ?_
        refine st rfl rfl rfl rfl (x_move rfl) ?_
        refine st rfl rfl rfl rfl ((x_eqlb rfl rfl Tryd.underlying4).of (congrArg Value.bool (beq_self_eq_true _))) ?_
        refine st rfl rfl rfl rfl (x_pick1 rfl rfl) ?_
        refine st rfl rfl rfl rfl (x_move rfl) ?_
        refine st rfl rfl rfl rfl (x_move rfl) ?_
        refine st rfl rfl rfl rfl (x_move rfl) ?_
        refine st rfl rfl rfl rfl ((x_eql rfl rfl).b1 rfl) ?_
        refine st rfl rfl rfl rfl (x_pick1 rfl rfl) ?_
        refine st rfl rfl rfl rfl (x_move rfl) ?_
        refine st rfl rfl rfl rfl (x_move rfl) ?_
        refine st rfl rfl rfl rfl (x_move rfl) ?_
        refine st rfl rfl rfl rfl ((x_eql rfl rfl).b1 rfl) ?_
        refine st rfl rfl rfl rfl (x_pick1 rfl rfl) ?_
        refine st rfl rfl rfl rfl (x_move rfl) ?_
        refine st rfl rfl rfl rfl (x_move rfl) ?_
        refine st rfl rfl rfl rfl (x_move rfl) ?_
        refine st rfl rfl rfl rfl ((x_eql rfl rfl).b1 rfl) ?_
        refine st rfl rfl rfl rfl (x_pick1 rfl rfl) ?_
        refine st rfl rfl rfl rfl (x_move rfl) ?_
        refine st rfl rfl rfl rfl (x_move rfl) ?_
        refine st rfl rfl rfl rfl (x_pick1 rfl rfl) ?_
        refine st rfl rfl rfl rfl (x_move rfl) ?_
        refine st rfl rfl rfl rfl (x_move rfl) ?_
        refine st rfl rfl rfl rfl (x_move rfl) ?_
        refine st rfl rfl rfl rfl (x_move rfl) ?_
        refine st rfl rfl rfl rfl (x_len rfl Tryd.underlying30) ?_
        refine st rfl rfl rfl rfl (x_move rfl) ?_
        refine st rfl rfl rfl rfl (x_min rfl rfl) ?_
        refine st rfl rfl rfl rfl ((x_slh rfl rfl Tryd.underlying30 Tryd.sizeOf33 (by split <;> omega))) ?_
        rw [← hk, Int.toNat_natCast]
        have HOx := own_len HO9 ekk.symm
        have hsm := samesl_c w24 A9 A8 c9 c8 ((names x part).take kk) (by omega) (fun j y h => own_atA HOx h) (fun j y h => own_atA HO8 (by rw [List.getElem?_take] at h; split at h; exact h; cases h))
        rw [ekk] at hsm
        refine sc rfl rfl rfl rfl (c_fn rfl Tryd.call25 hsm) ?_
        rintro _ w25 ⟨rfl, fr⟩
        replace H := H.fr0 fr
        clear fr
        refine st rfl rfl rfl rfl (x_pick1 rfl rfl) ?_
        refine st rfl rfl rfl rfl (x_asg rfl) ?_
        refine rl_end rfl ?_
        refine al_k ?_
        refine cl_ret rfl ?_
        refine fin1 rfl rfl ?_
        exact ⟨rfl, H.F⟩
      · skip
        refine st rfl rfl rfl rfl (x_move rfl) ?_
        refine st rfl rfl rfl rfl (x_move rfl) ?_
        refine sf rfl rfl rfl rfl (x_gtr rfl rfl) (fun c21_4 => ?_) (fun c21_4 => ?_)
        · skip
          refine st rfl rfl rfl rfl (x_pick0 rfl rfl) ?_
          refine rl_end rfl ?_
          refine al_k ?_
          refine cl_if1 rfl rfl ?_
          refine cl_reg rfl ?_
          refine st rfl rfl rfl rfl (x_asg rfl) ?_
          refine rl_end rfl ?_
          refine al_k ?_
          refine cl_seq rfl ?_
          obtain ⟨M, hMq, hM⟩ : ∃ M : Int, M = 300 ∧ (1 ≤ M ∧ M ≤ 300) := ⟨300, rfl, by omega⟩
          rw [← hMq]
          refine cl_reg rfl ?_
          refine st rfl rfl rfl rfl (x_move rfl) ?_
          refine st rfl rfl rfl rfl (x_move rfl) ?_
          refine st rfl rfl rfl rfl (x_move rfl) ?_
          refine sc rfl rfl rfl rfl (c_fn rfl Tryd.call23 (held_c _ k x H.K (by have := H.K.lts.1.1; omega) part M hM.1)) ?_
          rintro _ w23 ⟨A9, c9, kk, rfl, hk, hkl, HO9, fr⟩
          replace H := H.fr0 fr
          clear fr
          refine st rfl rfl rfl rfl (x_move rfl) ?_
          refine st rfl rfl rfl rfl (x_ext rfl rfl) ?_
          refine st rfl rfl rfl rfl (x_ext rfl rfl) ?_
          refine st rfl rfl rfl rfl (x_asg rfl) ?_
          refine st rfl rfl rfl rfl (x_asg rfl) ?_
          refine rl_end rfl ?_
          refine al_k ?_
          refine cl_seq rfl ?_
          refine cl_reg rfl ?_
          refine st rfl rfl rfl rfl (x_move rfl) ?_
          refine st rfl rfl rfl rfl (x_move rfl) ?_
          refine sc rfl rfl rfl rfl (c_fn rfl Tryd.call24 (rheld_c _ B0 B r qs x H.R H.S hok part)) ?_
          rintro _ w24 ⟨A8, c8, rfl, HO8, fr⟩
          replace H := H.fr0 fr
          replace HO9 := own_fr0 HO9 fr
          clear fr
          refine st rfl rfl rfl rfl (x_asg rfl) ?_
          refine rl_end rfl ?_
          refine al_k ?_
          refine cl_seq rfl ?_
          have ekk : ((names x part).take kk).length = kk := by rw [List.length_take]; omega
          have hcap := own_cap HO8
          have hn6 : (names x part).length ≤ 65536 := by (have := heldN_len x part; have := H.K.sl0; have := names_len x part; omega)
          refine cl_reg rfl ?_
          refine st rfl rfl rfl rfl (x_move rfl) ?_
          refine st rfl rfl rfl rfl (x_move rfl) ?_
          refine st rfl rfl rfl rfl ((x_eql rfl rfl).b1 rfl) ?_
          refine st rfl rfl rfl rfl (x_move rfl) ?_
          refine st rfl rfl rfl rfl (x_move rfl) ?_
          refine st rfl rfl rfl rfl (x_move rfl) ?_
          refine st rfl rfl rfl rfl ((x_eql rfl rfl).b1 rfl) ?_
          refine st rfl rfl rfl rfl (x_pick1 rfl rfl) ?_
          refine st rfl rfl rfl rfl (x_move rfl) ?_
          refine st rfl rfl rfl rfl (x_move rfl) ?_
          refine st rfl rfl rfl rfl (x_move rfl) ?_
          refine st rfl rfl rfl rfl ((x_eqlb rfl rfl Tryd.underlying4).of (congrArg Value.bool (beq_self_eq_true _))) ?_
          refine st rfl rfl rfl rfl (x_pick1 rfl rfl) ?_
          refine st rfl rfl rfl rfl (x_move rfl) ?_
          refine st rfl rfl rfl rfl (x_move rfl) ?_
          refine st rfl rfl rfl rfl (x_move rfl) ?_
          refine st rfl rfl rfl rfl ((x_eql rfl rfl).b1 rfl) ?_
          refine st rfl rfl rfl rfl (x_pick1 rfl rfl) ?_
          refine st rfl rfl rfl rfl (x_move rfl) ?_
          refine st rfl rfl rfl rfl (x_move rfl) ?_
          refine st rfl rfl rfl rfl (x_move rfl) ?_
          refine st rfl rfl rfl rfl ((x_eqlb rfl rfl Tryd.underlying4).of (congrArg Value.bool (beq_self_eq_true _))) ?_
          refine st rfl rfl rfl rfl (x_pick1 rfl rfl) ?_
          refine st rfl rfl rfl rfl (x_move rfl) ?_
          refine st rfl rfl rfl rfl (x_move rfl) ?_
          refine st rfl rfl rfl rfl (x_move rfl) ?_
          refine st rfl rfl rfl rfl ((x_eql rfl rfl).b1 rfl) ?_
          refine st rfl rfl rfl rfl (x_pick1 rfl rfl) ?_
          refine st rfl rfl rfl rfl (x_move rfl) ?_
          refine st rfl rfl rfl rfl (x_move rfl) ?_
          refine st rfl rfl rfl rfl (x_move rfl) ?_
          refine st rfl rfl rfl rfl ((x_eql rfl rfl).b1 rfl) ?_
          refine st rfl rfl rfl rfl (x_pick1 rfl rfl) ?_
          refine st rfl rfl rfl rfl (x_move rfl) ?_
          refine st rfl rfl rfl rfl (x_move rfl) ?_
          refine st rfl rfl rfl rfl (x_move rfl) ?_
          refine st rfl rfl rfl rfl ((x_eql rfl rfl).b1 rfl) ?_
          refine st rfl rfl rfl rfl (x_pick1 rfl rfl) ?_
          refine st rfl rfl rfl rfl (x_move rfl) ?_
          refine st rfl rfl rfl rfl (x_move rfl) ?_
          refine st rfl rfl rfl rfl (x_pick1 rfl rfl) ?_
          refine st rfl rfl rfl rfl (x_move rfl) ?_
          refine st rfl rfl rfl rfl (x_move rfl) ?_
          refine st rfl rfl rfl rfl (x_move rfl) ?_
          refine st rfl rfl rfl rfl (x_move rfl) ?_
          refine st rfl rfl rfl rfl (x_len rfl Tryd.underlying30) ?_
          refine st rfl rfl rfl rfl (x_move rfl) ?_
          refine st rfl rfl rfl rfl (x_min rfl rfl) ?_
          refine st rfl rfl rfl rfl ((x_slh rfl rfl Tryd.underlying30 Tryd.sizeOf33 (by split <;> omega))) ?_
          rw [← hk, Int.toNat_natCast]
          have HOx := own_len HO9 ekk.symm
          have hsm := samesl_c w24 A9 A8 c9 c8 ((names x part).take kk) (by omega) (fun j y h => own_atA HOx h) (fun j y h => own_atA HO8 (by rw [List.getElem?_take] at h; split at h; exact h; cases h))
          rw [ekk] at hsm
          refine sc rfl rfl rfl rfl (c_fn rfl Tryd.call25 hsm) ?_
          rintro _ w25 ⟨rfl, fr⟩
          replace H := H.fr0 fr
          clear fr
          refine st rfl rfl rfl rfl (x_pick1 rfl rfl) ?_
          refine st rfl rfl rfl rfl (x_asg rfl) ?_
          refine rl_end rfl ?_
          refine al_k ?_
          refine cl_ret rfl ?_
          refine fin1 rfl rfl ?_
          exact ⟨rfl, H.F⟩
        · skip
          refine st rfl rfl rfl rfl (x_pick0 rfl rfl) ?_
          refine rl_end rfl ?_
          refine al_k ?_
          refine cl_if0 rfl rfl ?_
          refine cl_skip rfl ?_
          refine al_k ?_
          refine cl_seq rfl ?_
          have hM : 1 ≤ (most : Int) ∧ (most : Int) ≤ 300 := by omega
          generalize hMq : (most : Int) = M at hM ⊢
          refine cl_reg rfl ?_
          refine st rfl rfl rfl rfl (x_move rfl) ?_
          refine st rfl rfl rfl rfl (x_move rfl) ?_
          refine st rfl rfl rfl rfl (x_move rfl) ?_
          refine sc rfl rfl rfl rfl (c_fn rfl Tryd.call23 (held_c _ k x H.K (by have := H.K.lts.1.1; omega) part M hM.1)) ?_
          rintro _ w23 ⟨A9, c9, kk, rfl, hk, hkl, HO9, fr⟩
          replace H := H.fr0 fr
          clear fr
          refine st rfl rfl rfl rfl (x_move rfl) ?_
          refine st rfl rfl rfl rfl (x_ext rfl rfl) ?_
          refine st rfl rfl rfl rfl (x_ext rfl rfl) ?_
          refine st rfl rfl rfl rfl (x_asg rfl) ?_
          refine st rfl rfl rfl rfl (x_asg rfl) ?_
          refine rl_end rfl ?_
          refine al_k ?_
          refine cl_seq rfl ?_
          refine cl_reg rfl ?_
          refine st rfl rfl rfl rfl (x_move rfl) ?_
          refine st rfl rfl rfl rfl (x_move rfl) ?_
          refine sc rfl rfl rfl rfl (c_fn rfl Tryd.call24 (rheld_c _ B0 B r qs x H.R H.S hok part)) ?_
          rintro _ w24 ⟨A8, c8, rfl, HO8, fr⟩
          replace H := H.fr0 fr
          replace HO9 := own_fr0 HO9 fr
          clear fr
          refine st rfl rfl rfl rfl (x_asg rfl) ?_
          refine rl_end rfl ?_
          refine al_k ?_
          refine cl_seq rfl ?_
          have ekk : ((names x part).take kk).length = kk := by rw [List.length_take]; omega
          have hcap := own_cap HO8
          have hn6 : (names x part).length ≤ 65536 := by (have := heldN_len x part; have := H.K.sl0; have := names_len x part; omega)
          refine cl_reg rfl ?_
          refine st rfl rfl rfl rfl (x_move rfl) ?_
          refine st rfl rfl rfl rfl (x_move rfl) ?_
          refine st rfl rfl rfl rfl ((x_eql rfl rfl).b1 rfl) ?_
          refine st rfl rfl rfl rfl (x_move rfl) ?_
          refine st rfl rfl rfl rfl (x_move rfl) ?_
          refine st rfl rfl rfl rfl (x_move rfl) ?_
          refine st rfl rfl rfl rfl ((x_eql rfl rfl).b1 rfl) ?_
          refine st rfl rfl rfl rfl (x_pick1 rfl rfl) ?_
          refine st rfl rfl rfl rfl (x_move rfl) ?_
          refine st rfl rfl rfl rfl (x_move rfl) ?_
          refine st rfl rfl rfl rfl (x_move rfl) ?_
          refine st rfl rfl rfl rfl ((x_eqlb rfl rfl Tryd.underlying4).of (congrArg Value.bool (beq_self_eq_true _))) ?_
          refine st rfl rfl rfl rfl (x_pick1 rfl rfl) ?_
          refine st rfl rfl rfl rfl (x_move rfl) ?_
          refine st rfl rfl rfl rfl (x_move rfl) ?_
          refine st rfl rfl rfl rfl (x_move rfl) ?_
          refine st rfl rfl rfl rfl ((x_eql rfl rfl).b1 rfl) ?_
          refine st rfl rfl rfl rfl (x_pick1 rfl rfl) ?_
          refine st rfl rfl rfl rfl (x_move rfl) ?_
          refine st rfl rfl rfl rfl (x_move rfl) ?_
          refine st rfl rfl rfl rfl (x_move rfl) ?_
          refine st rfl rfl rfl rfl ((x_eqlb rfl rfl Tryd.underlying4).of (congrArg Value.bool (beq_self_eq_true _))) ?_
          refine st rfl rfl rfl rfl (x_pick1 rfl rfl) ?_
          refine st rfl rfl rfl rfl (x_move rfl) ?_
          refine st rfl rfl rfl rfl (x_move rfl) ?_
          refine st rfl rfl rfl rfl (x_move rfl) ?_
          refine st rfl rfl rfl rfl ((x_eql rfl rfl).b1 rfl) ?_
          refine st rfl rfl rfl rfl (x_pick1 rfl rfl) ?_
          refine st rfl rfl rfl rfl (x_move rfl) ?_
          refine st rfl rfl rfl rfl (x_move rfl) ?_
          refine st rfl rfl rfl rfl (x_move rfl) ?_
          refine st rfl rfl rfl rfl ((x_eql rfl rfl).b1 rfl) ?_
          refine st rfl rfl rfl rfl (x_pick1 rfl rfl) ?_
          refine st rfl rfl rfl rfl (x_move rfl) ?_
          refine st rfl rfl rfl rfl (x_move rfl) ?_
          refine st rfl rfl rfl rfl (x_move rfl) ?_
          refine st rfl rfl rfl rfl ((x_eql rfl rfl).b1 rfl) ?_
          refine st rfl rfl rfl rfl (x_pick1 rfl rfl) ?_
          refine st rfl rfl rfl rfl (x_move rfl) ?_
          refine st rfl rfl rfl rfl (x_move rfl) ?_
          refine st rfl rfl rfl rfl (x_pick1 rfl rfl) ?_
          refine st rfl rfl rfl rfl (x_move rfl) ?_
          refine st rfl rfl rfl rfl (x_move rfl) ?_
          refine st rfl rfl rfl rfl (x_move rfl) ?_
          refine st rfl rfl rfl rfl (x_move rfl) ?_
          refine st rfl rfl rfl rfl (x_len rfl Tryd.underlying30) ?_
          refine st rfl rfl rfl rfl (x_move rfl) ?_
          refine st rfl rfl rfl rfl (x_min rfl rfl) ?_
          refine st rfl rfl rfl rfl ((x_slh rfl rfl Tryd.underlying30 Tryd.sizeOf33 (by split <;> omega))) ?_
          rw [← hk, Int.toNat_natCast]
          have HOx := own_len HO9 ekk.symm
          have hsm := samesl_c w24 A9 A8 c9 c8 ((names x part).take kk) (by omega) (fun j y h => own_atA HOx h) (fun j y h => own_atA HO8 (by rw [List.getElem?_take] at h; split at h; exact h; cases h))
          rw [ekk] at hsm
          refine sc rfl rfl rfl rfl (c_fn rfl Tryd.call25 hsm) ?_
          rintro _ w25 ⟨rfl, fr⟩
          replace H := H.fr0 fr
          clear fr
          refine st rfl rfl rfl rfl (x_pick1 rfl rfl) ?_
          refine st rfl rfl rfl rfl (x_asg rfl) ?_
          refine rl_end rfl ?_
          refine al_k ?_
          refine cl_ret rfl ?_
          refine fin1 rfl rfl ?_
          exact ⟨rfl, H.F⟩

theorem runs_c (w : World) (hG : Glb w) (A0 : Option Addr) (n c0 : Nat) (hn : n ≤ 9223372036854775807) (hq : ∀ j : Nat, j < n → ∃ (x : Addr) (z : Int), A0 = some x ∧ w.cell? (x.add (((j : Nat) : Int).toNat * 1)) = some (.int .i64 z) ∧ (Lit.int .i64 z).wf = true) (hc0 : n ≤ c0) (A2 : Option Addr) (ln2 cp2 : Nat) (hln : ln2 ≤ 9223372036854775807) (hp : ∀ j : Nat, j < ln2 → ∃ (x : Addr) (z0 : Int) (z1 : Int) (z2 : Int) (z3 : Int) (z4 : Int), A2 = some x ∧ (∀ i v, [(.int .i64 z0 : Value), .int .i64 z1, .int .i64 z2, .int .u64 z3, .int .u64 z4][i]? = some v → w.cell? ((x.add (((j : Nat) : Int).toNat * 5)).add i) = some v) ∧ (Lit.int .i64 z0).wf = true ∧ (Lit.int .i64 z1).wf = true ∧ (Lit.int .i64 z2).wf = true ∧ (Lit.int .u64 z3).wf = true ∧ (Lit.int .u64 z4).wf = true) (nq : Int) (hnq : (Lit.int .i64 nq).wf = true) (part most : Int) :
    Cl Tryd.prog 5 [.slice A0 n c0, .slice A2 ln2 cp2, .int .i64 nq, .int .i64 part, .int .i64 most] w (fun v w' => v = .bool true ∧ Fr [] w w') := by
  obtain ⟨qs, hql, hrow⟩ := pick_row hq (min n 17) (Nat.min_le_left _ _)
  by_cases hok : okQ qs
  · exact runs_ok w hG A0 n c0 hc0 qs hql hok hrow A2 ln2 cp2 hln hp nq (wf_le hnq) part most
  · exact runs_no w hG A0 n c0 hc0 qs hql hok hrow A2 ln2 cp2 nq (wf_le hnq) part most

end Go.Proofs.YtjjaijabdfoanaaDoor.Arn
