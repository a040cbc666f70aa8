/- The arena: the walk of the law ArenaDead. -/
import Derived.Test.YtjjaijabdfoanaaDoorArW6
import Derived.Test.YtjjaijabdfoanaaDoorArE
set_option linter.unusedVariables false
namespace Go.Proofs.YtjjaijabdfoanaaDoor.Arn
open Go Go.RowKit Go.Proofs.YtjjaijabdfoanaaDoor.Sx Go.Proofs.YtjjaijabdfoanaaDoor.Ls Go.Proofs.YtjjaijabdfoanaaDoor
set_option maxRecDepth 100000

theorem anew_b (w : World) (hG : Glb w) (A0 : Option Addr) (c0 : Nat) (qs : List Int) (hok : okQ qs) (hrow : ∀ (j : Nat) q, qs[j]? = some q → ∃ a, A0 = some a ∧ w.cell? (a.add (((j : Nat) : Int).toNat * 1)) = some (.int .i64 q)) :
    Cl Tryd.prog 10 [.slice A0 qs.length c0] w (fun v w' => ∃ k : AK, v = .tuple #[.pointer (some ⟨k.ap, 0, none⟩), .int .i64 0] ∧ ArAt w' k (Ar.new qs) ∧ (w.heap.size ≤ k.ap ∧ w.heap.size ≤ k.sb ∧ w.heap.size ≤ k.p ∧ w.heap.size ≤ k.nb ∧ w.heap.size ≤ k.hb) ∧ (k.ap < w'.heap.size ∧ k.sb < w'.heap.size ∧ k.p < w'.heap.size ∧ k.nb < w'.heap.size ∧ k.hb < w'.heap.size) ∧ Fr [] w w') :=
  (anew_ok w hG A0 c0 qs hok hrow).mono (fun v w' ⟨k, hv, K, g1, g2, g3, g4, g5, F⟩ => by
    obtain ⟨⟨z1, z2, z3, z4⟩, zs⟩ := K.lts
    by_cases h : (Ar.new qs).slots = []
    · refine ⟨{ k with sb := k.ap }, hv, ⟨K.top, fun hne => absurd h hne, K.hl, K.Q, K.pp, K.ag, K.ag, K.sl0⟩, ⟨g1, g1, g3, g4, g5⟩, ⟨z1, z1, z2, z3, z4⟩, F⟩
    · exact ⟨k, hv, K, ⟨g1, g2, g3, g4, g5⟩, ⟨z1, zs h, z2, z3, z4⟩, F⟩)
theorem anew_no (w : World) (hG : Glb w) (A0 : Option Addr) (c0 : Nat) (qs : List Int) (hl : qs.length ≤ 1000) (hno : ¬ okQ qs) (hrow : ∀ (j : Nat) q, qs[j]? = some q → ∃ a, A0 = some a ∧ w.cell? (a.add (((j : Nat) : Int).toNat * 1)) = some (.int .i64 q)) :
    Cl Tryd.prog 10 [.slice A0 qs.length c0] w (fun v w' => v = .tuple #[.pointer none, .int .i64 60] ∧ Fr [] w w') :=
  (anew_c w hG A0 c0 qs (by omega) hrow).mono (fun v w' h => h.elim (fun h => absurd h.1 hno) (fun h => h.2))
theorem bslN (a b : Int) (w : World) : (Instr.buildSlice 30 1 [(0, .agg [.int .i64 a, .int .u64 b].toArray)].toArray).run Tryd.prog w = .ok (.slice (some ⟨w.heap.size, 0, none⟩) 1 1) (w.alloc (.cells [.int .i64 a, .int .u64 b].toArray 33)) := by kernel_rfl
theorem encN_snoc (al : List (Int × Int)) (a b : Int) : flat encN al ++ [Value.int .i64 a, .int .u64 b] = flat encN (al ++ [(a, b)]) := by rw [flat_app, flat_one]; rfl

theorem dead_no (w : World) (hG : Glb w) (A0 : Option Addr) (n c0 : Nat) (hc0 : n ≤ c0) (qs : List Int) (hql : qs.length = min n 17) (hno : ¬ okQ qs) (hrow : ∀ (j : Nat) q, qs[j]? = some q → ∃ a, A0 = some a ∧ w.cell? (a.add (((j : Nat) : Int).toNat * 1)) = some (.int .i64 q)) (A2 : Option Addr) (ln2 cp2 : Nat) : Cl Tryd.prog 3 [.slice A0 n c0, .slice A2 ln2 cp2] w (fun v w' => v = .bool true ∧ Fr [] w w') := by
  have F := Fr.refl [] w
  refine enter Tryd.func3 rfl Tryd.ntmps3 rfl ?_
  refine cl_seq rfl ?_
  refine cl_reg rfl ?_
  refine st rfl rfl rfl rfl (x_asg rfl) ?_
  refine rl_end rfl ?_
  refine al_k ?_
  refine cl_seq rfl ?_
  refine cl_seq rfl ?_
  refine cl_reg rfl ?_
  refine sc rfl rfl rfl rfl (c_fn rfl Tryd.call8 (awake_c w hG)) ?_
  rintro _ w1 ⟨rfl, fr⟩
  replace F := F.trans fr
  replace hrow : ∀ (j : Nat) q, qs[j]? = some q → ∃ a, A0 = some a ∧ w1.cell? (a.add (((j : Nat) : Int).toNat * 1)) = some (.int .i64 q) := fun j q h => let ⟨a, e, c⟩ := hrow j q h; ⟨a, e, fr.cell c (by simp)⟩
  refine st rfl rfl rfl rfl (x_not1 rfl) ?_
  refine rl_end rfl ?_
  refine al_k ?_
  refine cl_if0 rfl rfl ?_
  refine cl_skip rfl ?_
  refine al_k ?_
  refine cl_seq rfl ?_
  refine cl_reg rfl ?_
  refine st rfl rfl rfl rfl (x_move rfl) ?_
  refine sc rfl rfl rfl rfl (c_fn rfl Tryd.call9 (few_c _ A0 n c0 hc0)) ?_
  rintro _ wk ⟨rfl, hwk⟩
  obtain rfl := hwk.symm
  rw [← hql]
  refine st rfl rfl rfl rfl (x_asg rfl) ?_
  refine rl_end rfl ?_
  refine al_k ?_
  refine cl_seq rfl ?_
  refine cl_reg rfl ?_
  refine st rfl rfl rfl rfl (x_move rfl) ?_
  refine sc rfl rfl rfl rfl (c_fn rfl Tryd.call10 (anew_no _ (hG.fr F (by simp)) A0 c0 qs (by omega) hno hrow)) ?_
  rintro _ w4 ⟨rfl, fr⟩
  replace F := F.trans fr
  refine st rfl rfl rfl rfl (x_move rfl) ?_
  refine st rfl rfl rfl rfl (x_ext rfl rfl) ?_
  refine st rfl rfl rfl rfl (x_ext rfl rfl) ?_
  refine st rfl rfl rfl rfl (x_asg rfl) ?_
  refine st rfl rfl rfl rfl (x_asg rfl) ?_
  refine rl_end rfl ?_
  refine al_k ?_
  refine cl_seq rfl ?_
  refine cl_seq rfl ?_
  refine cl_reg rfl ?_
  refine st rfl rfl rfl rfl (x_move rfl) ?_
  refine st rfl rfl rfl rfl ((x_neq rfl rfl).b1 (by decide)) ?_
  refine st rfl rfl rfl rfl (x_move rfl) ?_
  refine so rfl rfl rfl rfl ?_
  refine so rfl rfl rfl rfl ?_
  refine st rfl rfl rfl rfl (x_pick1 rfl rfl) ?_
  refine rl_end rfl ?_
  refine al_k ?_
  refine cl_if1 rfl rfl ?_
  refine cl_seq rfl ?_
  refine cl_reg rfl ?_
  refine st rfl rfl rfl rfl (x_move rfl) ?_
  refine st rfl rfl rfl rfl (x_eqlp rfl rfl Tryd.underlying26) ?_
  refine st rfl rfl rfl rfl (x_asg rfl) ?_
  refine rl_end rfl ?_
  refine al_k ?_
  refine cl_ret rfl ?_
  refine fin1 rfl rfl ?_
  exact ⟨rfl, F⟩

theorem none_lo {w : World} {B c : Nat} {A : Option Addr} {l : List (Int × Int)} {k : Nat} (h : w.ownsRow B 33 2 (.slice A l.length c) l.length (flat encN l)) (hk : k ≤ l.length) (e : (if c = k then A else A.map (·.add (k * 2))) = none) : l.length - k = 0 := by
  have : A = none := by
    split at e
    · exact e
    · simpa using e
  have := none_len h this
  omega

theorem dead_ok (w : World) (hG : Glb w) (A0 : Option Addr) (n c0 : Nat) (hc0 : n ≤ c0) (qs : List Int) (hql : qs.length = min n 17) (hok : okQ qs) (hrow : ∀ (j : Nat) q, qs[j]? = some q → ∃ a, A0 = some a ∧ w.cell? (a.add (((j : Nat) : Int).toNat * 1)) = some (.int .i64 q)) (A2 : Option Addr) (ln2 cp2 : Nat) (hln : ln2 ≤ 9223372036854775807) (hp : ∀ j : Nat, j < ln2 → ∃ (x : Addr) (z0 : Int) (z1 : Int) (z2 : Int) (z3 : Int) (z4 : Int), A2 = some x ∧ (∀ i v, [(.int .i64 z0 : Value), .int .i64 z1, .int .i64 z2, .int .u64 z3, .int .u64 z4][i]? = some v → w.cell? ((x.add (((j : Nat) : Int).toNat * 5)).add i) = some v) ∧ (Lit.int .i64 z0).wf = true ∧ (Lit.int .i64 z1).wf = true ∧ (Lit.int .i64 z2).wf = true ∧ (Lit.int .u64 z3).wf = true ∧ (Lit.int .u64 z4).wf = true) : Cl Tryd.prog 3 [.slice A0 n c0, .slice A2 ln2 cp2] w (fun v w' => v = .bool true ∧ Fr [] w w') := by
  have F := Fr.refl [] w
  refine enter Tryd.func3 rfl Tryd.ntmps3 rfl ?_
  refine cl_seq rfl ?_
  refine cl_reg rfl ?_
  refine st rfl rfl rfl rfl (x_asg rfl) ?_
  refine rl_end rfl ?_
  refine al_k ?_
  refine cl_seq rfl ?_
  refine cl_seq rfl ?_
  refine cl_reg rfl ?_
  refine sc rfl rfl rfl rfl (c_fn rfl Tryd.call8 (awake_c w hG)) ?_
  rintro _ w1 ⟨rfl, fr⟩
  replace F := F.trans fr
  replace hrow : ∀ (j : Nat) q, qs[j]? = some q → ∃ a, A0 = some a ∧ w1.cell? (a.add (((j : Nat) : Int).toNat * 1)) = some (.int .i64 q) := fun j q h => let ⟨a, e, c⟩ := hrow j q h; ⟨a, e, fr.cell c (by simp)⟩
  refine st rfl rfl rfl rfl (x_not1 rfl) ?_
  refine rl_end rfl ?_
  refine al_k ?_
  refine cl_if0 rfl rfl ?_
  refine cl_skip rfl ?_
  refine al_k ?_
  refine cl_seq rfl ?_
  refine cl_reg rfl ?_
  refine st rfl rfl rfl rfl (x_move rfl) ?_
  refine sc rfl rfl rfl rfl (c_fn rfl Tryd.call9 (few_c _ A0 n c0 hc0)) ?_
  rintro _ wk ⟨rfl, hwk⟩
  obtain rfl := hwk.symm
  rw [← hql]
  refine st rfl rfl rfl rfl (x_asg rfl) ?_
  refine rl_end rfl ?_
  refine al_k ?_
  refine cl_seq rfl ?_
  refine cl_reg rfl ?_
  refine st rfl rfl rfl rfl (x_move rfl) ?_
  refine sc rfl rfl rfl rfl (c_fn rfl Tryd.call10 (anew_b _ (hG.fr F (by simp)) A0 c0 qs hok hrow)) ?_
  rintro _ w4 ⟨k, rfl, K, zk, zb, fr⟩
  have zF := F.size
  replace F := F.trans fr
  have H : St w w4 w4.heap.size k (Ar.new qs) (.slice none 0 0) (.slice none 0 0) [] [] := ⟨K, Two.nil _ _, F, by omega, zb, Nat.le_refl _, Nat.lt_of_le_of_lt (Nat.zero_le _) (World.block_lt_of_cell? w _ (hG 0 _ rfl))⟩
  generalize hBq : w4.heap.size = B at H
  clear K F zk zb zF
  refine st rfl rfl rfl rfl (x_move rfl) ?_
  refine st rfl rfl rfl rfl (x_ext rfl rfl) ?_
  refine st rfl rfl rfl rfl (x_ext rfl rfl) ?_
  refine st rfl rfl rfl rfl (x_asg rfl) ?_
  refine st rfl rfl rfl rfl (x_asg rfl) ?_
  refine rl_end rfl ?_
  refine al_k ?_
  refine cl_seq rfl ?_
  refine cl_seq rfl ?_
  refine cl_reg rfl ?_
  refine st rfl rfl rfl rfl (x_move rfl) ?_
  refine st rfl rfl rfl rfl ((x_neq rfl rfl).b0 (fun h => h rfl)) ?_
  refine st rfl rfl rfl rfl (x_move rfl) ?_
  refine st rfl rfl rfl rfl (x_move rfl) ?_
  refine st rfl rfl rfl rfl (x_eqlp rfl rfl Tryd.underlying26) ?_
  refine st rfl rfl rfl rfl (x_pick0 rfl rfl) ?_
  refine rl_end rfl ?_
  refine al_k ?_
  refine cl_if0 rfl rfl ?_
  refine cl_skip rfl ?_
  refine al_k ?_
  refine cl_seq rfl ?_
  refine cl_reg rfl ?_
  refine st rfl rfl rfl rfl (x_asg rfl) ?_
  refine st rfl rfl rfl rfl (x_asg rfl) ?_
  refine rl_end rfl ?_
  refine al_k ?_
  refine cl_seq rfl ?_
  refine cl_seq rfl ?_
  refine cl_reg rfl ?_
  refine st rfl rfl rfl rfl (x_asg rfl) ?_
  refine rl_end rfl ?_
  refine al_k ?_
  refine cl_block rfl ?_
  refine cl_loop (fun s : Nat × Ar × Option Addr × Nat × Option Addr × Nat × List (Int × Int) × List (Int × Int) => [(9, .int .i64 s.1), (5, .pointer (some ⟨k.ap, 0, none⟩)), (7, .slice s.2.2.1 s.2.2.2.2.2.2.1.length s.2.2.2.1), (8, .slice s.2.2.2.2.1 s.2.2.2.2.2.2.2.length s.2.2.2.2.2.1), (1, .slice A2 ln2 cp2)]) (fun s w' => (s.1 ≤ ln2 ∧ s.1 ≤ 60) ∧ St w w' B k s.2.1 (.slice s.2.2.1 s.2.2.2.2.2.2.1.length s.2.2.2.1) (.slice s.2.2.2.2.1 s.2.2.2.2.2.2.2.length s.2.2.2.2.2.1) s.2.2.2.2.2.2.1 s.2.2.2.2.2.2.2 ∧ Names s.2.1 s.1 s.2.2.2.2.2.2.1 s.2.2.2.2.2.2.2 ∧ s.2.2.2.2.2.2.1.length ≤ s.1 ∧ s.2.2.2.2.2.2.2.length ≤ s.1) (fun s => 60 - s.1) (0, Ar.new qs, none, 0, none, 0, [], []) rfl ⟨rfl, rfl, rfl, rfl, rfl, trivial⟩ ?_ ?_
  · exact ⟨⟨Nat.zero_le _, Nat.zero_le _⟩, H, Names.new hok, Nat.le_refl _, Nat.le_refl _⟩
  · skip
    rintro ⟨i, x, A7, c7, A8, c8, al, de⟩ wr ⟨⟨hi, hi6⟩, H, hN, hl7, hl8⟩
    dsimp only at hi hi6 H hN hl7 hl8 ⊢
    refine cl_seq rfl ?_
    refine cl_seq rfl ?_
    refine cl_reg rfl ?_
    refine st rfl rfl rfl rfl (x_move rfl) ?_
    refine st rfl rfl rfl rfl (x_move rfl) ?_
    refine st rfl rfl rfl rfl (x_len rfl Tryd.underlying23) ?_
    refine sf rfl rfl rfl rfl (x_lss rfl rfl) (fun c9_3 => ?_) (fun c9_3 => ?_)
    · skip
      refine st rfl rfl rfl rfl (x_move rfl) ?_
      refine st rfl rfl rfl rfl (x_move rfl) ?_
      refine sf rfl rfl rfl rfl (x_lss rfl rfl) (fun c9_6 => ?_) (fun c9_6 => ?_)
      · skip
        refine st rfl rfl rfl rfl (x_pick1 rfl rfl) ?_
        refine rl_end rfl ?_
        refine al_k ?_
        refine cl_if1 rfl rfl ?_
        refine cl_skip rfl ?_
        refine al_k ?_
        refine cl_seq rfl ?_
        refine cl_block rfl ?_
        refine cl_seq rfl ?_
        have hil : i < ln2 := by omega
        obtain ⟨a, kd, pt, nn, gg, xx, rfl, hc, _⟩ := hp i hil
        replace hc : ∀ j v, ([.int .i64 kd, .int .i64 pt, .int .i64 nn, .int .u64 gg, .int .u64 xx] : List Value)[j]? = some v → wr.cell? ((a.add (((i : Nat) : Int).toNat * 5)).add j) = some v := fun j v h => H.F.cell (hc j v h) (by simp)
        refine cl_reg rfl ?_
        refine st rfl rfl rfl rfl (x_move rfl) ?_
        refine st rfl rfl rfl rfl (x_move rfl) ?_
        refine st rfl rfl rfl rfl (x_iag rfl rfl Tryd.underlying23 Tryd.sizeOf35 (by omega)) ?_
        refine st rfl rfl rfl rfl (x_ldg (cs := [.int .i64 kd, .int .i64 pt, .int .i64 nn, .int .u64 gg, .int .u64 xx]) rfl Tryd.isAgg35 Tryd.sizeOf35 rfl hc) ?_
        refine se rfl rfl rfl rfl (e_new (x_alloc Tryd.zeroValue35 rfl)) ?_
        rintro _ w11 ⟨rfl, b10, fr, _⟩
        have hfb := H.T.fresh _ (Nat.le_refl wr.heap.size)
        have hbo := H.zB
        replace H := H.fr0 fr
        generalize hboq : wr.heap.size = bo at b10 hfb hbo ⊢
        clear fr
        refine sv rfl rfl rfl (v_n (vs := [.int .i64 kd, .int .i64 pt, .int .i64 nn, .int .u64 gg, .int .u64 xx]) rfl rfl (by intro v hv; simp at hv; rcases hv with rfl | rfl | rfl | rfl | rfl <;> rfl) Tryd.sizeOf35 rfl b10 (by decide)) ?_
        rintro w11b ⟨b10b, fr⟩
        replace b10 : Blk w11b bo 35 [.int .i64 kd, .int .i64 pt, .int .i64 nn, .int .u64 gg, .int .u64 xx] := b10b
        replace H := H.own1 fr ⟨hbo, hfb⟩
        clear fr b10b
        refine rl_end rfl ?_
        refine al_k ?_
        refine cl_seq rfl ?_
        refine cl_seq rfl ?_
        refine cl_reg rfl ?_
        refine st rfl rfl rfl rfl (x_fa rfl Tryd.underlying35 rfl Tryd.sizeOf3 0 rfl) ?_
        refine st rfl rfl rfl rfl (x_ld rfl Tryd.isAgg3 (b10.cell rfl)) ?_
        refine sf rfl rfl rfl rfl (x_eql rfl rfl) (fun c12_2 => ?_) (fun c12_2 => ?_)
        · skip
          refine rl_end rfl ?_
          refine al_k ?_
          refine cl_if1 rfl rfl ?_
          refine cl_seq rfl ?_
          refine cl_reg rfl ?_
          refine st rfl rfl rfl rfl (x_move rfl) ?_
          refine st rfl rfl rfl rfl (x_fa rfl Tryd.underlying35 rfl Tryd.sizeOf3 1 rfl) ?_
          refine st rfl rfl rfl rfl (x_ld rfl Tryd.isAgg3 (b10.cell rfl)) ?_
          refine sc rfl rfl rfl rfl (c_fn rfl Tryd.call11 (alloc_a H.K hN.I pt)) ?_
          rintro _ w13 ⟨rfl, K, fr⟩
          replace b10 := H.bx b10 hbo fr
          replace H := H.ar K fr
          have hAl := hN.alloc pt
          clear K fr
          refine st rfl rfl rfl rfl (x_move rfl) ?_
          refine st rfl rfl rfl rfl (x_ext rfl rfl) ?_
          refine st rfl rfl rfl rfl (x_ext rfl rfl) ?_
          refine se rfl rfl rfl rfl (e_new (x_alloc Tryd.zeroValue33 rfl)) ?_
          rintro _ w13b ⟨rfl, b11, fr, _⟩
          have hfc := H.T.fresh _ (Nat.le_refl w13.heap.size)
          have hbp := H.zB
          have hne : bo ≠ w13.heap.size := by have := b10.lt; omega
          replace H := H.fr0 fr
          replace b10 := b10.fr0 fr
          generalize hbpq : w13.heap.size = bp at b11 hfc hbp hne ⊢
          clear fr
          refine sv rfl rfl rfl (v_n (vs := [.int .i64 (x.alloc pt).2.1, .int .u64 (x.alloc pt).2.2.1]) rfl rfl (by intro v hv; simp at hv; rcases hv with rfl | rfl <;> rfl) Tryd.sizeOf33 rfl b11 (by decide)) ?_
          rintro w13c ⟨b11b, fr⟩
          replace b11 : Blk w13c bp 33 [.int .i64 (x.alloc pt).2.1, .int .u64 (x.alloc pt).2.2.1] := b11b
          replace H := H.own1 fr ⟨hbp, hfc⟩
          replace b10 := b10.fr fr (by simpa using hne)
          clear fr b11b
          refine st rfl rfl rfl rfl (x_asg rfl) ?_
          refine rl_end rfl ?_
          refine al_k ?_
          refine cl_seq rfl ?_
          refine cl_seq rfl ?_
          refine cl_reg rfl ?_
          refine st rfl rfl rfl rfl (x_move rfl) ?_
          refine sf rfl rfl rfl rfl (x_neq rfl rfl) (fun c14_1 => ?_) (fun c14_1 => ?_)
          · skip
            refine rl_end rfl ?_
            refine al_k ?_
            refine cl_if1 rfl rfl ?_
            refine cl_exit rfl ?_
            refine upd_self ?_
            refine al_k ?_
            refine cl_reg rfl ?_
            refine st rfl rfl rfl rfl (x_move rfl) ?_
            refine st rfl rfl rfl rfl (x_add rfl rfl (by omega)) ?_
            refine st rfl rfl rfl rfl (x_asg rfl) ?_
            refine rl_end rfl ?_
            have hN2 := hAl.1
            rw [if_neg c14_1] at hN2
            refine again (i + 1, (x.alloc pt).1, A7, c7, A8, c8, al, de) (show 60 - (i + 1) < 60 - i by omega) ⟨rfl, rfl, rfl, rfl, rfl, trivial⟩ ⟨⟨by dsimp only; omega, by dsimp only; omega⟩, H, hN2.mono (Nat.le_succ i), by dsimp only; omega, by dsimp only; omega⟩
          · skip
            refine rl_end rfl ?_
            refine al_k ?_
            refine cl_if0 rfl rfl ?_
            refine cl_skip rfl ?_
            refine al_k ?_
            refine cl_seq rfl ?_
            refine cl_seq rfl ?_
            have hz := Classical.not_not.1 c14_1
            obtain ⟨hN2, hnew⟩ := hAl
            rw [if_pos hz] at hN2
            replace hnew := hnew hz
            refine cl_reg rfl ?_
            refine st rfl rfl rfl rfl (x_asg rfl) ?_
            refine rl_end rfl ?_
            refine al_k ?_
            refine cl_block rfl ?_
            refine cl_loop (fun q : Nat => [(13, .int .i64 q), (11, .pointer (some ⟨bp, 0, none⟩)), (9, .int .i64 i), (5, .pointer (some ⟨k.ap, 0, none⟩)), (7, .slice A7 al.length c7), (8, .slice A8 de.length c8), (1, .slice (some a) ln2 cp2), (10, .pointer (some ⟨bo, 0, none⟩))]) (fun q w' => q ≤ al.length ∧ St w w' B k (x.alloc pt).1 (.slice A7 al.length c7) (.slice A8 de.length c8) al de ∧ Blk w' bo 35 [.int .i64 kd, .int .i64 pt, .int .i64 nn, .int .u64 gg, .int .u64 xx] ∧ Blk w' bp 33 [.int .i64 (x.alloc pt).2.1, .int .u64 (x.alloc pt).2.2.1]) (fun q => al.length - q) 0 rfl ⟨rfl, rfl, rfl, rfl, rfl, rfl, rfl, rfl, trivial⟩ ?_ ?_
            · exact ⟨Nat.zero_le _, H, b10, b11⟩
            · skip
              rintro q wr2 ⟨hq, H, b10, b11⟩
              refine cl_seq rfl ?_
              refine cl_seq rfl ?_
              refine cl_reg rfl ?_
              refine st rfl rfl rfl rfl (x_move rfl) ?_
              refine st rfl rfl rfl rfl (x_move rfl) ?_
              refine st rfl rfl rfl rfl (x_len rfl Tryd.underlying30) ?_
              refine sf rfl rfl rfl rfl (x_lss rfl rfl) (fun c16_3 => ?_) (fun c16_3 => ?_)
              · skip
                refine rl_end rfl ?_
                refine al_k ?_
                refine cl_if1 rfl rfl ?_
                refine cl_skip rfl ?_
                refine al_k ?_
                refine cl_seq rfl ?_
                refine cl_block rfl ?_
                refine cl_seq rfl ?_
                obtain ⟨y, hy⟩ : ∃ y, al[q]? = some y := ⟨_, List.getElem?_eq_getElem (by omega)⟩
                obtain ⟨g7, rfl, hc7⟩ := own_atA H.T.o1 hy
                refine cl_draw (by kernel_rfl) rfl [] (fun w' => w'.heap = wr2.heap) ?_
                rintro wd18 frd18 hpd18
                refine ⟨hpd18, ?_⟩
                refine dt (i := 0) rfl rfl rfl rfl (by kernel_rfl) (fun _ => x_move rfl) ?_
                refine dt (i := 1) rfl rfl rfl rfl (by kernel_rfl) (fun _ => x_move rfl) ?_
                refine dt (i := 2) rfl rfl rfl rfl (by kernel_rfl) (fun _ => x_ia0 rfl rfl Tryd.underlying30 Tryd.sizeOf33 (by omega)) ?_
                refine dt (i := 3) rfl rfl rfl rfl (by kernel_rfl) (fun _ => x_fa rfl Tryd.underlying33 rfl Tryd.sizeOf3 0 rfl) ?_
                refine dl (i := 4) rfl rfl rfl rfl (by kernel_rfl) (by kernel_rfl) (fun w' hU => x_ld rfl Tryd.isAgg3 (heq hU (hc7 0 _ rfl))) ?_
                refine dt (i := 5) rfl rfl rfl rfl (by kernel_rfl) (fun _ => x_fa rfl Tryd.underlying33 rfl Tryd.sizeOf3 0 rfl) ?_
                refine dl (i := 6) rfl rfl rfl rfl (by kernel_rfl) (by kernel_rfl) (fun w' hU => x_ld rfl Tryd.isAgg3 (heq hU (b11.cell rfl))) ?_
                refine dt (i := 7) rfl rfl rfl rfl (by kernel_rfl) (fun _ => (x_eql rfl rfl).b0 (hnew y (List.mem_of_getElem? hy))) ?_
                replace H := H.fr0 frd18
                replace b10 := b10.fr0 frd18
                replace b11 := b11.fr0 frd18
                refine dn (by kernel_rfl) ?_
                refine al_k ?_
                refine cl_if0 rfl rfl ?_
                refine cl_skip rfl ?_
                refine al_k ?_
                refine cl_reg rfl ?_
                refine st rfl rfl rfl rfl (x_move rfl) ?_
                refine st rfl rfl rfl rfl (x_add rfl rfl (by omega)) ?_
                refine st rfl rfl rfl rfl (x_asg rfl) ?_
                refine rl_end rfl ?_
                refine again (q + 1) (by omega) ⟨rfl, rfl, rfl, rfl, rfl, rfl, rfl, rfl, trivial⟩ ⟨by omega, H, b10, b11⟩
              · skip
                refine rl_end rfl ?_
                refine al_k ?_
                refine cl_if0 rfl rfl ?_
                refine cl_exit rfl ?_
                refine upd_self ?_
                refine al_k ?_
                refine cl_reg rfl ?_
                refine st rfl rfl rfl rfl (x_move rfl) ?_
                refine st rfl rfl rfl rfl (x_ldn rfl Tryd.isAgg33 Tryd.sizeOf33 rfl (by intro j v hv; rw [Nat.zero_add]; exact b11.cell hv)) ?_
                refine se rfl rfl rfl rfl (e_new (x_bsl rfl (bslN _ _ _))) ?_
                rintro _ w20 ⟨rfl, b20, fr, _⟩
                replace H := H.fr0 fr
                replace b10 := b10.fr0 fr
                clear fr b11
                refine se rfl rfl rfl rfl (e_app 2 16 (.agg #[.int .i64 0, .int .u64 0]) _ rfl rfl Tryd.underlying30 (by kernel_rfl) rfl (by decide) H.T.o1 rfl b20.news (oneN (_, _)) (by omega) (by omega) H.zB) ?_
                rintro v1 w21 ⟨HO1, hg, hat⟩
                rw [encN_snoc] at HO1
                replace HO1 : World.ownsRow w21 B 33 2 v1 (al ++ [((x.alloc pt).2.1, (x.alloc pt).2.2.1)]).length (flat encN (al ++ [((x.alloc pt).2.1, (x.alloc pt).2.2.1)])) := by rw [List.length_append]; exact HO1
                replace b10 := b10.fr (Fr.of_grown hg) (by have := hfb.1; simpa [Value.ownBlock] using this)
                replace H := H.app1 hg HO1 hat
                obtain ⟨A7, c7, rfl, _⟩ := own_slice HO1
                clear HO1 hg hat b20
                refine st rfl rfl rfl rfl (x_asg rfl) ?_
                refine rl_end rfl ?_
                refine al_k ?_
                refine cl_seq rfl ?_
                refine cl_seq rfl ?_
                refine cl_reg rfl ?_
                refine st rfl rfl rfl rfl (x_fa rfl Tryd.underlying35 rfl Tryd.sizeOf3 0 rfl) ?_
                refine st rfl rfl rfl rfl (x_ld rfl Tryd.isAgg3 (b10.cell rfl)) ?_
                refine st rfl rfl rfl rfl ((x_eql rfl rfl).b0 (by omega)) ?_
                refine st rfl rfl rfl rfl (x_move rfl) ?_
                refine so rfl rfl rfl rfl ?_
                refine so rfl rfl rfl rfl ?_
                refine so rfl rfl rfl rfl ?_
                refine st rfl rfl rfl rfl (x_pick0 rfl rfl) ?_
                refine rl_end rfl ?_
                refine al_k ?_
                refine cl_if0 rfl rfl ?_
                refine cl_skip rfl ?_
                refine al_k ?_
                refine cl_seq rfl ?_
                replace hN2 := hN2.mono (Nat.le_succ i)
                have hl7 : (al ++ [((x.alloc pt).2.1, (x.alloc pt).2.2.1)]).length ≤ i + 1 := by (rw [List.length_append]; simp; omega)
                have hl8 : de.length ≤ i + 1 := by omega
                generalize hq1 : (al ++ [((x.alloc pt).2.1, (x.alloc pt).2.2.1)]) = al2 at H hN2 hl7 ⊢
                generalize hq2 : de = de2 at H hN2 hl8 ⊢
                generalize hq3 : (x.alloc pt).1 = x2 at H hN2
                generalize hq4 : A7 = A7n at H ⊢
                generalize hq5 : c7 = c7n at H ⊢
                generalize hq6 : A8 = A8n at H ⊢
                generalize hq7 : c8 = c8n at H ⊢
                refine cl_reg rfl ?_
                refine st rfl rfl rfl rfl (x_asg rfl) ?_
                refine rl_end rfl ?_
                refine al_k ?_
                refine cl_block rfl ?_
                refine cl_loop (fun q : Nat => [(15, .int .i64 q), (9, .int .i64 i), (5, .pointer (some ⟨k.ap, 0, none⟩)), (7, .slice A7n al2.length c7n), (8, .slice A8n de2.length c8n), (1, .slice (some a) ln2 cp2)]) (fun q w' => q ≤ de2.length ∧ St w w' B k x2 (.slice A7n al2.length c7n) (.slice A8n de2.length c8n) al2 de2) (fun q => de2.length - q) 0 rfl ⟨rfl, rfl, rfl, rfl, rfl, rfl, trivial⟩ ?_ ?_
                · exact ⟨Nat.zero_le _, H⟩
                · skip
                  rintro q wr4 ⟨hq, H⟩
                  refine cl_seq rfl ?_
                  refine cl_seq rfl ?_
                  refine cl_reg rfl ?_
                  refine st rfl rfl rfl rfl (x_move rfl) ?_
                  refine st rfl rfl rfl rfl (x_move rfl) ?_
                  refine st rfl rfl rfl rfl (x_len rfl Tryd.underlying30) ?_
                  refine sf rfl rfl rfl rfl (x_lss rfl rfl) (fun c28_3 => ?_) (fun c28_3 => ?_)
                  · skip
                    refine rl_end rfl ?_
                    refine al_k ?_
                    refine cl_if1 rfl rfl ?_
                    refine cl_skip rfl ?_
                    refine al_k ?_
                    refine cl_seq rfl ?_
                    refine cl_block rfl ?_
                    refine cl_seq rfl ?_
                    obtain ⟨y8, hy8⟩ : ∃ y, de2[q]? = some y := ⟨_, List.getElem?_eq_getElem (by omega)⟩
                    obtain ⟨g8, rfl, hc8⟩ := own_atA H.T.o2 hy8
                    refine cl_reg rfl ?_
                    refine st rfl rfl rfl rfl (x_move rfl) ?_
                    refine st rfl rfl rfl rfl (x_move rfl) ?_
                    refine st rfl rfl rfl rfl (x_move rfl) ?_
                    refine st rfl rfl rfl rfl (x_ia0 rfl rfl Tryd.underlying30 Tryd.sizeOf33 (by omega)) ?_
                    refine st rfl rfl rfl rfl (x_ldn rfl Tryd.isAgg33 Tryd.sizeOf33 rfl hc8) ?_
                    refine sc rfl rfl rfl rfl (c_fn rfl Tryd.call13 (read_a _ k x2 H.K y8.1 y8.2)) ?_
                    rintro _ w30 ⟨rfl, fr⟩
                    replace H := H.fr0 fr
                    clear fr
                    refine st rfl rfl rfl rfl (x_move rfl) ?_
                    refine st rfl rfl rfl rfl (x_ext rfl rfl) ?_
                    refine st rfl rfl rfl rfl (x_ext rfl rfl) ?_
                    refine st rfl rfl rfl rfl (x_asg rfl) ?_
                    refine st rfl rfl rfl rfl (x_asg rfl) ?_
                    refine rl_end rfl ?_
                    refine al_k ?_
                    refine cl_seq rfl ?_
                    refine cl_reg rfl ?_
                    refine st rfl rfl rfl rfl (x_move rfl) ?_
                    refine st rfl rfl rfl rfl ((x_neq rfl rfl).b0 (fun h => h (hN2.dead (List.mem_of_getElem? hy8)))) ?_
                    refine rl_end rfl ?_
                    refine al_k ?_
                    refine cl_if0 rfl rfl ?_
                    refine cl_skip rfl ?_
                    refine al_k ?_
                    refine cl_reg rfl ?_
                    refine st rfl rfl rfl rfl (x_move rfl) ?_
                    refine st rfl rfl rfl rfl (x_add rfl rfl (by omega)) ?_
                    refine st rfl rfl rfl rfl (x_asg rfl) ?_
                    refine rl_end rfl ?_
                    refine again (q + 1) (by omega) ⟨rfl, rfl, rfl, rfl, rfl, rfl, trivial⟩ ⟨by omega, H⟩
                  · skip
                    refine rl_end rfl ?_
                    refine al_k ?_
                    refine cl_if0 rfl rfl ?_
                    refine cl_exit rfl ?_
                    refine upd_self ?_
                    refine al_k ?_
                    refine cl_reg rfl ?_
                    refine st rfl rfl rfl rfl (x_move rfl) ?_
                    refine st rfl rfl rfl rfl (x_add rfl rfl (by omega)) ?_
                    refine st rfl rfl rfl rfl (x_asg rfl) ?_
                    refine rl_end rfl ?_
                    refine again (i + 1, x2, A7n, c7n, A8n, c8n, al2, de2) (show 60 - (i + 1) < 60 - i by omega) ⟨rfl, rfl, rfl, rfl, rfl, trivial⟩ ⟨⟨by dsimp only; omega, by dsimp only; omega⟩, H, hN2, hl7, hl8⟩
        · skip
          refine rl_end rfl ?_
          refine al_k ?_
          refine cl_if0 rfl rfl ?_
          refine cl_skip rfl ?_
          refine al_k ?_
          refine cl_seq rfl ?_
          refine cl_seq rfl ?_
          refine cl_reg rfl ?_
          refine st rfl rfl rfl rfl (x_fa rfl Tryd.underlying35 rfl Tryd.sizeOf3 0 rfl) ?_
          refine st rfl rfl rfl rfl (x_ld rfl Tryd.isAgg3 (b10.cell rfl)) ?_
          refine sf rfl rfl rfl rfl (x_eql rfl rfl) (fun c21_2 => ?_) (fun c21_2 => ?_)
          · skip
            refine st rfl rfl rfl rfl (x_move rfl) ?_
            refine st rfl rfl rfl rfl (x_move rfl) ?_
            refine st rfl rfl rfl rfl (x_len rfl Tryd.underlying30) ?_
            refine sf rfl rfl rfl rfl (x_gtr rfl rfl) (fun c21_6 => ?_) (fun c21_6 => ?_)
            · skip
              refine st rfl rfl rfl rfl (x_pick1 rfl rfl) ?_
              refine rl_end rfl ?_
              refine al_k ?_
              refine cl_if1 rfl rfl ?_
              refine cl_seq rfl ?_
              have hu64 : ∀ z : Int, IntKind.u64.wrap z = z % 18446744073709551616 := fun z => by simp [IntKind.wrap, IntKind.bits, IntKind.signed]
              have hal0 : IntKind.u64.wrap ((al.length : Nat) : Int) ≠ 0 := by rw [hu64]; omega
              refine cl_reg rfl ?_
              refine st rfl rfl rfl rfl (x_fa rfl Tryd.underlying35 rfl Tryd.sizeOf3 1 rfl) ?_
              refine st rfl rfl rfl rfl (x_ld rfl Tryd.isAgg3 (b10.cell rfl)) ?_
              refine st rfl rfl rfl rfl (x_cvi rfl Tryd.underlying3 Tryd.underlying38) ?_
              refine st rfl rfl rfl rfl (x_move rfl) ?_
              refine st rfl rfl rfl rfl (x_len rfl Tryd.underlying30) ?_
              refine st rfl rfl rfl rfl (x_cvi rfl Tryd.underlying3 Tryd.underlying38) ?_
              refine st rfl rfl rfl rfl (x_rem rfl rfl hal0) ?_
              refine st rfl rfl rfl rfl (x_cvi rfl Tryd.underlying38 Tryd.underlying3) ?_
              refine st rfl rfl rfl rfl (x_asg rfl) ?_
              refine rl_end rfl ?_
              refine al_k ?_
              refine cl_seq rfl ?_
              refine cl_seq rfl ?_
              obtain ⟨kk, hkk, hkl⟩ := idx_of pt al.length (by omega) (by omega)
              rw [hkk]
              obtain ⟨y, hy⟩ : ∃ y, al[kk]? = some y := ⟨_, List.getElem?_eq_getElem hkl⟩
              obtain ⟨g7, rfl, hc7⟩ := own_atA H.T.o1 hy
              have hD := hN.drop (by omega) hy
              refine cl_reg rfl ?_
              refine st rfl rfl rfl rfl (x_move rfl) ?_
              refine st rfl rfl rfl rfl (x_move rfl) ?_
              refine st rfl rfl rfl rfl (x_move rfl) ?_
              refine st rfl rfl rfl rfl (x_ia0 rfl rfl Tryd.underlying30 Tryd.sizeOf33 (by omega)) ?_
              refine st rfl rfl rfl rfl (x_ldn rfl Tryd.isAgg33 Tryd.sizeOf33 rfl hc7) ?_
              refine sc rfl rfl rfl rfl (c_fn rfl Tryd.call12 (free_a H.K hN.I y.1 y.2)) ?_
              rintro _ w23 ⟨rfl, K, fr⟩
              replace H := H.ar K fr
              clear K fr b10 hc7
              refine st rfl rfl rfl rfl ((x_neq rfl rfl).b0 (fun h => h hD.1)) ?_
              refine rl_end rfl ?_
              refine al_k ?_
              refine cl_if0 rfl rfl ?_
              refine cl_skip rfl ?_
              refine al_k ?_
              refine cl_seq rfl ?_
              have hc7 := own_atG H.T.o1 hy
              refine cl_reg rfl ?_
              refine st rfl rfl rfl rfl (x_move rfl) ?_
              refine st rfl rfl rfl rfl (x_move rfl) ?_
              refine st rfl rfl rfl rfl (x_move rfl) ?_
              refine st rfl rfl rfl rfl (x_ia0 rfl rfl Tryd.underlying30 Tryd.sizeOf33 (by omega)) ?_
              refine st rfl rfl rfl rfl (x_ldn rfl Tryd.isAgg33 Tryd.sizeOf33 rfl hc7) ?_
              refine se rfl rfl rfl rfl (e_new (x_bsl rfl (bslN _ _ _))) ?_
              rintro _ w25 ⟨rfl, b25, fr, _⟩
              replace H := H.fr0 fr
              clear fr hc7
              refine se rfl rfl rfl rfl (e_app 2 16 (.agg #[.int .i64 0, .int .u64 0]) _ rfl rfl Tryd.underlying30 (by kernel_rfl) rfl (by decide) H.T.o2 rfl b25.news (oneN (_, _)) (by omega) (by omega) H.zB) ?_
              rintro v2 w26 ⟨HO1, hg, hat⟩
              rw [encN_snoc] at HO1
              replace HO1 : World.ownsRow w26 B 33 2 v2 (de ++ [y]).length (flat encN (de ++ [y])) := by rw [List.length_append]; exact HO1
              replace H := H.app2 hg HO1 hat
              obtain ⟨A8, c8, rfl, _⟩ := own_slice HO1
              clear HO1 hg hat b25
              refine st rfl rfl rfl rfl (x_asg rfl) ?_
              refine rl_end rfl ?_
              refine al_k ?_
              refine cl_draw (by kernel_rfl) rfl [0, 4, 9] (fun w' => w'.heap = w26.heap) ?_
              rintro wd26 frd26 hpd26
              refine ⟨hpd26, ?_⟩
              refine dt (i := 1) rfl rfl rfl rfl (by kernel_rfl) (fun _ => x_move rfl) ?_
              refine dt (i := 2) rfl rfl rfl rfl (by kernel_rfl) (fun _ => x_move rfl) ?_
              refine dt (i := 3) rfl rfl rfl rfl (by kernel_rfl) (fun _ => x_slh rfl rfl Tryd.underlying30 Tryd.sizeOf33 (by have := own_cap H.T.o1; omega)) ?_
              refine dt (i := 5) rfl rfl rfl rfl (by kernel_rfl) (fun _ => x_move rfl) ?_
              refine dt (i := 6) rfl rfl rfl rfl (by kernel_rfl) (fun _ => x_move rfl) ?_
              refine dt (i := 7) rfl rfl rfl rfl (by kernel_rfl) (fun _ => x_add rfl rfl (by omega)) ?_
              refine dt (i := 8) rfl rfl rfl rfl (by kernel_rfl) (fun _ => x_sll rfl rfl Tryd.underlying30 Tryd.sizeOf33 (by omega)) ?_
              replace H := H.fr0 frd26
              refine d1 (i := 0) (by kernel_rfl) ?_
              refine oe rfl rfl rfl rfl (e_new (x_bsl rfl (bsl0 Tryd.underlying30 Tryd.sizeOf33))) ?_
              rintro _ w27 ⟨rfl, b26, fr, _⟩
              have hbq := H.zB
              have hf0 := H.T.fresh _ (Nat.le_refl wd26.heap.size)
              have HO0 := own_lit (base := B) (n := 0) (size := 2) b26 H.zB rfl (by decide)
              replace H := H.fr0 fr
              clear fr
              generalize hq26 : wd26.heap.size = b0 at b26 hf0 hbq HO0 ⊢
              refine ⟨.inl (by kernel_rfl), ?_⟩
              refine d1 (i := 4) (by kernel_rfl) ?_
              refine oe rfl rfl rfl rfl (e_appv 2 16 (.agg #[.int .i64 0, .int .u64 0]) (flat encN (al.take kk)) rfl rfl Tryd.underlying30 (by kernel_rfl) rfl (by decide) HO0 (by rw [flat_length lenN2]; simp; try omega) (fun e => by have := none_len H.T.o1 e; omega) (cut_hi H.T.o1) (flatN_one _) (by omega) (by omega) H.zB) ?_
              rintro va w28 ⟨HOa, hg, hat⟩
              have hva : ∀ q, va.ownBlock = some q → B ≤ q ∧ (Value.slice (some ⟨g7, 0, none⟩) al.length c7).ownBlock ≠ some q ∧ (Value.slice A8 (de ++ [y]).length c8).ownBlock ≠ some q := fun q hq => ⟨own_ge HOa q hq, by rcases hat with h | h <;> rw [h] at hq <;> (obtain rfl := Option.some.inj hq); exact hf0; exact H.T.fresh _ (Nat.le_refl _)⟩
              replace H := H.own (Fr.of_grown hg) (by intro q hq; simp [Value.ownBlock] at hq; subst hq; exact ⟨hbq, hf0⟩)
              replace HOa : World.ownsRow w28 B 33 2 va (al.take kk).length (flat encN (al.take kk)) := (by have e : (al.take kk).length = 0 + kk := (by rw [List.length_take]; omega); rw [e]; exact HOa)
              have H2 := H.swap1 HOa (fun q hq => (hva q hq).2.2)
              refine ⟨.inl (by kernel_rfl), ?_⟩
              refine d1 (i := 9) (by kernel_rfl) ?_
              refine oe rfl rfl rfl rfl (e_appv 2 16 (.agg #[.int .i64 0, .int .u64 0]) (flat encN (al.drop (kk + 1))) rfl rfl Tryd.underlying30 (by kernel_rfl) rfl (by decide) HOa (by rw [flat_length lenN2, List.length_drop]; rfl) (fun e => none_lo H.T.o1 (by omega) e) (cut_lo H.T.o1 (by omega)) (flatN_one _) (by rw [List.length_take]; omega) (by rw [List.length_take]; omega) H.zB) ?_
              rintro vb w29 ⟨HOb, hg2, hat2⟩
              rw [← flat_app] at HOb
              replace HOb : World.ownsRow w29 B 33 2 vb (al.take kk ++ al.drop (kk + 1)).length (flat encN (al.take kk ++ al.drop (kk + 1))) := (by have e : (al.take kk ++ al.drop (kk + 1)).length = (al.take kk).length + (al.length - (kk + 1)) := (by rw [List.length_append, List.length_drop]); rw [e]; exact HOb)
              replace H := H2.app1 hg2 HOb hat2
              obtain ⟨A9, c9, rfl, _⟩ := own_slice HOb
              clear H2 HOa HOb hg hg2 hat hat2 HO0 b26
              refine ⟨.inl (by kernel_rfl), ?_⟩
              refine dt (i := 10) rfl rfl rfl rfl (by kernel_rfl) (fun _ => x_asg rfl) ?_
              refine dn (by kernel_rfl) ?_
              refine al_k ?_
              refine cl_seq rfl ?_
              have hN2 := hD.2
              have hl7 : (al.take kk ++ al.drop (kk + 1)).length ≤ i + 1 := by (rw [List.length_append, List.length_take, List.length_drop]; omega)
              have hl8 : (de ++ [y]).length ≤ i + 1 := by (rw [List.length_append]; simp; omega)
              generalize hq1 : (al.take kk ++ al.drop (kk + 1)) = al2 at H hN2 hl7 ⊢
              generalize hq2 : (de ++ [y]) = de2 at H hN2 hl8 ⊢
              generalize hq3 : (x.drop y.1 y.2).1 = x2 at H hN2
              generalize hq4 : A9 = A7n at H ⊢
              generalize hq5 : c9 = c7n at H ⊢
              generalize hq6 : A8 = A8n at H ⊢
              generalize hq7 : c8 = c8n at H ⊢
              refine cl_reg rfl ?_
              refine st rfl rfl rfl rfl (x_asg rfl) ?_
              refine rl_end rfl ?_
              refine al_k ?_
              refine cl_block rfl ?_
              refine cl_loop (fun q : Nat => [(15, .int .i64 q), (9, .int .i64 i), (5, .pointer (some ⟨k.ap, 0, none⟩)), (7, .slice A7n al2.length c7n), (8, .slice A8n de2.length c8n), (1, .slice (some a) ln2 cp2)]) (fun q w' => q ≤ de2.length ∧ St w w' B k x2 (.slice A7n al2.length c7n) (.slice A8n de2.length c8n) al2 de2) (fun q => de2.length - q) 0 rfl ⟨rfl, rfl, rfl, rfl, rfl, rfl, trivial⟩ ?_ ?_
              · exact ⟨Nat.zero_le _, H⟩
              · skip
                rintro q wr4 ⟨hq, H⟩
                refine cl_seq rfl ?_
                refine cl_seq rfl ?_
                refine cl_reg rfl ?_
                refine st rfl rfl rfl rfl (x_move rfl) ?_
                refine st rfl rfl rfl rfl (x_move rfl) ?_
                refine st rfl rfl rfl rfl (x_len rfl Tryd.underlying30) ?_
                refine sf rfl rfl rfl rfl (x_lss rfl rfl) (fun c28_3 => ?_) (fun c28_3 => ?_)
                · skip
                  refine rl_end rfl ?_
                  refine al_k ?_
                  refine cl_if1 rfl rfl ?_
                  refine cl_skip rfl ?_
                  refine al_k ?_
                  refine cl_seq rfl ?_
                  refine cl_block rfl ?_
                  refine cl_seq rfl ?_
                  obtain ⟨y8, hy8⟩ : ∃ y, de2[q]? = some y := ⟨_, List.getElem?_eq_getElem (by omega)⟩
                  obtain ⟨g8, rfl, hc8⟩ := own_atA H.T.o2 hy8
                  refine cl_reg rfl ?_
                  refine st rfl rfl rfl rfl (x_move rfl) ?_
                  refine st rfl rfl rfl rfl (x_move rfl) ?_
                  refine st rfl rfl rfl rfl (x_move rfl) ?_
                  refine st rfl rfl rfl rfl (x_ia0 rfl rfl Tryd.underlying30 Tryd.sizeOf33 (by omega)) ?_
                  refine st rfl rfl rfl rfl (x_ldn rfl Tryd.isAgg33 Tryd.sizeOf33 rfl hc8) ?_
                  refine sc rfl rfl rfl rfl (c_fn rfl Tryd.call13 (read_a _ k x2 H.K y8.1 y8.2)) ?_
                  rintro _ w30 ⟨rfl, fr⟩
                  replace H := H.fr0 fr
                  clear fr
                  refine st rfl rfl rfl rfl (x_move rfl) ?_
                  refine st rfl rfl rfl rfl (x_ext rfl rfl) ?_
                  refine st rfl rfl rfl rfl (x_ext rfl rfl) ?_
                  refine st rfl rfl rfl rfl (x_asg rfl) ?_
                  refine st rfl rfl rfl rfl (x_asg rfl) ?_
                  refine rl_end rfl ?_
                  refine al_k ?_
                  refine cl_seq rfl ?_
                  refine cl_reg rfl ?_
                  refine st rfl rfl rfl rfl (x_move rfl) ?_
                  refine st rfl rfl rfl rfl ((x_neq rfl rfl).b0 (fun h => h (hN2.dead (List.mem_of_getElem? hy8)))) ?_
                  refine rl_end rfl ?_
                  refine al_k ?_
                  refine cl_if0 rfl rfl ?_
                  refine cl_skip rfl ?_
                  refine al_k ?_
                  refine cl_reg rfl ?_
                  refine st rfl rfl rfl rfl (x_move rfl) ?_
                  refine st rfl rfl rfl rfl (x_add rfl rfl (by omega)) ?_
                  refine st rfl rfl rfl rfl (x_asg rfl) ?_
                  refine rl_end rfl ?_
                  refine again (q + 1) (by omega) ⟨rfl, rfl, rfl, rfl, rfl, rfl, trivial⟩ ⟨by omega, H⟩
                · skip
                  refine rl_end rfl ?_
                  refine al_k ?_
                  refine cl_if0 rfl rfl ?_
                  refine cl_exit rfl ?_
                  refine upd_self ?_
                  refine al_k ?_
                  refine cl_reg rfl ?_
                  refine st rfl rfl rfl rfl (x_move rfl) ?_
                  refine st rfl rfl rfl rfl (x_add rfl rfl (by omega)) ?_
                  refine st rfl rfl rfl rfl (x_asg rfl) ?_
                  refine rl_end rfl ?_
                  refine again (i + 1, x2, A7n, c7n, A8n, c8n, al2, de2) (show 60 - (i + 1) < 60 - i by omega) ⟨rfl, rfl, rfl, rfl, rfl, trivial⟩ ⟨⟨by dsimp only; omega, by dsimp only; omega⟩, H, hN2, hl7, hl8⟩
            · skip
              refine st rfl rfl rfl rfl (x_pick1 rfl rfl) ?_
              refine rl_end rfl ?_
              refine al_k ?_
              refine cl_if0 rfl rfl ?_
              refine cl_skip rfl ?_
              refine al_k ?_
              refine cl_seq rfl ?_
              have hN2 := hN.mono (Nat.le_succ i)
              have hl7 : al.length ≤ i + 1 := by omega
              have hl8 : de.length ≤ i + 1 := by omega
              generalize hq1 : al = al2 at H hN2 hl7 ⊢
              generalize hq2 : de = de2 at H hN2 hl8 ⊢
              generalize hq3 : x = x2 at H hN2
              generalize hq4 : A7 = A7n at H ⊢
              generalize hq5 : c7 = c7n at H ⊢
              generalize hq6 : A8 = A8n at H ⊢
              generalize hq7 : c8 = c8n at H ⊢
              refine cl_reg rfl ?_
              refine st rfl rfl rfl rfl (x_asg rfl) ?_
              refine rl_end rfl ?_
              refine al_k ?_
              refine cl_block rfl ?_
              refine cl_loop (fun q : Nat => [(15, .int .i64 q), (9, .int .i64 i), (5, .pointer (some ⟨k.ap, 0, none⟩)), (7, .slice A7n al2.length c7n), (8, .slice A8n de2.length c8n), (1, .slice (some a) ln2 cp2)]) (fun q w' => q ≤ de2.length ∧ St w w' B k x2 (.slice A7n al2.length c7n) (.slice A8n de2.length c8n) al2 de2) (fun q => de2.length - q) 0 rfl ⟨rfl, rfl, rfl, rfl, rfl, rfl, trivial⟩ ?_ ?_
              · exact ⟨Nat.zero_le _, H⟩
              · skip
                rintro q wr4 ⟨hq, H⟩
                refine cl_seq rfl ?_
                refine cl_seq rfl ?_
                refine cl_reg rfl ?_
                refine st rfl rfl rfl rfl (x_move rfl) ?_
                refine st rfl rfl rfl rfl (x_move rfl) ?_
                refine st rfl rfl rfl rfl (x_len rfl Tryd.underlying30) ?_
                refine sf rfl rfl rfl rfl (x_lss rfl rfl) (fun c28_3 => ?_) (fun c28_3 => ?_)
                · skip
                  refine rl_end rfl ?_
                  refine al_k ?_
                  refine cl_if1 rfl rfl ?_
                  refine cl_skip rfl ?_
                  refine al_k ?_
                  refine cl_seq rfl ?_
                  refine cl_block rfl ?_
                  refine cl_seq rfl ?_
                  obtain ⟨y8, hy8⟩ : ∃ y, de2[q]? = some y := ⟨_, List.getElem?_eq_getElem (by omega)⟩
                  obtain ⟨g8, rfl, hc8⟩ := own_atA H.T.o2 hy8
                  refine cl_reg rfl ?_
                  refine st rfl rfl rfl rfl (x_move rfl) ?_
                  refine st rfl rfl rfl rfl (x_move rfl) ?_
                  refine st rfl rfl rfl rfl (x_move rfl) ?_
                  refine st rfl rfl rfl rfl (x_ia0 rfl rfl Tryd.underlying30 Tryd.sizeOf33 (by omega)) ?_
                  refine st rfl rfl rfl rfl (x_ldn rfl Tryd.isAgg33 Tryd.sizeOf33 rfl hc8) ?_
                  refine sc rfl rfl rfl rfl (c_fn rfl Tryd.call13 (read_a _ k x2 H.K y8.1 y8.2)) ?_
                  rintro _ w30 ⟨rfl, fr⟩
                  replace H := H.fr0 fr
                  clear fr
                  refine st rfl rfl rfl rfl (x_move rfl) ?_
                  refine st rfl rfl rfl rfl (x_ext rfl rfl) ?_
                  refine st rfl rfl rfl rfl (x_ext rfl rfl) ?_
                  refine st rfl rfl rfl rfl (x_asg rfl) ?_
                  refine st rfl rfl rfl rfl (x_asg rfl) ?_
                  refine rl_end rfl ?_
                  refine al_k ?_
                  refine cl_seq rfl ?_
                  refine cl_reg rfl ?_
                  refine st rfl rfl rfl rfl (x_move rfl) ?_
                  refine st rfl rfl rfl rfl ((x_neq rfl rfl).b0 (fun h => h (hN2.dead (List.mem_of_getElem? hy8)))) ?_
                  refine rl_end rfl ?_
                  refine al_k ?_
                  refine cl_if0 rfl rfl ?_
                  refine cl_skip rfl ?_
                  refine al_k ?_
                  refine cl_reg rfl ?_
                  refine st rfl rfl rfl rfl (x_move rfl) ?_
                  refine st rfl rfl rfl rfl (x_add rfl rfl (by omega)) ?_
                  refine st rfl rfl rfl rfl (x_asg rfl) ?_
                  refine rl_end rfl ?_
                  refine again (q + 1) (by omega) ⟨rfl, rfl, rfl, rfl, rfl, rfl, trivial⟩ ⟨by omega, H⟩
                · skip
                  refine rl_end rfl ?_
                  refine al_k ?_
                  refine cl_if0 rfl rfl ?_
                  refine cl_exit rfl ?_
                  refine upd_self ?_
                  refine al_k ?_
                  refine cl_reg rfl ?_
                  refine st rfl rfl rfl rfl (x_move rfl) ?_
                  refine st rfl rfl rfl rfl (x_add rfl rfl (by omega)) ?_
                  refine st rfl rfl rfl rfl (x_asg rfl) ?_
                  refine rl_end rfl ?_
                  refine again (i + 1, x2, A7n, c7n, A8n, c8n, al2, de2) (show 60 - (i + 1) < 60 - i by omega) ⟨rfl, rfl, rfl, rfl, rfl, trivial⟩ ⟨⟨by dsimp only; omega, by dsimp only; omega⟩, H, hN2, hl7, hl8⟩
          · skip
            refine st rfl rfl rfl rfl (x_move rfl) ?_
            refine so rfl rfl rfl rfl ?_
            refine so rfl rfl rfl rfl ?_
            refine so rfl rfl rfl rfl ?_
            refine st rfl rfl rfl rfl (x_pick0 rfl rfl) ?_
            refine rl_end rfl ?_
            refine al_k ?_
            refine cl_if0 rfl rfl ?_
            refine cl_skip rfl ?_
            refine al_k ?_
            refine cl_seq rfl ?_
            have hN2 := hN.mono (Nat.le_succ i)
            have hl7 : al.length ≤ i + 1 := by omega
            have hl8 : de.length ≤ i + 1 := by omega
            generalize hq1 : al = al2 at H hN2 hl7 ⊢
            generalize hq2 : de = de2 at H hN2 hl8 ⊢
            generalize hq3 : x = x2 at H hN2
            generalize hq4 : A7 = A7n at H ⊢
            generalize hq5 : c7 = c7n at H ⊢
            generalize hq6 : A8 = A8n at H ⊢
            generalize hq7 : c8 = c8n at H ⊢
            refine cl_reg rfl ?_
            refine st rfl rfl rfl rfl (x_asg rfl) ?_
            refine rl_end rfl ?_
            refine al_k ?_
            refine cl_block rfl ?_
            refine cl_loop (fun q : Nat => [(15, .int .i64 q), (9, .int .i64 i), (5, .pointer (some ⟨k.ap, 0, none⟩)), (7, .slice A7n al2.length c7n), (8, .slice A8n de2.length c8n), (1, .slice (some a) ln2 cp2)]) (fun q w' => q ≤ de2.length ∧ St w w' B k x2 (.slice A7n al2.length c7n) (.slice A8n de2.length c8n) al2 de2) (fun q => de2.length - q) 0 rfl ⟨rfl, rfl, rfl, rfl, rfl, rfl, trivial⟩ ?_ ?_
            · exact ⟨Nat.zero_le _, H⟩
            · skip
              rintro q wr4 ⟨hq, H⟩
              refine cl_seq rfl ?_
              refine cl_seq rfl ?_
              refine cl_reg rfl ?_
              refine st rfl rfl rfl rfl (x_move rfl) ?_
              refine st rfl rfl rfl rfl (x_move rfl) ?_
              refine st rfl rfl rfl rfl (x_len rfl Tryd.underlying30) ?_
              refine sf rfl rfl rfl rfl (x_lss rfl rfl) (fun c28_3 => ?_) (fun c28_3 => ?_)
              · skip
                refine rl_end rfl ?_
                refine al_k ?_
                refine cl_if1 rfl rfl ?_
                refine cl_skip rfl ?_
                refine al_k ?_
                refine cl_seq rfl ?_
                refine cl_block rfl ?_
                refine cl_seq rfl ?_
                obtain ⟨y8, hy8⟩ : ∃ y, de2[q]? = some y := ⟨_, List.getElem?_eq_getElem (by omega)⟩
                obtain ⟨g8, rfl, hc8⟩ := own_atA H.T.o2 hy8
                refine cl_reg rfl ?_
                refine st rfl rfl rfl rfl (x_move rfl) ?_
                refine st rfl rfl rfl rfl (x_move rfl) ?_
                refine st rfl rfl rfl rfl (x_move rfl) ?_
                refine st rfl rfl rfl rfl (x_ia0 rfl rfl Tryd.underlying30 Tryd.sizeOf33 (by omega)) ?_
                refine st rfl rfl rfl rfl (x_ldn rfl Tryd.isAgg33 Tryd.sizeOf33 rfl hc8) ?_
                refine sc rfl rfl rfl rfl (c_fn rfl Tryd.call13 (read_a _ k x2 H.K y8.1 y8.2)) ?_
                rintro _ w30 ⟨rfl, fr⟩
                replace H := H.fr0 fr
                clear fr
                refine st rfl rfl rfl rfl (x_move rfl) ?_
                refine st rfl rfl rfl rfl (x_ext rfl rfl) ?_
                refine st rfl rfl rfl rfl (x_ext rfl rfl) ?_
                refine st rfl rfl rfl rfl (x_asg rfl) ?_
                refine st rfl rfl rfl rfl (x_asg rfl) ?_
                refine rl_end rfl ?_
                refine al_k ?_
                refine cl_seq rfl ?_
                refine cl_reg rfl ?_
                refine st rfl rfl rfl rfl (x_move rfl) ?_
                refine st rfl rfl rfl rfl ((x_neq rfl rfl).b0 (fun h => h (hN2.dead (List.mem_of_getElem? hy8)))) ?_
                refine rl_end rfl ?_
                refine al_k ?_
                refine cl_if0 rfl rfl ?_
                refine cl_skip rfl ?_
                refine al_k ?_
                refine cl_reg rfl ?_
                refine st rfl rfl rfl rfl (x_move rfl) ?_
                refine st rfl rfl rfl rfl (x_add rfl rfl (by omega)) ?_
                refine st rfl rfl rfl rfl (x_asg rfl) ?_
                refine rl_end rfl ?_
                refine again (q + 1) (by omega) ⟨rfl, rfl, rfl, rfl, rfl, rfl, trivial⟩ ⟨by omega, H⟩
              · skip
                refine rl_end rfl ?_
                refine al_k ?_
                refine cl_if0 rfl rfl ?_
                refine cl_exit rfl ?_
                refine upd_self ?_
                refine al_k ?_
                refine cl_reg rfl ?_
                refine st rfl rfl rfl rfl (x_move rfl) ?_
                refine st rfl rfl rfl rfl (x_add rfl rfl (by omega)) ?_
                refine st rfl rfl rfl rfl (x_asg rfl) ?_
                refine rl_end rfl ?_
                refine again (i + 1, x2, A7n, c7n, A8n, c8n, al2, de2) (show 60 - (i + 1) < 60 - i by omega) ⟨rfl, rfl, rfl, rfl, rfl, trivial⟩ ⟨⟨by dsimp only; omega, by dsimp only; omega⟩, H, hN2, hl7, hl8⟩
      · skip
        refine st rfl rfl rfl rfl (x_pick1 rfl rfl) ?_
        refine rl_end rfl ?_
        refine al_k ?_
        refine cl_if0 rfl rfl ?_
        refine cl_exit rfl ?_
        refine upd_self ?_
        refine al_k ?_
        refine cl_seq rfl ?_
        refine cl_reg rfl ?_
        refine st rfl rfl rfl rfl (x_asg rfl) ?_
        refine rl_end rfl ?_
        refine al_k ?_
        refine cl_ret rfl ?_
        refine fin1 rfl rfl ?_
        exact ⟨rfl, H.F⟩
    · skip
      refine st rfl rfl rfl rfl (x_move rfl) ?_
      refine so rfl rfl rfl rfl ?_
      refine so rfl rfl rfl rfl ?_
      refine st rfl rfl rfl rfl (x_pick0 rfl rfl) ?_
      refine rl_end rfl ?_
      refine al_k ?_
      refine cl_if0 rfl rfl ?_
      refine cl_exit rfl ?_
      refine upd_self ?_
      refine al_k ?_
      refine cl_seq rfl ?_
      refine cl_reg rfl ?_
      refine st rfl rfl rfl rfl (x_asg rfl) ?_
      refine rl_end rfl ?_
      refine al_k ?_
      refine cl_ret rfl ?_
      refine fin1 rfl rfl ?_
      exact ⟨rfl, H.F⟩

theorem dead_c (w : World) (hG : Glb w) (A0 : Option Addr) (n c0 : Nat) (hn : n ≤ 9223372036854775807) (hq : ∀ j : Nat, j < n → ∃ (x : Addr) (z : Int), A0 = some x ∧ w.cell? (x.add (((j : Nat) : Int).toNat * 1)) = some (.int .i64 z) ∧ (Lit.int .i64 z).wf = true) (hc0 : n ≤ c0) (A2 : Option Addr) (ln2 cp2 : Nat) (hln : ln2 ≤ 9223372036854775807) (hp : ∀ j : Nat, j < ln2 → ∃ (x : Addr) (z0 : Int) (z1 : Int) (z2 : Int) (z3 : Int) (z4 : Int), A2 = some x ∧ (∀ i v, [(.int .i64 z0 : Value), .int .i64 z1, .int .i64 z2, .int .u64 z3, .int .u64 z4][i]? = some v → w.cell? ((x.add (((j : Nat) : Int).toNat * 5)).add i) = some v) ∧ (Lit.int .i64 z0).wf = true ∧ (Lit.int .i64 z1).wf = true ∧ (Lit.int .i64 z2).wf = true ∧ (Lit.int .u64 z3).wf = true ∧ (Lit.int .u64 z4).wf = true) :
    Cl Tryd.prog 3 [.slice A0 n c0, .slice A2 ln2 cp2] w (fun v w' => v = .bool true ∧ Fr [] w w') := by
  obtain ⟨qs, hql, hrow⟩ := pick_row hq (min n 17) (Nat.min_le_left _ _)
  by_cases hok : okQ qs
  · exact dead_ok w hG A0 n c0 hc0 qs hql hok hrow A2 ln2 cp2 hln hp
  · exact dead_no w hG A0 n c0 hc0 qs hql hok hrow A2 ln2 cp2

end Go.Proofs.YtjjaijabdfoanaaDoor.Arn
