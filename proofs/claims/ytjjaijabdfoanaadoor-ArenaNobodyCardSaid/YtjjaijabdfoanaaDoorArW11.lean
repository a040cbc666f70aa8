/- The arena: the walk of the law ArenaNobody. -/
import Derived.Test.YtjjaijabdfoanaaDoorArW10
import Derived.Test.YtjjaijabdfoanaaDoorArF
set_option linter.unusedVariables false
namespace Go.Proofs.YtjjaijabdfoanaaDoor.Arn
open Go Go.RowKit Go.Proofs.YtjjaijabdfoanaaDoor.Sx Go.Proofs.YtjjaijabdfoanaaDoor.Ls Go.Proofs.YtjjaijabdfoanaaDoor
set_option maxRecDepth 100000

def NoA (w : World) (q : Option Addr) : Prop := q = none ∨ ∃ b, q = some ⟨b, 0, none⟩ ∧ w.cell? ⟨b, 18, none⟩ = some (.int .i64 0)
theorem NoA.fr0 {w w' : World} {q : Option Addr} (h : NoA w q) (f : Fr [] w w') : NoA w' q := h.imp id fun ⟨b, e, c⟩ => ⟨b, e, f.cell c (by simp)⟩
theorem bldZ (w : World) : (Instr.build 64 [].toArray).run Tryd.prog w = .ok (.agg (preC (.slice none 0 0) 0).toArray) w := by kernel_rfl

theorem is_nil (w : World) : Cl Tryd.prog 28 [.pointer none] w (fun v w' => v = .bool false ∧ w' = w) := by
  refine enter Tryd.func28 rfl Tryd.ntmps28 rfl ?_
  refine cl_seq rfl ?_
  refine cl_reg rfl ?_
  refine st rfl rfl rfl rfl (x_asg rfl) ?_
  refine rl_end rfl ?_
  refine al_k ?_
  refine cl_seq rfl ?_
  refine cl_reg rfl ?_
  refine st rfl rfl rfl rfl (x_move rfl) ?_
  refine st rfl rfl rfl rfl (x_neqp rfl rfl Tryd.underlying26) ?_
  refine st rfl rfl rfl rfl (x_move rfl) ?_
  refine so rfl rfl rfl rfl ?_
  refine so rfl rfl rfl rfl ?_
  refine so rfl rfl rfl rfl ?_
  refine so rfl rfl rfl rfl ?_
  refine so rfl rfl rfl rfl ?_
  refine st rfl rfl rfl rfl (x_pick0 rfl rfl) ?_
  refine st rfl rfl rfl rfl (x_asg rfl) ?_
  refine rl_end rfl ?_
  refine al_k ?_
  refine cl_ret rfl ?_
  refine fin1 rfl rfl ?_
  exact ⟨rfl, rfl⟩

theorem is_zero (w : World) (b : Nat) (h : w.cell? ⟨b, 18, none⟩ = some (.int .i64 0)) : Cl Tryd.prog 28 [.pointer (some ⟨b, 0, none⟩)] w (fun v w' => v = .bool false ∧ w' = w) := by
  refine enter Tryd.func28 rfl Tryd.ntmps28 rfl ?_
  refine cl_seq rfl ?_
  refine cl_reg rfl ?_
  refine st rfl rfl rfl rfl (x_asg rfl) ?_
  refine rl_end rfl ?_
  refine al_k ?_
  refine cl_seq rfl ?_
  refine cl_reg rfl ?_
  refine st rfl rfl rfl rfl (x_move rfl) ?_
  refine st rfl rfl rfl rfl (x_neqp rfl rfl Tryd.underlying26) ?_
  refine st rfl rfl rfl rfl (x_move rfl) ?_
  refine st rfl rfl rfl rfl (x_move rfl) ?_
  refine st rfl rfl rfl rfl (x_nil rfl) ?_
  refine st rfl rfl rfl rfl (x_fa rfl Tryd.underlying64 rfl Tryd.sizeOf3 18 rfl) ?_
  refine st rfl rfl rfl rfl (x_ld rfl Tryd.isAgg3 h) ?_
  refine st rfl rfl rfl rfl ((x_gtr rfl rfl).b0 (by omega)) ?_
  refine st rfl rfl rfl rfl (x_pick1 rfl rfl) ?_
  refine st rfl rfl rfl rfl (x_asg rfl) ?_
  refine rl_end rfl ?_
  refine al_k ?_
  refine cl_ret rfl ?_
  refine fin1 rfl rfl ?_
  exact ⟨rfl, rfl⟩

theorem is_no (w : World) (q : Option Addr) (h : NoA w q) : Cl Tryd.prog 28 [.pointer q] w (fun v w' => v = .bool false ∧ w' = w) := by
  rcases h with rfl | ⟨b, rfl, hc⟩
  · exact is_nil w
  · exact is_zero w b hc

theorem alloc_nob (w : World) (q : Option Addr) (h : NoA w q) (part : Int) : Cl Tryd.prog 11 [.pointer q, .int .i64 part] w (fun v w' => v = .tuple #[.agg [.int .i64 0, .int .u64 0].toArray, .int .i64 4] ∧ Fr [] w w') := by
  have F := Fr.refl [] w
  refine enter Tryd.func11 rfl Tryd.ntmps11 rfl ?_
  refine cl_seq rfl ?_
  refine cl_reg rfl ?_
  refine se rfl rfl rfl rfl (e_new (x_alloc Tryd.zeroValue33 rfl)) ?_
  rintro _ w0_0 ⟨rfl, b0_0, fr0_0, sz0_0⟩
  replace F := F.trans fr0_0
  replace h := h.fr0 fr0_0
  refine st rfl rfl rfl rfl (x_asg rfl) ?_
  refine rl_end rfl ?_
  refine al_k ?_
  refine cl_seq rfl ?_
  refine cl_block rfl ?_
  refine cl_seq rfl ?_
  refine cl_reg rfl ?_
  refine st rfl rfl rfl rfl (x_move rfl) ?_
  refine sc rfl rfl rfl rfl (c_fn rfl Tryd.call28 (is_no _ q h)) ?_
  rintro _ wk ⟨rfl, hwk⟩
  obtain rfl := hwk.symm
  refine st rfl rfl rfl rfl (x_not0 rfl) ?_
  refine st rfl rfl rfl rfl (x_asg rfl) ?_
  refine rl_end rfl ?_
  refine al_k ?_
  refine cl_if1 rfl rfl ?_
  refine cl_seq rfl ?_
  refine cl_reg rfl ?_
  refine st rfl rfl rfl rfl (x_build rfl (bldN0 _)) ?_
  refine sv rfl rfl rfl (v_n (vs := [.int .i64 0, .int .u64 0]) rfl rfl (by intro v hv; simp at hv; rcases hv with rfl | rfl <;> rfl) Tryd.sizeOf33 rfl b0_0 (by decide)) ?_
  rintro w2 ⟨bR, frR⟩
  replace F := F.trans_new frR (by intro q hq; simp at hq; subst hq; exact .inr (Nat.le_refl _))
  replace bR : Blk w2 _ 33 [.int .i64 0, .int .u64 0] := bR
  refine st rfl rfl rfl rfl (x_asg rfl) ?_
  refine rl_end rfl ?_
  refine al_k ?_
  refine cl_ret rfl ?_
  refine fin_ct rfl rfl (run_ldv Tryd.isAgg33 Tryd.sizeOf33 rfl bR) rfl ?_
  exact ⟨rfl, F⟩

theorem free_nob (w : World) (q : Option Addr) (h : NoA w q) (n g : Int) : Cl Tryd.prog 12 [.pointer q, .agg [.int .i64 n, .int .u64 g].toArray] w (fun v w' => v = .int .i64 4 ∧ Fr [] w w') := by
  have F := Fr.refl [] w
  refine enter Tryd.func12 rfl Tryd.ntmps12 rfl ?_
  refine cl_seq rfl ?_
  refine cl_reg rfl ?_
  refine se rfl rfl rfl rfl (e_new (x_box rfl rfl)) ?_
  rintro _ w0_0 ⟨rfl, b0_0, fr0_0, sz0_0⟩
  replace F := F.trans fr0_0
  replace h := h.fr0 fr0_0
  refine st rfl rfl rfl rfl (x_asg rfl) ?_
  refine rl_end rfl ?_
  refine al_k ?_
  refine cl_seq rfl ?_
  refine cl_seq rfl ?_
  refine cl_reg rfl ?_
  refine st rfl rfl rfl rfl (x_move rfl) ?_
  refine sc rfl rfl rfl rfl (c_fn rfl Tryd.call28 (is_no _ q h)) ?_
  rintro _ wk ⟨rfl, hwk⟩
  obtain rfl := hwk.symm
  refine st rfl rfl rfl rfl (x_not0 rfl) ?_
  refine rl_end rfl ?_
  refine al_k ?_
  refine cl_if1 rfl rfl ?_
  refine cl_seq rfl ?_
  refine cl_reg rfl ?_
  refine st rfl rfl rfl rfl (x_asg rfl) ?_
  refine rl_end rfl ?_
  refine al_k ?_
  refine cl_ret rfl ?_
  refine fin1 rfl rfl ?_
  exact ⟨rfl, F⟩

theorem write_nob (w : World) (q : Option Addr) (h : NoA w q) (n g v : Int) : Cl Tryd.prog 15 [.pointer q, .agg [.int .i64 n, .int .u64 g].toArray, .int .u64 v] w (fun r w' => r = .int .i64 4 ∧ Fr [] w w') := by
  have F := Fr.refl [] w
  refine enter Tryd.func15 rfl Tryd.ntmps15 rfl ?_
  refine cl_seq rfl ?_
  refine cl_reg rfl ?_
  refine se rfl rfl rfl rfl (e_new (x_box rfl rfl)) ?_
  rintro _ w0_0 ⟨rfl, b0_0, fr0_0, sz0_0⟩
  replace F := F.trans fr0_0
  replace h := h.fr0 fr0_0
  refine st rfl rfl rfl rfl (x_asg rfl) ?_
  refine rl_end rfl ?_
  refine al_k ?_
  refine cl_seq rfl ?_
  refine cl_seq rfl ?_
  refine cl_reg rfl ?_
  refine st rfl rfl rfl rfl (x_move rfl) ?_
  refine sc rfl rfl rfl rfl (c_fn rfl Tryd.call28 (is_no _ q h)) ?_
  rintro _ wk ⟨rfl, hwk⟩
  obtain rfl := hwk.symm
  refine st rfl rfl rfl rfl (x_not0 rfl) ?_
  refine rl_end rfl ?_
  refine al_k ?_
  refine cl_if1 rfl rfl ?_
  refine cl_seq rfl ?_
  refine cl_reg rfl ?_
  refine st rfl rfl rfl rfl (x_asg rfl) ?_
  refine rl_end rfl ?_
  refine al_k ?_
  refine cl_ret rfl ?_
  refine fin1 rfl rfl ?_
  exact ⟨rfl, F⟩

theorem read_nob (w : World) (q : Option Addr) (h : NoA w q) (n g : Int) : Cl Tryd.prog 13 [.pointer q, .agg [.int .i64 n, .int .u64 g].toArray] w (fun r w' => r = .tuple #[.int .u64 0, .int .i64 4] ∧ Fr [] w w') := by
  have F := Fr.refl [] w
  refine enter Tryd.func13 rfl Tryd.ntmps13 rfl ?_
  refine cl_seq rfl ?_
  refine cl_reg rfl ?_
  refine se rfl rfl rfl rfl (e_new (x_box rfl rfl)) ?_
  rintro _ w0_0 ⟨rfl, b0_0, fr0_0, sz0_0⟩
  replace F := F.trans fr0_0
  replace h := h.fr0 fr0_0
  refine st rfl rfl rfl rfl (x_asg rfl) ?_
  refine st rfl rfl rfl rfl (x_asg rfl) ?_
  refine rl_end rfl ?_
  refine al_k ?_
  refine cl_seq rfl ?_
  refine cl_seq rfl ?_
  refine cl_reg rfl ?_
  refine st rfl rfl rfl rfl (x_move rfl) ?_
  refine sc rfl rfl rfl rfl (c_fn rfl Tryd.call28 (is_no _ q h)) ?_
  rintro _ wk ⟨rfl, hwk⟩
  obtain rfl := hwk.symm
  refine st rfl rfl rfl rfl (x_not0 rfl) ?_
  refine rl_end rfl ?_
  refine al_k ?_
  refine cl_if1 rfl rfl ?_
  refine cl_seq rfl ?_
  refine cl_reg rfl ?_
  refine st rfl rfl rfl rfl (x_asg rfl) ?_
  refine st rfl rfl rfl rfl (x_asg rfl) ?_
  refine rl_end rfl ?_
  refine al_k ?_
  refine cl_ret rfl ?_
  refine fin2 rfl rfl rfl ?_
  exact ⟨rfl, F⟩

theorem counts_nob (w : World) (q : Option Addr) (h : NoA w q) (part : Int) : Cl Tryd.prog 21 [.pointer q, .int .i64 part] w (fun r w' => r = .tuple #[.int .i64 0, .int .i64 0, .int .i64 4] ∧ Fr [] w w') := by
  have F := Fr.refl [] w
  refine enter Tryd.func21 rfl Tryd.ntmps21 rfl ?_
  refine cl_seq rfl ?_
  refine cl_reg rfl ?_
  refine st rfl rfl rfl rfl (x_asg rfl) ?_
  refine st rfl rfl rfl rfl (x_asg rfl) ?_
  refine st rfl rfl rfl rfl (x_asg rfl) ?_
  refine rl_end rfl ?_
  refine al_k ?_
  refine cl_seq rfl ?_
  refine cl_block rfl ?_
  refine cl_seq rfl ?_
  refine cl_reg rfl ?_
  refine st rfl rfl rfl rfl (x_move rfl) ?_
  refine sc rfl rfl rfl rfl (c_fn rfl Tryd.call28 (is_no _ q h)) ?_
  rintro _ wk ⟨rfl, hwk⟩
  obtain rfl := hwk.symm
  refine st rfl rfl rfl rfl (x_not0 rfl) ?_
  refine st rfl rfl rfl rfl (x_asg rfl) ?_
  refine rl_end rfl ?_
  refine al_k ?_
  refine cl_if1 rfl rfl ?_
  refine cl_seq rfl ?_
  refine cl_reg rfl ?_
  refine st rfl rfl rfl rfl (x_asg rfl) ?_
  refine st rfl rfl rfl rfl (x_asg rfl) ?_
  refine st rfl rfl rfl rfl (x_asg rfl) ?_
  refine rl_end rfl ?_
  refine al_k ?_
  refine cl_ret rfl ?_
  refine fin3 rfl rfl rfl rfl ?_
  exact ⟨rfl, F⟩

theorem has_nob (w : World) (q : Option Addr) (h : NoA w q) (n : Int) : Cl Tryd.prog 32 [.pointer q, .int .i64 n] w (fun v w' => v = .bool false ∧ w' = w) := by
  refine enter Tryd.func32 rfl Tryd.ntmps32 rfl ?_
  refine cl_seq rfl ?_
  refine cl_reg rfl ?_
  refine st rfl rfl rfl rfl (x_asg rfl) ?_
  refine rl_end rfl ?_
  refine al_k ?_
  refine cl_seq rfl ?_
  refine cl_reg rfl ?_
  refine st rfl rfl rfl rfl (x_move rfl) ?_
  refine sc rfl rfl rfl rfl (c_fn rfl Tryd.call28 (is_no _ q h)) ?_
  rintro _ wk ⟨rfl, hwk⟩
  obtain rfl := hwk.symm
  refine st rfl rfl rfl rfl (x_move rfl) ?_
  refine so rfl rfl rfl rfl ?_
  refine so rfl rfl rfl rfl ?_
  refine st rfl rfl rfl rfl (x_pick0 rfl rfl) ?_
  refine st rfl rfl rfl rfl (x_move rfl) ?_
  refine so rfl rfl rfl rfl ?_
  refine so rfl rfl rfl rfl ?_
  refine so rfl rfl rfl rfl ?_
  refine so rfl rfl rfl rfl ?_
  refine so rfl rfl rfl rfl ?_
  refine so rfl rfl rfl rfl ?_
  refine so rfl rfl rfl rfl ?_
  refine st rfl rfl rfl rfl (x_pick0 rfl rfl) ?_
  refine st rfl rfl rfl rfl (x_asg rfl) ?_
  refine rl_end rfl ?_
  refine al_k ?_
  refine cl_ret rfl ?_
  refine fin1 rfl rfl ?_
  exact ⟨rfl, rfl⟩

theorem part_nob (w : World) (q : Option Addr) (h : NoA w q) (n : Int) : Cl Tryd.prog 14 [.pointer q, .int .i64 n] w (fun r w' => r = .tuple #[.int .i64 0, .bool false] ∧ Fr [] w w') := by
  have F := Fr.refl [] w
  refine enter Tryd.func14 rfl Tryd.ntmps14 rfl ?_
  refine cl_seq rfl ?_
  refine cl_reg rfl ?_
  refine st rfl rfl rfl rfl (x_asg rfl) ?_
  refine st rfl rfl rfl rfl (x_asg rfl) ?_
  refine rl_end rfl ?_
  refine al_k ?_
  refine cl_seq rfl ?_
  refine cl_seq rfl ?_
  refine cl_reg rfl ?_
  refine st rfl rfl rfl rfl (x_move rfl) ?_
  refine st rfl rfl rfl rfl (x_move rfl) ?_
  refine sc rfl rfl rfl rfl (c_fn rfl Tryd.call32 (has_nob _ q h n)) ?_
  rintro _ wk ⟨rfl, hwk⟩
  obtain rfl := hwk.symm
  refine st rfl rfl rfl rfl (x_not0 rfl) ?_
  refine rl_end rfl ?_
  refine al_k ?_
  refine cl_if1 rfl rfl ?_
  refine cl_seq rfl ?_
  refine cl_reg rfl ?_
  refine st rfl rfl rfl rfl (x_asg rfl) ?_
  refine st rfl rfl rfl rfl (x_asg rfl) ?_
  refine rl_end rfl ?_
  refine al_k ?_
  refine cl_ret rfl ?_
  refine fin2 rfl rfl rfl ?_
  exact ⟨rfl, F⟩

theorem look_nob (w : World) (q : Option Addr) (h : NoA w q) (n : Int) : Cl Tryd.prog 18 [.pointer q, .int .i64 n] w (fun r w' => r = .tuple #[.int .u64 0, .int .u64 0, .bool false] ∧ Fr [] w w') := by
  have F := Fr.refl [] w
  refine enter Tryd.func18 rfl Tryd.ntmps18 rfl ?_
  refine cl_seq rfl ?_
  refine cl_reg rfl ?_
  refine st rfl rfl rfl rfl (x_asg rfl) ?_
  refine st rfl rfl rfl rfl (x_asg rfl) ?_
  refine st rfl rfl rfl rfl (x_asg rfl) ?_
  refine rl_end rfl ?_
  refine al_k ?_
  refine cl_seq rfl ?_
  refine cl_seq rfl ?_
  refine cl_reg rfl ?_
  refine st rfl rfl rfl rfl (x_move rfl) ?_
  refine st rfl rfl rfl rfl (x_move rfl) ?_
  refine sc rfl rfl rfl rfl (c_fn rfl Tryd.call32 (has_nob _ q h n)) ?_
  rintro _ wk ⟨rfl, hwk⟩
  obtain rfl := hwk.symm
  refine st rfl rfl rfl rfl (x_not0 rfl) ?_
  refine rl_end rfl ?_
  refine al_k ?_
  refine cl_if1 rfl rfl ?_
  refine cl_seq rfl ?_
  refine cl_reg rfl ?_
  refine st rfl rfl rfl rfl (x_asg rfl) ?_
  refine st rfl rfl rfl rfl (x_asg rfl) ?_
  refine st rfl rfl rfl rfl (x_asg rfl) ?_
  refine rl_end rfl ?_
  refine al_k ?_
  refine cl_ret rfl ?_
  refine fin3 rfl rfl rfl rfl ?_
  exact ⟨rfl, F⟩

theorem heldr_nob (w : World) (q : Option Addr) (h : NoA w q) (y : Value) (b1 b2 : Nat) (c1 : Blk w b1 26 [.pointer q]) : Cl Tryd.prog 45 [y, .pointer (some ⟨b1, 0, none⟩), .pointer (some ⟨b2, 0, none⟩)] w (fun r w' => r = .tuple #[] ∧ Fr [] w w') := by
  have F := Fr.refl [] w
  refine enter Tryd.func45 rfl Tryd.ntmps45 rfl ?_
  refine cl_seq rfl ?_
  refine cl_seq rfl ?_
  refine cl_reg rfl ?_
  refine st rfl rfl rfl rfl (x_ld rfl Tryd.isAgg26 (c1.cell rfl)) ?_
  refine sc rfl rfl rfl rfl (c_fn rfl Tryd.call28 (is_no _ q h)) ?_
  rintro _ wk ⟨rfl, hwk⟩
  obtain rfl := hwk.symm
  refine st rfl rfl rfl rfl (x_not0 rfl) ?_
  refine rl_end rfl ?_
  refine al_k ?_
  refine cl_if1 rfl rfl ?_
  refine cl_ret rfl ?_
  refine fin0 rfl ?_
  exact ⟨rfl, F⟩

theorem held_nob (w : World) (q : Option Addr) (h : NoA w q) (part most : Int) : Cl Tryd.prog 23 [.pointer q, .int .i64 part, .int .i64 most] w (fun r w' => r = .tuple #[.slice none 0 0, .bool true] ∧ Fr [] w w') := by
  have F := Fr.refl [] w
  refine enter Tryd.func23 rfl Tryd.ntmps23 rfl ?_
  refine cl_seq rfl ?_
  refine cl_reg rfl ?_
  refine se rfl rfl rfl rfl (e_new (x_box rfl rfl)) ?_
  rintro _ w0_0 ⟨rfl, b0_0, fr0_0, sz0_0⟩
  replace F := F.trans fr0_0
  replace h := h.fr0 fr0_0
  refine st rfl rfl rfl rfl (x_asg rfl) ?_
  refine st rfl rfl rfl rfl (x_asg rfl) ?_
  refine rl_end rfl ?_
  refine al_k ?_
  refine cl_seq rfl ?_
  refine cl_reg rfl ?_
  refine st rfl rfl rfl rfl (x_move rfl) ?_
  refine st rfl rfl rfl rfl (x_move rfl) ?_
  refine sc rfl rfl rfl rfl (c_fn rfl Tryd.call39 (heldf_c _ q part)) ?_
  rintro _ w1 ⟨b1, b2, rfl, c1, c2, _, _, _, fr⟩
  replace F := F.trans fr
  replace h := h.fr0 fr
  clear fr
  refine st rfl rfl rfl rfl (x_asg rfl) ?_
  refine rl_end rfl ?_
  refine al_k ?_
  refine cl_seq rfl ?_
  refine cl_seq rfl ?_
  refine cl_reg rfl ?_
  refine st rfl rfl rfl rfl (x_move rfl) ?_
  refine st rfl rfl rfl rfl (x_eqlf rfl rfl Tryd.underlying83) ?_
  refine rl_end rfl ?_
  refine al_k ?_
  refine cl_if0 rfl rfl ?_
  refine cl_skip rfl ?_
  refine al_k ?_
  refine cl_seq rfl ?_
  refine cl_reg rfl ?_
  refine se rfl rfl rfl rfl (e_new (x_alloc Tryd.zeroValue30 rfl)) ?_
  rintro _ w4_0 ⟨rfl, b4_0, fr4_0, sz4_0⟩
  replace F := F.trans fr4_0
  replace h := h.fr0 fr4_0
  replace c1 := c1.fr0 fr4_0
  refine rl_end rfl ?_
  refine al_k ?_
  refine cl_seq rfl ?_
  refine cl_reg rfl ?_
  refine st rfl rfl rfl rfl (x_move rfl) ?_
  refine st rfl rfl rfl rfl (x_mkf rfl rfl) ?_
  refine sc rfl rfl rfl rfl (c_fv rfl rfl Tryd.call45 (heldr_nob _ q h _ b1 b2 c1)) ?_
  rintro _ w5 ⟨rfl, fr⟩
  -- told
  replace F := F.trans fr
  replace b4_0 := b4_0.fr0 fr
  refine rl_end rfl ?_
  refine al_k ?_
  refine cl_seq rfl ?_
  refine cl_reg rfl ?_
  refine st rfl rfl rfl rfl (x_ld rfl Tryd.isAgg30 (b4_0.cell rfl)) ?_
  refine st rfl rfl rfl rfl (x_asg rfl) ?_
  refine st rfl rfl rfl rfl (x_asg rfl) ?_
  refine rl_end rfl ?_
  refine al_k ?_
  refine cl_ret rfl ?_
  refine fin2 rfl rfl rfl ?_
  exact ⟨rfl, F⟩

theorem bslPP (p q : Option Addr) (w : World) : (Instr.buildSlice 65 2 [(0, .pointer p), (1, .pointer q)].toArray).run Tryd.prog w = .ok (.slice (some ⟨w.heap.size, 0, none⟩) 2 2) (w.alloc (.cells [.pointer p, .pointer q].toArray 26)) := by kernel_rfl

theorem nobody_c (w : World) (hG : Glb w) (z0 z1 z2 z3 z4 : Int) : Cl Tryd.prog 7 [.agg [.int .i64 z0, .int .i64 z1, .int .i64 z2, .int .u64 z3, .int .u64 z4].toArray] w (fun v w' => v = .bool true ∧ Fr [] w w') := by
  have F := Fr.refl [] w
  refine enter Tryd.func7 rfl Tryd.ntmps7 rfl ?_
  refine cl_seq rfl ?_
  refine cl_reg rfl ?_
  refine se rfl rfl rfl rfl (e_new (x_box (cs := [.int .i64 z0, .int .i64 z1, .int .i64 z2, .int .u64 z3, .int .u64 z4]) rfl rfl)) ?_
  rintro _ w0 ⟨rfl, bo, fr, _⟩
  replace F := F.trans fr
  clear fr
  generalize hoq : w.heap.size = o at bo ⊢
  refine st rfl rfl rfl rfl (x_asg rfl) ?_
  refine rl_end rfl ?_
  refine al_k ?_
  refine cl_seq rfl ?_
  refine cl_reg rfl ?_
  refine st rfl rfl rfl rfl (x_asg rfl) ?_
  refine rl_end rfl ?_
  refine al_k ?_
  refine cl_seq rfl ?_
  refine cl_seq rfl ?_
  refine cl_reg rfl ?_
  refine st rfl rfl rfl rfl (x_move rfl) ?_
  refine st rfl rfl rfl rfl (x_build rfl (bldZ _)) ?_
  refine se rfl rfl rfl rfl (e_new (x_box rfl rfl)) ?_
  rintro _ w2 ⟨rfl, bz, fr, _⟩
  replace F := F.trans fr
  replace bo := bo.fr0 fr
  clear fr
  generalize hzq : w0.heap.size = z at bz ⊢
  refine se rfl rfl rfl rfl (e_new (x_bsl rfl (bslPP _ _ _))) ?_
  rintro _ w2b ⟨rfl, bs, fr, _⟩
  replace F := F.trans fr
  replace bo := bo.fr0 fr
  replace bz := bz.fr0 fr
  clear fr
  generalize hsq : w2.heap.size = s at bs ⊢
  refine st rfl rfl rfl rfl (x_len rfl Tryd.underlying65) ?_
  refine st rfl rfl rfl rfl (x_move rfl) ?_
  refine rl_end rfl ?_
  refine al_k ?_
  refine cl_block rfl ?_
  refine cl_loop (fun i : Nat => [(25, .int .i64 i), (24, .int .i64 (2 : Nat)), (23, .slice (some ⟨s, 0, none⟩) 2 2), (1, .pointer (some ⟨o, 0, none⟩))]) (fun i w' => i ≤ 2 ∧ Blk w' o 35 [.int .i64 z0, .int .i64 z1, .int .i64 z2, .int .u64 z3, .int .u64 z4] ∧ Blk w' z 64 (preC (.slice none 0 0) 0) ∧ Blk w' s 26 [.pointer none, .pointer (some ⟨z, 0, none⟩)] ∧ Fr [] w w') (fun i => 2 - i) 0 rfl ⟨rfl, rfl, rfl, rfl, trivial⟩ ?_ ?_
  · exact ⟨Nat.zero_le _, bo, bz, bs, F⟩
  · skip
    rintro i wr ⟨hi, bo, bz, bs, F⟩
    refine cl_seq rfl ?_
    refine cl_reg rfl ?_
    refine sf rfl rfl rfl rfl (x_lss rfl rfl) (fun c3_0 => ?_) (fun c3_0 => ?_)
    · skip
      refine rl_end rfl ?_
      refine al_k ?_
      refine cl_seq rfl ?_
      refine cl_if1 rfl rfl ?_
      refine cl_skip rfl ?_
      refine al_k ?_
      refine cl_seq rfl ?_
      refine cl_block rfl ?_
      refine cl_seq rfl ?_
      obtain ⟨q, hq, hno⟩ : ∃ q, wr.cell? ⟨s, ((i : Nat) : Int).toNat * 1, none⟩ = some (.pointer q) ∧ NoA wr q := by
        have hi2 : i < 2 := by omega
        match i, hi2 with
        | 0, _ => exact ⟨none, bs.cell rfl, .inl rfl⟩
        | 1, _ => exact ⟨some ⟨z, 0, none⟩, bs.cell rfl, .inr ⟨z, rfl, bz.cell rfl⟩⟩
      refine cl_reg rfl ?_
      refine st rfl rfl rfl rfl (x_ia0 rfl rfl Tryd.underlying65 Tryd.sizeOf26 (by omega)) ?_
      refine st rfl rfl rfl rfl (x_ld rfl Tryd.isAgg26 hq) ?_
      refine st rfl rfl rfl rfl (x_asg rfl) ?_
      refine rl_end rfl ?_
      refine al_k ?_
      refine cl_seq rfl ?_
      refine cl_reg rfl ?_
      refine st rfl rfl rfl rfl (x_move rfl) ?_
      refine st rfl rfl rfl rfl (x_fa rfl Tryd.underlying35 rfl Tryd.sizeOf3 1 rfl) ?_
      refine st rfl rfl rfl rfl (x_ld rfl Tryd.isAgg3 (bo.cell rfl)) ?_
      refine sc rfl rfl rfl rfl (c_fn rfl Tryd.call11 (alloc_nob _ q hno z1)) ?_
      rintro _ w5 ⟨rfl, fr⟩
      replace F := F.trans fr
      replace bo := bo.fr0 fr
      replace bz := bz.fr0 fr
      replace bs := bs.fr0 fr
      replace hno := hno.fr0 fr
      clear fr
      refine st rfl rfl rfl rfl (x_move rfl) ?_
      refine st rfl rfl rfl rfl (x_ext rfl rfl) ?_
      refine st rfl rfl rfl rfl (x_ext rfl rfl) ?_
      refine se rfl rfl rfl rfl (e_new (x_alloc Tryd.zeroValue33 rfl)) ?_
      rintro _ w5b ⟨rfl, b6, fA, _⟩
      refine sv rfl rfl rfl (v_n (vs := [.int .i64 0, .int .u64 0]) rfl rfl (by intro v hv; simp at hv; rcases hv with rfl | rfl <;> rfl) Tryd.sizeOf33 rfl b6 (by decide)) ?_
      rintro w5c ⟨b6b, fr⟩
      replace b6 : Blk w5c _ 33 [.int .i64 0, .int .u64 0] := b6b
      have FF := fA.trans_new fr (by intro q hq; simp at hq; subst hq; exact .inr (Nat.le_refl _))
      clear fr
      replace F := F.trans FF
      replace bo := bo.fr0 FF
      replace bz := bz.fr0 FF
      replace bs := bs.fr0 FF
      replace hno := hno.fr0 FF
      clear FF
      refine st rfl rfl rfl rfl (x_asg rfl) ?_
      refine rl_end rfl ?_
      refine al_k ?_
      refine cl_seq rfl ?_
      refine cl_reg rfl ?_
      refine st rfl rfl rfl rfl (x_move rfl) ?_
      refine st rfl rfl rfl rfl (x_fa rfl Tryd.underlying35 rfl Tryd.sizeOf33 2 rfl) ?_
      refine st rfl rfl rfl rfl (x_ldn rfl Tryd.isAgg33 Tryd.sizeOf33 rfl (blk_two bo)) ?_
      refine sc rfl rfl rfl rfl (c_fn rfl Tryd.call13 (read_nob _ q hno z2 z3)) ?_
      rintro _ w6 ⟨rfl, fr⟩
      replace F := F.trans fr
      replace bo := bo.fr0 fr
      replace bz := bz.fr0 fr
      replace bs := bs.fr0 fr
      replace hno := hno.fr0 fr
      replace b6 := b6.fr0 fr
      clear fr
      refine st rfl rfl rfl rfl (x_move rfl) ?_
      refine st rfl rfl rfl rfl (x_ext rfl rfl) ?_
      refine st rfl rfl rfl rfl (x_ext rfl rfl) ?_
      refine st rfl rfl rfl rfl (x_asg rfl) ?_
      refine st rfl rfl rfl rfl (x_asg rfl) ?_
      refine rl_end rfl ?_
      refine al_k ?_
      refine cl_seq rfl ?_
      refine cl_reg rfl ?_
      refine st rfl rfl rfl rfl (x_move rfl) ?_
      refine st rfl rfl rfl rfl (x_fa rfl Tryd.underlying35 rfl Tryd.sizeOf3 1 rfl) ?_
      refine st rfl rfl rfl rfl (x_ld rfl Tryd.isAgg3 (bo.cell rfl)) ?_
      refine sc rfl rfl rfl rfl (c_fn rfl Tryd.call21 (counts_nob _ q hno z1)) ?_
      rintro _ w7 ⟨rfl, fr⟩
      replace F := F.trans fr
      replace bo := bo.fr0 fr
      replace bz := bz.fr0 fr
      replace bs := bs.fr0 fr
      replace hno := hno.fr0 fr
      replace b6 := b6.fr0 fr
      clear fr
      refine st rfl rfl rfl rfl (x_move rfl) ?_
      refine st rfl rfl rfl rfl (x_ext rfl rfl) ?_
      refine st rfl rfl rfl rfl (x_ext rfl rfl) ?_
      refine st rfl rfl rfl rfl (x_ext rfl rfl) ?_
      refine st rfl rfl rfl rfl (x_asg rfl) ?_
      refine st rfl rfl rfl rfl (x_asg rfl) ?_
      refine st rfl rfl rfl rfl (x_asg rfl) ?_
      refine rl_end rfl ?_
      refine al_k ?_
      refine cl_seq rfl ?_
      refine cl_reg rfl ?_
      refine st rfl rfl rfl rfl (x_move rfl) ?_
      refine st rfl rfl rfl rfl (x_fa rfl Tryd.underlying35 rfl Tryd.sizeOf33 2 rfl) ?_
      refine st rfl rfl rfl rfl (x_fa rfl Tryd.underlying33 rfl Tryd.sizeOf3 0 rfl) ?_
      refine st rfl rfl rfl rfl (x_ld rfl Tryd.isAgg3 (bo.cell rfl)) ?_
      refine sc rfl rfl rfl rfl (c_fn rfl Tryd.call14 (part_nob _ q hno z2)) ?_
      rintro _ w8 ⟨rfl, fr⟩
      replace F := F.trans fr
      replace bo := bo.fr0 fr
      replace bz := bz.fr0 fr
      replace bs := bs.fr0 fr
      replace hno := hno.fr0 fr
      replace b6 := b6.fr0 fr
      clear fr
      refine st rfl rfl rfl rfl (x_move rfl) ?_
      refine st rfl rfl rfl rfl (x_ext rfl rfl) ?_
      refine st rfl rfl rfl rfl (x_ext rfl rfl) ?_
      refine st rfl rfl rfl rfl (x_asg rfl) ?_
      refine st rfl rfl rfl rfl (x_asg rfl) ?_
      refine rl_end rfl ?_
      refine al_k ?_
      refine cl_seq rfl ?_
      refine cl_reg rfl ?_
      refine st rfl rfl rfl rfl (x_move rfl) ?_
      refine st rfl rfl rfl rfl (x_fa rfl Tryd.underlying35 rfl Tryd.sizeOf33 2 rfl) ?_
      refine st rfl rfl rfl rfl (x_fa rfl Tryd.underlying33 rfl Tryd.sizeOf3 0 rfl) ?_
      refine st rfl rfl rfl rfl (x_ld rfl Tryd.isAgg3 (bo.cell rfl)) ?_
      refine sc rfl rfl rfl rfl (c_fn rfl Tryd.call18 (look_nob _ q hno z2)) ?_
      rintro _ w9 ⟨rfl, fr⟩
      replace F := F.trans fr
      replace bo := bo.fr0 fr
      replace bz := bz.fr0 fr
      replace bs := bs.fr0 fr
      replace hno := hno.fr0 fr
      replace b6 := b6.fr0 fr
      clear fr
      refine st rfl rfl rfl rfl (x_move rfl) ?_
      refine st rfl rfl rfl rfl (x_ext rfl rfl) ?_
      refine st rfl rfl rfl rfl (x_ext rfl rfl) ?_
      refine st rfl rfl rfl rfl (x_ext rfl rfl) ?_
      refine st rfl rfl rfl rfl (x_asg rfl) ?_
      refine st rfl rfl rfl rfl (x_asg rfl) ?_
      refine st rfl rfl rfl rfl (x_asg rfl) ?_
      refine rl_end rfl ?_
      refine al_k ?_
      refine cl_seq rfl ?_
      refine cl_reg rfl ?_
      refine st rfl rfl rfl rfl (x_move rfl) ?_
      refine st rfl rfl rfl rfl (x_fa rfl Tryd.underlying35 rfl Tryd.sizeOf3 1 rfl) ?_
      refine st rfl rfl rfl rfl (x_ld rfl Tryd.isAgg3 (bo.cell rfl)) ?_
      refine sc rfl rfl rfl rfl (c_fn rfl Tryd.call23 (held_nob _ q hno z1 5)) ?_
      rintro _ w10 ⟨rfl, fr⟩
      replace F := F.trans fr
      replace bo := bo.fr0 fr
      replace bz := bz.fr0 fr
      replace bs := bs.fr0 fr
      replace hno := hno.fr0 fr
      replace b6 := b6.fr0 fr
      clear fr
      refine st rfl rfl rfl rfl (x_move rfl) ?_
      refine st rfl rfl rfl rfl (x_ext rfl rfl) ?_
      refine st rfl rfl rfl rfl (x_ext rfl rfl) ?_
      refine st rfl rfl rfl rfl (x_asg rfl) ?_
      refine st rfl rfl rfl rfl (x_asg rfl) ?_
      refine rl_end rfl ?_
      refine al_k ?_
      refine cl_seq rfl ?_
      refine cl_reg rfl ?_
      refine st rfl rfl rfl rfl (x_move rfl) ?_
      refine st rfl rfl rfl rfl ((x_neq rfl rfl).b0 (fun h => h rfl)) ?_
      refine st rfl rfl rfl rfl (x_move rfl) ?_
      refine st rfl rfl rfl rfl (x_move rfl) ?_
      refine st rfl rfl rfl rfl ((x_neq rfl rfl).b0 (fun h => h rfl)) ?_
      refine st rfl rfl rfl rfl (x_pick0 rfl rfl) ?_
      refine st rfl rfl rfl rfl (x_move rfl) ?_
      refine st rfl rfl rfl rfl (x_move rfl) ?_
      refine st rfl rfl rfl rfl ((x_neq rfl rfl).b0 (fun h => h rfl)) ?_
      refine st rfl rfl rfl rfl (x_pick0 rfl rfl) ?_
      refine st rfl rfl rfl rfl (x_move rfl) ?_
      refine st rfl rfl rfl rfl (x_move rfl) ?_
      refine st rfl rfl rfl rfl (x_fa rfl Tryd.underlying35 rfl Tryd.sizeOf33 2 rfl) ?_
      refine st rfl rfl rfl rfl (x_ldn rfl Tryd.isAgg33 Tryd.sizeOf33 rfl (blk_two bo)) ?_
      refine st rfl rfl rfl rfl (x_fa rfl Tryd.underlying35 rfl Tryd.sizeOf31 4 rfl) ?_
      refine st rfl rfl rfl rfl (x_ld rfl Tryd.isAgg31 (bo.cell rfl)) ?_
      refine sc rfl rfl rfl rfl (c_fn rfl Tryd.call15 (write_nob _ q hno z2 z3 z4)) ?_
      rintro _ w11 ⟨rfl, fr⟩
      replace F := F.trans fr
      replace bo := bo.fr0 fr
      replace bz := bz.fr0 fr
      replace bs := bs.fr0 fr
      replace hno := hno.fr0 fr
      replace b6 := b6.fr0 fr
      clear fr
      refine st rfl rfl rfl rfl ((x_neq rfl rfl).b0 (fun h => h rfl)) ?_
      refine st rfl rfl rfl rfl (x_pick0 rfl rfl) ?_
      refine st rfl rfl rfl rfl (x_move rfl) ?_
      refine st rfl rfl rfl rfl (x_move rfl) ?_
      refine st rfl rfl rfl rfl (x_fa rfl Tryd.underlying35 rfl Tryd.sizeOf33 2 rfl) ?_
      refine st rfl rfl rfl rfl (x_ldn rfl Tryd.isAgg33 Tryd.sizeOf33 rfl (blk_two bo)) ?_
      refine sc rfl rfl rfl rfl (c_fn rfl Tryd.call12 (free_nob _ q hno z2 z3)) ?_
      rintro _ w12 ⟨rfl, fr⟩
      replace F := F.trans fr
      replace bo := bo.fr0 fr
      replace bz := bz.fr0 fr
      replace bs := bs.fr0 fr
      replace hno := hno.fr0 fr
      replace b6 := b6.fr0 fr
      clear fr
      refine st rfl rfl rfl rfl ((x_neq rfl rfl).b0 (fun h => h rfl)) ?_
      refine st rfl rfl rfl rfl (x_pick0 rfl rfl) ?_
      refine st rfl rfl rfl rfl (x_move rfl) ?_
      refine st rfl rfl rfl rfl (x_ldn rfl Tryd.isAgg33 Tryd.sizeOf33 rfl (by intro j v hv; rw [Nat.zero_add]; exact b6.cell hv)) ?_
      refine st rfl rfl rfl rfl (x_build rfl (bldN0 _)) ?_
      refine st rfl rfl rfl rfl ((x_eqs rfl rfl (egN _ _ _ _ _ _ _ _) (neN _ _ _ _ _)).b0 (fun h => h ⟨rfl, rfl⟩)) ?_
      refine st rfl rfl rfl rfl (x_pick0 rfl rfl) ?_
      refine st rfl rfl rfl rfl (x_move rfl) ?_
      refine st rfl rfl rfl rfl (x_move rfl) ?_
      refine st rfl rfl rfl rfl ((x_neq rfl rfl).b0 (fun h => h rfl)) ?_
      refine st rfl rfl rfl rfl (x_pick0 rfl rfl) ?_
      refine st rfl rfl rfl rfl (x_move rfl) ?_
      refine st rfl rfl rfl rfl (x_move rfl) ?_
      refine st rfl rfl rfl rfl (x_move rfl) ?_
      refine st rfl rfl rfl rfl (x_add rfl rfl (by omega)) ?_
      refine st rfl rfl rfl rfl (x_move rfl) ?_
      refine st rfl rfl rfl rfl (x_add rfl rfl (by omega)) ?_
      refine st rfl rfl rfl rfl (x_move rfl) ?_
      refine st rfl rfl rfl rfl (x_len rfl Tryd.underlying30) ?_
      refine st rfl rfl rfl rfl (x_add rfl rfl (by omega)) ?_
      refine st rfl rfl rfl rfl ((x_neq rfl rfl).b0 (fun h => h rfl)) ?_
      refine st rfl rfl rfl rfl (x_pick0 rfl rfl) ?_
      refine st rfl rfl rfl rfl (x_move rfl) ?_
      refine st rfl rfl rfl rfl (x_move rfl) ?_
      refine st rfl rfl rfl rfl (x_pick0 rfl rfl) ?_
      refine st rfl rfl rfl rfl (x_move rfl) ?_
      refine st rfl rfl rfl rfl (x_move rfl) ?_
      refine st rfl rfl rfl rfl (x_pick0 rfl rfl) ?_
      refine st rfl rfl rfl rfl (x_move rfl) ?_
      refine st rfl rfl rfl rfl (x_move rfl) ?_
      refine st rfl rfl rfl rfl ((x_neq rfl rfl).b0 (fun h => h rfl)) ?_
      refine st rfl rfl rfl rfl (x_pick0 rfl rfl) ?_
      refine st rfl rfl rfl rfl (x_move rfl) ?_
      refine st rfl rfl rfl rfl (x_move rfl) ?_
      refine st rfl rfl rfl rfl ((x_neq rfl rfl).b0 (fun h => h rfl)) ?_
      refine st rfl rfl rfl rfl (x_pick0 rfl rfl) ?_
      refine st rfl rfl rfl rfl (x_move rfl) ?_
      refine st rfl rfl rfl rfl (x_move rfl) ?_
      refine st rfl rfl rfl rfl (x_not1 rfl) ?_
      refine st rfl rfl rfl rfl (x_pick0 rfl rfl) ?_
      refine rl_end rfl ?_
      refine al_k ?_
      refine cl_if0 rfl rfl ?_
      refine cl_skip rfl ?_
      refine al_k ?_
      refine cl_reg rfl ?_
      refine st rfl rfl rfl rfl (x_add rfl rfl (by omega)) ?_
      refine st rfl rfl rfl rfl (x_move rfl) ?_
      refine rl_end rfl ?_
      refine again (i + 1) (by omega) ⟨rfl, rfl, rfl, rfl, trivial⟩ ⟨by omega, bo, bz, bs, F⟩
    · skip
      refine rl_end rfl ?_
      refine al_k ?_
      refine cl_seq rfl ?_
      refine cl_if0 rfl rfl ?_
      refine cl_exit rfl ?_
      refine upd_self ?_
      refine al_k ?_
      refine cl_seq rfl ?_
      refine cl_reg rfl ?_
      refine sc rfl rfl rfl rfl (c_fn rfl Tryd.call8 (awake_c _ (hG.fr F (by simp)))) ?_
      rintro _ w14 ⟨rfl, fr⟩
      replace F := F.trans fr
      refine st rfl rfl rfl rfl (x_asg rfl) ?_
      refine rl_end rfl ?_
      refine al_k ?_
      refine cl_ret rfl ?_
      refine fin1 rfl rfl ?_
      exact ⟨rfl, F⟩

end Go.Proofs.YtjjaijabdfoanaaDoor.Arn
