/- The arena: the walks of is, name and find. -/
import Derived.Test.YtjjaijabdfoanaaDoorArA
set_option linter.unusedVariables false
namespace Go.Proofs.YtjjaijabdfoanaaDoor.Arn
open Go Go.RowKit Go.Proofs.YtjjaijabdfoanaaDoor.Sx Go.Proofs.YtjjaijabdfoanaaDoor.Ls Go.Proofs.YtjjaijabdfoanaaDoor
set_option maxRecDepth 100000

theorem bldN (a b : Int) (w : World) : (Instr.build 33 [(0, .int .i64 a), (1, .int .u64 b)].toArray).run Tryd.prog w = .ok (.agg [.int .i64 a, .int .u64 b].toArray) w := by kernel_rfl
theorem bldN0 (w : World) : (Instr.build 33 [].toArray).run Tryd.prog w = .ok (.agg [.int .i64 0, .int .u64 0].toArray) w := by kernel_rfl
theorem eqN (a b c d : Int) (w : World) : (binOp .eql 33 (.agg [.int .i64 a, .int .u64 b].toArray) (.agg [.int .i64 c, .int .u64 d].toArray)).run Tryd.prog w = .ok (.bool (decide (a = c ∧ b = d))) w := by
  go_simp
  (repeat' split) <;> simp_all
theorem neN (a b c d : Int) (w : World) : (binOp .neq 33 (.agg [.int .i64 a, .int .u64 b].toArray) (.agg [.int .i64 c, .int .u64 d].toArray)).run Tryd.prog w = .ok (.bool (decide (¬ (a = c ∧ b = d)))) w := by
  go_simp
  (repeat' split) <;> simp_all
theorem egN (op : BinOp) (x y : Operand) (a b c d : Int) (w : World) : (eqGuard op 33 x y (.agg [.int .i64 a, .int .u64 b].toArray) (.agg [.int .i64 c, .int .u64 d].toArray)).run Tryd.prog w = .ok () w := by
  cases op <;> go_simp

theorem is_a (w : World) (k : AK) (x : Ar) (K : ArAt w k x) : Cl Tryd.prog 28 [.pointer (some ⟨k.ap, 0, none⟩)] w (fun v w' => v = .bool true ∧ w' = w) := by
  refine enter Tryd.func28 rfl Tryd.ntmps28 rfl ?_
  refine cl_seq rfl ?_
  refine cl_reg rfl ?_
  refine st rfl rfl rfl rfl (x_asg rfl) ?_
  refine rl_end rfl ?_
  refine al_k ?_
  refine cl_seq rfl ?_
  refine cl_reg rfl ?_
  refine st rfl rfl rfl rfl (x_move rfl) ?_
  refine st rfl rfl rfl rfl (x_neqp rfl rfl Tryd.underlying26) ?_
  refine st rfl rfl rfl rfl (x_move rfl) ?_
  refine st rfl rfl rfl rfl (x_move rfl) ?_
  refine st rfl rfl rfl rfl (x_nil rfl) ?_
  refine st rfl rfl rfl rfl (x_fa rfl Tryd.underlying64 rfl Tryd.sizeOf3 18 rfl) ?_
  refine st rfl rfl rfl rfl (x_ld rfl Tryd.isAgg3 K.cN) ?_
  refine st rfl rfl rfl rfl ((x_gtr rfl rfl).b1 (by have := K.pp; omega)) ?_
  refine st rfl rfl rfl rfl (x_pick1 rfl rfl) ?_
  refine st rfl rfl rfl rfl (x_asg rfl) ?_
  refine rl_end rfl ?_
  refine al_k ?_
  refine cl_ret rfl ?_
  refine fin1 rfl rfl ?_
  exact ⟨rfl, rfl⟩

theorem name_a (w : World) (k : AK) (x : Ar) (K : ArAt w k x) (n : Int) (h0 : 0 ≤ n) (s : Sl) (hs : x.slots[n.toNat]? = some s) : Cl Tryd.prog 30 [.pointer (some ⟨k.ap, 0, none⟩), .int .i64 n] w (fun v w' => v = .agg [.int .i64 n, .int .u64 s.gen].toArray ∧ Fr [] w w') := by
  have F := Fr.refl [] w
  refine enter Tryd.func30 rfl Tryd.ntmps30 rfl ?_
  refine cl_seq rfl ?_
  refine cl_reg rfl ?_
  refine se rfl rfl rfl rfl (e_new (x_alloc Tryd.zeroValue33 rfl)) ?_
  rintro _ w0_0 ⟨rfl, b0_0, fr0_0, sz0_0⟩
  replace F := F.trans fr0_0
  replace K := K.fr0 fr0_0
  refine rl_end rfl ?_
  refine al_k ?_
  refine cl_seq rfl ?_
  refine cl_reg rfl ?_
  refine st rfl rfl rfl rfl (x_move rfl) ?_
  refine st rfl rfl rfl rfl (x_move rfl) ?_
  refine st rfl rfl rfl rfl (x_nil rfl) ?_
  refine st rfl rfl rfl rfl (x_fa rfl Tryd.underlying64 rfl Tryd.sizeOf60 0 rfl) ?_
  refine st rfl rfl rfl rfl (x_ld rfl Tryd.isAgg60 (K.cS1 (ne_of_at hs))) ?_
  refine st rfl rfl rfl rfl (x_move rfl) ?_
  refine st rfl rfl rfl rfl (x_ia0 rfl rfl Tryd.underlying60 Tryd.sizeOf68 (by have := (List.getElem?_eq_some_iff.1 hs).1; omega)) ?_
  refine st rfl rfl rfl rfl (x_fa rfl Tryd.underlying68 rfl Tryd.sizeOf31 1 rfl) ?_
  refine st rfl rfl rfl rfl (x_ld rfl Tryd.isAgg31 (K.cSl hs rfl)) ?_
  refine st rfl rfl rfl rfl (x_build rfl (bldN _ _ _)) ?_
  refine sv rfl rfl rfl (v_n (vs := [.int .i64 n, .int .u64 s.gen]) rfl rfl (by intro v hv; simp at hv; rcases hv with rfl | rfl <;> rfl) Tryd.sizeOf33 rfl b0_0 (by decide)) ?_
  rintro w2 ⟨b2, fr2⟩
  replace F := F.trans_new fr2 (by intro q hq; simp at hq; subst hq; exact .inr (Nat.le_refl _))
  replace b2 : Blk w2 _ 33 [.int .i64 n, .int .u64 s.gen] := b2
  refine rl_end rfl ?_
  refine al_k ?_
  refine cl_ret rfl ?_
  refine fin_c rfl rfl (run_ldv Tryd.isAgg33 Tryd.sizeOf33 rfl b2) ?_
  exact ⟨rfl, F⟩

theorem find_neg (w : World) (k : AK) (x : Ar) (K : ArAt w k x) (n g : Int) (h0 : n < 0) : Cl Tryd.prog 31 [.pointer (some ⟨k.ap, 0, none⟩), .agg [.int .i64 n, .int .u64 g].toArray] w (fun v w' => v = .pointer none ∧ Fr [] w w') := by
  have F := Fr.refl [] w
  refine enter Tryd.func31 rfl Tryd.ntmps31 rfl ?_
  refine cl_seq rfl ?_
  refine cl_reg rfl ?_
  refine se rfl rfl rfl rfl (e_new (x_box (cs := [.int .i64 n, .int .u64 g]) rfl rfl)) ?_
  rintro _ w0 ⟨rfl, b0, fr, _⟩
  replace F := F.trans fr
  replace K := K.fr0 fr
  generalize hbq : w.heap.size = bq at b0 ⊢
  refine st rfl rfl rfl rfl (x_asg rfl) ?_
  refine rl_end rfl ?_
  refine al_k ?_
  refine cl_seq rfl ?_
  refine cl_seq rfl ?_
  refine cl_draw (by kernel_rfl) rfl [] (fun w' => ArAt w' k x ∧ Blk w' bq 33 [.int .i64 n, .int .u64 g]) ?_
  rintro wd1 fr hpd
  replace F := F.trans fr
  replace K := K.fr0 fr
  replace b0 := b0.fr0 fr
  refine ⟨⟨K, b0⟩, ?_⟩
  refine dt (i := 0) rfl rfl rfl rfl (by kernel_rfl) (fun _ => x_fa rfl Tryd.underlying33 rfl Tryd.sizeOf3 0 rfl) ?_
  refine dl (i := 1) rfl rfl rfl rfl (by kernel_rfl) (by kernel_rfl) (fun w' hU => x_ld rfl Tryd.isAgg3 (hU.2.cell rfl)) ?_
  refine dt (i := 2) rfl rfl rfl rfl (by kernel_rfl) (fun _ => (x_lss rfl rfl).b1 (by omega)) ?_
  refine dt (i := 3) rfl rfl rfl rfl (by kernel_rfl) (fun _ => x_move rfl) ?_
  refine dz (i := 4) rfl rfl rfl rfl (by kernel_rfl) ?_
  refine dz (i := 5) rfl rfl rfl rfl (by kernel_rfl) ?_
  refine dz (i := 6) rfl rfl rfl rfl (by kernel_rfl) ?_
  refine dz (i := 7) rfl rfl rfl rfl (by kernel_rfl) ?_
  refine dz (i := 8) rfl rfl rfl rfl (by kernel_rfl) ?_
  refine dz (i := 9) rfl rfl rfl rfl (by kernel_rfl) ?_
  refine dz (i := 10) rfl rfl rfl rfl (by kernel_rfl) ?_
  refine dz (i := 11) rfl rfl rfl rfl (by kernel_rfl) ?_
  refine dt (i := 12) rfl rfl rfl rfl (by kernel_rfl) (fun _ => x_pick1 rfl rfl) ?_
  refine dt (i := 13) rfl rfl rfl rfl (by kernel_rfl) (fun _ => x_move rfl) ?_
  refine dz (i := 14) rfl rfl rfl rfl (by kernel_rfl) ?_
  refine dz (i := 15) rfl rfl rfl rfl (by kernel_rfl) ?_
  refine dz (i := 16) rfl rfl rfl rfl (by kernel_rfl) ?_
  refine dz (i := 17) rfl rfl rfl rfl (by kernel_rfl) ?_
  refine dz (i := 18) rfl rfl rfl rfl (by kernel_rfl) ?_
  refine dz (i := 19) rfl rfl rfl rfl (by kernel_rfl) ?_
  refine dz (i := 20) rfl rfl rfl rfl (by kernel_rfl) ?_
  refine dz (i := 21) rfl rfl rfl rfl (by kernel_rfl) ?_
  refine dz (i := 22) rfl rfl rfl rfl (by kernel_rfl) ?_
  refine dz (i := 23) rfl rfl rfl rfl (by kernel_rfl) ?_
  refine dt (i := 24) rfl rfl rfl rfl (by kernel_rfl) (fun _ => x_pick1 rfl rfl) ?_
  refine dt (i := 25) rfl rfl rfl rfl (by kernel_rfl) (fun _ => x_move rfl) ?_
  refine dz (i := 26) rfl rfl rfl rfl (by kernel_rfl) ?_
  refine dz (i := 27) rfl rfl rfl rfl (by kernel_rfl) ?_
  refine dz (i := 28) rfl rfl rfl rfl (by kernel_rfl) ?_
  refine dz (i := 29) rfl rfl rfl rfl (by kernel_rfl) ?_
  refine dz (i := 30) rfl rfl rfl rfl (by kernel_rfl) ?_
  refine dz (i := 31) rfl rfl rfl rfl (by kernel_rfl) ?_
  refine dt (i := 32) rfl rfl rfl rfl (by kernel_rfl) (fun _ => x_pick1 rfl rfl) ?_
  refine dn (by kernel_rfl) ?_
  refine al_k ?_
  refine cl_if1 rfl rfl ?_
  refine cl_seq rfl ?_
  refine cl_reg rfl ?_
  refine st rfl rfl rfl rfl (x_asg rfl) ?_
  refine rl_end rfl ?_
  refine al_k ?_
  refine cl_ret rfl ?_
  refine fin1 rfl rfl ?_
  exact ⟨rfl, F⟩

theorem find_out (w : World) (k : AK) (x : Ar) (K : ArAt w k x) (n g : Int) (h0 : 0 ≤ n) (h1 : (x.slots.length : Int) ≤ n) : Cl Tryd.prog 31 [.pointer (some ⟨k.ap, 0, none⟩), .agg [.int .i64 n, .int .u64 g].toArray] w (fun v w' => v = .pointer none ∧ Fr [] w w') := by
  have F := Fr.refl [] w
  refine enter Tryd.func31 rfl Tryd.ntmps31 rfl ?_
  refine cl_seq rfl ?_
  refine cl_reg rfl ?_
  refine se rfl rfl rfl rfl (e_new (x_box (cs := [.int .i64 n, .int .u64 g]) rfl rfl)) ?_
  rintro _ w0 ⟨rfl, b0, fr, _⟩
  replace F := F.trans fr
  replace K := K.fr0 fr
  generalize hbq : w.heap.size = bq at b0 ⊢
  refine st rfl rfl rfl rfl (x_asg rfl) ?_
  refine rl_end rfl ?_
  refine al_k ?_
  refine cl_seq rfl ?_
  refine cl_seq rfl ?_
  refine cl_draw (by kernel_rfl) rfl [] (fun w' => ArAt w' k x ∧ Blk w' bq 33 [.int .i64 n, .int .u64 g]) ?_
  rintro wd1 fr hpd
  replace F := F.trans fr
  replace K := K.fr0 fr
  replace b0 := b0.fr0 fr
  refine ⟨⟨K, b0⟩, ?_⟩
  refine dt (i := 0) rfl rfl rfl rfl (by kernel_rfl) (fun _ => x_fa rfl Tryd.underlying33 rfl Tryd.sizeOf3 0 rfl) ?_
  refine dl (i := 1) rfl rfl rfl rfl (by kernel_rfl) (by kernel_rfl) (fun w' hU => x_ld rfl Tryd.isAgg3 (hU.2.cell rfl)) ?_
  refine dt (i := 2) rfl rfl rfl rfl (by kernel_rfl) (fun _ => (x_lss rfl rfl).b0 (by omega)) ?_
  refine dt (i := 3) rfl rfl rfl rfl (by kernel_rfl) (fun _ => x_move rfl) ?_
  refine dt (i := 4) rfl rfl rfl rfl (by kernel_rfl) (fun _ => x_fa rfl Tryd.underlying33 rfl Tryd.sizeOf3 0 rfl) ?_
  refine dl (i := 5) rfl rfl rfl rfl (by kernel_rfl) (by kernel_rfl) (fun w' hU => x_ld rfl Tryd.isAgg3 (hU.2.cell rfl)) ?_
  refine dt (i := 6) rfl rfl rfl rfl (by kernel_rfl) (fun _ => x_move rfl) ?_
  refine dt (i := 7) rfl rfl rfl rfl (by kernel_rfl) (fun _ => x_nil rfl) ?_
  refine dt (i := 8) rfl rfl rfl rfl (by kernel_rfl) (fun _ => x_fa rfl Tryd.underlying64 rfl Tryd.sizeOf60 0 rfl) ?_
  refine dl (i := 9) rfl rfl rfl rfl (by kernel_rfl) (by kernel_rfl) (fun w' hU => x_ld rfl Tryd.isAgg60 hU.1.cS) ?_
  refine dt (i := 10) rfl rfl rfl rfl (by kernel_rfl) (fun _ => x_len rfl Tryd.underlying60) ?_
  refine dt (i := 11) rfl rfl rfl rfl (by kernel_rfl) (fun _ => (x_geq rfl rfl).b1 (by omega)) ?_
  refine dt (i := 12) rfl rfl rfl rfl (by kernel_rfl) (fun _ => x_pick0 rfl rfl) ?_
  refine dt (i := 13) rfl rfl rfl rfl (by kernel_rfl) (fun _ => x_move rfl) ?_
  refine dz (i := 14) rfl rfl rfl rfl (by kernel_rfl) ?_
  refine dz (i := 15) rfl rfl rfl rfl (by kernel_rfl) ?_
  refine dz (i := 16) rfl rfl rfl rfl (by kernel_rfl) ?_
  refine dz (i := 17) rfl rfl rfl rfl (by kernel_rfl) ?_
  refine dz (i := 18) rfl rfl rfl rfl (by kernel_rfl) ?_
  refine dz (i := 19) rfl rfl rfl rfl (by kernel_rfl) ?_
  refine dz (i := 20) rfl rfl rfl rfl (by kernel_rfl) ?_
  refine dz (i := 21) rfl rfl rfl rfl (by kernel_rfl) ?_
  refine dz (i := 22) rfl rfl rfl rfl (by kernel_rfl) ?_
  refine dz (i := 23) rfl rfl rfl rfl (by kernel_rfl) ?_
  refine dt (i := 24) rfl rfl rfl rfl (by kernel_rfl) (fun _ => x_pick1 rfl rfl) ?_
  refine dt (i := 25) rfl rfl rfl rfl (by kernel_rfl) (fun _ => x_move rfl) ?_
  refine dz (i := 26) rfl rfl rfl rfl (by kernel_rfl) ?_
  refine dz (i := 27) rfl rfl rfl rfl (by kernel_rfl) ?_
  refine dz (i := 28) rfl rfl rfl rfl (by kernel_rfl) ?_
  refine dz (i := 29) rfl rfl rfl rfl (by kernel_rfl) ?_
  refine dz (i := 30) rfl rfl rfl rfl (by kernel_rfl) ?_
  refine dz (i := 31) rfl rfl rfl rfl (by kernel_rfl) ?_
  refine dt (i := 32) rfl rfl rfl rfl (by kernel_rfl) (fun _ => x_pick1 rfl rfl) ?_
  refine dn (by kernel_rfl) ?_
  refine al_k ?_
  refine cl_if1 rfl rfl ?_
  refine cl_seq rfl ?_
  refine cl_reg rfl ?_
  refine st rfl rfl rfl rfl (x_asg rfl) ?_
  refine rl_end rfl ?_
  refine al_k ?_
  refine cl_ret rfl ?_
  refine fin1 rfl rfl ?_
  exact ⟨rfl, F⟩

theorem find_free (w : World) (k : AK) (x : Ar) (K : ArAt w k x) (n g : Int) (h0 : 0 ≤ n) (s : Sl) (hs : x.slots[n.toNat]? = some s) (hh : s.held = false) : Cl Tryd.prog 31 [.pointer (some ⟨k.ap, 0, none⟩), .agg [.int .i64 n, .int .u64 g].toArray] w (fun v w' => v = .pointer none ∧ Fr [] w w') := by
  have F := Fr.refl [] w
  refine enter Tryd.func31 rfl Tryd.ntmps31 rfl ?_
  refine cl_seq rfl ?_
  refine cl_reg rfl ?_
  refine se rfl rfl rfl rfl (e_new (x_box (cs := [.int .i64 n, .int .u64 g]) rfl rfl)) ?_
  rintro _ w0 ⟨rfl, b0, fr, _⟩
  replace F := F.trans fr
  replace K := K.fr0 fr
  generalize hbq : w.heap.size = bq at b0 ⊢
  refine st rfl rfl rfl rfl (x_asg rfl) ?_
  refine rl_end rfl ?_
  refine al_k ?_
  refine cl_seq rfl ?_
  refine cl_seq rfl ?_
  refine cl_draw (by kernel_rfl) rfl [] (fun w' => ArAt w' k x ∧ Blk w' bq 33 [.int .i64 n, .int .u64 g]) ?_
  rintro wd1 fr hpd
  replace F := F.trans fr
  replace K := K.fr0 fr
  replace b0 := b0.fr0 fr
  refine ⟨⟨K, b0⟩, ?_⟩
  refine dt (i := 0) rfl rfl rfl rfl (by kernel_rfl) (fun _ => x_fa rfl Tryd.underlying33 rfl Tryd.sizeOf3 0 rfl) ?_
  refine dl (i := 1) rfl rfl rfl rfl (by kernel_rfl) (by kernel_rfl) (fun w' hU => x_ld rfl Tryd.isAgg3 (hU.2.cell rfl)) ?_
  refine dt (i := 2) rfl rfl rfl rfl (by kernel_rfl) (fun _ => (x_lss rfl rfl).b0 (by omega)) ?_
  refine dt (i := 3) rfl rfl rfl rfl (by kernel_rfl) (fun _ => x_move rfl) ?_
  refine dt (i := 4) rfl rfl rfl rfl (by kernel_rfl) (fun _ => x_fa rfl Tryd.underlying33 rfl Tryd.sizeOf3 0 rfl) ?_
  refine dl (i := 5) rfl rfl rfl rfl (by kernel_rfl) (by kernel_rfl) (fun w' hU => x_ld rfl Tryd.isAgg3 (hU.2.cell rfl)) ?_
  refine dt (i := 6) rfl rfl rfl rfl (by kernel_rfl) (fun _ => x_move rfl) ?_
  refine dt (i := 7) rfl rfl rfl rfl (by kernel_rfl) (fun _ => x_nil rfl) ?_
  refine dt (i := 8) rfl rfl rfl rfl (by kernel_rfl) (fun _ => x_fa rfl Tryd.underlying64 rfl Tryd.sizeOf60 0 rfl) ?_
  refine dl (i := 9) rfl rfl rfl rfl (by kernel_rfl) (by kernel_rfl) (fun w' hU => x_ld rfl Tryd.isAgg60 hU.1.cS) ?_
  refine dt (i := 10) rfl rfl rfl rfl (by kernel_rfl) (fun _ => x_len rfl Tryd.underlying60) ?_
  refine dt (i := 11) rfl rfl rfl rfl (by kernel_rfl) (fun _ => (x_geq rfl rfl).b0 (by have := (List.getElem?_eq_some_iff.1 hs).1; omega)) ?_
  refine dt (i := 12) rfl rfl rfl rfl (by kernel_rfl) (fun _ => x_pick0 rfl rfl) ?_
  refine dt (i := 13) rfl rfl rfl rfl (by kernel_rfl) (fun _ => x_move rfl) ?_
  refine dt (i := 14) rfl rfl rfl rfl (by kernel_rfl) (fun _ => x_move rfl) ?_
  refine dt (i := 15) rfl rfl rfl rfl (by kernel_rfl) (fun _ => x_nil rfl) ?_
  refine dt (i := 16) rfl rfl rfl rfl (by kernel_rfl) (fun _ => x_fa rfl Tryd.underlying64 rfl Tryd.sizeOf60 0 rfl) ?_
  refine dl (i := 17) rfl rfl rfl rfl (by kernel_rfl) (by kernel_rfl) (fun w' hU => x_ld rfl Tryd.isAgg60 (hU.1.cS1 (ne_of_at hs))) ?_
  refine dt (i := 18) rfl rfl rfl rfl (by kernel_rfl) (fun _ => x_fa rfl Tryd.underlying33 rfl Tryd.sizeOf3 0 rfl) ?_
  refine dl (i := 19) rfl rfl rfl rfl (by kernel_rfl) (by kernel_rfl) (fun w' hU => x_ld rfl Tryd.isAgg3 (hU.2.cell rfl)) ?_
  refine dt (i := 20) rfl rfl rfl rfl (by kernel_rfl) (fun _ => x_ia0 rfl rfl Tryd.underlying60 Tryd.sizeOf68 (by have := (List.getElem?_eq_some_iff.1 hs).1; omega)) ?_
  refine dt (i := 21) rfl rfl rfl rfl (by kernel_rfl) (fun _ => x_fa rfl Tryd.underlying68 rfl Tryd.sizeOf4 3 rfl) ?_
  refine dl (i := 22) rfl rfl rfl rfl (by kernel_rfl) (by kernel_rfl) (fun w' hU => x_ld rfl Tryd.isAgg4 (hU.1.cSl hs (j := 3) (v := .bool false) (by simp [encS, hh]))) ?_
  refine dt (i := 23) rfl rfl rfl rfl (by kernel_rfl) (fun _ => x_not0 rfl) ?_
  refine dt (i := 24) rfl rfl rfl rfl (by kernel_rfl) (fun _ => x_pick0 rfl rfl) ?_
  refine dt (i := 25) rfl rfl rfl rfl (by kernel_rfl) (fun _ => x_move rfl) ?_
  refine dz (i := 26) rfl rfl rfl rfl (by kernel_rfl) ?_
  refine dz (i := 27) rfl rfl rfl rfl (by kernel_rfl) ?_
  refine dz (i := 28) rfl rfl rfl rfl (by kernel_rfl) ?_
  refine dz (i := 29) rfl rfl rfl rfl (by kernel_rfl) ?_
  refine dz (i := 30) rfl rfl rfl rfl (by kernel_rfl) ?_
  refine dz (i := 31) rfl rfl rfl rfl (by kernel_rfl) ?_
  refine dt (i := 32) rfl rfl rfl rfl (by kernel_rfl) (fun _ => x_pick1 rfl rfl) ?_
  refine dn (by kernel_rfl) ?_
  refine al_k ?_
  refine cl_if1 rfl rfl ?_
  refine cl_seq rfl ?_
  refine cl_reg rfl ?_
  refine st rfl rfl rfl rfl (x_asg rfl) ?_
  refine rl_end rfl ?_
  refine al_k ?_
  refine cl_ret rfl ?_
  refine fin1 rfl rfl ?_
  exact ⟨rfl, F⟩

theorem find_gen (w : World) (k : AK) (x : Ar) (K : ArAt w k x) (n g : Int) (h0 : 0 ≤ n) (s : Sl) (hs : x.slots[n.toNat]? = some s) (hh : s.held = true) (hg : ¬ s.gen = g) : Cl Tryd.prog 31 [.pointer (some ⟨k.ap, 0, none⟩), .agg [.int .i64 n, .int .u64 g].toArray] w (fun v w' => v = .pointer none ∧ Fr [] w w') := by
  have F := Fr.refl [] w
  refine enter Tryd.func31 rfl Tryd.ntmps31 rfl ?_
  refine cl_seq rfl ?_
  refine cl_reg rfl ?_
  refine se rfl rfl rfl rfl (e_new (x_box (cs := [.int .i64 n, .int .u64 g]) rfl rfl)) ?_
  rintro _ w0 ⟨rfl, b0, fr, _⟩
  replace F := F.trans fr
  replace K := K.fr0 fr
  generalize hbq : w.heap.size = bq at b0 ⊢
  refine st rfl rfl rfl rfl (x_asg rfl) ?_
  refine rl_end rfl ?_
  refine al_k ?_
  refine cl_seq rfl ?_
  refine cl_seq rfl ?_
  refine cl_draw (by kernel_rfl) rfl [] (fun w' => ArAt w' k x ∧ Blk w' bq 33 [.int .i64 n, .int .u64 g]) ?_
  rintro wd1 fr hpd
  replace F := F.trans fr
  replace K := K.fr0 fr
  replace b0 := b0.fr0 fr
  refine ⟨⟨K, b0⟩, ?_⟩
  refine dt (i := 0) rfl rfl rfl rfl (by kernel_rfl) (fun _ => x_fa rfl Tryd.underlying33 rfl Tryd.sizeOf3 0 rfl) ?_
  refine dl (i := 1) rfl rfl rfl rfl (by kernel_rfl) (by kernel_rfl) (fun w' hU => x_ld rfl Tryd.isAgg3 (hU.2.cell rfl)) ?_
  refine dt (i := 2) rfl rfl rfl rfl (by kernel_rfl) (fun _ => (x_lss rfl rfl).b0 (by omega)) ?_
  refine dt (i := 3) rfl rfl rfl rfl (by kernel_rfl) (fun _ => x_move rfl) ?_
  refine dt (i := 4) rfl rfl rfl rfl (by kernel_rfl) (fun _ => x_fa rfl Tryd.underlying33 rfl Tryd.sizeOf3 0 rfl) ?_
  refine dl (i := 5) rfl rfl rfl rfl (by kernel_rfl) (by kernel_rfl) (fun w' hU => x_ld rfl Tryd.isAgg3 (hU.2.cell rfl)) ?_
  refine dt (i := 6) rfl rfl rfl rfl (by kernel_rfl) (fun _ => x_move rfl) ?_
  refine dt (i := 7) rfl rfl rfl rfl (by kernel_rfl) (fun _ => x_nil rfl) ?_
  refine dt (i := 8) rfl rfl rfl rfl (by kernel_rfl) (fun _ => x_fa rfl Tryd.underlying64 rfl Tryd.sizeOf60 0 rfl) ?_
  refine dl (i := 9) rfl rfl rfl rfl (by kernel_rfl) (by kernel_rfl) (fun w' hU => x_ld rfl Tryd.isAgg60 hU.1.cS) ?_
  refine dt (i := 10) rfl rfl rfl rfl (by kernel_rfl) (fun _ => x_len rfl Tryd.underlying60) ?_
  refine dt (i := 11) rfl rfl rfl rfl (by kernel_rfl) (fun _ => (x_geq rfl rfl).b0 (by have := (List.getElem?_eq_some_iff.1 hs).1; omega)) ?_
  refine dt (i := 12) rfl rfl rfl rfl (by kernel_rfl) (fun _ => x_pick0 rfl rfl) ?_
  refine dt (i := 13) rfl rfl rfl rfl (by kernel_rfl) (fun _ => x_move rfl) ?_
  refine dt (i := 14) rfl rfl rfl rfl (by kernel_rfl) (fun _ => x_move rfl) ?_
  refine dt (i := 15) rfl rfl rfl rfl (by kernel_rfl) (fun _ => x_nil rfl) ?_
  refine dt (i := 16) rfl rfl rfl rfl (by kernel_rfl) (fun _ => x_fa rfl Tryd.underlying64 rfl Tryd.sizeOf60 0 rfl) ?_
  refine dl (i := 17) rfl rfl rfl rfl (by kernel_rfl) (by kernel_rfl) (fun w' hU => x_ld rfl Tryd.isAgg60 (hU.1.cS1 (ne_of_at hs))) ?_
  refine dt (i := 18) rfl rfl rfl rfl (by kernel_rfl) (fun _ => x_fa rfl Tryd.underlying33 rfl Tryd.sizeOf3 0 rfl) ?_
  refine dl (i := 19) rfl rfl rfl rfl (by kernel_rfl) (by kernel_rfl) (fun w' hU => x_ld rfl Tryd.isAgg3 (hU.2.cell rfl)) ?_
  refine dt (i := 20) rfl rfl rfl rfl (by kernel_rfl) (fun _ => x_ia0 rfl rfl Tryd.underlying60 Tryd.sizeOf68 (by have := (List.getElem?_eq_some_iff.1 hs).1; omega)) ?_
  refine dt (i := 21) rfl rfl rfl rfl (by kernel_rfl) (fun _ => x_fa rfl Tryd.underlying68 rfl Tryd.sizeOf4 3 rfl) ?_
  refine dl (i := 22) rfl rfl rfl rfl (by kernel_rfl) (by kernel_rfl) (fun w' hU => x_ld rfl Tryd.isAgg4 (hU.1.cSl hs (j := 3) (v := .bool true) (by simp [encS, hh]))) ?_
  refine dt (i := 23) rfl rfl rfl rfl (by kernel_rfl) (fun _ => x_not1 rfl) ?_
  refine dt (i := 24) rfl rfl rfl rfl (by kernel_rfl) (fun _ => x_pick0 rfl rfl) ?_
  refine dt (i := 25) rfl rfl rfl rfl (by kernel_rfl) (fun _ => x_move rfl) ?_
  refine dt (i := 26) rfl rfl rfl rfl (by kernel_rfl) (fun _ => x_move rfl) ?_
  refine dt (i := 27) rfl rfl rfl rfl (by kernel_rfl) (fun _ => x_fa rfl Tryd.underlying33 rfl Tryd.sizeOf3 0 rfl) ?_
  refine dl (i := 28) rfl rfl rfl rfl (by kernel_rfl) (by kernel_rfl) (fun w' hU => x_ld rfl Tryd.isAgg3 (hU.2.cell rfl)) ?_
  refine dl (i := 30) rfl rfl rfl rfl (by kernel_rfl) (by kernel_rfl) (fun w' hU => x_ldn rfl Tryd.isAgg33 Tryd.sizeOf33 rfl (by intro j v hv; rw [Nat.zero_add]; exact hU.2.cell hv)) ?_
  refine d1 (i := 29) (by kernel_rfl) ?_
  refine oc rfl rfl rfl rfl (c_fn rfl Tryd.call30 (name_a _ k x K n (by omega) s hs)) ?_
  rintro _ w29 ⟨rfl, fr⟩
  replace F := F.trans fr
  replace K := K.fr0 fr
  replace b0 := b0.fr0 fr
  refine ⟨.inr ⟨K, b0⟩, ?_⟩
  refine dt (i := 31) rfl rfl rfl rfl (by kernel_rfl) (fun _ => (x_eqs rfl rfl (egN _ _ _ _ _ _ _ _) (neN _ _ _ _ _)).b1 (fun h => hg h.2)) ?_
  refine dt (i := 32) rfl rfl rfl rfl (by kernel_rfl) (fun _ => x_pick0 rfl rfl) ?_
  refine dn (by kernel_rfl) ?_
  refine al_k ?_
  refine cl_if1 rfl rfl ?_
  refine cl_seq rfl ?_
  refine cl_reg rfl ?_
  refine st rfl rfl rfl rfl (x_asg rfl) ?_
  refine rl_end rfl ?_
  refine al_k ?_
  refine cl_ret rfl ?_
  refine fin1 rfl rfl ?_
  exact ⟨rfl, F⟩

theorem find_y (w : World) (k : AK) (x : Ar) (K : ArAt w k x) (n g : Int) (h0 : 0 ≤ n) (s : Sl) (hs : x.slots[n.toNat]? = some s) (hh : s.held = true) (hg : s.gen = g) : Cl Tryd.prog 31 [.pointer (some ⟨k.ap, 0, none⟩), .agg [.int .i64 n, .int .u64 g].toArray] w (fun v w' => v = .pointer (some ⟨k.sb, n.toNat * 4, none⟩) ∧ Fr [] w w') := by
  have F := Fr.refl [] w
  refine enter Tryd.func31 rfl Tryd.ntmps31 rfl ?_
  refine cl_seq rfl ?_
  refine cl_reg rfl ?_
  refine se rfl rfl rfl rfl (e_new (x_box (cs := [.int .i64 n, .int .u64 g]) rfl rfl)) ?_
  rintro _ w0 ⟨rfl, b0, fr, _⟩
  replace F := F.trans fr
  replace K := K.fr0 fr
  generalize hbq : w.heap.size = bq at b0 ⊢
  refine st rfl rfl rfl rfl (x_asg rfl) ?_
  refine rl_end rfl ?_
  refine al_k ?_
  refine cl_seq rfl ?_
  refine cl_seq rfl ?_
  refine cl_draw (by kernel_rfl) rfl [] (fun w' => ArAt w' k x ∧ Blk w' bq 33 [.int .i64 n, .int .u64 g]) ?_
  rintro wd1 fr hpd
  replace F := F.trans fr
  replace K := K.fr0 fr
  replace b0 := b0.fr0 fr
  refine ⟨⟨K, b0⟩, ?_⟩
  refine dt (i := 0) rfl rfl rfl rfl (by kernel_rfl) (fun _ => x_fa rfl Tryd.underlying33 rfl Tryd.sizeOf3 0 rfl) ?_
  refine dl (i := 1) rfl rfl rfl rfl (by kernel_rfl) (by kernel_rfl) (fun w' hU => x_ld rfl Tryd.isAgg3 (hU.2.cell rfl)) ?_
  refine dt (i := 2) rfl rfl rfl rfl (by kernel_rfl) (fun _ => (x_lss rfl rfl).b0 (by omega)) ?_
  refine dt (i := 3) rfl rfl rfl rfl (by kernel_rfl) (fun _ => x_move rfl) ?_
  refine dt (i := 4) rfl rfl rfl rfl (by kernel_rfl) (fun _ => x_fa rfl Tryd.underlying33 rfl Tryd.sizeOf3 0 rfl) ?_
  refine dl (i := 5) rfl rfl rfl rfl (by kernel_rfl) (by kernel_rfl) (fun w' hU => x_ld rfl Tryd.isAgg3 (hU.2.cell rfl)) ?_
  refine dt (i := 6) rfl rfl rfl rfl (by kernel_rfl) (fun _ => x_move rfl) ?_
  refine dt (i := 7) rfl rfl rfl rfl (by kernel_rfl) (fun _ => x_nil rfl) ?_
  refine dt (i := 8) rfl rfl rfl rfl (by kernel_rfl) (fun _ => x_fa rfl Tryd.underlying64 rfl Tryd.sizeOf60 0 rfl) ?_
  refine dl (i := 9) rfl rfl rfl rfl (by kernel_rfl) (by kernel_rfl) (fun w' hU => x_ld rfl Tryd.isAgg60 hU.1.cS) ?_
  refine dt (i := 10) rfl rfl rfl rfl (by kernel_rfl) (fun _ => x_len rfl Tryd.underlying60) ?_
  refine dt (i := 11) rfl rfl rfl rfl (by kernel_rfl) (fun _ => (x_geq rfl rfl).b0 (by have := (List.getElem?_eq_some_iff.1 hs).1; omega)) ?_
  refine dt (i := 12) rfl rfl rfl rfl (by kernel_rfl) (fun _ => x_pick0 rfl rfl) ?_
  refine dt (i := 13) rfl rfl rfl rfl (by kernel_rfl) (fun _ => x_move rfl) ?_
  refine dt (i := 14) rfl rfl rfl rfl (by kernel_rfl) (fun _ => x_move rfl) ?_
  refine dt (i := 15) rfl rfl rfl rfl (by kernel_rfl) (fun _ => x_nil rfl) ?_
  refine dt (i := 16) rfl rfl rfl rfl (by kernel_rfl) (fun _ => x_fa rfl Tryd.underlying64 rfl Tryd.sizeOf60 0 rfl) ?_
  refine dl (i := 17) rfl rfl rfl rfl (by kernel_rfl) (by kernel_rfl) (fun w' hU => x_ld rfl Tryd.isAgg60 (hU.1.cS1 (ne_of_at hs))) ?_
  refine dt (i := 18) rfl rfl rfl rfl (by kernel_rfl) (fun _ => x_fa rfl Tryd.underlying33 rfl Tryd.sizeOf3 0 rfl) ?_
  refine dl (i := 19) rfl rfl rfl rfl (by kernel_rfl) (by kernel_rfl) (fun w' hU => x_ld rfl Tryd.isAgg3 (hU.2.cell rfl)) ?_
  refine dt (i := 20) rfl rfl rfl rfl (by kernel_rfl) (fun _ => x_ia0 rfl rfl Tryd.underlying60 Tryd.sizeOf68 (by have := (List.getElem?_eq_some_iff.1 hs).1; omega)) ?_
  refine dt (i := 21) rfl rfl rfl rfl (by kernel_rfl) (fun _ => x_fa rfl Tryd.underlying68 rfl Tryd.sizeOf4 3 rfl) ?_
  refine dl (i := 22) rfl rfl rfl rfl (by kernel_rfl) (by kernel_rfl) (fun w' hU => x_ld rfl Tryd.isAgg4 (hU.1.cSl hs (j := 3) (v := .bool true) (by simp [encS, hh]))) ?_
  refine dt (i := 23) rfl rfl rfl rfl (by kernel_rfl) (fun _ => x_not1 rfl) ?_
  refine dt (i := 24) rfl rfl rfl rfl (by kernel_rfl) (fun _ => x_pick0 rfl rfl) ?_
  refine dt (i := 25) rfl rfl rfl rfl (by kernel_rfl) (fun _ => x_move rfl) ?_
  refine dt (i := 26) rfl rfl rfl rfl (by kernel_rfl) (fun _ => x_move rfl) ?_
  refine dt (i := 27) rfl rfl rfl rfl (by kernel_rfl) (fun _ => x_fa rfl Tryd.underlying33 rfl Tryd.sizeOf3 0 rfl) ?_
  refine dl (i := 28) rfl rfl rfl rfl (by kernel_rfl) (by kernel_rfl) (fun w' hU => x_ld rfl Tryd.isAgg3 (hU.2.cell rfl)) ?_
  refine dl (i := 30) rfl rfl rfl rfl (by kernel_rfl) (by kernel_rfl) (fun w' hU => x_ldn rfl Tryd.isAgg33 Tryd.sizeOf33 rfl (by intro j v hv; rw [Nat.zero_add]; exact hU.2.cell hv)) ?_
  refine d1 (i := 29) (by kernel_rfl) ?_
  refine oc rfl rfl rfl rfl (c_fn rfl Tryd.call30 (name_a _ k x K n (by omega) s hs)) ?_
  rintro _ w29 ⟨rfl, fr⟩
  replace F := F.trans fr
  replace K := K.fr0 fr
  replace b0 := b0.fr0 fr
  refine ⟨.inr ⟨K, b0⟩, ?_⟩
  refine dt (i := 31) rfl rfl rfl rfl (by kernel_rfl) (fun _ => (x_eqs rfl rfl (egN _ _ _ _ _ _ _ _) (neN _ _ _ _ _)).b0 (fun h => h ⟨rfl, hg⟩)) ?_
  refine dt (i := 32) rfl rfl rfl rfl (by kernel_rfl) (fun _ => x_pick0 rfl rfl) ?_
  refine dn (by kernel_rfl) ?_
  refine al_k ?_
  refine cl_if0 rfl rfl ?_
  refine cl_skip rfl ?_
  refine al_k ?_
  refine cl_seq rfl ?_
  refine cl_draw (by kernel_rfl) rfl [] (fun w' => ArAt w' k x ∧ Blk w' bq 33 [.int .i64 n, .int .u64 g]) ?_
  rintro wd3 fr hpd
  replace F := F.trans fr
  replace K := K.fr0 fr
  replace b0 := b0.fr0 fr
  refine ⟨⟨K, b0⟩, ?_⟩
  refine dt (i := 0) rfl rfl rfl rfl (by kernel_rfl) (fun _ => x_move rfl) ?_
  refine dt (i := 1) rfl rfl rfl rfl (by kernel_rfl) (fun _ => x_nil rfl) ?_
  refine dt (i := 2) rfl rfl rfl rfl (by kernel_rfl) (fun _ => x_fa rfl Tryd.underlying64 rfl Tryd.sizeOf60 0 rfl) ?_
  refine dl (i := 3) rfl rfl rfl rfl (by kernel_rfl) (by kernel_rfl) (fun w' hU => x_ld rfl Tryd.isAgg60 (hU.1.cS1 (ne_of_at hs))) ?_
  refine dt (i := 4) rfl rfl rfl rfl (by kernel_rfl) (fun _ => x_fa rfl Tryd.underlying33 rfl Tryd.sizeOf3 0 rfl) ?_
  refine dl (i := 5) rfl rfl rfl rfl (by kernel_rfl) (by kernel_rfl) (fun w' hU => x_ld rfl Tryd.isAgg3 (hU.2.cell rfl)) ?_
  refine dt (i := 6) rfl rfl rfl rfl (by kernel_rfl) (fun _ => x_ia0 rfl rfl Tryd.underlying60 Tryd.sizeOf68 (by have := (List.getElem?_eq_some_iff.1 hs).1; omega)) ?_
  refine dt (i := 7) rfl rfl rfl rfl (by kernel_rfl) (fun _ => x_asg rfl) ?_
  refine dn (by kernel_rfl) ?_
  refine al_k ?_
  refine cl_ret rfl ?_
  refine fin1 rfl rfl ?_
  exact ⟨rfl, F⟩

theorem find_a (w : World) (k : AK) (x : Ar) (K : ArAt w k x) (n g : Int) : Cl Tryd.prog 31 [.pointer (some ⟨k.ap, 0, none⟩), .agg [.int .i64 n, .int .u64 g].toArray] w (fun v w' => v = .pointer ((x.find n g).map fun _ => ⟨k.sb, n.toNat * 4, none⟩) ∧ Fr [] w w') := by
  unfold Ar.find
  by_cases h0 : 0 ≤ n
  · rw [if_pos h0]
    cases hs : x.slots[n.toNat]? with
    | none => exact find_out w k x K n g h0 (by have := List.getElem?_eq_none_iff.1 hs; omega)
    | some s =>
      dsimp only
      cases hh : s.held with
      | false => exact find_free w k x K n g h0 s hs hh
      | true =>
        by_cases hg : s.gen = g
        · rw [if_pos ⟨rfl, hg⟩]; exact find_y w k x K n g h0 s hs hh hg
        · rw [if_neg (fun h => hg h.2)]; exact find_gen w k x K n g h0 s hs hh hg
  · rw [if_neg h0]; exact find_neg w k x K n g (by omega)

end Go.Proofs.YtjjaijabdfoanaaDoor.Arn
