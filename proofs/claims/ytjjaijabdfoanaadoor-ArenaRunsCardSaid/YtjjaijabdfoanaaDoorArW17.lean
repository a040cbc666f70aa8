/- The walk of one step of both arenas. -/
import Derived.Test.YtjjaijabdfoanaaDoorArW16
set_option linter.unusedVariables false
namespace Go.Proofs.YtjjaijabdfoanaaDoor.Arn
open Go Go.RowKit Go.Proofs.YtjjaijabdfoanaaDoor.Sx Go.Proofs.YtjjaijabdfoanaaDoor.Ls Go.Proofs.YtjjaijabdfoanaaDoor
set_option maxRecDepth 100000

theorem eqN' (a b c d : Int) (w : World) : (binOp .eql 33 (.agg [.int .i64 a, .int .u64 b].toArray) (.agg [.int .i64 c, .int .u64 d].toArray)).run Tryd.prog w = .ok (.bool (decide (a = c ∧ b = d))) w := eqN a b c d w
theorem kfr {w w' : World} {k : AK} {x : Ar} {B0 B : Nat} {r : RK} (K : ArAt w k x) (f : Fr [r.cb, r.fb] w w') (zB : (B0 ≤ r.rp ∧ r.rp < B) ∧ (B0 ≤ r.cb ∧ r.cb < B) ∧ (B0 ≤ r.fb ∧ r.fb < B)) (zb : k.ap < B0 ∧ k.sb < B0 ∧ k.p < B0 ∧ k.nb < B0 ∧ k.hb < B0) : ArAt w' k x :=
  K.frB f (by intro q hq; simp at hq; omega) zb
theorem rfr {w w' : World} {k : AK} {x : Ar} {B0 B : Nat} {r : RK} {qs : List Int} (R : RAt w B0 B r qs x) (f : Fr [k.sb, k.ap, k.nb, k.hb] w w') (zb : k.ap < B0 ∧ k.sb < B0 ∧ k.p < B0 ∧ k.nb < B0 ∧ k.hb < B0) : RAt w' B0 B r qs x :=
  R.frS f (by intro q hq; simp at hq; omega)

theorem step_1 (w0s w : World) (k : AK) (B0 B : Nat) (r : RK) (qs : List Int) (x : Ar) (K : ArAt w k x) (R : RAt w B0 B r qs x) (hS : Sz qs x) (hok : okQ qs) (F : Fr [] w0s w) (zk : w0s.heap.size ≤ k.ap ∧ w0s.heap.size ≤ k.sb ∧ w0s.heap.size ≤ k.p ∧ w0s.heap.size ≤ k.nb ∧ w0s.heap.size ≤ k.hb) (zb : k.ap < B0 ∧ k.sb < B0 ∧ k.p < B0 ∧ k.nb < B0 ∧ k.hb < B0) (kd pt nn gg xx : Int) (h1 : kd = 1) : Cl Tryd.prog 17 [.pointer (some ⟨k.ap, 0, none⟩), .pointer (some ⟨r.rp, 0, none⟩), .agg [.int .i64 kd, .int .i64 pt, .int .i64 nn, .int .u64 gg, .int .u64 xx].toArray] w (fun v w' => v = .bool true ∧ ArAt w' k (x.alloc pt).1 ∧ RAt w' B0 B r qs (x.alloc pt).1 ∧ Sz qs (x.alloc pt).1 ∧ Fr [] w0s w') := by
  have zB := R.zB
  refine enter Tryd.func17 rfl Tryd.ntmps17 rfl ?_
  refine cl_seq rfl ?_
  refine cl_reg rfl ?_
  refine se rfl rfl rfl rfl (e_new (x_box (cs := [.int .i64 kd, .int .i64 pt, .int .i64 nn, .int .u64 gg, .int .u64 xx]) rfl rfl)) ?_
  rintro _ w0 ⟨rfl, b5, fr, _⟩
  have g5 := R.sB
  have l5 := Nat.le_refl w.heap.size
  replace F := F.trans fr
  replace K := K.fr0 fr
  replace R := R.fr0 fr
  clear fr
  generalize hq5 : w.heap.size = bq at b5 g5 l5 ⊢
  refine st rfl rfl rfl rfl (x_asg rfl) ?_
  refine rl_end rfl ?_
  refine al_k ?_
  refine cl_seq rfl ?_
  refine cl_reg rfl ?_
  refine st rfl rfl rfl rfl (x_fa rfl Tryd.underlying35 rfl Tryd.sizeOf3 0 rfl) ?_
  refine st rfl rfl rfl rfl (x_ld rfl Tryd.isAgg3 (b5.cell rfl)) ?_
  refine rl_end rfl ?_
  refine al_k ?_
  refine cl_block rfl ?_
  refine cl_seq rfl ?_
  refine cl_reg rfl ?_
  refine st rfl rfl rfl rfl ((x_eql rfl rfl).b1 h1) ?_
  refine st rfl rfl rfl rfl (x_asg rfl) ?_
  refine rl_end rfl ?_
  refine al_k ?_
  refine cl_if1 rfl rfl ?_
  refine cl_seq rfl ?_
  refine cl_reg rfl ?_
  refine st rfl rfl rfl rfl (x_move rfl) ?_
  refine st rfl rfl rfl rfl (x_fa rfl Tryd.underlying35 rfl Tryd.sizeOf3 1 rfl) ?_
  refine st rfl rfl rfl rfl (x_ld rfl Tryd.isAgg3 (b5.cell rfl)) ?_
  refine sc rfl rfl rfl rfl (c_fn rfl Tryd.call11 (alloc_a K hS.I pt)) ?_
  rintro _ wk ⟨rfl, K, fr⟩
  replace R := rfr R fr zb
  replace b5 := b5.fr fr (by simp; omega)
  replace F := F.trans_new fr (by intro q hq; simp at hq; right; omega)
  clear fr
  refine st rfl rfl rfl rfl (x_move rfl) ?_
  refine st rfl rfl rfl rfl (x_ext rfl rfl) ?_
  refine st rfl rfl rfl rfl (x_ext rfl rfl) ?_
  refine se rfl rfl rfl rfl (e_new (x_alloc Tryd.zeroValue33 rfl)) ?_
  rintro _ wn ⟨rfl, b7, fA, _⟩
  have gb7 := R.sB
  refine sv rfl rfl rfl (v_n (vs := [.int .i64 (x.alloc pt).2.1, .int .u64 (x.alloc pt).2.2.1]) rfl rfl (by intro v hv; simp at hv; rcases hv with rfl | rfl <;> rfl) Tryd.sizeOf33 rfl b7 (by decide)) ?_
  rintro ws ⟨bb2, fr⟩
  replace b7 : Blk ws _ 33 [.int .i64 (x.alloc pt).2.1, .int .u64 (x.alloc pt).2.2.1] := bb2
  have FF := fA.trans_new fr (by intro q hq; simp at hq; subst hq; exact .inr (Nat.le_refl _))
  clear fr fA bb2
  replace F := F.trans FF
  replace K := K.fr0 FF
  replace R := R.fr0 FF
  replace b5 := b5.fr0 FF
  clear FF
  refine st rfl rfl rfl rfl (x_asg rfl) ?_
  refine rl_end rfl ?_
  refine al_k ?_
  refine cl_seq rfl ?_
  refine cl_reg rfl ?_
  refine st rfl rfl rfl rfl (x_move rfl) ?_
  refine st rfl rfl rfl rfl (x_fa rfl Tryd.underlying35 rfl Tryd.sizeOf3 1 rfl) ?_
  refine st rfl rfl rfl rfl (x_ld rfl Tryd.isAgg3 (b5.cell rfl)) ?_
  refine sc rfl rfl rfl rfl (c_fn rfl Tryd.call33 (ralloc_c _ B0 B r qs x R hS hS.hlr pt)) ?_
  rintro _ wr ⟨rfl, R, fr⟩
  replace K := kfr K fr zB zb
  replace b5 := b5.fr fr (by simp; omega)
  replace b7 := b7.fr fr (by simp; omega)
  replace F := F.trans_new fr (by intro q hq; simp at hq; right; omega)
  clear fr
  refine st rfl rfl rfl rfl (x_move rfl) ?_
  refine st rfl rfl rfl rfl (x_ext rfl rfl) ?_
  refine st rfl rfl rfl rfl (x_ext rfl rfl) ?_
  refine se rfl rfl rfl rfl (e_new (x_alloc Tryd.zeroValue33 rfl)) ?_
  rintro _ wn ⟨rfl, b9, fA, _⟩
  have gb9 := R.sB
  refine sv rfl rfl rfl (v_n (vs := [.int .i64 (x.alloc pt).2.1, .int .u64 (x.alloc pt).2.2.1]) rfl rfl (by intro v hv; simp at hv; rcases hv with rfl | rfl <;> rfl) Tryd.sizeOf33 rfl b9 (by decide)) ?_
  rintro ws ⟨bb2, fr⟩
  replace b9 : Blk ws _ 33 [.int .i64 (x.alloc pt).2.1, .int .u64 (x.alloc pt).2.2.1] := bb2
  have FF := fA.trans_new fr (by intro q hq; simp at hq; subst hq; exact .inr (Nat.le_refl _))
  clear fr fA bb2
  replace F := F.trans FF
  replace K := K.fr0 FF
  replace R := R.fr0 FF
  replace b5 := b5.fr0 FF
  replace b7 := b7.fr0 FF
  clear FF
  refine st rfl rfl rfl rfl (x_asg rfl) ?_
  refine rl_end rfl ?_
  refine al_k ?_
  refine cl_seq rfl ?_
  refine cl_reg rfl ?_
  refine st rfl rfl rfl rfl (x_ldn rfl Tryd.isAgg33 Tryd.sizeOf33 rfl (by intro j v hv; rw [Nat.zero_add]; exact b7.cell hv)) ?_
  refine st rfl rfl rfl rfl (x_ldn rfl Tryd.isAgg33 Tryd.sizeOf33 rfl (by intro j v hv; rw [Nat.zero_add]; exact b9.cell hv)) ?_
  refine st rfl rfl rfl rfl ((x_eqs rfl rfl (egN _ _ _ _ _ _ _ _) (eqN _ _ _ _ _)).b1 ⟨rfl, rfl⟩) ?_
  refine st rfl rfl rfl rfl (x_move rfl) ?_
  refine st rfl rfl rfl rfl (x_move rfl) ?_
  refine st rfl rfl rfl rfl (x_move rfl) ?_
  refine st rfl rfl rfl rfl ((x_eql rfl rfl).b1 rfl) ?_
  refine st rfl rfl rfl rfl (x_pick1 rfl rfl) ?_
  refine st rfl rfl rfl rfl (x_asg rfl) ?_
  refine rl_end rfl ?_
  refine al_k ?_
  refine cl_ret rfl ?_
  refine fin1 rfl rfl ?_
  exact ⟨rfl, K, R, hS.alloc pt, F⟩

theorem step_2 (w0s w : World) (k : AK) (B0 B : Nat) (r : RK) (qs : List Int) (x : Ar) (K : ArAt w k x) (R : RAt w B0 B r qs x) (hS : Sz qs x) (hok : okQ qs) (F : Fr [] w0s w) (zk : w0s.heap.size ≤ k.ap ∧ w0s.heap.size ≤ k.sb ∧ w0s.heap.size ≤ k.p ∧ w0s.heap.size ≤ k.nb ∧ w0s.heap.size ≤ k.hb) (zb : k.ap < B0 ∧ k.sb < B0 ∧ k.p < B0 ∧ k.nb < B0 ∧ k.hb < B0) (kd pt nn gg xx : Int) (h1 : ¬ kd = 1) (h2 : kd = 2) : Cl Tryd.prog 17 [.pointer (some ⟨k.ap, 0, none⟩), .pointer (some ⟨r.rp, 0, none⟩), .agg [.int .i64 kd, .int .i64 pt, .int .i64 nn, .int .u64 gg, .int .u64 xx].toArray] w (fun v w' => v = .bool true ∧ ArAt w' k (x.write nn gg xx).1 ∧ RAt w' B0 B r qs (x.write nn gg xx).1 ∧ Sz qs (x.write nn gg xx).1 ∧ Fr [] w0s w') := by
  have zB := R.zB
  refine enter Tryd.func17 rfl Tryd.ntmps17 rfl ?_
  refine cl_seq rfl ?_
  refine cl_reg rfl ?_
  refine se rfl rfl rfl rfl (e_new (x_box (cs := [.int .i64 kd, .int .i64 pt, .int .i64 nn, .int .u64 gg, .int .u64 xx]) rfl rfl)) ?_
  rintro _ w0 ⟨rfl, b5, fr, _⟩
  have g5 := R.sB
  have l5 := Nat.le_refl w.heap.size
  replace F := F.trans fr
  replace K := K.fr0 fr
  replace R := R.fr0 fr
  clear fr
  generalize hq5 : w.heap.size = bq at b5 g5 l5 ⊢
  refine st rfl rfl rfl rfl (x_asg rfl) ?_
  refine rl_end rfl ?_
  refine al_k ?_
  refine cl_seq rfl ?_
  refine cl_reg rfl ?_
  refine st rfl rfl rfl rfl (x_fa rfl Tryd.underlying35 rfl Tryd.sizeOf3 0 rfl) ?_
  refine st rfl rfl rfl rfl (x_ld rfl Tryd.isAgg3 (b5.cell rfl)) ?_
  refine rl_end rfl ?_
  refine al_k ?_
  refine cl_block rfl ?_
  refine cl_seq rfl ?_
  refine cl_reg rfl ?_
  refine st rfl rfl rfl rfl ((x_eql rfl rfl).b0 h1) ?_
  refine st rfl rfl rfl rfl (x_asg rfl) ?_
  refine rl_end rfl ?_
  refine al_k ?_
  refine cl_if0 rfl rfl ?_
  refine cl_seq rfl ?_
  refine cl_reg rfl ?_
  refine st rfl rfl rfl rfl ((x_eql rfl rfl).b1 h2) ?_
  refine st rfl rfl rfl rfl (x_asg rfl) ?_
  refine rl_end rfl ?_
  refine al_k ?_
  refine cl_if1 rfl rfl ?_
  refine cl_seq rfl ?_
  refine cl_draw (by kernel_rfl) rfl [] (fun w' => Blk w' bq 35 [.int .i64 kd, .int .i64 pt, .int .i64 nn, .int .u64 gg, .int .u64 xx]) ?_
  rintro wd fr hpd
  replace F := F.trans fr
  replace K := K.fr0 fr
  replace R := R.fr0 fr
  replace b5 := b5.fr0 fr
  clear fr
  refine ⟨b5, ?_⟩
  refine dt (i := 0) rfl rfl rfl rfl (by kernel_rfl) (fun _ => x_move rfl) ?_
  refine dt (i := 1) rfl rfl rfl rfl (by kernel_rfl) (fun _ => x_fa rfl Tryd.underlying35 rfl Tryd.sizeOf33 2 rfl) ?_
  refine dlt (i := 2) rfl rfl rfl rfl (by kernel_rfl) (by kernel_rfl) (fun w' hU => x_ldn rfl Tryd.isAgg33 Tryd.sizeOf33 rfl (blk_two hU)) ?_
  refine dt (i := 3) rfl rfl rfl rfl (by kernel_rfl) (fun _ => x_fa rfl Tryd.underlying35 rfl Tryd.sizeOf31 4 rfl) ?_
  refine dlt (i := 4) rfl rfl rfl rfl (by kernel_rfl) (by kernel_rfl) (fun w' hU => x_ld rfl Tryd.isAgg31 (hU.cell rfl)) ?_
  refine dt (i := 6) rfl rfl rfl rfl (by kernel_rfl) (fun _ => x_move rfl) ?_
  refine dt (i := 7) rfl rfl rfl rfl (by kernel_rfl) (fun _ => x_fa rfl Tryd.underlying35 rfl Tryd.sizeOf33 2 rfl) ?_
  refine dlt (i := 8) rfl rfl rfl rfl (by kernel_rfl) (by kernel_rfl) (fun w' hU => x_ldn rfl Tryd.isAgg33 Tryd.sizeOf33 rfl (blk_two hU)) ?_
  refine dt (i := 9) rfl rfl rfl rfl (by kernel_rfl) (fun _ => x_fa rfl Tryd.underlying35 rfl Tryd.sizeOf31 4 rfl) ?_
  refine dlt (i := 10) rfl rfl rfl rfl (by kernel_rfl) (by kernel_rfl) (fun w' hU => x_ld rfl Tryd.isAgg31 (hU.cell rfl)) ?_
  refine d1 (i := 5) (by kernel_rfl) ?_
  refine oc rfl rfl rfl rfl (c_fn rfl Tryd.call15 (write_a _ k x K nn gg xx)) ?_
  rintro _ wk ⟨rfl, K, fr⟩
  replace R := rfr R fr zb
  replace b5 := b5.fr fr (by simp; omega)
  replace F := F.trans_new fr (by intro q hq; simp at hq; right; omega)
  clear fr
  refine ⟨.inr b5, ?_⟩
  refine d1 (i := 11) (by kernel_rfl) ?_
  refine oc rfl rfl rfl rfl (c_fn rfl Tryd.call34 (rwrite_c _ B0 B r qs x R nn gg xx)) ?_
  rintro _ wr ⟨rfl, R, fr⟩
  replace K := kfr K fr zB zb
  replace b5 := b5.fr fr (by simp; omega)
  replace F := F.trans_new fr (by intro q hq; simp at hq; right; omega)
  clear fr
  refine ⟨.inr b5, ?_⟩
  refine dt (i := 12) rfl rfl rfl rfl (by kernel_rfl) (fun _ => (x_eql rfl rfl).b1 rfl) ?_
  refine dt (i := 13) rfl rfl rfl rfl (by kernel_rfl) (fun _ => x_asg rfl) ?_
  refine dn (by kernel_rfl) ?_
  refine al_k ?_
  refine cl_ret rfl ?_
  refine fin1 rfl rfl ?_
  exact ⟨rfl, K, R, hS.write nn gg xx, F⟩

theorem step_3 (w0s w : World) (k : AK) (B0 B : Nat) (r : RK) (qs : List Int) (x : Ar) (K : ArAt w k x) (R : RAt w B0 B r qs x) (hS : Sz qs x) (hok : okQ qs) (F : Fr [] w0s w) (zk : w0s.heap.size ≤ k.ap ∧ w0s.heap.size ≤ k.sb ∧ w0s.heap.size ≤ k.p ∧ w0s.heap.size ≤ k.nb ∧ w0s.heap.size ≤ k.hb) (zb : k.ap < B0 ∧ k.sb < B0 ∧ k.p < B0 ∧ k.nb < B0 ∧ k.hb < B0) (kd pt nn gg xx : Int) (h1 : ¬ kd = 1) (h2 : ¬ kd = 2) (h3 : kd = 3) : Cl Tryd.prog 17 [.pointer (some ⟨k.ap, 0, none⟩), .pointer (some ⟨r.rp, 0, none⟩), .agg [.int .i64 kd, .int .i64 pt, .int .i64 nn, .int .u64 gg, .int .u64 xx].toArray] w (fun v w' => v = .bool true ∧ ArAt w' k x ∧ RAt w' B0 B r qs x ∧ Sz qs x ∧ Fr [] w0s w') := by
  have zB := R.zB
  refine enter Tryd.func17 rfl Tryd.ntmps17 rfl ?_
  refine cl_seq rfl ?_
  refine cl_reg rfl ?_
  refine se rfl rfl rfl rfl (e_new (x_box (cs := [.int .i64 kd, .int .i64 pt, .int .i64 nn, .int .u64 gg, .int .u64 xx]) rfl rfl)) ?_
  rintro _ w0 ⟨rfl, b5, fr, _⟩
  have g5 := R.sB
  have l5 := Nat.le_refl w.heap.size
  replace F := F.trans fr
  replace K := K.fr0 fr
  replace R := R.fr0 fr
  clear fr
  generalize hq5 : w.heap.size = bq at b5 g5 l5 ⊢
  refine st rfl rfl rfl rfl (x_asg rfl) ?_
  refine rl_end rfl ?_
  refine al_k ?_
  refine cl_seq rfl ?_
  refine cl_reg rfl ?_
  refine st rfl rfl rfl rfl (x_fa rfl Tryd.underlying35 rfl Tryd.sizeOf3 0 rfl) ?_
  refine st rfl rfl rfl rfl (x_ld rfl Tryd.isAgg3 (b5.cell rfl)) ?_
  refine rl_end rfl ?_
  refine al_k ?_
  refine cl_block rfl ?_
  refine cl_seq rfl ?_
  refine cl_reg rfl ?_
  refine st rfl rfl rfl rfl ((x_eql rfl rfl).b0 h1) ?_
  refine st rfl rfl rfl rfl (x_asg rfl) ?_
  refine rl_end rfl ?_
  refine al_k ?_
  refine cl_if0 rfl rfl ?_
  refine cl_seq rfl ?_
  refine cl_reg rfl ?_
  refine st rfl rfl rfl rfl ((x_eql rfl rfl).b0 h2) ?_
  refine st rfl rfl rfl rfl (x_asg rfl) ?_
  refine rl_end rfl ?_
  refine al_k ?_
  refine cl_if0 rfl rfl ?_
  refine cl_seq rfl ?_
  refine cl_reg rfl ?_
  refine st rfl rfl rfl rfl ((x_eql rfl rfl).b1 h3) ?_
  refine st rfl rfl rfl rfl (x_asg rfl) ?_
  refine rl_end rfl ?_
  refine al_k ?_
  refine cl_if1 rfl rfl ?_
  refine cl_seq rfl ?_
  refine cl_reg rfl ?_
  refine st rfl rfl rfl rfl (x_move rfl) ?_
  refine st rfl rfl rfl rfl (x_fa rfl Tryd.underlying35 rfl Tryd.sizeOf33 2 rfl) ?_
  refine st rfl rfl rfl rfl (x_ldn rfl Tryd.isAgg33 Tryd.sizeOf33 rfl (blk_two b5)) ?_
  refine sc rfl rfl rfl rfl (c_fn rfl Tryd.call13 (read_a _ k x K nn gg)) ?_
  rintro _ wk ⟨rfl, fr⟩
  replace F := F.trans fr
  replace K := K.fr0 fr
  replace R := R.fr0 fr
  replace b5 := b5.fr0 fr
  clear fr
  refine st rfl rfl rfl rfl (x_move rfl) ?_
  refine st rfl rfl rfl rfl (x_ext rfl rfl) ?_
  refine st rfl rfl rfl rfl (x_ext rfl rfl) ?_
  refine st rfl rfl rfl rfl (x_asg rfl) ?_
  refine st rfl rfl rfl rfl (x_asg rfl) ?_
  refine rl_end rfl ?_
  refine al_k ?_
  refine cl_seq rfl ?_
  refine cl_reg rfl ?_
  refine st rfl rfl rfl rfl (x_move rfl) ?_
  refine st rfl rfl rfl rfl (x_fa rfl Tryd.underlying35 rfl Tryd.sizeOf33 2 rfl) ?_
  refine st rfl rfl rfl rfl (x_ldn rfl Tryd.isAgg33 Tryd.sizeOf33 rfl (blk_two b5)) ?_
  refine sc rfl rfl rfl rfl (c_fn rfl Tryd.call35 (rread_c _ B0 B r qs x R nn gg)) ?_
  rintro _ wr ⟨rfl, fr⟩
  replace F := F.trans fr
  replace K := K.fr0 fr
  replace R := R.fr0 fr
  replace b5 := b5.fr0 fr
  clear fr
  refine st rfl rfl rfl rfl (x_move rfl) ?_
  refine st rfl rfl rfl rfl (x_ext rfl rfl) ?_
  refine st rfl rfl rfl rfl (x_ext rfl rfl) ?_
  refine st rfl rfl rfl rfl (x_asg rfl) ?_
  refine st rfl rfl rfl rfl (x_asg rfl) ?_
  refine rl_end rfl ?_
  refine al_k ?_
  refine cl_seq rfl ?_
  refine cl_reg rfl ?_
  refine st rfl rfl rfl rfl (x_move rfl) ?_
  refine st rfl rfl rfl rfl (x_move rfl) ?_
  refine st rfl rfl rfl rfl ((x_eql rfl rfl).b1 rfl) ?_
  refine st rfl rfl rfl rfl (x_move rfl) ?_
  refine st rfl rfl rfl rfl (x_move rfl) ?_
  refine st rfl rfl rfl rfl (x_move rfl) ?_
  refine st rfl rfl rfl rfl ((x_eql rfl rfl).b1 rfl) ?_
  refine st rfl rfl rfl rfl (x_pick1 rfl rfl) ?_
  refine st rfl rfl rfl rfl (x_asg rfl) ?_
  refine rl_end rfl ?_
  refine al_k ?_
  refine cl_ret rfl ?_
  refine fin1 rfl rfl ?_
  exact ⟨rfl, K, R, hS, F⟩

theorem step_4 (w0s w : World) (k : AK) (B0 B : Nat) (r : RK) (qs : List Int) (x : Ar) (K : ArAt w k x) (R : RAt w B0 B r qs x) (hS : Sz qs x) (hok : okQ qs) (F : Fr [] w0s w) (zk : w0s.heap.size ≤ k.ap ∧ w0s.heap.size ≤ k.sb ∧ w0s.heap.size ≤ k.p ∧ w0s.heap.size ≤ k.nb ∧ w0s.heap.size ≤ k.hb) (zb : k.ap < B0 ∧ k.sb < B0 ∧ k.p < B0 ∧ k.nb < B0 ∧ k.hb < B0) (kd pt nn gg xx : Int) (h1 : ¬ kd = 1) (h2 : ¬ kd = 2) (h3 : ¬ kd = 3) (h4 : kd = 4) : Cl Tryd.prog 17 [.pointer (some ⟨k.ap, 0, none⟩), .pointer (some ⟨r.rp, 0, none⟩), .agg [.int .i64 kd, .int .i64 pt, .int .i64 nn, .int .u64 gg, .int .u64 xx].toArray] w (fun v w' => v = .bool true ∧ ArAt w' k (x.drop nn gg).1 ∧ RAt w' B0 B r qs (x.drop nn gg).1 ∧ Sz qs (x.drop nn gg).1 ∧ Fr [] w0s w') := by
  have zB := R.zB
  refine enter Tryd.func17 rfl Tryd.ntmps17 rfl ?_
  refine cl_seq rfl ?_
  refine cl_reg rfl ?_
  refine se rfl rfl rfl rfl (e_new (x_box (cs := [.int .i64 kd, .int .i64 pt, .int .i64 nn, .int .u64 gg, .int .u64 xx]) rfl rfl)) ?_
  rintro _ w0 ⟨rfl, b5, fr, _⟩
  have g5 := R.sB
  have l5 := Nat.le_refl w.heap.size
  replace F := F.trans fr
  replace K := K.fr0 fr
  replace R := R.fr0 fr
  clear fr
  generalize hq5 : w.heap.size = bq at b5 g5 l5 ⊢
  refine st rfl rfl rfl rfl (x_asg rfl) ?_
  refine rl_end rfl ?_
  refine al_k ?_
  refine cl_seq rfl ?_
  refine cl_reg rfl ?_
  refine st rfl rfl rfl rfl (x_fa rfl Tryd.underlying35 rfl Tryd.sizeOf3 0 rfl) ?_
  refine st rfl rfl rfl rfl (x_ld rfl Tryd.isAgg3 (b5.cell rfl)) ?_
  refine rl_end rfl ?_
  refine al_k ?_
  refine cl_block rfl ?_
  refine cl_seq rfl ?_
  refine cl_reg rfl ?_
  refine st rfl rfl rfl rfl ((x_eql rfl rfl).b0 h1) ?_
  refine st rfl rfl rfl rfl (x_asg rfl) ?_
  refine rl_end rfl ?_
  refine al_k ?_
  refine cl_if0 rfl rfl ?_
  refine cl_seq rfl ?_
  refine cl_reg rfl ?_
  refine st rfl rfl rfl rfl ((x_eql rfl rfl).b0 h2) ?_
  refine st rfl rfl rfl rfl (x_asg rfl) ?_
  refine rl_end rfl ?_
  refine al_k ?_
  refine cl_if0 rfl rfl ?_
  refine cl_seq rfl ?_
  refine cl_reg rfl ?_
  refine st rfl rfl rfl rfl ((x_eql rfl rfl).b0 h3) ?_
  refine st rfl rfl rfl rfl (x_asg rfl) ?_
  refine rl_end rfl ?_
  refine al_k ?_
  refine cl_if0 rfl rfl ?_
  refine cl_seq rfl ?_
  refine cl_reg rfl ?_
  refine st rfl rfl rfl rfl ((x_eql rfl rfl).b1 h4) ?_
  refine st rfl rfl rfl rfl (x_asg rfl) ?_
  refine rl_end rfl ?_
  refine al_k ?_
  refine cl_if1 rfl rfl ?_
  refine cl_seq rfl ?_
  refine cl_draw (by kernel_rfl) rfl [] (fun w' => Blk w' bq 35 [.int .i64 kd, .int .i64 pt, .int .i64 nn, .int .u64 gg, .int .u64 xx]) ?_
  rintro wd fr hpd
  replace F := F.trans fr
  replace K := K.fr0 fr
  replace R := R.fr0 fr
  replace b5 := b5.fr0 fr
  clear fr
  refine ⟨b5, ?_⟩
  refine dt (i := 0) rfl rfl rfl rfl (by kernel_rfl) (fun _ => x_move rfl) ?_
  refine dt (i := 1) rfl rfl rfl rfl (by kernel_rfl) (fun _ => x_fa rfl Tryd.underlying35 rfl Tryd.sizeOf33 2 rfl) ?_
  refine dlt (i := 2) rfl rfl rfl rfl (by kernel_rfl) (by kernel_rfl) (fun w' hU => x_ldn rfl Tryd.isAgg33 Tryd.sizeOf33 rfl (blk_two hU)) ?_
  refine dt (i := 4) rfl rfl rfl rfl (by kernel_rfl) (fun _ => x_move rfl) ?_
  refine dt (i := 5) rfl rfl rfl rfl (by kernel_rfl) (fun _ => x_fa rfl Tryd.underlying35 rfl Tryd.sizeOf33 2 rfl) ?_
  refine dlt (i := 6) rfl rfl rfl rfl (by kernel_rfl) (by kernel_rfl) (fun w' hU => x_ldn rfl Tryd.isAgg33 Tryd.sizeOf33 rfl (blk_two hU)) ?_
  refine d1 (i := 3) (by kernel_rfl) ?_
  refine oc rfl rfl rfl rfl (c_fn rfl Tryd.call12 (free_a K hS.I nn gg)) ?_
  rintro _ wk ⟨rfl, K, fr⟩
  replace R := rfr R fr zb
  replace b5 := b5.fr fr (by simp; omega)
  replace F := F.trans_new fr (by intro q hq; simp at hq; right; omega)
  clear fr
  refine ⟨.inr b5, ?_⟩
  refine d1 (i := 7) (by kernel_rfl) ?_
  refine oc rfl rfl rfl rfl (c_fn rfl Tryd.call36 (rdrop_c _ B0 B r qs x R hS hok hS.hlr nn gg)) ?_
  rintro _ wr ⟨rfl, R, fr⟩
  replace K := kfr K fr zB zb
  replace b5 := b5.fr fr (by simp; omega)
  replace F := F.trans_new fr (by intro q hq; simp at hq; right; omega)
  clear fr
  refine ⟨.inr b5, ?_⟩
  refine dt (i := 8) rfl rfl rfl rfl (by kernel_rfl) (fun _ => (x_eql rfl rfl).b1 rfl) ?_
  refine dt (i := 9) rfl rfl rfl rfl (by kernel_rfl) (fun _ => x_asg rfl) ?_
  refine dn (by kernel_rfl) ?_
  refine al_k ?_
  refine cl_ret rfl ?_
  refine fin1 rfl rfl ?_
  exact ⟨rfl, K, R, hS.drop nn gg, F⟩

theorem step_0 (w0s w : World) (k : AK) (B0 B : Nat) (r : RK) (qs : List Int) (x : Ar) (K : ArAt w k x) (R : RAt w B0 B r qs x) (hS : Sz qs x) (hok : okQ qs) (F : Fr [] w0s w) (zk : w0s.heap.size ≤ k.ap ∧ w0s.heap.size ≤ k.sb ∧ w0s.heap.size ≤ k.p ∧ w0s.heap.size ≤ k.nb ∧ w0s.heap.size ≤ k.hb) (zb : k.ap < B0 ∧ k.sb < B0 ∧ k.p < B0 ∧ k.nb < B0 ∧ k.hb < B0) (kd pt nn gg xx : Int) (h1 : ¬ kd = 1) (h2 : ¬ kd = 2) (h3 : ¬ kd = 3) (h4 : ¬ kd = 4) : Cl Tryd.prog 17 [.pointer (some ⟨k.ap, 0, none⟩), .pointer (some ⟨r.rp, 0, none⟩), .agg [.int .i64 kd, .int .i64 pt, .int .i64 nn, .int .u64 gg, .int .u64 xx].toArray] w (fun v w' => v = .bool true ∧ ArAt w' k x ∧ RAt w' B0 B r qs x ∧ Sz qs x ∧ Fr [] w0s w') := by
  have zB := R.zB
  refine enter Tryd.func17 rfl Tryd.ntmps17 rfl ?_
  refine cl_seq rfl ?_
  refine cl_reg rfl ?_
  refine se rfl rfl rfl rfl (e_new (x_box (cs := [.int .i64 kd, .int .i64 pt, .int .i64 nn, .int .u64 gg, .int .u64 xx]) rfl rfl)) ?_
  rintro _ w0 ⟨rfl, b5, fr, _⟩
  have g5 := R.sB
  have l5 := Nat.le_refl w.heap.size
  replace F := F.trans fr
  replace K := K.fr0 fr
  replace R := R.fr0 fr
  clear fr
  generalize hq5 : w.heap.size = bq at b5 g5 l5 ⊢
  refine st rfl rfl rfl rfl (x_asg rfl) ?_
  refine rl_end rfl ?_
  refine al_k ?_
  refine cl_seq rfl ?_
  refine cl_reg rfl ?_
  refine st rfl rfl rfl rfl (x_fa rfl Tryd.underlying35 rfl Tryd.sizeOf3 0 rfl) ?_
  refine st rfl rfl rfl rfl (x_ld rfl Tryd.isAgg3 (b5.cell rfl)) ?_
  refine rl_end rfl ?_
  refine al_k ?_
  refine cl_block rfl ?_
  refine cl_seq rfl ?_
  refine cl_reg rfl ?_
  refine st rfl rfl rfl rfl ((x_eql rfl rfl).b0 h1) ?_
  refine st rfl rfl rfl rfl (x_asg rfl) ?_
  refine rl_end rfl ?_
  refine al_k ?_
  refine cl_if0 rfl rfl ?_
  refine cl_seq rfl ?_
  refine cl_reg rfl ?_
  refine st rfl rfl rfl rfl ((x_eql rfl rfl).b0 h2) ?_
  refine st rfl rfl rfl rfl (x_asg rfl) ?_
  refine rl_end rfl ?_
  refine al_k ?_
  refine cl_if0 rfl rfl ?_
  refine cl_seq rfl ?_
  refine cl_reg rfl ?_
  refine st rfl rfl rfl rfl ((x_eql rfl rfl).b0 h3) ?_
  refine st rfl rfl rfl rfl (x_asg rfl) ?_
  refine rl_end rfl ?_
  refine al_k ?_
  refine cl_if0 rfl rfl ?_
  refine cl_seq rfl ?_
  refine cl_reg rfl ?_
  refine st rfl rfl rfl rfl ((x_eql rfl rfl).b0 h4) ?_
  refine st rfl rfl rfl rfl (x_asg rfl) ?_
  refine rl_end rfl ?_
  refine al_k ?_
  refine cl_if0 rfl rfl ?_
  refine cl_seq rfl ?_
  refine cl_reg rfl ?_
  refine st rfl rfl rfl rfl (x_asg rfl) ?_
  refine rl_end rfl ?_
  refine al_k ?_
  refine cl_ret rfl ?_
  refine fin1 rfl rfl ?_
  exact ⟨rfl, K, R, hS, F⟩

theorem step_c {w0s w : World} {k : AK} {B0 B : Nat} {r : RK} {qs : List Int} {x : Ar} (H : Bt w0s w k r B0 B qs x) (hok : okQ qs) (kd pt nn gg xx : Int) : Cl Tryd.prog 17 [.pointer (some ⟨k.ap, 0, none⟩), .pointer (some ⟨r.rp, 0, none⟩), .agg [.int .i64 kd, .int .i64 pt, .int .i64 nn, .int .u64 gg, .int .u64 xx].toArray] w (fun v w' => v = .bool true ∧ Bt w0s w' k r B0 B qs (stepX x kd pt nn gg xx)) := by
  have fin : ∀ {y : Ar} {v : Value} {w' : World}, (v = .bool true ∧ ArAt w' k y ∧ RAt w' B0 B r qs y ∧ Sz qs y ∧ Fr [] w0s w') → v = .bool true ∧ Bt w0s w' k r B0 B qs y := fun ⟨a, b, c, d, e⟩ => ⟨a, b, c, d, e, H.zk, H.zb⟩
  unfold stepX
  by_cases h1 : kd = 1
  · rw [if_pos h1]; exact (step_1 w0s w k B0 B r qs x H.K H.R H.S hok H.F H.zk H.zb kd pt nn gg xx h1).mono (fun v w' h => fin h)
  · rw [if_neg h1]
    by_cases h2 : kd = 2
    · rw [if_pos h2]; exact (step_2 w0s w k B0 B r qs x H.K H.R H.S hok H.F H.zk H.zb kd pt nn gg xx h1 h2).mono (fun v w' h => fin h)
    · rw [if_neg h2]
      by_cases h3 : kd = 3
      · rw [if_neg (by omega)]; exact (step_3 w0s w k B0 B r qs x H.K H.R H.S hok H.F H.zk H.zb kd pt nn gg xx h1 h2 h3).mono (fun v w' h => fin h)
      · by_cases h4 : kd = 4
        · rw [if_pos h4]; exact (step_4 w0s w k B0 B r qs x H.K H.R H.S hok H.F H.zk H.zb kd pt nn gg xx h1 h2 h3 h4).mono (fun v w' h => fin h)
        · rw [if_neg h4]; exact (step_0 w0s w k B0 B r qs x H.K H.R H.S hok H.F H.zk H.zb kd pt nn gg xx h1 h2 h3 h4).mono (fun v w' h => fin h)

end Go.Proofs.YtjjaijabdfoanaaDoor.Arn
