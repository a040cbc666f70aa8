/- The arena: the walk of the example. -/
import Derived.Test.YtjjaijabdfoanaaDoorArJ
set_option linter.unusedVariables false
namespace Go.Proofs.YtjjaijabdfoanaaDoor.Arn
open Go Go.RowKit Go.Proofs.YtjjaijabdfoanaaDoor.Sx Go.Proofs.YtjjaijabdfoanaaDoor.Ls Go.Proofs.YtjjaijabdfoanaaDoor
set_option maxRecDepth 100000

theorem bslA (w : World) (a b : Int) : (Instr.buildSlice 22 2 [(0, .int .i64 a), (1, .int .i64 b)].toArray).run Tryd.prog w = .ok (.slice (some ⟨w.heap.size, 0, none⟩) 2 2) (w.alloc (.cells [.int .i64 a, .int .i64 b].toArray 3)) := by kernel_rfl
def X0 : Ar := Ar.new [2, 1]
def X1 : Ar := (X0.alloc 0).1
def X2 : Ar := (X1.alloc 0).1
def X3 : Ar := (X2.write 0 0 7).1
def X4 : Ar := (X3.alloc 0).1
def X5 : Ar := (X4.drop 0 0).1
def X6 : Ar := (X5.alloc 0).1
def X7 : Ar := (X6.alloc 1).1
theorem ok21 : okQ [2, 1] := ⟨by decide, fun i q h => by
  match i, h with
  | 0, h => simp at h; omega
  | 1, h => simp at h; omega
  | i + 2, h => simp at h⟩
theorem i0 : Inv X0 := Inv.new ok21
theorem i1 : Inv X1 := i0.alloc 0
theorem i2 : Inv X2 := i1.alloc 0
theorem i3 : Inv X3 := i2.write 0 0 7
theorem i4 : Inv X4 := i3.alloc 0
theorem i5 : Inv X5 := i4.drop 0 0
theorem i6 : Inv X6 := i5.alloc 0
theorem i7 : Inv X7 := i6.alloc 1

theorem e0 : X0.alloc 0 = (X1, 0, 0, 0) := by kernel_rfl
theorem e1 : X1.alloc 0 = (X2, 1, 0, 0) := by kernel_rfl
theorem e2 : X2.write 0 0 7 = (X3, 0) := by kernel_rfl
theorem e3 : X3.alloc 0 = (X4, 0, 0, 61) := by kernel_rfl
theorem e4 : X4.drop 0 0 = (X5, 0) := by kernel_rfl
theorem e5 : X5.alloc 0 = (X6, 0, 1, 0) := by kernel_rfl
theorem e6 : X6.read 0 1 = (0, 0) := by kernel_rfl
theorem e7 : X6.alloc 1 = (X7, 2, 0, 0) := by kernel_rfl
theorem e8 : X7.write 0 0 1 = (X7, 62) := by kernel_rfl
theorem anew_ok (w : World) (hG : Glb w) (A0 : Option Addr) (c0 : Nat) (qs : List Int) (hok : okQ qs) (hrow : ∀ (j : Nat) q, qs[j]? = some q → ∃ a, A0 = some a ∧ w.cell? (a.add (((j : Nat) : Int).toNat * 1)) = some (.int .i64 q)) :
    Cl Tryd.prog 10 [.slice A0 qs.length c0] w (fun v w' => ∃ k : AK, v = .tuple #[.pointer (some ⟨k.ap, 0, none⟩), .int .i64 0] ∧ ArAt w' k (Ar.new qs) ∧ w.heap.size ≤ k.ap ∧ w.heap.size ≤ k.sb ∧ w.heap.size ≤ k.p ∧ w.heap.size ≤ k.nb ∧ w.heap.size ≤ k.hb ∧ Fr [] w w') :=
  (anew_c w hG A0 c0 qs (by have := hok.1; omega) hrow).mono (fun v w' h => h.elim (fun h => h.2) (fun h => absurd hok h.1))

theorem awake_c (w : World) (hG : Glb w) : Cl Tryd.prog 8 [] w (fun v w' => v = .bool true ∧ Fr [] w w') := by
  have F := Fr.refl [] w
  refine enter Tryd.func8 rfl Tryd.ntmps8 rfl ?_
  refine cl_seq rfl ?_
  refine cl_reg rfl ?_
  refine st rfl rfl rfl rfl (x_asg rfl) ?_
  refine rl_end rfl ?_
  refine al_k ?_
  refine cl_seq rfl ?_
  refine cl_reg rfl ?_
  refine se rfl rfl rfl rfl (e_new (x_bsl rfl (bslA _ _ _))) ?_
  rintro _ w0 ⟨rfl, bq, fr, _⟩
  replace F := F.trans fr
  refine sc rfl rfl rfl rfl (c_fn rfl Tryd.call10 (anew_ok _ (hG.fr F (by simp)) (some ⟨World.heap w |>.size, 0, none⟩) 2 [2, 1] ok21 (fun j q h => ⟨_, rfl, by rw [addr_add, Nat.zero_add, Int.toNat_natCast, Nat.mul_one]; exact bq.cell (by match j, h with | 0, h => (simp at h; subst h; rfl) | 1, h => (simp at h; subst h; rfl) | j + 2, h => simp at h)⟩))) ?_
  rintro _ w1 ⟨k, rfl, K, g1, g2, g3, g4, g5, fr⟩
  have gs := F.size
  replace F := F.trans fr
  replace K : ArAt w1 k X0 := K
  have hS : ∀ q ∈ [k.sb, k.ap, k.nb, k.hb], q ∈ ([] : List Nat) ∨ w.heap.size ≤ q := by intro q hq; simp at hq; right; omega
  have zl := K.lts.1
  have zs : k.sb < w1.heap.size := K.lts.2 (by decide)
  refine st rfl rfl rfl rfl (x_move rfl) ?_
  refine st rfl rfl rfl rfl (x_ext rfl rfl) ?_
  refine st rfl rfl rfl rfl (x_ext rfl rfl) ?_
  refine st rfl rfl rfl rfl (x_asg rfl) ?_
  refine st rfl rfl rfl rfl (x_asg rfl) ?_
  refine rl_end rfl ?_
  refine al_k ?_
  refine cl_seq rfl ?_
  refine cl_seq rfl ?_
  refine cl_reg rfl ?_
  refine st rfl rfl rfl rfl (x_move rfl) ?_
  refine st rfl rfl rfl rfl ((x_neq rfl rfl).b0 (fun h => h rfl)) ?_
  refine st rfl rfl rfl rfl (x_move rfl) ?_
  refine st rfl rfl rfl rfl (x_move rfl) ?_
  refine st rfl rfl rfl rfl (x_eqlp rfl rfl Tryd.underlying26) ?_
  refine st rfl rfl rfl rfl (x_pick0 rfl rfl) ?_
  refine rl_end rfl ?_
  refine al_k ?_
  refine cl_if0 rfl rfl ?_
  refine cl_skip rfl ?_
  refine al_k ?_
  refine cl_seq rfl ?_
  refine cl_reg rfl ?_
  refine st rfl rfl rfl rfl (x_move rfl) ?_
  refine sc rfl rfl rfl rfl (c_fn rfl Tryd.call11 ((alloc_a K i0 0).mono (R' := fun v w' => v = .tuple #[.agg [.int .i64 0, .int .u64 0].toArray, .int .i64 0] ∧ ArAt w' k X1 ∧ Fr [k.sb, k.ap, k.nb, k.hb] _ w') (fun v w' h => by rw [e0] at h; exact h))) ?_
  rintro _ w4 ⟨rfl, K, fr⟩
  have hz4 := fr.size
  replace F := F.trans_new fr hS
  refine st rfl rfl rfl rfl (x_move rfl) ?_
  refine st rfl rfl rfl rfl (x_ext rfl rfl) ?_
  refine st rfl rfl rfl rfl (x_ext rfl rfl) ?_
  have zF4 := F.size
  refine se rfl rfl rfl rfl (e_new (x_alloc Tryd.zeroValue33 rfl)) ?_
  rintro _ w4_5 ⟨rfl, b4_5, fr4_5, sz4_5⟩
  replace F := F.trans fr4_5
  replace K := K.fr0 fr4_5
  refine sv rfl rfl rfl (v_n (vs := [.int .i64 0, .int .u64 0]) rfl rfl (by intro v hv; simp at hv; rcases hv with rfl | rfl <;> rfl) Tryd.sizeOf33 rfl b4_5 (by decide)) ?_
  rintro ws4 ⟨c4, frs⟩
  replace c4 : Blk ws4 _ 33 [.int .i64 0, .int .u64 0] := c4
  have zw4 := frs.size
  replace K := K.fr frs (by simp; omega) (fun _ => by simp; omega) (by simp; omega) (by simp; omega) (by simp; omega) (by simp; omega)
  replace F := F.trans_new frs (by intro q hq; simp at hq; right; omega)
  refine st rfl rfl rfl rfl (x_asg rfl) ?_
  refine rl_end rfl ?_
  refine al_k ?_
  refine cl_seq rfl ?_
  refine cl_reg rfl ?_
  refine st rfl rfl rfl rfl (x_move rfl) ?_
  refine sc rfl rfl rfl rfl (c_fn rfl Tryd.call11 ((alloc_a K i1 0).mono (R' := fun v w' => v = .tuple #[.agg [.int .i64 1, .int .u64 0].toArray, .int .i64 0] ∧ ArAt w' k X2 ∧ Fr [k.sb, k.ap, k.nb, k.hb] _ w') (fun v w' h => by rw [e1] at h; exact h))) ?_
  rintro _ w5 ⟨rfl, K, fr⟩
  replace c4 := c4.fr fr (by simp; omega)
  have hz5 := fr.size
  replace F := F.trans_new fr hS
  refine st rfl rfl rfl rfl (x_move rfl) ?_
  refine st rfl rfl rfl rfl (x_ext rfl rfl) ?_
  refine st rfl rfl rfl rfl (x_ext rfl rfl) ?_
  have zF5 := F.size
  have zz5_c4 := c4.lt
  refine se rfl rfl rfl rfl (e_new (x_alloc Tryd.zeroValue33 rfl)) ?_
  rintro _ w5_5 ⟨rfl, b5_5, fr5_5, sz5_5⟩
  replace F := F.trans fr5_5
  replace K := K.fr0 fr5_5
  replace c4 := c4.fr0 fr5_5
  refine sv rfl rfl rfl (v_n (vs := [.int .i64 1, .int .u64 0]) rfl rfl (by intro v hv; simp at hv; rcases hv with rfl | rfl <;> rfl) Tryd.sizeOf33 rfl b5_5 (by decide)) ?_
  rintro ws5 ⟨c5, frs⟩
  replace c5 : Blk ws5 _ 33 [.int .i64 1, .int .u64 0] := c5
  have zw5 := frs.size
  replace K := K.fr frs (by simp; omega) (fun _ => by simp; omega) (by simp; omega) (by simp; omega) (by simp; omega) (by simp; omega)
  replace c4 := c4.fr frs (by simp; omega)
  replace F := F.trans_new frs (by intro q hq; simp at hq; right; omega)
  refine st rfl rfl rfl rfl (x_asg rfl) ?_
  refine rl_end rfl ?_
  refine al_k ?_
  refine cl_seq rfl ?_
  refine cl_reg rfl ?_
  refine st rfl rfl rfl rfl (x_move rfl) ?_
  refine st rfl rfl rfl rfl (x_ldn rfl Tryd.isAgg33 Tryd.sizeOf33 rfl (by intro j v hv; rw [Nat.zero_add]; exact c4.cell hv)) ?_
  refine sc rfl rfl rfl rfl (c_fn rfl Tryd.call15 ((write_a _ k X2 K 0 0 7).mono (R' := fun v w' => v = .int .i64 0 ∧ ArAt w' k X3 ∧ Fr [k.sb, k.ap, k.nb, k.hb] _ w') (fun v w' h => by rw [e2] at h; exact h))) ?_
  rintro _ w6 ⟨rfl, K, fr⟩
  replace c4 := c4.fr fr (by simp; omega)
  replace c5 := c5.fr fr (by simp; omega)
  have hzw6 := fr.size
  replace F := F.trans_new fr hS
  refine st rfl rfl rfl rfl (x_asg rfl) ?_
  refine rl_end rfl ?_
  refine al_k ?_
  refine cl_seq rfl ?_
  refine cl_reg rfl ?_
  refine st rfl rfl rfl rfl (x_move rfl) ?_
  refine sc rfl rfl rfl rfl (c_fn rfl Tryd.call11 ((alloc_a K i3 0).mono (R' := fun v w' => v = .tuple #[.agg [.int .i64 0, .int .u64 0].toArray, .int .i64 61] ∧ ArAt w' k X4 ∧ Fr [k.sb, k.ap, k.nb, k.hb] _ w') (fun v w' h => by rw [e3] at h; exact h))) ?_
  rintro _ w7 ⟨rfl, K, fr⟩
  replace c4 := c4.fr fr (by simp; omega)
  replace c5 := c5.fr fr (by simp; omega)
  have hz7 := fr.size
  replace F := F.trans_new fr hS
  refine st rfl rfl rfl rfl (x_move rfl) ?_
  refine st rfl rfl rfl rfl (x_ext rfl rfl) ?_
  refine st rfl rfl rfl rfl (x_ext rfl rfl) ?_
  have zF7 := F.size
  have zz7_c4 := c4.lt
  have zz7_c5 := c5.lt
  refine se rfl rfl rfl rfl (e_new (x_alloc Tryd.zeroValue33 rfl)) ?_
  rintro _ w7_5 ⟨rfl, b7_5, fr7_5, sz7_5⟩
  replace F := F.trans fr7_5
  replace K := K.fr0 fr7_5
  replace c4 := c4.fr0 fr7_5
  replace c5 := c5.fr0 fr7_5
  refine sv rfl rfl rfl (v_n (vs := [.int .i64 0, .int .u64 0]) rfl rfl (by intro v hv; simp at hv; rcases hv with rfl | rfl <;> rfl) Tryd.sizeOf33 rfl b7_5 (by decide)) ?_
  rintro ws7 ⟨c7, frs⟩
  replace c7 : Blk ws7 _ 33 [.int .i64 0, .int .u64 0] := c7
  have zw7 := frs.size
  replace K := K.fr frs (by simp; omega) (fun _ => by simp; omega) (by simp; omega) (by simp; omega) (by simp; omega) (by simp; omega)
  replace c4 := c4.fr frs (by simp; omega)
  replace c5 := c5.fr frs (by simp; omega)
  replace F := F.trans_new frs (by intro q hq; simp at hq; right; omega)
  refine st rfl rfl rfl rfl (x_asg rfl) ?_
  refine rl_end rfl ?_
  refine al_k ?_
  refine cl_seq rfl ?_
  refine cl_reg rfl ?_
  refine st rfl rfl rfl rfl (x_move rfl) ?_
  refine st rfl rfl rfl rfl (x_ldn rfl Tryd.isAgg33 Tryd.sizeOf33 rfl (by intro j v hv; rw [Nat.zero_add]; exact c4.cell hv)) ?_
  refine sc rfl rfl rfl rfl (c_fn rfl Tryd.call12 ((free_a K i4 0 0).mono (R' := fun v w' => v = .int .i64 0 ∧ ArAt w' k X5 ∧ Fr [k.sb, k.ap, k.nb, k.hb] _ w') (fun v w' h => by rw [e4] at h; exact h))) ?_
  rintro _ w8 ⟨rfl, K, fr⟩
  replace c4 := c4.fr fr (by simp; omega)
  replace c5 := c5.fr fr (by simp; omega)
  replace c7 := c7.fr fr (by simp; omega)
  have hzw8 := fr.size
  replace F := F.trans_new fr hS
  refine st rfl rfl rfl rfl (x_asg rfl) ?_
  refine rl_end rfl ?_
  refine al_k ?_
  refine cl_seq rfl ?_
  refine cl_reg rfl ?_
  refine st rfl rfl rfl rfl (x_move rfl) ?_
  refine sc rfl rfl rfl rfl (c_fn rfl Tryd.call11 ((alloc_a K i5 0).mono (R' := fun v w' => v = .tuple #[.agg [.int .i64 0, .int .u64 1].toArray, .int .i64 0] ∧ ArAt w' k X6 ∧ Fr [k.sb, k.ap, k.nb, k.hb] _ w') (fun v w' h => by rw [e5] at h; exact h))) ?_
  rintro _ w9 ⟨rfl, K, fr⟩
  replace c4 := c4.fr fr (by simp; omega)
  replace c5 := c5.fr fr (by simp; omega)
  replace c7 := c7.fr fr (by simp; omega)
  have hz9 := fr.size
  replace F := F.trans_new fr hS
  refine st rfl rfl rfl rfl (x_move rfl) ?_
  refine st rfl rfl rfl rfl (x_ext rfl rfl) ?_
  refine st rfl rfl rfl rfl (x_ext rfl rfl) ?_
  have zF9 := F.size
  have zz9_c4 := c4.lt
  have zz9_c5 := c5.lt
  have zz9_c7 := c7.lt
  refine se rfl rfl rfl rfl (e_new (x_alloc Tryd.zeroValue33 rfl)) ?_
  rintro _ w9_5 ⟨rfl, b9_5, fr9_5, sz9_5⟩
  replace F := F.trans fr9_5
  replace K := K.fr0 fr9_5
  replace c4 := c4.fr0 fr9_5
  replace c5 := c5.fr0 fr9_5
  replace c7 := c7.fr0 fr9_5
  refine sv rfl rfl rfl (v_n (vs := [.int .i64 0, .int .u64 1]) rfl rfl (by intro v hv; simp at hv; rcases hv with rfl | rfl <;> rfl) Tryd.sizeOf33 rfl b9_5 (by decide)) ?_
  rintro ws9 ⟨c9, frs⟩
  replace c9 : Blk ws9 _ 33 [.int .i64 0, .int .u64 1] := c9
  have zw9 := frs.size
  replace K := K.fr frs (by simp; omega) (fun _ => by simp; omega) (by simp; omega) (by simp; omega) (by simp; omega) (by simp; omega)
  replace c4 := c4.fr frs (by simp; omega)
  replace c5 := c5.fr frs (by simp; omega)
  replace c7 := c7.fr frs (by simp; omega)
  replace F := F.trans_new frs (by intro q hq; simp at hq; right; omega)
  refine st rfl rfl rfl rfl (x_asg rfl) ?_
  refine rl_end rfl ?_
  refine al_k ?_
  refine cl_seq rfl ?_
  refine cl_reg rfl ?_
  refine st rfl rfl rfl rfl (x_move rfl) ?_
  refine st rfl rfl rfl rfl (x_ldn rfl Tryd.isAgg33 Tryd.sizeOf33 rfl (by intro j v hv; rw [Nat.zero_add]; exact c9.cell hv)) ?_
  refine sc rfl rfl rfl rfl (c_fn rfl Tryd.call13 ((read_a _ k X6 K 0 1).mono (R' := fun v w' => v = .tuple #[.int .u64 0, .int .i64 0] ∧ Fr [] _ w') (fun v w' h => by rw [e6] at h; exact h))) ?_
  rintro _ w10 ⟨rfl, fr⟩
  replace c4 := c4.fr0 fr
  replace c5 := c5.fr0 fr
  replace c7 := c7.fr0 fr
  replace c9 := c9.fr0 fr
  replace K := K.fr0 fr
  have hz10 := fr.size
  replace F := F.trans fr
  refine st rfl rfl rfl rfl (x_move rfl) ?_
  refine st rfl rfl rfl rfl (x_ext rfl rfl) ?_
  refine st rfl rfl rfl rfl (x_ext rfl rfl) ?_
  refine st rfl rfl rfl rfl (x_asg rfl) ?_
  refine st rfl rfl rfl rfl (x_asg rfl) ?_
  refine rl_end rfl ?_
  refine al_k ?_
  refine cl_seq rfl ?_
  refine cl_reg rfl ?_
  refine st rfl rfl rfl rfl (x_move rfl) ?_
  refine sc rfl rfl rfl rfl (c_fn rfl Tryd.call11 ((alloc_a K i6 1).mono (R' := fun v w' => v = .tuple #[.agg [.int .i64 2, .int .u64 0].toArray, .int .i64 0] ∧ ArAt w' k X7 ∧ Fr [k.sb, k.ap, k.nb, k.hb] _ w') (fun v w' h => by rw [e7] at h; exact h))) ?_
  rintro _ w11 ⟨rfl, K, fr⟩
  replace c4 := c4.fr fr (by simp; omega)
  replace c5 := c5.fr fr (by simp; omega)
  replace c7 := c7.fr fr (by simp; omega)
  replace c9 := c9.fr fr (by simp; omega)
  have hz11 := fr.size
  replace F := F.trans_new fr hS
  refine st rfl rfl rfl rfl (x_move rfl) ?_
  refine st rfl rfl rfl rfl (x_ext rfl rfl) ?_
  refine st rfl rfl rfl rfl (x_ext rfl rfl) ?_
  have zF11 := F.size
  have zz11_c4 := c4.lt
  have zz11_c5 := c5.lt
  have zz11_c7 := c7.lt
  have zz11_c9 := c9.lt
  refine se rfl rfl rfl rfl (e_new (x_alloc Tryd.zeroValue33 rfl)) ?_
  rintro _ w11_5 ⟨rfl, b11_5, fr11_5, sz11_5⟩
  replace F := F.trans fr11_5
  replace K := K.fr0 fr11_5
  replace c4 := c4.fr0 fr11_5
  replace c5 := c5.fr0 fr11_5
  replace c7 := c7.fr0 fr11_5
  replace c9 := c9.fr0 fr11_5
  refine sv rfl rfl rfl (v_n (vs := [.int .i64 2, .int .u64 0]) rfl rfl (by intro v hv; simp at hv; rcases hv with rfl | rfl <;> rfl) Tryd.sizeOf33 rfl b11_5 (by decide)) ?_
  rintro ws11 ⟨c11, frs⟩
  replace c11 : Blk ws11 _ 33 [.int .i64 2, .int .u64 0] := c11
  have zw11 := frs.size
  replace K := K.fr frs (by simp; omega) (fun _ => by simp; omega) (by simp; omega) (by simp; omega) (by simp; omega) (by simp; omega)
  replace c4 := c4.fr frs (by simp; omega)
  replace c5 := c5.fr frs (by simp; omega)
  replace c7 := c7.fr frs (by simp; omega)
  replace c9 := c9.fr frs (by simp; omega)
  replace F := F.trans_new frs (by intro q hq; simp at hq; right; omega)
  refine st rfl rfl rfl rfl (x_asg rfl) ?_
  refine rl_end rfl ?_
  refine al_k ?_
  refine cl_seq rfl ?_
  refine cl_reg rfl ?_
  refine st rfl rfl rfl rfl (x_move rfl) ?_
  refine st rfl rfl rfl rfl ((x_eql rfl rfl).b1 rfl) ?_
  refine st rfl rfl rfl rfl (x_move rfl) ?_
  refine st rfl rfl rfl rfl (x_move rfl) ?_
  refine st rfl rfl rfl rfl ((x_eql rfl rfl).b1 rfl) ?_
  refine st rfl rfl rfl rfl (x_pick1 rfl rfl) ?_
  refine st rfl rfl rfl rfl (x_move rfl) ?_
  refine st rfl rfl rfl rfl (x_move rfl) ?_
  refine st rfl rfl rfl rfl ((x_eql rfl rfl).b1 rfl) ?_
  refine st rfl rfl rfl rfl (x_pick1 rfl rfl) ?_
  refine st rfl rfl rfl rfl (x_move rfl) ?_
  refine st rfl rfl rfl rfl (x_move rfl) ?_
  refine st rfl rfl rfl rfl ((x_eql rfl rfl).b1 rfl) ?_
  refine st rfl rfl rfl rfl (x_pick1 rfl rfl) ?_
  refine st rfl rfl rfl rfl (x_move rfl) ?_
  refine st rfl rfl rfl rfl (x_move rfl) ?_
  refine st rfl rfl rfl rfl ((x_eql rfl rfl).b1 rfl) ?_
  refine st rfl rfl rfl rfl (x_pick1 rfl rfl) ?_
  refine st rfl rfl rfl rfl (x_move rfl) ?_
  refine st rfl rfl rfl rfl (x_move rfl) ?_
  refine st rfl rfl rfl rfl ((x_eql rfl rfl).b1 rfl) ?_
  refine st rfl rfl rfl rfl (x_pick1 rfl rfl) ?_
  refine st rfl rfl rfl rfl (x_move rfl) ?_
  refine st rfl rfl rfl rfl (x_move rfl) ?_
  refine st rfl rfl rfl rfl ((x_eql rfl rfl).b1 rfl) ?_
  refine st rfl rfl rfl rfl (x_pick1 rfl rfl) ?_
  refine st rfl rfl rfl rfl (x_move rfl) ?_
  refine st rfl rfl rfl rfl (x_move rfl) ?_
  refine st rfl rfl rfl rfl ((x_eql rfl rfl).b1 rfl) ?_
  refine st rfl rfl rfl rfl (x_pick1 rfl rfl) ?_
  refine st rfl rfl rfl rfl (x_move rfl) ?_
  refine st rfl rfl rfl rfl (x_ldn rfl Tryd.isAgg33 Tryd.sizeOf33 rfl (by intro j v hv; rw [Nat.zero_add]; exact c4.cell hv)) ?_
  refine st rfl rfl rfl rfl (x_build rfl (bldN0 _)) ?_
  refine st rfl rfl rfl rfl ((x_eqs rfl rfl (egN _ _ _ _ _ _ _ _) (eqN _ _ _ _ _)).b1 ⟨rfl, rfl⟩) ?_
  refine st rfl rfl rfl rfl (x_pick1 rfl rfl) ?_
  refine st rfl rfl rfl rfl (x_move rfl) ?_
  refine st rfl rfl rfl rfl (x_fa rfl Tryd.underlying33 rfl Tryd.sizeOf3 0 rfl) ?_
  refine st rfl rfl rfl rfl (x_ld rfl Tryd.isAgg3 (c5.cell rfl)) ?_
  refine st rfl rfl rfl rfl ((x_eql rfl rfl).b1 rfl) ?_
  refine st rfl rfl rfl rfl (x_pick1 rfl rfl) ?_
  refine st rfl rfl rfl rfl (x_move rfl) ?_
  refine st rfl rfl rfl rfl (x_ldn rfl Tryd.isAgg33 Tryd.sizeOf33 rfl (by intro j v hv; rw [Nat.zero_add]; exact c9.cell hv)) ?_
  refine st rfl rfl rfl rfl (x_build rfl (bldN _ _ _)) ?_
  refine st rfl rfl rfl rfl ((x_eqs rfl rfl (egN _ _ _ _ _ _ _ _) (eqN _ _ _ _ _)).b1 ⟨rfl, rfl⟩) ?_
  refine st rfl rfl rfl rfl (x_pick1 rfl rfl) ?_
  refine st rfl rfl rfl rfl (x_move rfl) ?_
  refine st rfl rfl rfl rfl (x_move rfl) ?_
  refine st rfl rfl rfl rfl ((x_eql rfl rfl).b1 rfl) ?_
  refine st rfl rfl rfl rfl (x_pick1 rfl rfl) ?_
  refine st rfl rfl rfl rfl (x_move rfl) ?_
  refine st rfl rfl rfl rfl (x_fa rfl Tryd.underlying33 rfl Tryd.sizeOf3 0 rfl) ?_
  refine st rfl rfl rfl rfl (x_ld rfl Tryd.isAgg3 (c11.cell rfl)) ?_
  refine st rfl rfl rfl rfl ((x_eql rfl rfl).b1 rfl) ?_
  refine st rfl rfl rfl rfl (x_pick1 rfl rfl) ?_
  refine st rfl rfl rfl rfl (x_move rfl) ?_
  refine st rfl rfl rfl rfl (x_move rfl) ?_
  refine st rfl rfl rfl rfl (x_ldn rfl Tryd.isAgg33 Tryd.sizeOf33 rfl (by intro j v hv; rw [Nat.zero_add]; exact c4.cell hv)) ?_
  refine sc rfl rfl rfl rfl (c_fn rfl Tryd.call15 ((write_a _ k X7 K 0 0 1).mono (R' := fun v w' => v = .int .i64 62 ∧ ArAt w' k X7 ∧ Fr [k.sb, k.ap, k.nb, k.hb] _ w') (fun v w' h => by rw [e8] at h; exact h))) ?_
  rintro _ w12 ⟨rfl, K, fr⟩
  replace c4 := c4.fr fr (by simp; omega)
  replace c5 := c5.fr fr (by simp; omega)
  replace c7 := c7.fr fr (by simp; omega)
  replace c9 := c9.fr fr (by simp; omega)
  replace c11 := c11.fr fr (by simp; omega)
  have hzw12 := fr.size
  replace F := F.trans_new fr hS
  refine st rfl rfl rfl rfl ((x_eql rfl rfl).b1 rfl) ?_
  refine st rfl rfl rfl rfl (x_pick1 rfl rfl) ?_
  refine st rfl rfl rfl rfl (x_asg rfl) ?_
  refine rl_end rfl ?_
  refine al_k ?_
  refine cl_ret rfl ?_
  refine fin1 rfl rfl ?_
  exact ⟨rfl, F⟩

end Go.Proofs.YtjjaijabdfoanaaDoor.Arn
