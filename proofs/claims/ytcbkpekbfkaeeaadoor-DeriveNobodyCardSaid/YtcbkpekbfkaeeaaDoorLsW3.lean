/- Lists by links: the walk of New. -/
import Derived.Test.YtcbkpekbfkaeeaaDoorLsW2
set_option linter.unusedVariables false
namespace Go.Proofs.YtcbkpekbfkaeeaaDoor.Ls
open Go Go.RowKit Go.Proofs.YtcbkpekbfkaeeaaDoor.Sx Go.Proofs.YtcbkpekbfkaeeaaDoor
set_option maxRecDepth 100000

theorem bldT (a b : Option Addr) (n m c c1 : Nat) (w : World) : (Instr.build 80 [(0, .slice a n c), (1, .slice b m c1), (2, .bool true)].toArray).run Tryd.prog w = .ok (.agg [.slice a n c, .slice b m c1, .bool true].toArray) w := by kernel_rfl
theorem new_c (w : World) (n m : Nat) (hG : Glb w) (hn : n ≤ 65536) (hm : m ≤ 65536) :
    Cl Tryd.prog 26 [.int .i64 n, .int .i64 m] w (fun v w' => ∃ p nb hb, v = .tuple #[.pointer (some ⟨p, 0, none⟩), .int .i64 0] ∧ LsAt w' p nb hb n m (LS.new n m) ∧ w.heap.size ≤ p ∧ w.heap.size ≤ nb ∧ w.heap.size ≤ hb ∧ Fr [] w w') := by
  have F := Fr.refl [] w
  have hz : 0 < w.heap.size := Nat.lt_of_le_of_lt (Nat.zero_le _) (World.block_lt_of_cell? w _ (hG 0 _ rfl))
  refine enter Tryd.func26 rfl Tryd.ntmps26 rfl ?_
  refine cl_seq rfl ?_
  refine cl_reg rfl ?_
  refine st rfl rfl rfl rfl (x_asg rfl) ?_
  refine st rfl rfl rfl rfl (x_asg rfl) ?_
  refine rl_end rfl ?_
  refine al_k ?_
  refine cl_seq rfl ?_
  refine cl_seq rfl ?_
  refine cl_reg rfl ?_
  refine st rfl rfl rfl rfl (x_move rfl) ?_
  refine st rfl rfl rfl rfl ((x_lss rfl rfl).b0 (by omega)) ?_
  refine st rfl rfl rfl rfl (x_move rfl) ?_
  refine st rfl rfl rfl rfl (x_move rfl) ?_
  refine st rfl rfl rfl rfl ((x_gtr rfl rfl).b0 (by omega)) ?_
  refine st rfl rfl rfl rfl (x_pick0 rfl rfl) ?_
  refine st rfl rfl rfl rfl (x_move rfl) ?_
  refine st rfl rfl rfl rfl (x_move rfl) ?_
  refine st rfl rfl rfl rfl ((x_lss rfl rfl).b0 (by omega)) ?_
  refine st rfl rfl rfl rfl (x_pick0 rfl rfl) ?_
  refine st rfl rfl rfl rfl (x_move rfl) ?_
  refine st rfl rfl rfl rfl (x_move rfl) ?_
  refine st rfl rfl rfl rfl ((x_gtr rfl rfl).b0 (by omega)) ?_
  refine st rfl rfl rfl rfl (x_pick0 rfl rfl) ?_
  refine rl_end rfl ?_
  refine al_k ?_
  refine cl_if0 rfl rfl ?_
  refine cl_skip rfl ?_
  refine al_k ?_
  refine cl_seq rfl ?_
  refine cl_draw (by kernel_rfl) rfl [1, 3, 5] (fun w' => w'.heap = w.heap) ?_
  rintro wd3 frd3 hpd3
  refine ⟨hpd3, ?_⟩
  refine dt (i := 0) rfl rfl rfl rfl (by kernel_rfl) (fun _ => x_move rfl) ?_
  refine dt (i := 2) rfl rfl rfl rfl (by kernel_rfl) (fun _ => x_move rfl) ?_
  replace hG := Glb.fr hG frd3 (by simp)
  replace F := F.trans frd3
  refine d2 (i := 1) (j := 3) (by kernel_rfl) ?_ ?_
  · skip
    refine oe rfl rfl rfl rfl (e_new (x_mk 3 24 (.agg (encL ⟨0, 0, 0⟩).toArray) (cs := flat encL (List.replicate n ⟨0, 0, 0⟩)) rfl rfl Tryd.underlying77 (by kernel_rfl) (made_flat lenL _ _) (by omega) (by omega))) ?_
    have gnb : w.heap.size ≤ wd3.heap.size := F.size
    rintro _ w3_1 ⟨rfl, hN, fr3_1, _⟩
    generalize wd3.heap.size = nb at hN gnb ⊢
    replace hG := Glb.fr hG fr3_1 (by simp)
    replace F := F.trans fr3_1
    refine ⟨.inl (by kernel_rfl), ?_⟩
    refine d1 (i := 3) (by kernel_rfl) ?_
    refine oe rfl rfl rfl rfl (e_new (x_mk 3 24 (.agg (encH ⟨0, 0, 0⟩).toArray) (cs := flat encH (List.replicate m ⟨0, 0, 0⟩)) rfl rfl Tryd.underlying78 (by kernel_rfl) (made_flat lenH _ _) (by omega) (by omega))) ?_
    have ghb : w.heap.size ≤ w3_1.heap.size := F.size
    rintro _ w3_3 ⟨rfl, hH, fr3_3, _⟩
    generalize w3_1.heap.size = hb at hH ghb ⊢
    replace hG := Glb.fr hG fr3_3 (by simp)
    replace F := F.trans fr3_3
    replace hN := hN.fr0 fr3_3
    refine ⟨.inl (by kernel_rfl), ?_⟩
    refine dt (i := 4) rfl rfl rfl rfl (by kernel_rfl) (fun _ => x_build rfl (bldT _ _ _ _ _ _ _)) ?_
    refine d1 (i := 5) (by kernel_rfl) ?_
    refine oe rfl rfl rfl rfl (e_new (x_box rfl rfl)) ?_
    have gp : w.heap.size ≤ w3_3.heap.size := F.size
    rintro _ w3_5 ⟨rfl, hT, fr3_5, _⟩
    generalize w3_3.heap.size = p at hT gp ⊢
    replace hG := Glb.fr hG fr3_5 (by simp)
    replace F := F.trans fr3_5
    replace hN := hN.fr0 fr3_5
    replace hH := hH.fr0 fr3_5
    refine ⟨.inl (by kernel_rfl), ?_⟩
    refine dt (i := 6) rfl rfl rfl rfl (by kernel_rfl) (fun _ => x_asg rfl) ?_
    refine dn (by kernel_rfl) ?_
    refine al_k ?_
    refine cl_seq rfl ?_
    refine cl_seq rfl ?_
    refine cl_reg rfl ?_
    refine st rfl rfl rfl rfl (x_move rfl) ?_
    refine st rfl rfl rfl rfl (x_nil rfl) ?_
    refine st rfl rfl rfl rfl (x_fa rfl Tryd.underlying80 rfl Tryd.sizeOf77 0 rfl) ?_
    refine st rfl rfl rfl rfl (x_ld rfl Tryd.isAgg77 (hT.cell rfl)) ?_
    refine st rfl rfl rfl rfl (x_len rfl Tryd.underlying77) ?_
    refine st rfl rfl rfl rfl (x_move rfl) ?_
    refine rl_end rfl ?_
    refine al_k ?_
    refine cl_block rfl ?_
    refine cl_loop (fun k : Nat => [(34, .int .i64 k), (33, .int .i64 n), (6, .pointer (some ⟨p, 0, none⟩))]) (fun k wr => k ≤ n ∧ Blk wr nb 82 (flat encL (List.replicate k loose ++ List.replicate (n - k) ⟨0, 0, 0⟩)) ∧ Blk wr hb 84 (flat encH (List.replicate m ⟨0, 0, 0⟩)) ∧ Blk wr p 80 [.slice (some ⟨nb, 0, none⟩) n n, .slice (some ⟨hb, 0, none⟩) m m, .bool true] ∧ Glb wr ∧ Fr [] w wr) (fun k => n - k) 0 rfl ⟨rfl, rfl, rfl, trivial⟩ ?_ ?_
    · exact ⟨Nat.zero_le _, hN, hH, hT, hG, F⟩
    · skip
      rintro k wr ⟨hk, hN, hH, hT, hG, F⟩
      refine cl_seq rfl ?_
      refine cl_reg rfl ?_
      refine sf rfl rfl rfl rfl (x_lss rfl rfl) (fun c5_0 => ?_) (fun c5_0 => ?_)
      · skip
        refine rl_end rfl ?_
        refine al_k ?_
        refine cl_seq rfl ?_
        refine cl_if1 rfl rfl ?_
        refine cl_skip rfl ?_
        refine al_k ?_
        refine cl_seq rfl ?_
        refine cl_block rfl ?_
        refine cl_seq rfl ?_
        refine cl_reg rfl ?_
        refine st rfl rfl rfl rfl (x_move rfl) ?_
        refine st rfl rfl rfl rfl (x_asg rfl) ?_
        refine rl_end rfl ?_
        refine al_k ?_
        refine cl_draw (by kernel_rfl) rfl [7] (fun w' => w'.heap = wr.heap) ?_
        rintro wd7 frd7 hpd7
        refine ⟨hpd7, ?_⟩
        refine dt (i := 0) rfl rfl rfl rfl (by kernel_rfl) (fun _ => x_move rfl) ?_
        refine dt (i := 1) rfl rfl rfl rfl (by kernel_rfl) (fun _ => x_nil rfl) ?_
        refine dt (i := 2) rfl rfl rfl rfl (by kernel_rfl) (fun _ => x_fa rfl Tryd.underlying80 rfl Tryd.sizeOf77 0 rfl) ?_
        refine dl (i := 3) rfl rfl rfl rfl (by kernel_rfl) (by kernel_rfl) (fun w' hU => x_ld rfl Tryd.isAgg77 (heq hU (hT.cell rfl))) ?_
        refine dt (i := 4) rfl rfl rfl rfl (by kernel_rfl) (fun _ => x_move rfl) ?_
        refine dl (i := 5) rfl rfl rfl rfl (by kernel_rfl) (by kernel_rfl) (fun w' hU => x_ldn rfl Tryd.isAgg82 Tryd.sizeOf82 rfl (heqn hU hG)) ?_
        refine dt (i := 6) rfl rfl rfl rfl (by kernel_rfl) (fun _ => x_ia0 rfl rfl Tryd.underlying77 Tryd.sizeOf82 (by omega)) ?_
        replace hG := Glb.fr hG frd7 (by simp)
        replace F := F.trans frd7
        replace hN := hN.fr0 frd7
        replace hH := hH.fr0 frd7
        replace hT := hT.fr0 frd7
        refine d1 (i := 7) (by kernel_rfl) ?_
        refine osv rfl rfl rfl (v_e lenL loose rfl rfl rfl rfl (oneL _) Tryd.sizeOf82 hN (by simp; omega)) ?_
        rintro w7 ⟨hN7, fr7⟩
        replace hH := hH.fr fr7 (by simpa using (hH.ne hN (by decide)))
        replace hT := hT.fr fr7 (by simpa using (hT.ne hN (by decide)))
        replace hG := Glb.fr hG fr7 (by simp; omega)
        replace F := F.trans_new fr7 (by intro q hq; simp at hq; subst hq; exact .inr gnb)
        replace hN := hN7
        rw [Int.toNat_natCast, fill_set _ _ _ _ (by omega)] at hN
        refine ⟨.inl (by kernel_rfl), ?_⟩
        refine dn (by kernel_rfl) ?_
        refine al_k ?_
        refine cl_reg rfl ?_
        refine st rfl rfl rfl rfl (x_add rfl rfl (by omega)) ?_
        refine st rfl rfl rfl rfl (x_move rfl) ?_
        refine rl_end rfl ?_
        refine again (k + 1) (by omega) ⟨rfl, rfl, rfl, trivial⟩ ⟨by omega, hN, hH, hT, hG, F⟩
      · skip
        refine rl_end rfl ?_
        refine al_k ?_
        refine cl_seq rfl ?_
        refine cl_if0 rfl rfl ?_
        refine cl_exit rfl ?_
        refine upd_self ?_
        refine al_k ?_
        refine cl_seq rfl ?_
        refine cl_seq rfl ?_
        refine cl_reg rfl ?_
        refine st rfl rfl rfl rfl (x_move rfl) ?_
        refine st rfl rfl rfl rfl (x_nil rfl) ?_
        refine st rfl rfl rfl rfl (x_fa rfl Tryd.underlying80 rfl Tryd.sizeOf78 1 rfl) ?_
        refine st rfl rfl rfl rfl (x_ld rfl Tryd.isAgg78 (hT.cell rfl)) ?_
        refine st rfl rfl rfl rfl (x_len rfl Tryd.underlying78) ?_
        refine st rfl rfl rfl rfl (x_move rfl) ?_
        refine rl_end rfl ?_
        refine al_k ?_
        refine cl_block rfl ?_
        have ekn : k = n := by omega
        subst ekn
        rw [Nat.sub_self, List.replicate_zero, List.append_nil] at hN
        refine cl_loop (fun j : Nat => [(50, .int .i64 j), (49, .int .i64 m), (6, .pointer (some ⟨p, 0, none⟩))]) (fun j wr => j ≤ m ∧ Blk wr nb 82 (flat encL (List.replicate k loose)) ∧ Blk wr hb 84 (flat encH (List.replicate j ⟨-1, -1, 0⟩ ++ List.replicate (m - j) ⟨0, 0, 0⟩)) ∧ Blk wr p 80 [.slice (some ⟨nb, 0, none⟩) k k, .slice (some ⟨hb, 0, none⟩) m m, .bool true] ∧ Glb wr ∧ Fr [] w wr) (fun j => m - j) 0 rfl ⟨rfl, rfl, rfl, trivial⟩ ?_ ?_
        · exact ⟨Nat.zero_le _, hN, hH, hT, hG, F⟩
        · skip
          rintro j wr ⟨hj, hN, hH, hT, hG, F⟩
          refine cl_seq rfl ?_
          refine cl_reg rfl ?_
          refine sf rfl rfl rfl rfl (x_lss rfl rfl) (fun c10_0 => ?_) (fun c10_0 => ?_)
          · skip
            refine rl_end rfl ?_
            refine al_k ?_
            refine cl_seq rfl ?_
            refine cl_if1 rfl rfl ?_
            refine cl_skip rfl ?_
            refine al_k ?_
            refine cl_seq rfl ?_
            refine cl_block rfl ?_
            refine cl_seq rfl ?_
            refine cl_reg rfl ?_
            refine st rfl rfl rfl rfl (x_move rfl) ?_
            refine st rfl rfl rfl rfl (x_asg rfl) ?_
            refine rl_end rfl ?_
            refine al_k ?_
            refine cl_reg rfl ?_
            refine st rfl rfl rfl rfl (x_move rfl) ?_
            refine st rfl rfl rfl rfl (x_nil rfl) ?_
            refine st rfl rfl rfl rfl (x_fa rfl Tryd.underlying80 rfl Tryd.sizeOf78 1 rfl) ?_
            refine st rfl rfl rfl rfl (x_ld rfl Tryd.isAgg78 (hT.cell rfl)) ?_
            refine st rfl rfl rfl rfl (x_move rfl) ?_
            refine st rfl rfl rfl rfl (x_build rfl (bldH _ _ _ _)) ?_
            refine st rfl rfl rfl rfl (x_ia0 rfl rfl Tryd.underlying78 Tryd.sizeOf84 (by omega)) ?_
            refine sv rfl rfl rfl (v_e lenH ⟨-1, -1, 0⟩ rfl rfl rfl rfl (oneH _) Tryd.sizeOf84 hH (by simp; omega)) ?_
            rintro w12 ⟨hH12, fr12⟩
            replace hN := hN.fr fr12 (by simpa using (hN.ne hH (by decide)))
            replace hT := hT.fr fr12 (by simpa using (hT.ne hH (by decide)))
            replace hG := Glb.fr hG fr12 (by simp; omega)
            replace F := F.trans_new fr12 (by intro q hq; simp at hq; subst hq; exact .inr ghb)
            replace hH := hH12
            rw [Int.toNat_natCast, fill_set _ _ _ _ (by omega)] at hH
            refine rl_end rfl ?_
            refine al_k ?_
            refine cl_reg rfl ?_
            refine st rfl rfl rfl rfl (x_add rfl rfl (by omega)) ?_
            refine st rfl rfl rfl rfl (x_move rfl) ?_
            refine rl_end rfl ?_
            refine again (j + 1) (by omega) ⟨rfl, rfl, rfl, trivial⟩ ⟨by omega, hN, hH, hT, hG, F⟩
          · skip
            refine rl_end rfl ?_
            refine al_k ?_
            refine cl_seq rfl ?_
            refine cl_if0 rfl rfl ?_
            refine cl_exit rfl ?_
            refine upd_self ?_
            refine al_k ?_
            refine cl_seq rfl ?_
            refine cl_reg rfl ?_
            refine st rfl rfl rfl rfl (x_move rfl) ?_
            refine st rfl rfl rfl rfl (x_asg rfl) ?_
            refine st rfl rfl rfl rfl (x_asg rfl) ?_
            refine rl_end rfl ?_
            refine al_k ?_
            refine cl_ret rfl ?_
            refine fin2 rfl rfl rfl ?_
            have ejm : j = m := by omega
            subst ejm
            rw [Nat.sub_self, List.replicate_zero, List.append_nil] at hH
            exact ⟨p, nb, hb, rfl, ⟨hT, hN, hH, by simp [LS.new], by simp [LS.new], by omega, by omega, by omega, hG, by omega⟩, gp, gnb, ghb, F⟩
  · skip
    refine oe rfl rfl rfl rfl (e_new (x_mk 3 24 (.agg (encH ⟨0, 0, 0⟩).toArray) (cs := flat encH (List.replicate m ⟨0, 0, 0⟩)) rfl rfl Tryd.underlying78 (by kernel_rfl) (made_flat lenH _ _) (by omega) (by omega))) ?_
    have ghb : w.heap.size ≤ wd3.heap.size := F.size
    rintro _ w3_3 ⟨rfl, hH, fr3_3, _⟩
    generalize wd3.heap.size = hb at hH ghb ⊢
    replace hG := Glb.fr hG fr3_3 (by simp)
    replace F := F.trans fr3_3
    refine ⟨.inl (by kernel_rfl), ?_⟩
    refine d1 (i := 1) (by kernel_rfl) ?_
    refine oe rfl rfl rfl rfl (e_new (x_mk 3 24 (.agg (encL ⟨0, 0, 0⟩).toArray) (cs := flat encL (List.replicate n ⟨0, 0, 0⟩)) rfl rfl Tryd.underlying77 (by kernel_rfl) (made_flat lenL _ _) (by omega) (by omega))) ?_
    have gnb : w.heap.size ≤ w3_3.heap.size := F.size
    rintro _ w3_1 ⟨rfl, hN, fr3_1, _⟩
    generalize w3_3.heap.size = nb at hN gnb ⊢
    replace hG := Glb.fr hG fr3_1 (by simp)
    replace F := F.trans fr3_1
    replace hH := hH.fr0 fr3_1
    refine ⟨.inl (by kernel_rfl), ?_⟩
    refine dt (i := 4) rfl rfl rfl rfl (by kernel_rfl) (fun _ => x_build rfl (bldT _ _ _ _ _ _ _)) ?_
    refine d1 (i := 5) (by kernel_rfl) ?_
    refine oe rfl rfl rfl rfl (e_new (x_box rfl rfl)) ?_
    have gp : w.heap.size ≤ w3_1.heap.size := F.size
    rintro _ w3_5 ⟨rfl, hT, fr3_5, _⟩
    generalize w3_1.heap.size = p at hT gp ⊢
    replace hG := Glb.fr hG fr3_5 (by simp)
    replace F := F.trans fr3_5
    replace hH := hH.fr0 fr3_5
    replace hN := hN.fr0 fr3_5
    refine ⟨.inl (by kernel_rfl), ?_⟩
    refine dt (i := 6) rfl rfl rfl rfl (by kernel_rfl) (fun _ => x_asg rfl) ?_
    refine dn (by kernel_rfl) ?_
    refine al_k ?_
    refine cl_seq rfl ?_
    refine cl_seq rfl ?_
    refine cl_reg rfl ?_
    refine st rfl rfl rfl rfl (x_move rfl) ?_
    refine st rfl rfl rfl rfl (x_nil rfl) ?_
    refine st rfl rfl rfl rfl (x_fa rfl Tryd.underlying80 rfl Tryd.sizeOf77 0 rfl) ?_
    refine st rfl rfl rfl rfl (x_ld rfl Tryd.isAgg77 (hT.cell rfl)) ?_
    refine st rfl rfl rfl rfl (x_len rfl Tryd.underlying77) ?_
    refine st rfl rfl rfl rfl (x_move rfl) ?_
    refine rl_end rfl ?_
    refine al_k ?_
    refine cl_block rfl ?_
    refine cl_loop (fun k : Nat => [(34, .int .i64 k), (33, .int .i64 n), (6, .pointer (some ⟨p, 0, none⟩))]) (fun k wr => k ≤ n ∧ Blk wr nb 82 (flat encL (List.replicate k loose ++ List.replicate (n - k) ⟨0, 0, 0⟩)) ∧ Blk wr hb 84 (flat encH (List.replicate m ⟨0, 0, 0⟩)) ∧ Blk wr p 80 [.slice (some ⟨nb, 0, none⟩) n n, .slice (some ⟨hb, 0, none⟩) m m, .bool true] ∧ Glb wr ∧ Fr [] w wr) (fun k => n - k) 0 rfl ⟨rfl, rfl, rfl, trivial⟩ ?_ ?_
    · exact ⟨Nat.zero_le _, hN, hH, hT, hG, F⟩
    · skip
      rintro k wr ⟨hk, hN, hH, hT, hG, F⟩
      refine cl_seq rfl ?_
      refine cl_reg rfl ?_
      refine sf rfl rfl rfl rfl (x_lss rfl rfl) (fun c5_0 => ?_) (fun c5_0 => ?_)
      · skip
        refine rl_end rfl ?_
        refine al_k ?_
        refine cl_seq rfl ?_
        refine cl_if1 rfl rfl ?_
        refine cl_skip rfl ?_
        refine al_k ?_
        refine cl_seq rfl ?_
        refine cl_block rfl ?_
        refine cl_seq rfl ?_
        refine cl_reg rfl ?_
        refine st rfl rfl rfl rfl (x_move rfl) ?_
        refine st rfl rfl rfl rfl (x_asg rfl) ?_
        refine rl_end rfl ?_
        refine al_k ?_
        refine cl_draw (by kernel_rfl) rfl [7] (fun w' => w'.heap = wr.heap) ?_
        rintro wd7 frd7 hpd7
        refine ⟨hpd7, ?_⟩
        refine dt (i := 0) rfl rfl rfl rfl (by kernel_rfl) (fun _ => x_move rfl) ?_
        refine dt (i := 1) rfl rfl rfl rfl (by kernel_rfl) (fun _ => x_nil rfl) ?_
        refine dt (i := 2) rfl rfl rfl rfl (by kernel_rfl) (fun _ => x_fa rfl Tryd.underlying80 rfl Tryd.sizeOf77 0 rfl) ?_
        refine dl (i := 3) rfl rfl rfl rfl (by kernel_rfl) (by kernel_rfl) (fun w' hU => x_ld rfl Tryd.isAgg77 (heq hU (hT.cell rfl))) ?_
        refine dt (i := 4) rfl rfl rfl rfl (by kernel_rfl) (fun _ => x_move rfl) ?_
        refine dl (i := 5) rfl rfl rfl rfl (by kernel_rfl) (by kernel_rfl) (fun w' hU => x_ldn rfl Tryd.isAgg82 Tryd.sizeOf82 rfl (heqn hU hG)) ?_
        refine dt (i := 6) rfl rfl rfl rfl (by kernel_rfl) (fun _ => x_ia0 rfl rfl Tryd.underlying77 Tryd.sizeOf82 (by omega)) ?_
        replace hG := Glb.fr hG frd7 (by simp)
        replace F := F.trans frd7
        replace hH := hH.fr0 frd7
        replace hN := hN.fr0 frd7
        replace hT := hT.fr0 frd7
        refine d1 (i := 7) (by kernel_rfl) ?_
        refine osv rfl rfl rfl (v_e lenL loose rfl rfl rfl rfl (oneL _) Tryd.sizeOf82 hN (by simp; omega)) ?_
        rintro w7 ⟨hN7, fr7⟩
        replace hH := hH.fr fr7 (by simpa using (hH.ne hN (by decide)))
        replace hT := hT.fr fr7 (by simpa using (hT.ne hN (by decide)))
        replace hG := Glb.fr hG fr7 (by simp; omega)
        replace F := F.trans_new fr7 (by intro q hq; simp at hq; subst hq; exact .inr gnb)
        replace hN := hN7
        rw [Int.toNat_natCast, fill_set _ _ _ _ (by omega)] at hN
        refine ⟨.inl (by kernel_rfl), ?_⟩
        refine dn (by kernel_rfl) ?_
        refine al_k ?_
        refine cl_reg rfl ?_
        refine st rfl rfl rfl rfl (x_add rfl rfl (by omega)) ?_
        refine st rfl rfl rfl rfl (x_move rfl) ?_
        refine rl_end rfl ?_
        refine again (k + 1) (by omega) ⟨rfl, rfl, rfl, trivial⟩ ⟨by omega, hN, hH, hT, hG, F⟩
      · skip
        refine rl_end rfl ?_
        refine al_k ?_
        refine cl_seq rfl ?_
        refine cl_if0 rfl rfl ?_
        refine cl_exit rfl ?_
        refine upd_self ?_
        refine al_k ?_
        refine cl_seq rfl ?_
        refine cl_seq rfl ?_
        refine cl_reg rfl ?_
        refine st rfl rfl rfl rfl (x_move rfl) ?_
        refine st rfl rfl rfl rfl (x_nil rfl) ?_
        refine st rfl rfl rfl rfl (x_fa rfl Tryd.underlying80 rfl Tryd.sizeOf78 1 rfl) ?_
        refine st rfl rfl rfl rfl (x_ld rfl Tryd.isAgg78 (hT.cell rfl)) ?_
        refine st rfl rfl rfl rfl (x_len rfl Tryd.underlying78) ?_
        refine st rfl rfl rfl rfl (x_move rfl) ?_
        refine rl_end rfl ?_
        refine al_k ?_
        refine cl_block rfl ?_
        have ekn : k = n := by omega
        subst ekn
        rw [Nat.sub_self, List.replicate_zero, List.append_nil] at hN
        refine cl_loop (fun j : Nat => [(50, .int .i64 j), (49, .int .i64 m), (6, .pointer (some ⟨p, 0, none⟩))]) (fun j wr => j ≤ m ∧ Blk wr nb 82 (flat encL (List.replicate k loose)) ∧ Blk wr hb 84 (flat encH (List.replicate j ⟨-1, -1, 0⟩ ++ List.replicate (m - j) ⟨0, 0, 0⟩)) ∧ Blk wr p 80 [.slice (some ⟨nb, 0, none⟩) k k, .slice (some ⟨hb, 0, none⟩) m m, .bool true] ∧ Glb wr ∧ Fr [] w wr) (fun j => m - j) 0 rfl ⟨rfl, rfl, rfl, trivial⟩ ?_ ?_
        · exact ⟨Nat.zero_le _, hN, hH, hT, hG, F⟩
        · skip
          rintro j wr ⟨hj, hN, hH, hT, hG, F⟩
          refine cl_seq rfl ?_
          refine cl_reg rfl ?_
          refine sf rfl rfl rfl rfl (x_lss rfl rfl) (fun c10_0 => ?_) (fun c10_0 => ?_)
          · skip
            refine rl_end rfl ?_
            refine al_k ?_
            refine cl_seq rfl ?_
            refine cl_if1 rfl rfl ?_
            refine cl_skip rfl ?_
            refine al_k ?_
            refine cl_seq rfl ?_
            refine cl_block rfl ?_
            refine cl_seq rfl ?_
            refine cl_reg rfl ?_
            refine st rfl rfl rfl rfl (x_move rfl) ?_
            refine st rfl rfl rfl rfl (x_asg rfl) ?_
            refine rl_end rfl ?_
            refine al_k ?_
            refine cl_reg rfl ?_
            refine st rfl rfl rfl rfl (x_move rfl) ?_
            refine st rfl rfl rfl rfl (x_nil rfl) ?_
            refine st rfl rfl rfl rfl (x_fa rfl Tryd.underlying80 rfl Tryd.sizeOf78 1 rfl) ?_
            refine st rfl rfl rfl rfl (x_ld rfl Tryd.isAgg78 (hT.cell rfl)) ?_
            refine st rfl rfl rfl rfl (x_move rfl) ?_
            refine st rfl rfl rfl rfl (x_build rfl (bldH _ _ _ _)) ?_
            refine st rfl rfl rfl rfl (x_ia0 rfl rfl Tryd.underlying78 Tryd.sizeOf84 (by omega)) ?_
            refine sv rfl rfl rfl (v_e lenH ⟨-1, -1, 0⟩ rfl rfl rfl rfl (oneH _) Tryd.sizeOf84 hH (by simp; omega)) ?_
            rintro w12 ⟨hH12, fr12⟩
            replace hN := hN.fr fr12 (by simpa using (hN.ne hH (by decide)))
            replace hT := hT.fr fr12 (by simpa using (hT.ne hH (by decide)))
            replace hG := Glb.fr hG fr12 (by simp; omega)
            replace F := F.trans_new fr12 (by intro q hq; simp at hq; subst hq; exact .inr ghb)
            replace hH := hH12
            rw [Int.toNat_natCast, fill_set _ _ _ _ (by omega)] at hH
            refine rl_end rfl ?_
            refine al_k ?_
            refine cl_reg rfl ?_
            refine st rfl rfl rfl rfl (x_add rfl rfl (by omega)) ?_
            refine st rfl rfl rfl rfl (x_move rfl) ?_
            refine rl_end rfl ?_
            refine again (j + 1) (by omega) ⟨rfl, rfl, rfl, trivial⟩ ⟨by omega, hN, hH, hT, hG, F⟩
          · skip
            refine rl_end rfl ?_
            refine al_k ?_
            refine cl_seq rfl ?_
            refine cl_if0 rfl rfl ?_
            refine cl_exit rfl ?_
            refine upd_self ?_
            refine al_k ?_
            refine cl_seq rfl ?_
            refine cl_reg rfl ?_
            refine st rfl rfl rfl rfl (x_move rfl) ?_
            refine st rfl rfl rfl rfl (x_asg rfl) ?_
            refine st rfl rfl rfl rfl (x_asg rfl) ?_
            refine rl_end rfl ?_
            refine al_k ?_
            refine cl_ret rfl ?_
            refine fin2 rfl rfl rfl ?_
            have ejm : j = m := by omega
            subst ejm
            rw [Nat.sub_self, List.replicate_zero, List.append_nil] at hH
            exact ⟨p, nb, hb, rfl, ⟨hT, hN, hH, by simp [LS.new], by simp [LS.new], by omega, by omega, by omega, hG, by omega⟩, gp, gnb, ghb, F⟩

theorem new_bad0 (w : World) (n m : Int) (h : n < 0) : Cl Tryd.prog 26 [.int .i64 n, .int .i64 m] w (fun v w' => v = .tuple #[.pointer none, .int .i64 1] ∧ w' = w) := by
  refine enter Tryd.func26 rfl Tryd.ntmps26 rfl ?_
  refine cl_seq rfl ?_
  refine cl_reg rfl ?_
  refine st rfl rfl rfl rfl (x_asg rfl) ?_
  refine st rfl rfl rfl rfl (x_asg rfl) ?_
  refine rl_end rfl ?_
  refine al_k ?_
  refine cl_seq rfl ?_
  refine cl_seq rfl ?_
  refine cl_reg rfl ?_
  refine st rfl rfl rfl rfl (x_move rfl) ?_
  refine st rfl rfl rfl rfl ((x_lss rfl rfl).b1 (by omega)) ?_
  refine st rfl rfl rfl rfl (x_move rfl) ?_
  refine so rfl rfl rfl rfl ?_
  refine so rfl rfl rfl rfl ?_
  refine st rfl rfl rfl rfl (x_pick1 rfl rfl) ?_
  refine st rfl rfl rfl rfl (x_move rfl) ?_
  refine so rfl rfl rfl rfl ?_
  refine so rfl rfl rfl rfl ?_
  refine st rfl rfl rfl rfl (x_pick1 rfl rfl) ?_
  refine st rfl rfl rfl rfl (x_move rfl) ?_
  refine so rfl rfl rfl rfl ?_
  refine so rfl rfl rfl rfl ?_
  refine st rfl rfl rfl rfl (x_pick1 rfl rfl) ?_
  refine rl_end rfl ?_
  refine al_k ?_
  refine cl_if1 rfl rfl ?_
  refine cl_seq rfl ?_
  refine cl_reg rfl ?_
  refine st rfl rfl rfl rfl (x_asg rfl) ?_
  refine st rfl rfl rfl rfl (x_asg rfl) ?_
  refine rl_end rfl ?_
  refine al_k ?_
  refine cl_ret rfl ?_
  refine fin2 rfl rfl rfl ?_
  exact ⟨rfl, rfl⟩

theorem new_bad1 (w : World) (n m : Int) (h : ¬ n < 0 ∧ 65536 < n) : Cl Tryd.prog 26 [.int .i64 n, .int .i64 m] w (fun v w' => v = .tuple #[.pointer none, .int .i64 1] ∧ w' = w) := by
  refine enter Tryd.func26 rfl Tryd.ntmps26 rfl ?_
  refine cl_seq rfl ?_
  refine cl_reg rfl ?_
  refine st rfl rfl rfl rfl (x_asg rfl) ?_
  refine st rfl rfl rfl rfl (x_asg rfl) ?_
  refine rl_end rfl ?_
  refine al_k ?_
  refine cl_seq rfl ?_
  refine cl_seq rfl ?_
  refine cl_reg rfl ?_
  refine st rfl rfl rfl rfl (x_move rfl) ?_
  refine st rfl rfl rfl rfl ((x_lss rfl rfl).b0 (by omega)) ?_
  refine st rfl rfl rfl rfl (x_move rfl) ?_
  refine st rfl rfl rfl rfl (x_move rfl) ?_
  refine st rfl rfl rfl rfl ((x_gtr rfl rfl).b1 (by omega)) ?_
  refine st rfl rfl rfl rfl (x_pick0 rfl rfl) ?_
  refine st rfl rfl rfl rfl (x_move rfl) ?_
  refine so rfl rfl rfl rfl ?_
  refine so rfl rfl rfl rfl ?_
  refine st rfl rfl rfl rfl (x_pick1 rfl rfl) ?_
  refine st rfl rfl rfl rfl (x_move rfl) ?_
  refine so rfl rfl rfl rfl ?_
  refine so rfl rfl rfl rfl ?_
  refine st rfl rfl rfl rfl (x_pick1 rfl rfl) ?_
  refine rl_end rfl ?_
  refine al_k ?_
  refine cl_if1 rfl rfl ?_
  refine cl_seq rfl ?_
  refine cl_reg rfl ?_
  refine st rfl rfl rfl rfl (x_asg rfl) ?_
  refine st rfl rfl rfl rfl (x_asg rfl) ?_
  refine rl_end rfl ?_
  refine al_k ?_
  refine cl_ret rfl ?_
  refine fin2 rfl rfl rfl ?_
  exact ⟨rfl, rfl⟩

theorem new_bad2 (w : World) (n m : Int) (h : (¬ n < 0 ∧ ¬ 65536 < n) ∧ m < 0) : Cl Tryd.prog 26 [.int .i64 n, .int .i64 m] w (fun v w' => v = .tuple #[.pointer none, .int .i64 1] ∧ w' = w) := by
  refine enter Tryd.func26 rfl Tryd.ntmps26 rfl ?_
  refine cl_seq rfl ?_
  refine cl_reg rfl ?_
  refine st rfl rfl rfl rfl (x_asg rfl) ?_
  refine st rfl rfl rfl rfl (x_asg rfl) ?_
  refine rl_end rfl ?_
  refine al_k ?_
  refine cl_seq rfl ?_
  refine cl_seq rfl ?_
  refine cl_reg rfl ?_
  refine st rfl rfl rfl rfl (x_move rfl) ?_
  refine st rfl rfl rfl rfl ((x_lss rfl rfl).b0 (by omega)) ?_
  refine st rfl rfl rfl rfl (x_move rfl) ?_
  refine st rfl rfl rfl rfl (x_move rfl) ?_
  refine st rfl rfl rfl rfl ((x_gtr rfl rfl).b0 (by omega)) ?_
  refine st rfl rfl rfl rfl (x_pick0 rfl rfl) ?_
  refine st rfl rfl rfl rfl (x_move rfl) ?_
  refine st rfl rfl rfl rfl (x_move rfl) ?_
  refine st rfl rfl rfl rfl ((x_lss rfl rfl).b1 (by omega)) ?_
  refine st rfl rfl rfl rfl (x_pick0 rfl rfl) ?_
  refine st rfl rfl rfl rfl (x_move rfl) ?_
  refine so rfl rfl rfl rfl ?_
  refine so rfl rfl rfl rfl ?_
  refine st rfl rfl rfl rfl (x_pick1 rfl rfl) ?_
  refine rl_end rfl ?_
  refine al_k ?_
  refine cl_if1 rfl rfl ?_
  refine cl_seq rfl ?_
  refine cl_reg rfl ?_
  refine st rfl rfl rfl rfl (x_asg rfl) ?_
  refine st rfl rfl rfl rfl (x_asg rfl) ?_
  refine rl_end rfl ?_
  refine al_k ?_
  refine cl_ret rfl ?_
  refine fin2 rfl rfl rfl ?_
  exact ⟨rfl, rfl⟩

theorem new_bad3 (w : World) (n m : Int) (h : (¬ n < 0 ∧ ¬ 65536 < n) ∧ ¬ m < 0 ∧ 65536 < m) : Cl Tryd.prog 26 [.int .i64 n, .int .i64 m] w (fun v w' => v = .tuple #[.pointer none, .int .i64 1] ∧ w' = w) := by
  refine enter Tryd.func26 rfl Tryd.ntmps26 rfl ?_
  refine cl_seq rfl ?_
  refine cl_reg rfl ?_
  refine st rfl rfl rfl rfl (x_asg rfl) ?_
  refine st rfl rfl rfl rfl (x_asg rfl) ?_
  refine rl_end rfl ?_
  refine al_k ?_
  refine cl_seq rfl ?_
  refine cl_seq rfl ?_
  refine cl_reg rfl ?_
  refine st rfl rfl rfl rfl (x_move rfl) ?_
  refine st rfl rfl rfl rfl ((x_lss rfl rfl).b0 (by omega)) ?_
  refine st rfl rfl rfl rfl (x_move rfl) ?_
  refine st rfl rfl rfl rfl (x_move rfl) ?_
  refine st rfl rfl rfl rfl ((x_gtr rfl rfl).b0 (by omega)) ?_
  refine st rfl rfl rfl rfl (x_pick0 rfl rfl) ?_
  refine st rfl rfl rfl rfl (x_move rfl) ?_
  refine st rfl rfl rfl rfl (x_move rfl) ?_
  refine st rfl rfl rfl rfl ((x_lss rfl rfl).b0 (by omega)) ?_
  refine st rfl rfl rfl rfl (x_pick0 rfl rfl) ?_
  refine st rfl rfl rfl rfl (x_move rfl) ?_
  refine st rfl rfl rfl rfl (x_move rfl) ?_
  refine st rfl rfl rfl rfl ((x_gtr rfl rfl).b1 (by omega)) ?_
  refine st rfl rfl rfl rfl (x_pick0 rfl rfl) ?_
  refine rl_end rfl ?_
  refine al_k ?_
  refine cl_if1 rfl rfl ?_
  refine cl_seq rfl ?_
  refine cl_reg rfl ?_
  refine st rfl rfl rfl rfl (x_asg rfl) ?_
  refine st rfl rfl rfl rfl (x_asg rfl) ?_
  refine rl_end rfl ?_
  refine al_k ?_
  refine cl_ret rfl ?_
  refine fin2 rfl rfl rfl ?_
  exact ⟨rfl, rfl⟩

end Go.Proofs.YtcbkpekbfkaeeaaDoor.Ls
