/- Lists by links: the walk of the law ListOnce. -/
import Derived.Test.YtnnhpbjibhnhnabDoorLsW12
import Derived.Test.YtnnhpbjibhnhnabDoorLsO
set_option linter.unusedVariables false
namespace Go.Proofs.YtnnhpbjibhnhnabDoor.Ls
open Go Go.RowKit Go.Proofs.YtnnhpbjibhnhnabDoor.Sx Go.Proofs.YtnnhpbjibhnhnabDoor
set_option maxRecDepth 100000

theorem once_c (w : World) (hG : Glb w) (A2 : Option Addr) (ln2 cp2 : Nat) (hln : ln2 ≤ 9223372036854775807) (hp : ∀ j : Nat, j < ln2 → ∃ (x : Addr) (z0 : Int) (z1 : Int) (z2 : Int), A2 = some x ∧ (∀ i v, [(.int .i64 z0 : Value), .int .i64 z1, .int .i64 z2][i]? = some v → w.cell? ((x.add (((j : Nat) : Int).toNat * 3)).add i) = some v) ∧ (Lit.int .i64 z0).wf = true ∧ (Lit.int .i64 z1).wf = true ∧ (Lit.int .i64 z2).wf = true) : Cl Tryd.prog 5 [.slice A2 ln2 cp2] w (fun v w' => v = .bool true ∧ Fr [] w w') := by
  have F := Fr.refl [] w
  refine enter Tryd.func5 rfl Tryd.ntmps5 rfl ?_
  refine cl_seq rfl ?_
  refine cl_reg rfl ?_
  refine st rfl rfl rfl rfl (x_asg rfl) ?_
  refine rl_end rfl ?_
  refine al_k ?_
  refine cl_seq rfl ?_
  refine cl_reg rfl ?_
  refine sc rfl rfl rfl rfl (c_fn rfl Tryd.call8 (new_r 10 4 hG (by omega) (by omega))) ?_
  rintro _ w1 ⟨p, nb, hb, rfl, Q, g1, g2, g3, F⟩
  have z1 : p < w1.heap.size ∧ nb < w1.heap.size ∧ hb < w1.heap.size := by obtain ⟨⟨x, L, _⟩, _⟩ := Q; exact ⟨L.top.lt, L.nod.lt, L.hed.lt⟩
  refine st rfl rfl rfl rfl (x_move rfl) ?_
  refine st rfl rfl rfl rfl (x_ext rfl rfl) ?_
  refine st rfl rfl rfl rfl (x_ext rfl rfl) ?_
  refine st rfl rfl rfl rfl (x_asg rfl) ?_
  refine st rfl rfl rfl rfl (x_asg rfl) ?_
  refine rl_end rfl ?_
  refine al_k ?_
  refine cl_seq rfl ?_
  refine cl_reg rfl ?_
  refine sc rfl rfl rfl rfl (c_fn rfl Tryd.call13 (rnew_c _ 10 4 (by omega) (by omega))) ?_
  rintro _ w2 ⟨rp, lb, rfl, R, fr⟩
  replace Q := Q.fr0 fr
  have K : Bo w2 p nb hb w1.heap.size w2.heap.size rp lb 10 4 (List.replicate 4 []) := ⟨Q, R, z1.1, z1.2.1, z1.2.2⟩
  have hl0 := R.l0
  have hs1 := F.size
  replace F := F.trans fr
  generalize hls : (List.replicate 4 [] : Rows) = ls0 at K
  have hS : ∀ q ∈ [nb, hb, lb], q ∈ ([] : List Nat) ∨ w.heap.size ≤ q := by intro q hq; simp at hq; right; omega
  generalize w1.heap.size = B0 at *
  generalize w2.heap.size = B at *
  refine st rfl rfl rfl rfl (x_move rfl) ?_
  refine st rfl rfl rfl rfl (x_ext rfl rfl) ?_
  refine st rfl rfl rfl rfl (x_ext rfl rfl) ?_
  refine st rfl rfl rfl rfl (x_asg rfl) ?_
  refine st rfl rfl rfl rfl (x_asg rfl) ?_
  refine rl_end rfl ?_
  refine al_k ?_
  refine cl_seq rfl ?_
  refine cl_seq rfl ?_
  refine cl_reg rfl ?_
  refine st rfl rfl rfl rfl (x_move rfl) ?_
  refine st rfl rfl rfl rfl ((x_neq rfl rfl).b0 (by omega)) ?_
  refine st rfl rfl rfl rfl (x_move rfl) ?_
  refine st rfl rfl rfl rfl (x_move rfl) ?_
  refine st rfl rfl rfl rfl (x_eqlp rfl rfl Tryd.underlying23) ?_
  refine st rfl rfl rfl rfl (x_pick0 rfl rfl) ?_
  refine rl_end rfl ?_
  refine al_k ?_
  refine cl_if0 rfl rfl ?_
  refine cl_skip rfl ?_
  refine al_k ?_
  refine cl_seq rfl ?_
  refine cl_seq rfl ?_
  refine cl_reg rfl ?_
  refine st rfl rfl rfl rfl (x_asg rfl) ?_
  refine rl_end rfl ?_
  refine al_k ?_
  refine cl_block rfl ?_
  refine cl_loop (fun s : Nat × Rows => [(7, .int .i64 s.1), (3, .pointer (some ⟨p, 0, none⟩)), (5, .pointer (some ⟨rp, 0, none⟩)), (0, .slice A2 ln2 cp2)]) (fun s w' => (s.1 ≤ ln2 ∧ s.1 ≤ 60) ∧ Bo w' p nb hb B0 B rp lb 10 4 s.2 ∧ Fr [] w w') (fun s => ln2 + 60 - s.1) (0, ls0) rfl ⟨rfl, rfl, rfl, rfl, trivial⟩ ?_ ?_
  · exact ⟨⟨Nat.zero_le _, Nat.zero_le _⟩, K, F⟩
  · skip
    rintro ⟨i, ls⟩ wr ⟨⟨hi, hi6⟩, K, F⟩
    dsimp only at hi hi6 K ⊢
    refine cl_seq rfl ?_
    refine cl_seq rfl ?_
    refine cl_reg rfl ?_
    refine st rfl rfl rfl rfl (x_move rfl) ?_
    refine st rfl rfl rfl rfl (x_move rfl) ?_
    refine st rfl rfl rfl rfl (x_len rfl Tryd.underlying33) ?_
    refine sf rfl rfl rfl rfl (x_lss rfl rfl) (fun c6_3 => ?_) (fun c6_3 => ?_)
    · skip
      refine st rfl rfl rfl rfl (x_move rfl) ?_
      refine st rfl rfl rfl rfl (x_move rfl) ?_
      refine sf rfl rfl rfl rfl (x_lss rfl rfl) (fun c6_6 => ?_) (fun c6_6 => ?_)
      · skip
        refine st rfl rfl rfl rfl (x_pick1 rfl rfl) ?_
        refine rl_end rfl ?_
        refine al_k ?_
        refine cl_if1 rfl rfl ?_
        refine cl_skip rfl ?_
        refine al_k ?_
        refine cl_seq rfl ?_
        refine cl_block rfl ?_
        refine cl_seq rfl ?_
        obtain ⟨x2, kd, li, nd, rfl, hc, _, _, _⟩ := hp i (by omega)
        replace hc : ∀ q v, [(.int .i64 kd : Value), .int .i64 li, .int .i64 nd][q]? = some v → World.cell? wr ((x2.add (((i : Nat) : Int).toNat * 3)).add q) = some v := fun q v h => F.cell (hc q v h) (by simp)
        refine cl_reg rfl ?_
        refine st rfl rfl rfl rfl (x_move rfl) ?_
        refine st rfl rfl rfl rfl (x_move rfl) ?_
        refine st rfl rfl rfl rfl (x_move rfl) ?_
        refine st rfl rfl rfl rfl (x_move rfl) ?_
        refine st rfl rfl rfl rfl (x_iag rfl rfl Tryd.underlying33 Tryd.sizeOf39 (by omega)) ?_
        refine st rfl rfl rfl rfl (x_ldg (cs := [.int .i64 kd, .int .i64 li, .int .i64 nd]) rfl Tryd.isAgg39 Tryd.sizeOf39 rfl hc) ?_
        refine sc rfl rfl rfl rfl (c_fn rfl Tryd.call14 (do_c _ p nb hb B0 B rp lb 10 4 ls K kd li nd)) ?_
        rintro _ w4 ⟨rfl, K, fr⟩
        replace F := F.trans_new fr hS
        refine st rfl rfl rfl rfl (x_not1 rfl) ?_
        refine rl_end rfl ?_
        refine al_k ?_
        refine cl_if0 rfl rfl ?_
        refine cl_skip rfl ?_
        refine al_k ?_
        refine cl_reg rfl ?_
        refine st rfl rfl rfl rfl (x_move rfl) ?_
        refine st rfl rfl rfl rfl (x_add rfl rfl (by omega)) ?_
        refine st rfl rfl rfl rfl (x_asg rfl) ?_
        refine rl_end rfl ?_
        refine again (i + 1, _) (show ln2 + 60 - (i + 1) < ln2 + 60 - i by omega) ⟨rfl, rfl, rfl, rfl, trivial⟩ ⟨⟨by dsimp only; omega, by dsimp only; omega⟩, K, F⟩
      · skip
        refine st rfl rfl rfl rfl (x_pick1 rfl rfl) ?_
        refine rl_end rfl ?_
        refine al_k ?_
        refine cl_if0 rfl rfl ?_
        refine cl_exit rfl ?_
        refine upd_self ?_
        refine al_k ?_
        refine cl_seq rfl ?_
        refine cl_reg rfl ?_
        refine st rfl rfl rfl rfl (x_asg rfl) ?_
        refine rl_end rfl ?_
        refine al_k ?_
        refine cl_seq rfl ?_
        refine cl_seq rfl ?_
        refine cl_reg rfl ?_
        refine st rfl rfl rfl rfl (x_asg rfl) ?_
        refine rl_end rfl ?_
        refine al_k ?_
        refine cl_block rfl ?_
        refine cl_loop (fun i2 : Nat => [(9, .int .i64 i2), (8, .int .i64 (sm ls i2)), (3, .pointer (some ⟨p, 0, none⟩))]) (fun i2 w' => i2 ≤ 4 ∧ Bo w' p nb hb B0 B rp lb 10 4 ls ∧ Fr [] w w') (fun i2 => 4 - i2) 0 rfl ⟨rfl, rfl, rfl, trivial⟩ ?_ ?_
        · exact ⟨Nat.zero_le _, K, F⟩
        · skip
          rintro i2 wr2 ⟨hi2, K, F⟩
          refine cl_seq rfl ?_
          refine cl_seq rfl ?_
          refine cl_reg rfl ?_
          refine st rfl rfl rfl rfl (x_move rfl) ?_
          refine sf rfl rfl rfl rfl (x_lss rfl rfl) (fun c12_1 => ?_) (fun c12_1 => ?_)
          · skip
            refine rl_end rfl ?_
            refine al_k ?_
            refine cl_if1 rfl rfl ?_
            refine cl_skip rfl ?_
            refine al_k ?_
            refine cl_seq rfl ?_
            refine cl_block rfl ?_
            refine cl_seq rfl ?_
            have hi24 : i2 < 4 := by omega
            have hlen := K.len
            obtain ⟨xs, hxs⟩ : ∃ l, ls[i2]? = some l := ⟨_, List.getElem?_eq_getElem (by omega)⟩
            have hall : aAll ls (i2 : Int) = xs := by unfold aAll; rw [if_pos (show okL ls (i2 : Int) from ⟨by omega, by omega⟩)]; exact rowAt_nat hxs
            have hxl : xs.length ≤ 10 := by rw [← hall]; exact K.hA _
            have hss := sm_succ hxs
            have hs1 := K.sm_le (i2 + 1)
            have hnd := K.hN _ _ hxs
            refine cl_reg rfl ?_
            refine st rfl rfl rfl rfl (x_move rfl) ?_
            refine st rfl rfl rfl rfl (x_move rfl) ?_
            refine sc rfl rfl rfl rfl (c_fn rfl Tryd.call20 ((ltold_c _ (some ⟨p, 0, none⟩) (i2 : Int) (aAll ls (i2 : Int)) (by rw [hall]; omega) (fun w1 fr => (row_r (K.Q.fr0 fr) _).mono (fun v w2 h => ⟨h.1, h.2.2⟩))))) ?_
            rintro v1 wt ⟨HO, fr⟩
            replace F := F.trans fr
            replace K := K.fr0 fr
            rw [hall] at HO
            obtain ⟨A0, c0, rfl, _, hrow⟩ := (SlI.own HO (by omega)).at_
            have Ft := Fr.refl [] wt
            clear HO
            refine st rfl rfl rfl rfl (x_asg rfl) ?_
            refine rl_end rfl ?_
            refine al_k ?_
            refine cl_seq rfl ?_
            refine cl_reg rfl ?_
            refine st rfl rfl rfl rfl (x_asg rfl) ?_
            refine rl_end rfl ?_
            refine al_k ?_
            refine cl_block rfl ?_
            refine cl_loop (fun k : Nat => [(11, .int .i64 k), (8, .int .i64 ((sm ls i2 : Int) + k)), (10, .slice A0 xs.length c0), (9, .int .i64 i2), (3, .pointer (some ⟨p, 0, none⟩))]) (fun k w' => k ≤ xs.length ∧ Fr [] wt w' ∧ Bo w' p nb hb B0 B rp lb 10 4 ls ∧ Fr [] w w') (fun k => xs.length - k) 0 rfl ⟨rfl, (congrArg (fun q => some (Value.int .i64 q)) (by simp)), rfl, rfl, rfl, trivial⟩ ?_ ?_
            · exact ⟨Nat.zero_le _, Ft, K, F⟩
            · skip
              rintro k wr4 ⟨hk, Ft, K, F⟩
              refine cl_seq rfl ?_
              refine cl_seq rfl ?_
              refine cl_reg rfl ?_
              refine st rfl rfl rfl rfl (x_move rfl) ?_
              refine st rfl rfl rfl rfl (x_move rfl) ?_
              refine st rfl rfl rfl rfl (x_len rfl Tryd.underlying40) ?_
              refine sf rfl rfl rfl rfl (x_lss rfl rfl) (fun c16_3 => ?_) (fun c16_3 => ?_)
              · skip
                refine rl_end rfl ?_
                refine al_k ?_
                refine cl_if1 rfl rfl ?_
                refine cl_skip rfl ?_
                refine al_k ?_
                refine cl_seq rfl ?_
                refine cl_block rfl ?_
                refine cl_seq rfl ?_
                have hkl : k < xs.length := by omega
                obtain ⟨z, hz⟩ : ∃ z, xs[k]? = some z := ⟨_, List.getElem?_eq_getElem hkl⟩
                obtain ⟨b, hA, hc⟩ := hrow k z hz
                obtain rfl := hA
                have hc0 := hc
                replace hc := Ft.cell hc (by simp)
                have hof := K.of hxs (List.mem_of_getElem? hz)
                have hz0 := hof.2.1
                have hz1 := hof.2.2
                refine cl_reg rfl ?_
                refine st rfl rfl rfl rfl (x_move rfl) ?_
                refine st rfl rfl rfl rfl (x_move rfl) ?_
                refine st rfl rfl rfl rfl (x_move rfl) ?_
                refine st rfl rfl rfl rfl (x_ia0 rfl rfl Tryd.underlying40 Tryd.sizeOf3 (by omega)) ?_
                refine st rfl rfl rfl rfl (x_ld rfl Tryd.isAgg3 hc) ?_
                refine sc rfl rfl rfl rfl (c_fn rfl Tryd.call21 ((of_r K.Q z).mono (R' := fun v w' => v = .tuple #[.int .i64 (i2 : Int), .bool true] ∧ Fr [] _ w') (fun v w' h => ⟨by rw [h.1, hof.1], h.2.2⟩))) ?_
                rintro _ w18 ⟨rfl, fr⟩
                replace F := F.trans fr
                replace Ft := Ft.trans fr
                replace K := K.fr0 fr
                replace hc := fr.cell hc (by simp)
                refine st rfl rfl rfl rfl (x_move rfl) ?_
                refine st rfl rfl rfl rfl (x_ext rfl rfl) ?_
                refine st rfl rfl rfl rfl (x_ext rfl rfl) ?_
                refine st rfl rfl rfl rfl (x_asg rfl) ?_
                refine st rfl rfl rfl rfl (x_asg rfl) ?_
                refine rl_end rfl ?_
                refine al_k ?_
                refine cl_seq rfl ?_
                refine cl_seq rfl ?_
                refine cl_reg rfl ?_
                refine st rfl rfl rfl rfl (x_move rfl) ?_
                refine st rfl rfl rfl rfl (x_not1 rfl) ?_
                refine st rfl rfl rfl rfl (x_move rfl) ?_
                refine st rfl rfl rfl rfl (x_move rfl) ?_
                refine st rfl rfl rfl rfl (x_move rfl) ?_
                refine st rfl rfl rfl rfl ((x_neq rfl rfl).b0 (fun h => h rfl)) ?_
                refine st rfl rfl rfl rfl (x_pick0 rfl rfl) ?_
                refine st rfl rfl rfl rfl (x_move rfl) ?_
                refine st rfl rfl rfl rfl (x_move rfl) ?_
                refine st rfl rfl rfl rfl (x_move rfl) ?_
                refine st rfl rfl rfl rfl (x_ia0 rfl rfl Tryd.underlying40 Tryd.sizeOf3 (by omega)) ?_
                refine st rfl rfl rfl rfl (x_ld rfl Tryd.isAgg3 hc) ?_
                refine st rfl rfl rfl rfl ((x_lss rfl rfl).b0 (by omega)) ?_
                refine st rfl rfl rfl rfl (x_pick0 rfl rfl) ?_
                refine st rfl rfl rfl rfl (x_move rfl) ?_
                refine st rfl rfl rfl rfl (x_move rfl) ?_
                refine st rfl rfl rfl rfl (x_move rfl) ?_
                refine st rfl rfl rfl rfl (x_ia0 rfl rfl Tryd.underlying40 Tryd.sizeOf3 (by omega)) ?_
                refine st rfl rfl rfl rfl (x_ld rfl Tryd.isAgg3 hc) ?_
                refine st rfl rfl rfl rfl ((x_geq rfl rfl).b0 (by omega)) ?_
                refine st rfl rfl rfl rfl (x_pick0 rfl rfl) ?_
                refine rl_end rfl ?_
                refine al_k ?_
                refine cl_if0 rfl rfl ?_
                refine cl_skip rfl ?_
                refine al_k ?_
                refine cl_seq rfl ?_
                refine cl_seq rfl ?_
                refine cl_reg rfl ?_
                refine st rfl rfl rfl rfl (x_asg rfl) ?_
                refine rl_end rfl ?_
                refine al_k ?_
                refine cl_block rfl ?_
                refine cl_loop (fun m : Nat => [(14, .int .i64 m), (11, .int .i64 k), (8, .int .i64 ((sm ls i2 : Int) + k)), (10, .slice (some ⟨b, 0, none⟩) xs.length c0), (9, .int .i64 i2), (3, .pointer (some ⟨p, 0, none⟩))]) (fun m w' => m ≤ k ∧ Fr [] wt w' ∧ Bo w' p nb hb B0 B rp lb 10 4 ls ∧ Fr [] w w') (fun m => k - m) 0 rfl ⟨rfl, rfl, rfl, rfl, rfl, rfl, trivial⟩ ?_ ?_
                · exact ⟨Nat.zero_le _, Ft, K, F⟩
                · skip
                  rintro m wr6 ⟨hm, Ft, K, F⟩
                  refine cl_seq rfl ?_
                  refine cl_seq rfl ?_
                  refine cl_reg rfl ?_
                  refine st rfl rfl rfl rfl (x_move rfl) ?_
                  refine st rfl rfl rfl rfl (x_move rfl) ?_
                  refine sf rfl rfl rfl rfl (x_lss rfl rfl) (fun c22_2 => ?_) (fun c22_2 => ?_)
                  · skip
                    refine rl_end rfl ?_
                    refine al_k ?_
                    refine cl_if1 rfl rfl ?_
                    refine cl_skip rfl ?_
                    refine al_k ?_
                    refine cl_seq rfl ?_
                    refine cl_block rfl ?_
                    refine cl_seq rfl ?_
                    obtain ⟨zm, hzm⟩ : ∃ z, xs[m]? = some z := ⟨_, List.getElem?_eq_getElem (by omega)⟩
                    obtain ⟨b2, hA2, hcm⟩ := hrow m zm hzm
                    obtain rfl : b = b2 := by have := Option.some.inj hA2; exact congrArg Addr.block this
                    replace hcm := Ft.cell hcm (by simp)
                    replace hc := (Ft.cell hc0 (by simp))
                    refine cl_draw (by kernel_rfl) rfl [] (fun w' => w'.heap = wr6.heap) ?_
                    rintro wd24 frd24 hpd24
                    refine ⟨hpd24, ?_⟩
                    refine dt (i := 0) rfl rfl rfl rfl (by kernel_rfl) (fun _ => x_move rfl) ?_
                    refine dt (i := 1) rfl rfl rfl rfl (by kernel_rfl) (fun _ => x_move rfl) ?_
                    refine dt (i := 2) rfl rfl rfl rfl (by kernel_rfl) (fun _ => x_ia0 rfl rfl Tryd.underlying40 Tryd.sizeOf3 (by omega)) ?_
                    refine dl (i := 3) rfl rfl rfl rfl (by kernel_rfl) (by kernel_rfl) (fun w' hU => x_ld rfl Tryd.isAgg3 (heq hU hcm)) ?_
                    refine dt (i := 4) rfl rfl rfl rfl (by kernel_rfl) (fun _ => x_move rfl) ?_
                    refine dt (i := 5) rfl rfl rfl rfl (by kernel_rfl) (fun _ => x_move rfl) ?_
                    refine dt (i := 6) rfl rfl rfl rfl (by kernel_rfl) (fun _ => x_ia0 rfl rfl Tryd.underlying40 Tryd.sizeOf3 (by omega)) ?_
                    refine dl (i := 7) rfl rfl rfl rfl (by kernel_rfl) (by kernel_rfl) (fun w' hU => x_ld rfl Tryd.isAgg3 (heq hU hc)) ?_
                    refine dt (i := 8) rfl rfl rfl rfl (by kernel_rfl) (fun _ => (x_eql rfl rfl).b0 (fun e => by have := nodup_inj hnd (hzm.trans (congrArg some e)) hz; omega)) ?_
                    replace F := F.trans frd24
                    replace K := K.fr0 frd24
                    replace Ft := Ft.trans frd24
                    refine dn (by kernel_rfl) ?_
                    refine al_k ?_
                    refine cl_if0 rfl rfl ?_
                    refine cl_skip rfl ?_
                    refine al_k ?_
                    refine cl_reg rfl ?_
                    refine st rfl rfl rfl rfl (x_move rfl) ?_
                    refine st rfl rfl rfl rfl (x_add rfl rfl (by omega)) ?_
                    refine st rfl rfl rfl rfl (x_asg rfl) ?_
                    refine rl_end rfl ?_
                    refine again (m + 1) (by omega) ⟨rfl, rfl, rfl, rfl, rfl, rfl, trivial⟩ ⟨by omega, Ft, K, F⟩
                  · skip
                    refine rl_end rfl ?_
                    refine al_k ?_
                    refine cl_if0 rfl rfl ?_
                    refine cl_exit rfl ?_
                    refine upd_self ?_
                    refine al_k ?_
                    refine cl_reg rfl ?_
                    refine st rfl rfl rfl rfl (x_move rfl) ?_
                    refine st rfl rfl rfl rfl (x_add rfl rfl (by omega)) ?_
                    refine st rfl rfl rfl rfl (x_asg rfl) ?_
                    refine rl_end rfl ?_
                    refine al_k ?_
                    refine cl_reg rfl ?_
                    refine st rfl rfl rfl rfl (x_move rfl) ?_
                    refine st rfl rfl rfl rfl (x_add rfl rfl (by omega)) ?_
                    refine st rfl rfl rfl rfl (x_asg rfl) ?_
                    refine rl_end rfl ?_
                    refine again (k + 1) (by omega) ⟨rfl, (congrArg (fun q => some (Value.int .i64 q)) (by omega)), rfl, rfl, rfl, trivial⟩ ⟨by omega, Ft, K, F⟩
              · skip
                refine rl_end rfl ?_
                refine al_k ?_
                refine cl_if0 rfl rfl ?_
                refine cl_exit rfl ?_
                refine upd_self ?_
                refine al_k ?_
                refine cl_reg rfl ?_
                refine st rfl rfl rfl rfl (x_move rfl) ?_
                refine st rfl rfl rfl rfl (x_add rfl rfl (by omega)) ?_
                refine st rfl rfl rfl rfl (x_asg rfl) ?_
                refine rl_end rfl ?_
                have ek : k = xs.length := by omega
                refine again (i2 + 1) (by omega) ⟨rfl, (congrArg (fun q => some (Value.int .i64 q)) (by rw [hss]; omega)), rfl, trivial⟩ ⟨by omega, K, F⟩
          · skip
            refine rl_end rfl ?_
            refine al_k ?_
            refine cl_if0 rfl rfl ?_
            refine cl_exit rfl ?_
            refine upd_self ?_
            refine al_k ?_
            refine cl_seq rfl ?_
            refine cl_seq rfl ?_
            refine cl_reg rfl ?_
            refine st rfl rfl rfl rfl (x_asg rfl) ?_
            refine rl_end rfl ?_
            refine al_k ?_
            refine cl_block rfl ?_
            refine cl_loop (fun n : Nat => [(15, .int .i64 n), (8, .int .i64 ((sm ls 4 : Int) - cn ls n)), (3, .pointer (some ⟨p, 0, none⟩))]) (fun n w' => n ≤ 10 ∧ Bo w' p nb hb B0 B rp lb 10 4 ls ∧ Fr [] w w') (fun n => 10 - n) 0 rfl ⟨rfl, (congrArg (fun q => some (Value.int .i64 q)) (by rw [show i2 = 4 by omega]; simp [cn])), rfl, trivial⟩ ?_ ?_
            · exact ⟨Nat.zero_le _, K, F⟩
            · skip
              rintro n wr8 ⟨hn, K, F⟩
              have hcn := cn_succ ls n
              have hcl := cn_le ls n
              have hs4 := K.sm_le 4
              refine cl_seq rfl ?_
              refine cl_seq rfl ?_
              refine cl_reg rfl ?_
              refine st rfl rfl rfl rfl (x_move rfl) ?_
              refine sf rfl rfl rfl rfl (x_lss rfl rfl) (fun c28_1 => ?_) (fun c28_1 => ?_)
              · skip
                refine rl_end rfl ?_
                refine al_k ?_
                refine cl_if1 rfl rfl ?_
                refine cl_skip rfl ?_
                refine al_k ?_
                refine cl_seq rfl ?_
                refine cl_block rfl ?_
                refine cl_seq rfl ?_
                refine cl_reg rfl ?_
                refine st rfl rfl rfl rfl (x_move rfl) ?_
                refine st rfl rfl rfl rfl (x_move rfl) ?_
                refine sc rfl rfl rfl rfl (c_fn rfl Tryd.call21 ((of_r K.Q (n : Int)).mono (R' := fun v w' => v = .tuple #[.int .i64 (aOf 10 ls (n : Int)).1, .bool (inOne ls n)] ∧ Fr [] _ w') (fun v w' h => ⟨by rw [h.1, aOf_in (by omega)], h.2.2⟩))) ?_
                rintro _ w30 ⟨rfl, fr⟩
                replace F := F.trans fr
                replace K := K.fr0 fr
                refine st rfl rfl rfl rfl (x_move rfl) ?_
                refine st rfl rfl rfl rfl (x_ext rfl rfl) ?_
                refine st rfl rfl rfl rfl (x_ext rfl rfl) ?_
                refine st rfl rfl rfl rfl (x_asg rfl) ?_
                refine st rfl rfl rfl rfl (x_asg rfl) ?_
                refine rl_end rfl ?_
                refine al_k ?_
                refine cl_seq rfl ?_
                refine cl_reg rfl ?_
                refine st rfl rfl rfl rfl (x_move rfl) ?_
                refine rl_end rfl ?_
                refine al_k ?_
                refine cl_cond rfl rfl (fun hb119 => ?_) (fun hb119 => ?_)
                · skip
                  refine cl_reg rfl ?_
                  refine st rfl rfl rfl rfl (x_move rfl) ?_
                  refine st rfl rfl rfl rfl (x_sub rfl rfl (by omega)) ?_
                  refine st rfl rfl rfl rfl (x_asg rfl) ?_
                  refine rl_end rfl ?_
                  refine al_k ?_
                  refine cl_reg rfl ?_
                  refine st rfl rfl rfl rfl (x_move rfl) ?_
                  refine st rfl rfl rfl rfl (x_add rfl rfl (by omega)) ?_
                  refine st rfl rfl rfl rfl (x_asg rfl) ?_
                  refine rl_end rfl ?_
                  rw [show inOne ls n = true from hb119] at hcn
                  refine again (n + 1) (by omega) ⟨rfl, (congrArg (fun q => some (Value.int .i64 q)) (by rw [hcn]; simp; omega)), rfl, trivial⟩ ⟨by omega, K, F⟩
                · skip
                  refine cl_skip rfl ?_
                  refine al_k ?_
                  refine cl_reg rfl ?_
                  refine st rfl rfl rfl rfl (x_move rfl) ?_
                  refine st rfl rfl rfl rfl (x_add rfl rfl (by omega)) ?_
                  refine st rfl rfl rfl rfl (x_asg rfl) ?_
                  refine rl_end rfl ?_
                  rw [show inOne ls n = false from hb119] at hcn
                  refine again (n + 1) (by omega) ⟨rfl, (congrArg (fun q => some (Value.int .i64 q)) (by rw [hcn]; simp)), rfl, trivial⟩ ⟨by omega, K, F⟩
              · skip
                refine rl_end rfl ?_
                refine al_k ?_
                refine cl_if0 rfl rfl ?_
                refine cl_exit rfl ?_
                refine upd_self ?_
                refine al_k ?_
                refine cl_seq rfl ?_
                refine cl_reg rfl ?_
                refine st rfl rfl rfl rfl (x_move rfl) ?_
                refine st rfl rfl rfl rfl ((x_eql rfl rfl).b1 (by have := K.once; rw [show n = 10 by omega]; rw [K.len] at this; omega)) ?_
                refine st rfl rfl rfl rfl (x_move rfl) ?_
                refine sc rfl rfl rfl rfl (c_fn rfl Tryd.call12 (alive_c _ (hG.fr F (by simp)))) ?_
                rintro _ w9 ⟨rfl, fr⟩
                replace F := F.trans fr
                refine st rfl rfl rfl rfl (x_pick1 rfl rfl) ?_
                refine st rfl rfl rfl rfl (x_asg rfl) ?_
                refine rl_end rfl ?_
                refine al_k ?_
                refine cl_ret rfl ?_
                refine fin1 rfl rfl ?_
                exact ⟨rfl, F⟩
    · skip
      refine st rfl rfl rfl rfl (x_move rfl) ?_
      refine so rfl rfl rfl rfl ?_
      refine so rfl rfl rfl rfl ?_
      refine st rfl rfl rfl rfl (x_pick0 rfl rfl) ?_
      refine rl_end rfl ?_
      refine al_k ?_
      refine cl_if0 rfl rfl ?_
      refine cl_exit rfl ?_
      refine upd_self ?_
      refine al_k ?_
      refine cl_seq rfl ?_
      refine cl_reg rfl ?_
      refine st rfl rfl rfl rfl (x_asg rfl) ?_
      refine rl_end rfl ?_
      refine al_k ?_
      refine cl_seq rfl ?_
      refine cl_seq rfl ?_
      refine cl_reg rfl ?_
      refine st rfl rfl rfl rfl (x_asg rfl) ?_
      refine rl_end rfl ?_
      refine al_k ?_
      refine cl_block rfl ?_
      refine cl_loop (fun i2 : Nat => [(9, .int .i64 i2), (8, .int .i64 (sm ls i2)), (3, .pointer (some ⟨p, 0, none⟩))]) (fun i2 w' => i2 ≤ 4 ∧ Bo w' p nb hb B0 B rp lb 10 4 ls ∧ Fr [] w w') (fun i2 => 4 - i2) 0 rfl ⟨rfl, rfl, rfl, trivial⟩ ?_ ?_
      · exact ⟨Nat.zero_le _, K, F⟩
      · skip
        rintro i2 wr2 ⟨hi2, K, F⟩
        refine cl_seq rfl ?_
        refine cl_seq rfl ?_
        refine cl_reg rfl ?_
        refine st rfl rfl rfl rfl (x_move rfl) ?_
        refine sf rfl rfl rfl rfl (x_lss rfl rfl) (fun c12_1 => ?_) (fun c12_1 => ?_)
        · skip
          refine rl_end rfl ?_
          refine al_k ?_
          refine cl_if1 rfl rfl ?_
          refine cl_skip rfl ?_
          refine al_k ?_
          refine cl_seq rfl ?_
          refine cl_block rfl ?_
          refine cl_seq rfl ?_
          have hi24 : i2 < 4 := by omega
          have hlen := K.len
          obtain ⟨xs, hxs⟩ : ∃ l, ls[i2]? = some l := ⟨_, List.getElem?_eq_getElem (by omega)⟩
          have hall : aAll ls (i2 : Int) = xs := by unfold aAll; rw [if_pos (show okL ls (i2 : Int) from ⟨by omega, by omega⟩)]; exact rowAt_nat hxs
          have hxl : xs.length ≤ 10 := by rw [← hall]; exact K.hA _
          have hss := sm_succ hxs
          have hs1 := K.sm_le (i2 + 1)
          have hnd := K.hN _ _ hxs
          refine cl_reg rfl ?_
          refine st rfl rfl rfl rfl (x_move rfl) ?_
          refine st rfl rfl rfl rfl (x_move rfl) ?_
          refine sc rfl rfl rfl rfl (c_fn rfl Tryd.call20 ((ltold_c _ (some ⟨p, 0, none⟩) (i2 : Int) (aAll ls (i2 : Int)) (by rw [hall]; omega) (fun w1 fr => (row_r (K.Q.fr0 fr) _).mono (fun v w2 h => ⟨h.1, h.2.2⟩))))) ?_
          rintro v1 wt ⟨HO, fr⟩
          replace F := F.trans fr
          replace K := K.fr0 fr
          rw [hall] at HO
          obtain ⟨A0, c0, rfl, _, hrow⟩ := (SlI.own HO (by omega)).at_
          have Ft := Fr.refl [] wt
          clear HO
          refine st rfl rfl rfl rfl (x_asg rfl) ?_
          refine rl_end rfl ?_
          refine al_k ?_
          refine cl_seq rfl ?_
          refine cl_reg rfl ?_
          refine st rfl rfl rfl rfl (x_asg rfl) ?_
          refine rl_end rfl ?_
          refine al_k ?_
          refine cl_block rfl ?_
          refine cl_loop (fun k : Nat => [(11, .int .i64 k), (8, .int .i64 ((sm ls i2 : Int) + k)), (10, .slice A0 xs.length c0), (9, .int .i64 i2), (3, .pointer (some ⟨p, 0, none⟩))]) (fun k w' => k ≤ xs.length ∧ Fr [] wt w' ∧ Bo w' p nb hb B0 B rp lb 10 4 ls ∧ Fr [] w w') (fun k => xs.length - k) 0 rfl ⟨rfl, (congrArg (fun q => some (Value.int .i64 q)) (by simp)), rfl, rfl, rfl, trivial⟩ ?_ ?_
          · exact ⟨Nat.zero_le _, Ft, K, F⟩
          · skip
            rintro k wr4 ⟨hk, Ft, K, F⟩
            refine cl_seq rfl ?_
            refine cl_seq rfl ?_
            refine cl_reg rfl ?_
            refine st rfl rfl rfl rfl (x_move rfl) ?_
            refine st rfl rfl rfl rfl (x_move rfl) ?_
            refine st rfl rfl rfl rfl (x_len rfl Tryd.underlying40) ?_
            refine sf rfl rfl rfl rfl (x_lss rfl rfl) (fun c16_3 => ?_) (fun c16_3 => ?_)
            · skip
              refine rl_end rfl ?_
              refine al_k ?_
              refine cl_if1 rfl rfl ?_
              refine cl_skip rfl ?_
              refine al_k ?_
              refine cl_seq rfl ?_
              refine cl_block rfl ?_
              refine cl_seq rfl ?_
              have hkl : k < xs.length := by omega
              obtain ⟨z, hz⟩ : ∃ z, xs[k]? = some z := ⟨_, List.getElem?_eq_getElem hkl⟩
              obtain ⟨b, hA, hc⟩ := hrow k z hz
              obtain rfl := hA
              have hc0 := hc
              replace hc := Ft.cell hc (by simp)
              have hof := K.of hxs (List.mem_of_getElem? hz)
              have hz0 := hof.2.1
              have hz1 := hof.2.2
              refine cl_reg rfl ?_
              refine st rfl rfl rfl rfl (x_move rfl) ?_
              refine st rfl rfl rfl rfl (x_move rfl) ?_
              refine st rfl rfl rfl rfl (x_move rfl) ?_
              refine st rfl rfl rfl rfl (x_ia0 rfl rfl Tryd.underlying40 Tryd.sizeOf3 (by omega)) ?_
              refine st rfl rfl rfl rfl (x_ld rfl Tryd.isAgg3 hc) ?_
              refine sc rfl rfl rfl rfl (c_fn rfl Tryd.call21 ((of_r K.Q z).mono (R' := fun v w' => v = .tuple #[.int .i64 (i2 : Int), .bool true] ∧ Fr [] _ w') (fun v w' h => ⟨by rw [h.1, hof.1], h.2.2⟩))) ?_
              rintro _ w18 ⟨rfl, fr⟩
              replace F := F.trans fr
              replace Ft := Ft.trans fr
              replace K := K.fr0 fr
              replace hc := fr.cell hc (by simp)
              refine st rfl rfl rfl rfl (x_move rfl) ?_
              refine st rfl rfl rfl rfl (x_ext rfl rfl) ?_
              refine st rfl rfl rfl rfl (x_ext rfl rfl) ?_
              refine st rfl rfl rfl rfl (x_asg rfl) ?_
              refine st rfl rfl rfl rfl (x_asg rfl) ?_
              refine rl_end rfl ?_
              refine al_k ?_
              refine cl_seq rfl ?_
              refine cl_seq rfl ?_
              refine cl_reg rfl ?_
              refine st rfl rfl rfl rfl (x_move rfl) ?_
              refine st rfl rfl rfl rfl (x_not1 rfl) ?_
              refine st rfl rfl rfl rfl (x_move rfl) ?_
              refine st rfl rfl rfl rfl (x_move rfl) ?_
              refine st rfl rfl rfl rfl (x_move rfl) ?_
              refine st rfl rfl rfl rfl ((x_neq rfl rfl).b0 (fun h => h rfl)) ?_
              refine st rfl rfl rfl rfl (x_pick0 rfl rfl) ?_
              refine st rfl rfl rfl rfl (x_move rfl) ?_
              refine st rfl rfl rfl rfl (x_move rfl) ?_
              refine st rfl rfl rfl rfl (x_move rfl) ?_
              refine st rfl rfl rfl rfl (x_ia0 rfl rfl Tryd.underlying40 Tryd.sizeOf3 (by omega)) ?_
              refine st rfl rfl rfl rfl (x_ld rfl Tryd.isAgg3 hc) ?_
              refine st rfl rfl rfl rfl ((x_lss rfl rfl).b0 (by omega)) ?_
              refine st rfl rfl rfl rfl (x_pick0 rfl rfl) ?_
              refine st rfl rfl rfl rfl (x_move rfl) ?_
              refine st rfl rfl rfl rfl (x_move rfl) ?_
              refine st rfl rfl rfl rfl (x_move rfl) ?_
              refine st rfl rfl rfl rfl (x_ia0 rfl rfl Tryd.underlying40 Tryd.sizeOf3 (by omega)) ?_
              refine st rfl rfl rfl rfl (x_ld rfl Tryd.isAgg3 hc) ?_
              refine st rfl rfl rfl rfl ((x_geq rfl rfl).b0 (by omega)) ?_
              refine st rfl rfl rfl rfl (x_pick0 rfl rfl) ?_
              refine rl_end rfl ?_
              refine al_k ?_
              refine cl_if0 rfl rfl ?_
              refine cl_skip rfl ?_
              refine al_k ?_
              refine cl_seq rfl ?_
              refine cl_seq rfl ?_
              refine cl_reg rfl ?_
              refine st rfl rfl rfl rfl (x_asg rfl) ?_
              refine rl_end rfl ?_
              refine al_k ?_
              refine cl_block rfl ?_
              refine cl_loop (fun m : Nat => [(14, .int .i64 m), (11, .int .i64 k), (8, .int .i64 ((sm ls i2 : Int) + k)), (10, .slice (some ⟨b, 0, none⟩) xs.length c0), (9, .int .i64 i2), (3, .pointer (some ⟨p, 0, none⟩))]) (fun m w' => m ≤ k ∧ Fr [] wt w' ∧ Bo w' p nb hb B0 B rp lb 10 4 ls ∧ Fr [] w w') (fun m => k - m) 0 rfl ⟨rfl, rfl, rfl, rfl, rfl, rfl, trivial⟩ ?_ ?_
              · exact ⟨Nat.zero_le _, Ft, K, F⟩
              · skip
                rintro m wr6 ⟨hm, Ft, K, F⟩
                refine cl_seq rfl ?_
                refine cl_seq rfl ?_
                refine cl_reg rfl ?_
                refine st rfl rfl rfl rfl (x_move rfl) ?_
                refine st rfl rfl rfl rfl (x_move rfl) ?_
                refine sf rfl rfl rfl rfl (x_lss rfl rfl) (fun c22_2 => ?_) (fun c22_2 => ?_)
                · skip
                  refine rl_end rfl ?_
                  refine al_k ?_
                  refine cl_if1 rfl rfl ?_
                  refine cl_skip rfl ?_
                  refine al_k ?_
                  refine cl_seq rfl ?_
                  refine cl_block rfl ?_
                  refine cl_seq rfl ?_
                  obtain ⟨zm, hzm⟩ : ∃ z, xs[m]? = some z := ⟨_, List.getElem?_eq_getElem (by omega)⟩
                  obtain ⟨b2, hA2, hcm⟩ := hrow m zm hzm
                  obtain rfl : b = b2 := by have := Option.some.inj hA2; exact congrArg Addr.block this
                  replace hcm := Ft.cell hcm (by simp)
                  replace hc := (Ft.cell hc0 (by simp))
                  refine cl_draw (by kernel_rfl) rfl [] (fun w' => w'.heap = wr6.heap) ?_
                  rintro wd24 frd24 hpd24
                  refine ⟨hpd24, ?_⟩
                  refine dt (i := 0) rfl rfl rfl rfl (by kernel_rfl) (fun _ => x_move rfl) ?_
                  refine dt (i := 1) rfl rfl rfl rfl (by kernel_rfl) (fun _ => x_move rfl) ?_
                  refine dt (i := 2) rfl rfl rfl rfl (by kernel_rfl) (fun _ => x_ia0 rfl rfl Tryd.underlying40 Tryd.sizeOf3 (by omega)) ?_
                  refine dl (i := 3) rfl rfl rfl rfl (by kernel_rfl) (by kernel_rfl) (fun w' hU => x_ld rfl Tryd.isAgg3 (heq hU hcm)) ?_
                  refine dt (i := 4) rfl rfl rfl rfl (by kernel_rfl) (fun _ => x_move rfl) ?_
                  refine dt (i := 5) rfl rfl rfl rfl (by kernel_rfl) (fun _ => x_move rfl) ?_
                  refine dt (i := 6) rfl rfl rfl rfl (by kernel_rfl) (fun _ => x_ia0 rfl rfl Tryd.underlying40 Tryd.sizeOf3 (by omega)) ?_
                  refine dl (i := 7) rfl rfl rfl rfl (by kernel_rfl) (by kernel_rfl) (fun w' hU => x_ld rfl Tryd.isAgg3 (heq hU hc)) ?_
                  refine dt (i := 8) rfl rfl rfl rfl (by kernel_rfl) (fun _ => (x_eql rfl rfl).b0 (fun e => by have := nodup_inj hnd (hzm.trans (congrArg some e)) hz; omega)) ?_
                  replace F := F.trans frd24
                  replace K := K.fr0 frd24
                  replace Ft := Ft.trans frd24
                  refine dn (by kernel_rfl) ?_
                  refine al_k ?_
                  refine cl_if0 rfl rfl ?_
                  refine cl_skip rfl ?_
                  refine al_k ?_
                  refine cl_reg rfl ?_
                  refine st rfl rfl rfl rfl (x_move rfl) ?_
                  refine st rfl rfl rfl rfl (x_add rfl rfl (by omega)) ?_
                  refine st rfl rfl rfl rfl (x_asg rfl) ?_
                  refine rl_end rfl ?_
                  refine again (m + 1) (by omega) ⟨rfl, rfl, rfl, rfl, rfl, rfl, trivial⟩ ⟨by omega, Ft, K, F⟩
                · skip
                  refine rl_end rfl ?_
                  refine al_k ?_
                  refine cl_if0 rfl rfl ?_
                  refine cl_exit rfl ?_
                  refine upd_self ?_
                  refine al_k ?_
                  refine cl_reg rfl ?_
                  refine st rfl rfl rfl rfl (x_move rfl) ?_
                  refine st rfl rfl rfl rfl (x_add rfl rfl (by omega)) ?_
                  refine st rfl rfl rfl rfl (x_asg rfl) ?_
                  refine rl_end rfl ?_
                  refine al_k ?_
                  refine cl_reg rfl ?_
                  refine st rfl rfl rfl rfl (x_move rfl) ?_
                  refine st rfl rfl rfl rfl (x_add rfl rfl (by omega)) ?_
                  refine st rfl rfl rfl rfl (x_asg rfl) ?_
                  refine rl_end rfl ?_
                  refine again (k + 1) (by omega) ⟨rfl, (congrArg (fun q => some (Value.int .i64 q)) (by omega)), rfl, rfl, rfl, trivial⟩ ⟨by omega, Ft, K, F⟩
            · skip
              refine rl_end rfl ?_
              refine al_k ?_
              refine cl_if0 rfl rfl ?_
              refine cl_exit rfl ?_
              refine upd_self ?_
              refine al_k ?_
              refine cl_reg rfl ?_
              refine st rfl rfl rfl rfl (x_move rfl) ?_
              refine st rfl rfl rfl rfl (x_add rfl rfl (by omega)) ?_
              refine st rfl rfl rfl rfl (x_asg rfl) ?_
              refine rl_end rfl ?_
              have ek : k = xs.length := by omega
              refine again (i2 + 1) (by omega) ⟨rfl, (congrArg (fun q => some (Value.int .i64 q)) (by rw [hss]; omega)), rfl, trivial⟩ ⟨by omega, K, F⟩
        · skip
          refine rl_end rfl ?_
          refine al_k ?_
          refine cl_if0 rfl rfl ?_
          refine cl_exit rfl ?_
          refine upd_self ?_
          refine al_k ?_
          refine cl_seq rfl ?_
          refine cl_seq rfl ?_
          refine cl_reg rfl ?_
          refine st rfl rfl rfl rfl (x_asg rfl) ?_
          refine rl_end rfl ?_
          refine al_k ?_
          refine cl_block rfl ?_
          refine cl_loop (fun n : Nat => [(15, .int .i64 n), (8, .int .i64 ((sm ls 4 : Int) - cn ls n)), (3, .pointer (some ⟨p, 0, none⟩))]) (fun n w' => n ≤ 10 ∧ Bo w' p nb hb B0 B rp lb 10 4 ls ∧ Fr [] w w') (fun n => 10 - n) 0 rfl ⟨rfl, (congrArg (fun q => some (Value.int .i64 q)) (by rw [show i2 = 4 by omega]; simp [cn])), rfl, trivial⟩ ?_ ?_
          · exact ⟨Nat.zero_le _, K, F⟩
          · skip
            rintro n wr8 ⟨hn, K, F⟩
            have hcn := cn_succ ls n
            have hcl := cn_le ls n
            have hs4 := K.sm_le 4
            refine cl_seq rfl ?_
            refine cl_seq rfl ?_
            refine cl_reg rfl ?_
            refine st rfl rfl rfl rfl (x_move rfl) ?_
            refine sf rfl rfl rfl rfl (x_lss rfl rfl) (fun c28_1 => ?_) (fun c28_1 => ?_)
            · skip
              refine rl_end rfl ?_
              refine al_k ?_
              refine cl_if1 rfl rfl ?_
              refine cl_skip rfl ?_
              refine al_k ?_
              refine cl_seq rfl ?_
              refine cl_block rfl ?_
              refine cl_seq rfl ?_
              refine cl_reg rfl ?_
              refine st rfl rfl rfl rfl (x_move rfl) ?_
              refine st rfl rfl rfl rfl (x_move rfl) ?_
              refine sc rfl rfl rfl rfl (c_fn rfl Tryd.call21 ((of_r K.Q (n : Int)).mono (R' := fun v w' => v = .tuple #[.int .i64 (aOf 10 ls (n : Int)).1, .bool (inOne ls n)] ∧ Fr [] _ w') (fun v w' h => ⟨by rw [h.1, aOf_in (by omega)], h.2.2⟩))) ?_
              rintro _ w30 ⟨rfl, fr⟩
              replace F := F.trans fr
              replace K := K.fr0 fr
              refine st rfl rfl rfl rfl (x_move rfl) ?_
              refine st rfl rfl rfl rfl (x_ext rfl rfl) ?_
              refine st rfl rfl rfl rfl (x_ext rfl rfl) ?_
              refine st rfl rfl rfl rfl (x_asg rfl) ?_
              refine st rfl rfl rfl rfl (x_asg rfl) ?_
              refine rl_end rfl ?_
              refine al_k ?_
              refine cl_seq rfl ?_
              refine cl_reg rfl ?_
              refine st rfl rfl rfl rfl (x_move rfl) ?_
              refine rl_end rfl ?_
              refine al_k ?_
              refine cl_cond rfl rfl (fun hb119 => ?_) (fun hb119 => ?_)
              · skip
                refine cl_reg rfl ?_
                refine st rfl rfl rfl rfl (x_move rfl) ?_
                refine st rfl rfl rfl rfl (x_sub rfl rfl (by omega)) ?_
                refine st rfl rfl rfl rfl (x_asg rfl) ?_
                refine rl_end rfl ?_
                refine al_k ?_
                refine cl_reg rfl ?_
                refine st rfl rfl rfl rfl (x_move rfl) ?_
                refine st rfl rfl rfl rfl (x_add rfl rfl (by omega)) ?_
                refine st rfl rfl rfl rfl (x_asg rfl) ?_
                refine rl_end rfl ?_
                rw [show inOne ls n = true from hb119] at hcn
                refine again (n + 1) (by omega) ⟨rfl, (congrArg (fun q => some (Value.int .i64 q)) (by rw [hcn]; simp; omega)), rfl, trivial⟩ ⟨by omega, K, F⟩
              · skip
                refine cl_skip rfl ?_
                refine al_k ?_
                refine cl_reg rfl ?_
                refine st rfl rfl rfl rfl (x_move rfl) ?_
                refine st rfl rfl rfl rfl (x_add rfl rfl (by omega)) ?_
                refine st rfl rfl rfl rfl (x_asg rfl) ?_
                refine rl_end rfl ?_
                rw [show inOne ls n = false from hb119] at hcn
                refine again (n + 1) (by omega) ⟨rfl, (congrArg (fun q => some (Value.int .i64 q)) (by rw [hcn]; simp)), rfl, trivial⟩ ⟨by omega, K, F⟩
            · skip
              refine rl_end rfl ?_
              refine al_k ?_
              refine cl_if0 rfl rfl ?_
              refine cl_exit rfl ?_
              refine upd_self ?_
              refine al_k ?_
              refine cl_seq rfl ?_
              refine cl_reg rfl ?_
              refine st rfl rfl rfl rfl (x_move rfl) ?_
              refine st rfl rfl rfl rfl ((x_eql rfl rfl).b1 (by have := K.once; rw [show n = 10 by omega]; rw [K.len] at this; omega)) ?_
              refine st rfl rfl rfl rfl (x_move rfl) ?_
              refine sc rfl rfl rfl rfl (c_fn rfl Tryd.call12 (alive_c _ (hG.fr F (by simp)))) ?_
              rintro _ w9 ⟨rfl, fr⟩
              replace F := F.trans fr
              refine st rfl rfl rfl rfl (x_pick1 rfl rfl) ?_
              refine st rfl rfl rfl rfl (x_asg rfl) ?_
              refine rl_end rfl ?_
              refine al_k ?_
              refine cl_ret rfl ?_
              refine fin1 rfl rfl ?_
              exact ⟨rfl, F⟩

end Go.Proofs.YtnnhpbjibhnhnabDoor.Ls
