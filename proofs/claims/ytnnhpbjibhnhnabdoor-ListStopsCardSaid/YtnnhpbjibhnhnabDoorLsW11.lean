/- Both lists: the walks of the law's own deeds on them. -/
import Derived.Test.YtnnhpbjibhnhnabDoorLsW5
import Derived.Test.YtnnhpbjibhnhnabDoorLsG
set_option linter.unusedVariables false
namespace Go.Proofs.YtnnhpbjibhnhnabDoor.Ls
open Go Go.RowKit Go.Proofs.YtnnhpbjibhnhnabDoor.Sx Go.Proofs.YtnnhpbjibhnhnabDoor
set_option maxRecDepth 100000

theorem rnew_c (w : World) (n m : Nat) (hn : n ≤ 65536) (hm : m ≤ 65536) : Cl Tryd.prog 13 [.int .i64 n, .int .i64 m] w (fun v w' => ∃ rp lb, v = .tuple #[.pointer (some ⟨rp, 0, none⟩), .int .i64 0] ∧ RefAt w' w.heap.size w'.heap.size rp lb n (List.replicate m []) ∧ Fr [] w w') := by
  have F := Fr.refl [] w
  refine enter Tryd.func13 rfl Tryd.ntmps13 rfl ?_
  refine cl_seq rfl ?_
  refine cl_reg rfl ?_
  refine st rfl rfl rfl rfl (x_asg rfl) ?_
  refine st rfl rfl rfl rfl (x_asg rfl) ?_
  refine rl_end rfl ?_
  refine al_k ?_
  refine cl_seq rfl ?_
  refine cl_seq rfl ?_
  refine cl_reg rfl ?_
  refine st rfl rfl rfl rfl (x_move rfl) ?_
  refine st rfl rfl rfl rfl ((x_lss rfl rfl).b0 (by omega)) ?_
  refine st rfl rfl rfl rfl (x_move rfl) ?_
  refine st rfl rfl rfl rfl (x_move rfl) ?_
  refine st rfl rfl rfl rfl ((x_gtr rfl rfl).b0 (by omega)) ?_
  refine st rfl rfl rfl rfl (x_pick0 rfl rfl) ?_
  refine st rfl rfl rfl rfl (x_move rfl) ?_
  refine st rfl rfl rfl rfl (x_move rfl) ?_
  refine st rfl rfl rfl rfl ((x_lss rfl rfl).b0 (by omega)) ?_
  refine st rfl rfl rfl rfl (x_pick0 rfl rfl) ?_
  refine st rfl rfl rfl rfl (x_move rfl) ?_
  refine st rfl rfl rfl rfl (x_move rfl) ?_
  refine st rfl rfl rfl rfl ((x_gtr rfl rfl).b0 (by omega)) ?_
  refine st rfl rfl rfl rfl (x_pick0 rfl rfl) ?_
  refine rl_end rfl ?_
  refine al_k ?_
  refine cl_if0 rfl rfl ?_
  refine cl_skip rfl ?_
  refine al_k ?_
  refine cl_seq rfl ?_
  refine cl_reg rfl ?_
  refine st rfl rfl rfl rfl (x_move rfl) ?_
  refine st rfl rfl rfl rfl (x_move rfl) ?_
  refine se rfl rfl rfl rfl (e_new (x_mk 1 24 (.slice none 0 0) (cs := List.replicate m (.slice none 0 0)) rfl rfl Tryd.underlying67 (by kernel_rfl) (made_1 _ _) (by omega) (by omega))) ?_
  rintro _ w3 ⟨rfl, bL, fr3, sz3⟩
  replace F := F.trans fr3
  generalize hlb : w.heap.size = lb at bL ⊢
  refine st rfl rfl rfl rfl (x_build rfl (bldR _ _ _ _ _)) ?_
  refine se rfl rfl rfl rfl (e_new (x_box rfl rfl)) ?_
  rintro _ w4 ⟨rfl, bR, fr4, sz4⟩
  replace F := F.trans fr4
  replace bL := bL.fr0 fr4
  have hs3 := bL.lt
  have hr4 := bR.lt
  have hs4 := fr4.size
  have hl3 : lb < w3.heap.size := by have := fr3.size; omega
  refine st rfl rfl rfl rfl (x_asg rfl) ?_
  refine st rfl rfl rfl rfl (x_asg rfl) ?_
  refine rl_end rfl ?_
  refine al_k ?_
  refine cl_ret rfl ?_
  refine fin2 rfl rfl rfl ?_
  refine ⟨_, lb, rfl, ⟨by rw [List.length_replicate]; exact bR, ⟨_, bL, by simp, fun i v l hv hl => ?_⟩, hr4, hs3, ?_, by omega, by simp; omega, hn, Nat.le_refl _⟩, F⟩
  · have e1 : v = .slice none 0 0 := List.eq_of_mem_replicate (List.mem_of_getElem? hv)
    have e2 : l = [] := List.eq_of_mem_replicate (List.mem_of_getElem? hl)
    subst e1
    subst e2
    exact RowV.nil _ _
  · have := fr3.size
    omega

theorem rnew_bad0 (w : World) (n m : Int) (h : n < 0) : Cl Tryd.prog 13 [.int .i64 n, .int .i64 m] w (fun v w' => v = .tuple #[.pointer none, .int .i64 1] ∧ w' = w) := by
  refine enter Tryd.func13 rfl Tryd.ntmps13 rfl ?_
  refine cl_seq rfl ?_
  refine cl_reg rfl ?_
  refine st rfl rfl rfl rfl (x_asg rfl) ?_
  refine st rfl rfl rfl rfl (x_asg rfl) ?_
  refine rl_end rfl ?_
  refine al_k ?_
  refine cl_seq rfl ?_
  refine cl_seq rfl ?_
  refine cl_reg rfl ?_
  refine st rfl rfl rfl rfl (x_move rfl) ?_
  refine st rfl rfl rfl rfl ((x_lss rfl rfl).b1 (by omega)) ?_
  refine st rfl rfl rfl rfl (x_move rfl) ?_
  refine so rfl rfl rfl rfl ?_
  refine so rfl rfl rfl rfl ?_
  refine st rfl rfl rfl rfl (x_pick1 rfl rfl) ?_
  refine st rfl rfl rfl rfl (x_move rfl) ?_
  refine so rfl rfl rfl rfl ?_
  refine so rfl rfl rfl rfl ?_
  refine st rfl rfl rfl rfl (x_pick1 rfl rfl) ?_
  refine st rfl rfl rfl rfl (x_move rfl) ?_
  refine so rfl rfl rfl rfl ?_
  refine so rfl rfl rfl rfl ?_
  refine st rfl rfl rfl rfl (x_pick1 rfl rfl) ?_
  refine rl_end rfl ?_
  refine al_k ?_
  refine cl_if1 rfl rfl ?_
  refine cl_seq rfl ?_
  refine cl_reg rfl ?_
  refine st rfl rfl rfl rfl (x_asg rfl) ?_
  refine st rfl rfl rfl rfl (x_asg rfl) ?_
  refine rl_end rfl ?_
  refine al_k ?_
  refine cl_ret rfl ?_
  refine fin2 rfl rfl rfl ?_
  exact ⟨rfl, rfl⟩

theorem rnew_bad1 (w : World) (n m : Int) (h : ¬ n < 0 ∧ 65536 < n) : Cl Tryd.prog 13 [.int .i64 n, .int .i64 m] w (fun v w' => v = .tuple #[.pointer none, .int .i64 1] ∧ w' = w) := by
  refine enter Tryd.func13 rfl Tryd.ntmps13 rfl ?_
  refine cl_seq rfl ?_
  refine cl_reg rfl ?_
  refine st rfl rfl rfl rfl (x_asg rfl) ?_
  refine st rfl rfl rfl rfl (x_asg rfl) ?_
  refine rl_end rfl ?_
  refine al_k ?_
  refine cl_seq rfl ?_
  refine cl_seq rfl ?_
  refine cl_reg rfl ?_
  refine st rfl rfl rfl rfl (x_move rfl) ?_
  refine st rfl rfl rfl rfl ((x_lss rfl rfl).b0 (by omega)) ?_
  refine st rfl rfl rfl rfl (x_move rfl) ?_
  refine st rfl rfl rfl rfl (x_move rfl) ?_
  refine st rfl rfl rfl rfl ((x_gtr rfl rfl).b1 (by omega)) ?_
  refine st rfl rfl rfl rfl (x_pick0 rfl rfl) ?_
  refine st rfl rfl rfl rfl (x_move rfl) ?_
  refine so rfl rfl rfl rfl ?_
  refine so rfl rfl rfl rfl ?_
  refine st rfl rfl rfl rfl (x_pick1 rfl rfl) ?_
  refine st rfl rfl rfl rfl (x_move rfl) ?_
  refine so rfl rfl rfl rfl ?_
  refine so rfl rfl rfl rfl ?_
  refine st rfl rfl rfl rfl (x_pick1 rfl rfl) ?_
  refine rl_end rfl ?_
  refine al_k ?_
  refine cl_if1 rfl rfl ?_
  refine cl_seq rfl ?_
  refine cl_reg rfl ?_
  refine st rfl rfl rfl rfl (x_asg rfl) ?_
  refine st rfl rfl rfl rfl (x_asg rfl) ?_
  refine rl_end rfl ?_
  refine al_k ?_
  refine cl_ret rfl ?_
  refine fin2 rfl rfl rfl ?_
  exact ⟨rfl, rfl⟩

theorem rnew_bad2 (w : World) (n m : Int) (h : (¬ n < 0 ∧ ¬ 65536 < n) ∧ m < 0) : Cl Tryd.prog 13 [.int .i64 n, .int .i64 m] w (fun v w' => v = .tuple #[.pointer none, .int .i64 1] ∧ w' = w) := by
  refine enter Tryd.func13 rfl Tryd.ntmps13 rfl ?_
  refine cl_seq rfl ?_
  refine cl_reg rfl ?_
  refine st rfl rfl rfl rfl (x_asg rfl) ?_
  refine st rfl rfl rfl rfl (x_asg rfl) ?_
  refine rl_end rfl ?_
  refine al_k ?_
  refine cl_seq rfl ?_
  refine cl_seq rfl ?_
  refine cl_reg rfl ?_
  refine st rfl rfl rfl rfl (x_move rfl) ?_
  refine st rfl rfl rfl rfl ((x_lss rfl rfl).b0 (by omega)) ?_
  refine st rfl rfl rfl rfl (x_move rfl) ?_
  refine st rfl rfl rfl rfl (x_move rfl) ?_
  refine st rfl rfl rfl rfl ((x_gtr rfl rfl).b0 (by omega)) ?_
  refine st rfl rfl rfl rfl (x_pick0 rfl rfl) ?_
  refine st rfl rfl rfl rfl (x_move rfl) ?_
  refine st rfl rfl rfl rfl (x_move rfl) ?_
  refine st rfl rfl rfl rfl ((x_lss rfl rfl).b1 (by omega)) ?_
  refine st rfl rfl rfl rfl (x_pick0 rfl rfl) ?_
  refine st rfl rfl rfl rfl (x_move rfl) ?_
  refine so rfl rfl rfl rfl ?_
  refine so rfl rfl rfl rfl ?_
  refine st rfl rfl rfl rfl (x_pick1 rfl rfl) ?_
  refine rl_end rfl ?_
  refine al_k ?_
  refine cl_if1 rfl rfl ?_
  refine cl_seq rfl ?_
  refine cl_reg rfl ?_
  refine st rfl rfl rfl rfl (x_asg rfl) ?_
  refine st rfl rfl rfl rfl (x_asg rfl) ?_
  refine rl_end rfl ?_
  refine al_k ?_
  refine cl_ret rfl ?_
  refine fin2 rfl rfl rfl ?_
  exact ⟨rfl, rfl⟩

theorem rnew_bad3 (w : World) (n m : Int) (h : (¬ n < 0 ∧ ¬ 65536 < n) ∧ ¬ m < 0 ∧ 65536 < m) : Cl Tryd.prog 13 [.int .i64 n, .int .i64 m] w (fun v w' => v = .tuple #[.pointer none, .int .i64 1] ∧ w' = w) := by
  refine enter Tryd.func13 rfl Tryd.ntmps13 rfl ?_
  refine cl_seq rfl ?_
  refine cl_reg rfl ?_
  refine st rfl rfl rfl rfl (x_asg rfl) ?_
  refine st rfl rfl rfl rfl (x_asg rfl) ?_
  refine rl_end rfl ?_
  refine al_k ?_
  refine cl_seq rfl ?_
  refine cl_seq rfl ?_
  refine cl_reg rfl ?_
  refine st rfl rfl rfl rfl (x_move rfl) ?_
  refine st rfl rfl rfl rfl ((x_lss rfl rfl).b0 (by omega)) ?_
  refine st rfl rfl rfl rfl (x_move rfl) ?_
  refine st rfl rfl rfl rfl (x_move rfl) ?_
  refine st rfl rfl rfl rfl ((x_gtr rfl rfl).b0 (by omega)) ?_
  refine st rfl rfl rfl rfl (x_pick0 rfl rfl) ?_
  refine st rfl rfl rfl rfl (x_move rfl) ?_
  refine st rfl rfl rfl rfl (x_move rfl) ?_
  refine st rfl rfl rfl rfl ((x_lss rfl rfl).b0 (by omega)) ?_
  refine st rfl rfl rfl rfl (x_pick0 rfl rfl) ?_
  refine st rfl rfl rfl rfl (x_move rfl) ?_
  refine st rfl rfl rfl rfl (x_move rfl) ?_
  refine st rfl rfl rfl rfl ((x_gtr rfl rfl).b1 (by omega)) ?_
  refine st rfl rfl rfl rfl (x_pick0 rfl rfl) ?_
  refine rl_end rfl ?_
  refine al_k ?_
  refine cl_if1 rfl rfl ?_
  refine cl_seq rfl ?_
  refine cl_reg rfl ?_
  refine st rfl rfl rfl rfl (x_asg rfl) ?_
  refine st rfl rfl rfl rfl (x_asg rfl) ?_
  refine rl_end rfl ?_
  refine al_k ?_
  refine cl_ret rfl ?_
  refine fin2 rfl rfl rfl ?_
  exact ⟨rfl, rfl⟩

theorem rback_c (w : World) (B0 B rp lb N : Nat) (ls : Rows) (R : RefAt w B0 B rp lb N ls) (hB : ∀ (i : Nat) l, ls[i]? = some l → l.length ≤ 65536) (li : Int) : Cl Tryd.prog 38 [.pointer (some ⟨rp, 0, none⟩), .int .i64 li] w (fun v w' => w'.ownsRow w.heap.size 3 1 v (aAll ls li).reverse.length (ints (aAll ls li).reverse) ∧ Fr [] w w') := by
  have F := Fr.refl [] w
  refine enter Tryd.func38 rfl Tryd.ntmps38 rfl ?_
  refine cl_seq rfl ?_
  refine cl_reg rfl ?_
  refine st rfl rfl rfl rfl (x_asg rfl) ?_
  refine rl_end rfl ?_
  refine al_k ?_
  refine cl_seq rfl ?_
  refine cl_reg rfl ?_
  refine st rfl rfl rfl rfl (x_move rfl) ?_
  refine st rfl rfl rfl rfl (x_move rfl) ?_
  refine sc rfl rfl rfl rfl (c_fn rfl Tryd.call15 (rall_c _ B0 B rp lb N ls R li)) ?_
  rintro v1 wk ⟨hv, hwk⟩
  obtain rfl := hwk.symm
  obtain ⟨A0, c0, rfl, hA, hrow⟩ := hv
  have hla : (aAll ls li).length ≤ 65536 := by unfold aAll; split; exact hB _ _ (rowAt_some (by assumption)); simp
  generalize hxs : aAll ls li = xs at *
  refine st rfl rfl rfl rfl (x_asg rfl) ?_
  refine rl_end rfl ?_
  refine al_k ?_
  refine cl_seq rfl ?_
  refine cl_reg rfl ?_
  refine st rfl rfl rfl rfl (x_asg rfl) ?_
  refine rl_end rfl ?_
  refine al_k ?_
  refine cl_seq rfl ?_
  refine cl_seq rfl ?_
  refine cl_reg rfl ?_
  refine st rfl rfl rfl rfl (x_move rfl) ?_
  refine st rfl rfl rfl rfl (x_len rfl Tryd.underlying40) ?_
  refine st rfl rfl rfl rfl (x_sub rfl rfl (by omega)) ?_
  refine st rfl rfl rfl rfl (x_asg rfl) ?_
  refine rl_end rfl ?_
  refine al_k ?_
  refine cl_block rfl ?_
  refine cl_loop (fun s : Nat × Value => [(7, .int .i64 ((xs.length : Int) - 1 - s.1)), (6, s.2), (5, .slice A0 xs.length c0)]) (fun s w' => s.1 ≤ xs.length ∧ w'.ownsRow w.heap.size 3 1 s.2 s.1 (ints (xs.reverse.take s.1)) ∧ Fr [] w w') (fun s => xs.length - s.1) (0, .slice none 0 0) rfl ⟨(congrArg (fun q => some (Value.int .i64 q)) (by simp)), rfl, rfl, trivial⟩ ?_ ?_
  · exact ⟨Nat.zero_le _, own_nil _ _ _, F⟩
  · skip
    rintro ⟨k, v⟩ wr ⟨hk, HO, F⟩
    dsimp only at hk HO ⊢
    refine cl_seq rfl ?_
    refine cl_seq rfl ?_
    refine cl_reg rfl ?_
    refine st rfl rfl rfl rfl (x_move rfl) ?_
    refine sf rfl rfl rfl rfl (x_geq rfl rfl) (fun c4_1 => ?_) (fun c4_1 => ?_)
    · skip
      refine rl_end rfl ?_
      refine al_k ?_
      refine cl_if1 rfl rfl ?_
      refine cl_skip rfl ?_
      refine al_k ?_
      refine cl_seq rfl ?_
      refine cl_block rfl ?_
      have hkl : k < xs.length := by omega
      obtain ⟨z, hz⟩ : ∃ z, xs[xs.length - 1 - k]? = some z := ⟨_, List.getElem?_eq_getElem (by omega)⟩
      have hzr : xs.reverse[k]? = some z := by rw [List.getElem?_reverse hkl]; exact hz
      have hne : xs ≠ [] := by rintro rfl; simp at hkl
      obtain ⟨b, rfl, _, _, hc⟩ := hrow.resolve_left hne
      replace hc := F.cell (hc _ _ (show (ints xs)[xs.length - 1 - k]? = some (.int .i64 z) by simp [ints, hz])) (by simp)
      have hix : ((xs.length : Int) - 1 - k).toNat = xs.length - 1 - k := by omega
      refine cl_reg rfl ?_
      refine st rfl rfl rfl rfl (x_move rfl) ?_
      refine st rfl rfl rfl rfl (x_move rfl) ?_
      refine st rfl rfl rfl rfl (x_move rfl) ?_
      refine st rfl rfl rfl rfl (x_ia0 rfl rfl Tryd.underlying40 Tryd.sizeOf3 (by omega)) ?_
      refine st rfl rfl rfl rfl (x_ld rfl Tryd.isAgg3 (by rw [hix, Nat.mul_one]; exact hc)) ?_
      refine se rfl rfl rfl rfl (e_new (x_bsl rfl (bsl1 Tryd.underlying40 Tryd.sizeOf3 Tryd.zeroValue3 rfl rfl))) ?_
      rintro _ w2 ⟨rfl, b2, fr2, sz2⟩
      replace F := F.trans fr2
      replace HO := own_fr0 HO fr2
      refine se rfl rfl rfl rfl (e_app 1 8 (.int .i64 0) [.int .i64 z] rfl rfl Tryd.underlying40 (by kernel_rfl) rfl (by decide) HO rfl b2.news (by simp; rfl) (by omega) (by omega) (F.size)) ?_
      rintro v1 w1 ⟨HO1, hg, hat⟩
      replace F := F.grown hg (own_ge HO)
      replace HO := HO1
      refine st rfl rfl rfl rfl (x_asg rfl) ?_
      refine rl_end rfl ?_
      refine al_k ?_
      refine cl_reg rfl ?_
      refine st rfl rfl rfl rfl (x_move rfl) ?_
      refine st rfl rfl rfl rfl (x_sub rfl rfl (by omega)) ?_
      refine st rfl rfl rfl rfl (x_asg rfl) ?_
      refine rl_end rfl ?_
      refine again (k + 1, v1) (show xs.length - (k + 1) < xs.length - k by omega) ⟨(congrArg (fun q => some (Value.int .i64 q)) (by omega)), rfl, rfl, trivial⟩ ⟨by show k + 1 ≤ _; omega, ?_, F⟩
      have e : ints (xs.reverse.take (k + 1)) = ints (xs.reverse.take k) ++ [.int .i64 z] := by rw [List.take_add_one, hzr]; simp [ints]
      dsimp only
      rw [e]
      exact HO
    · skip
      refine rl_end rfl ?_
      refine al_k ?_
      refine cl_if0 rfl rfl ?_
      refine cl_exit rfl ?_
      refine upd_self ?_
      refine al_k ?_
      refine cl_seq rfl ?_
      refine cl_reg rfl ?_
      refine st rfl rfl rfl rfl (x_move rfl) ?_
      refine st rfl rfl rfl rfl (x_asg rfl) ?_
      refine rl_end rfl ?_
      refine al_k ?_
      refine cl_ret rfl ?_
      refine fin1 rfl rfl ?_
      have e : k = xs.length := by omega
      subst e
      rw [List.take_of_length_le (by simp)] at HO
      rw [List.length_reverse]
      exact ⟨HO, F⟩

theorem do_c (w : World) (p nb hb B0 B rp lb N H : Nat) (ls : Rows) (K : Bo w p nb hb B0 B rp lb N H ls) (kd li nd : Int) : Cl Tryd.prog 14 [.pointer (some ⟨p, 0, none⟩), .pointer (some ⟨rp, 0, none⟩), .agg #[.int .i64 kd, .int .i64 li, .int .i64 nd]] w (fun v w' => v = .bool true ∧ Bo w' p nb hb B0 B rp lb N H (aDo N ls kd li nd) ∧ Fr [nb, hb, lb] w w') := by
  have F := Fr.refl [nb, hb, lb] w
  have hlt := K.lts
  refine enter Tryd.func14 rfl Tryd.ntmps14 rfl ?_
  refine cl_seq rfl ?_
  refine cl_reg rfl ?_
  refine se rfl rfl rfl rfl (e_new (x_box (cs := [.int .i64 kd, .int .i64 li, .int .i64 nd]) rfl rfl)) ?_
  rintro _ w0 ⟨rfl, b0, fr, _⟩
  replace F := F.trans fr.of0
  replace K := K.fr0 fr
  generalize hbq : w.heap.size = bq at *
  refine st rfl rfl rfl rfl (x_asg rfl) ?_
  refine rl_end rfl ?_
  refine al_k ?_
  refine cl_seq rfl ?_
  refine cl_reg rfl ?_
  refine st rfl rfl rfl rfl (x_fa rfl Tryd.underlying39 rfl Tryd.sizeOf3 0 rfl) ?_
  refine st rfl rfl rfl rfl (x_ld rfl Tryd.isAgg3 (b0.cell rfl)) ?_
  refine rl_end rfl ?_
  refine al_k ?_
  refine cl_block rfl ?_
  refine cl_seq rfl ?_
  refine cl_reg rfl ?_
  refine sf rfl rfl rfl rfl (x_eql rfl rfl) (fun c3_0 => ?_) (fun c3_0 => ?_)
  · skip
    refine st rfl rfl rfl rfl (x_asg rfl) ?_
    refine rl_end rfl ?_
    refine al_k ?_
    refine cl_if1 rfl rfl ?_
    refine cl_seq rfl ?_
    refine cl_draw (by kernel_rfl) rfl [] (fun w' => Blk w' bq 39 [.int .i64 kd, .int .i64 li, .int .i64 nd]) ?_
    rintro wd4 frd4 hpd4
    replace K := K.fr0 frd4
    replace F := F.trans frd4.of0
    replace b0 := b0.fr0 frd4
    refine ⟨b0, ?_⟩
    refine dt (i := 0) rfl rfl rfl rfl (by kernel_rfl) (fun _ => x_move rfl) ?_
    refine dt (i := 1) rfl rfl rfl rfl (by kernel_rfl) (fun _ => x_fa rfl Tryd.underlying39 rfl Tryd.sizeOf3 1 rfl) ?_
    refine dl (i := 2) rfl rfl rfl rfl (by kernel_rfl) (by kernel_rfl) (fun w' hU => x_ld rfl Tryd.isAgg3 (hU.cell rfl)) ?_
    refine dt (i := 3) rfl rfl rfl rfl (by kernel_rfl) (fun _ => x_fa rfl Tryd.underlying39 rfl Tryd.sizeOf3 2 rfl) ?_
    refine dl (i := 4) rfl rfl rfl rfl (by kernel_rfl) (by kernel_rfl) (fun w' hU => x_ld rfl Tryd.isAgg3 (hU.cell rfl)) ?_
    refine dt (i := 6) rfl rfl rfl rfl (by kernel_rfl) (fun _ => x_move rfl) ?_
    refine dt (i := 7) rfl rfl rfl rfl (by kernel_rfl) (fun _ => x_fa rfl Tryd.underlying39 rfl Tryd.sizeOf3 1 rfl) ?_
    refine dl (i := 8) rfl rfl rfl rfl (by kernel_rfl) (by kernel_rfl) (fun w' hU => x_ld rfl Tryd.isAgg3 (hU.cell rfl)) ?_
    refine dt (i := 9) rfl rfl rfl rfl (by kernel_rfl) (fun _ => x_fa rfl Tryd.underlying39 rfl Tryd.sizeOf3 2 rfl) ?_
    refine dl (i := 10) rfl rfl rfl rfl (by kernel_rfl) (by kernel_rfl) (fun w' hU => x_ld rfl Tryd.isAgg3 (hU.cell rfl)) ?_
    refine d1 (i := 5) (by kernel_rfl) ?_
    refine oc rfl rfl rfl rfl (c_fn rfl Tryd.call10 (push_r K.Q li nd)) ?_
    rintro _ w4_5 ⟨rfl, Q1, fr⟩
    have R1 := K.mid fr
    replace b0 := b0.fr fr (by simp; omega)
    replace F := F.trans (fr.mono (by simp))
    refine ⟨.inr b0, ?_⟩
    refine d1 (i := 11) (by kernel_rfl) ?_
    refine oc rfl rfl rfl rfl (c_fn rfl Tryd.call31 (rpush_false _ B0 B rp lb N ls R1 K.hB li nd)) ?_
    rintro _ w4_11 ⟨rfl, R2, fr⟩
    replace K := K.both Q1 fr R2
    replace b0 := b0.fr fr (by simp; omega)
    replace F := F.trans (fr.mono (by simp))
    refine ⟨.inr b0, ?_⟩
    refine dt (i := 12) rfl rfl rfl rfl (by kernel_rfl) (fun _ => (x_eql rfl rfl).b1 rfl) ?_
    refine dt (i := 13) rfl rfl rfl rfl (by kernel_rfl) (fun _ => x_asg rfl) ?_
    refine dn (by kernel_rfl) ?_
    refine al_k ?_
    refine cl_ret rfl ?_
    refine fin1 rfl rfl ?_
    rw [show aDo N ls kd li nd = (aPush N ls li nd false).1 from by unfold aDo; rw [if_pos c3_0]]
    exact ⟨rfl, K, F⟩
  · skip
    refine st rfl rfl rfl rfl (x_asg rfl) ?_
    refine rl_end rfl ?_
    refine al_k ?_
    refine cl_if0 rfl rfl ?_
    refine cl_seq rfl ?_
    refine cl_reg rfl ?_
    refine sf rfl rfl rfl rfl (x_eql rfl rfl) (fun c5_0 => ?_) (fun c5_0 => ?_)
    · skip
      refine st rfl rfl rfl rfl (x_asg rfl) ?_
      refine rl_end rfl ?_
      refine al_k ?_
      refine cl_if1 rfl rfl ?_
      refine cl_seq rfl ?_
      refine cl_draw (by kernel_rfl) rfl [] (fun w' => Blk w' bq 39 [.int .i64 kd, .int .i64 li, .int .i64 nd]) ?_
      rintro wd6 frd6 hpd6
      replace K := K.fr0 frd6
      replace F := F.trans frd6.of0
      replace b0 := b0.fr0 frd6
      refine ⟨b0, ?_⟩
      refine dt (i := 0) rfl rfl rfl rfl (by kernel_rfl) (fun _ => x_move rfl) ?_
      refine dt (i := 1) rfl rfl rfl rfl (by kernel_rfl) (fun _ => x_fa rfl Tryd.underlying39 rfl Tryd.sizeOf3 1 rfl) ?_
      refine dl (i := 2) rfl rfl rfl rfl (by kernel_rfl) (by kernel_rfl) (fun w' hU => x_ld rfl Tryd.isAgg3 (hU.cell rfl)) ?_
      refine dt (i := 3) rfl rfl rfl rfl (by kernel_rfl) (fun _ => x_fa rfl Tryd.underlying39 rfl Tryd.sizeOf3 2 rfl) ?_
      refine dl (i := 4) rfl rfl rfl rfl (by kernel_rfl) (by kernel_rfl) (fun w' hU => x_ld rfl Tryd.isAgg3 (hU.cell rfl)) ?_
      refine dt (i := 6) rfl rfl rfl rfl (by kernel_rfl) (fun _ => x_move rfl) ?_
      refine dt (i := 7) rfl rfl rfl rfl (by kernel_rfl) (fun _ => x_fa rfl Tryd.underlying39 rfl Tryd.sizeOf3 1 rfl) ?_
      refine dl (i := 8) rfl rfl rfl rfl (by kernel_rfl) (by kernel_rfl) (fun w' hU => x_ld rfl Tryd.isAgg3 (hU.cell rfl)) ?_
      refine dt (i := 9) rfl rfl rfl rfl (by kernel_rfl) (fun _ => x_fa rfl Tryd.underlying39 rfl Tryd.sizeOf3 2 rfl) ?_
      refine dl (i := 10) rfl rfl rfl rfl (by kernel_rfl) (by kernel_rfl) (fun w' hU => x_ld rfl Tryd.isAgg3 (hU.cell rfl)) ?_
      refine d1 (i := 5) (by kernel_rfl) ?_
      refine oc rfl rfl rfl rfl (c_fn rfl Tryd.call23 (pushFront_r K.Q li nd)) ?_
      rintro _ w6_5 ⟨rfl, Q1, fr⟩
      have R1 := K.mid fr
      replace b0 := b0.fr fr (by simp; omega)
      replace F := F.trans (fr.mono (by simp))
      refine ⟨.inr b0, ?_⟩
      refine d1 (i := 11) (by kernel_rfl) ?_
      refine oc rfl rfl rfl rfl (c_fn rfl Tryd.call31 (rpush_true _ B0 B rp lb N ls R1 K.hB li nd)) ?_
      rintro _ w6_11 ⟨rfl, R2, fr⟩
      replace K := K.both Q1 fr R2
      replace b0 := b0.fr fr (by simp; omega)
      replace F := F.trans (fr.mono (by simp))
      refine ⟨.inr b0, ?_⟩
      refine dt (i := 12) rfl rfl rfl rfl (by kernel_rfl) (fun _ => (x_eql rfl rfl).b1 rfl) ?_
      refine dt (i := 13) rfl rfl rfl rfl (by kernel_rfl) (fun _ => x_asg rfl) ?_
      refine dn (by kernel_rfl) ?_
      refine al_k ?_
      refine cl_ret rfl ?_
      refine fin1 rfl rfl ?_
      rw [show aDo N ls kd li nd = (aPush N ls li nd true).1 from by unfold aDo; rw [if_neg c3_0, if_pos c5_0]]
      exact ⟨rfl, K, F⟩
    · skip
      refine st rfl rfl rfl rfl (x_asg rfl) ?_
      refine rl_end rfl ?_
      refine al_k ?_
      refine cl_if0 rfl rfl ?_
      refine cl_seq rfl ?_
      refine cl_reg rfl ?_
      refine sf rfl rfl rfl rfl (x_eql rfl rfl) (fun c7_0 => ?_) (fun c7_0 => ?_)
      · skip
        refine st rfl rfl rfl rfl (x_asg rfl) ?_
        refine rl_end rfl ?_
        refine al_k ?_
        refine cl_if1 rfl rfl ?_
        refine cl_seq rfl ?_
        refine cl_reg rfl ?_
        refine st rfl rfl rfl rfl (x_move rfl) ?_
        refine st rfl rfl rfl rfl (x_fa rfl Tryd.underlying39 rfl Tryd.sizeOf3 1 rfl) ?_
        refine st rfl rfl rfl rfl (x_ld rfl Tryd.isAgg3 (b0.cell rfl)) ?_
        refine sc rfl rfl rfl rfl (c_fn rfl Tryd.call9 (pop_r K.Q li)) ?_
        rintro _ w8_3 ⟨rfl, Q1, fr⟩
        have R1 := K.mid fr
        replace b0 := b0.fr fr (by simp; omega)
        replace F := F.trans (fr.mono (by simp))
        refine st rfl rfl rfl rfl (x_move rfl) ?_
        refine st rfl rfl rfl rfl (x_ext rfl rfl) ?_
        refine st rfl rfl rfl rfl (x_ext rfl rfl) ?_
        refine st rfl rfl rfl rfl (x_asg rfl) ?_
        refine st rfl rfl rfl rfl (x_asg rfl) ?_
        refine rl_end rfl ?_
        refine al_k ?_
        refine cl_seq rfl ?_
        refine cl_reg rfl ?_
        refine st rfl rfl rfl rfl (x_move rfl) ?_
        refine st rfl rfl rfl rfl (x_fa rfl Tryd.underlying39 rfl Tryd.sizeOf3 1 rfl) ?_
        refine st rfl rfl rfl rfl (x_ld rfl Tryd.isAgg3 (b0.cell rfl)) ?_
        refine sc rfl rfl rfl rfl (c_fn rfl Tryd.call32 (rpop_c _ B0 B rp lb N ls R1 K.hB K.hN li)) ?_
        rintro _ w9_3 ⟨rfl, R2, fr⟩
        replace K := K.both Q1 fr R2
        replace b0 := b0.fr fr (by simp; omega)
        replace F := F.trans (fr.mono (by simp))
        refine st rfl rfl rfl rfl (x_move rfl) ?_
        refine st rfl rfl rfl rfl (x_ext rfl rfl) ?_
        refine st rfl rfl rfl rfl (x_ext rfl rfl) ?_
        refine st rfl rfl rfl rfl (x_asg rfl) ?_
        refine st rfl rfl rfl rfl (x_asg rfl) ?_
        refine rl_end rfl ?_
        refine al_k ?_
        refine cl_seq rfl ?_
        refine cl_reg rfl ?_
        refine st rfl rfl rfl rfl (x_move rfl) ?_
        refine st rfl rfl rfl rfl (x_move rfl) ?_
        refine st rfl rfl rfl rfl ((x_eql rfl rfl).b1 rfl) ?_
        refine st rfl rfl rfl rfl (x_move rfl) ?_
        refine st rfl rfl rfl rfl (x_move rfl) ?_
        refine st rfl rfl rfl rfl (x_move rfl) ?_
        refine st rfl rfl rfl rfl (x_eqlb rfl rfl Tryd.underlying4) ?_
        refine st rfl rfl rfl rfl (x_pick1 rfl rfl) ?_
        refine st rfl rfl rfl rfl (x_asg rfl) ?_
        refine rl_end rfl ?_
        refine al_k ?_
        refine cl_ret rfl ?_
        refine fin1 rfl rfl ?_
        rw [show aDo N ls kd li nd = (aPop ls li).1 from by unfold aDo; rw [if_neg c3_0, if_neg c5_0, if_pos c7_0]]
        exact ⟨congrArg _ (by simp), K, F⟩
      · skip
        refine st rfl rfl rfl rfl (x_asg rfl) ?_
        refine rl_end rfl ?_
        refine al_k ?_
        refine cl_if0 rfl rfl ?_
        refine cl_seq rfl ?_
        refine cl_reg rfl ?_
        refine sf rfl rfl rfl rfl (x_eql rfl rfl) (fun c11_0 => ?_) (fun c11_0 => ?_)
        · skip
          refine st rfl rfl rfl rfl (x_asg rfl) ?_
          refine rl_end rfl ?_
          refine al_k ?_
          refine cl_if1 rfl rfl ?_
          refine cl_seq rfl ?_
          refine cl_draw (by kernel_rfl) rfl [] (fun w' => Blk w' bq 39 [.int .i64 kd, .int .i64 li, .int .i64 nd]) ?_
          rintro wd12 frd12 hpd12
          replace K := K.fr0 frd12
          replace F := F.trans frd12.of0
          replace b0 := b0.fr0 frd12
          refine ⟨b0, ?_⟩
          refine dt (i := 0) rfl rfl rfl rfl (by kernel_rfl) (fun _ => x_move rfl) ?_
          refine dt (i := 1) rfl rfl rfl rfl (by kernel_rfl) (fun _ => x_fa rfl Tryd.underlying39 rfl Tryd.sizeOf3 2 rfl) ?_
          refine dl (i := 2) rfl rfl rfl rfl (by kernel_rfl) (by kernel_rfl) (fun w' hU => x_ld rfl Tryd.isAgg3 (hU.cell rfl)) ?_
          refine dt (i := 4) rfl rfl rfl rfl (by kernel_rfl) (fun _ => x_move rfl) ?_
          refine dt (i := 5) rfl rfl rfl rfl (by kernel_rfl) (fun _ => x_fa rfl Tryd.underlying39 rfl Tryd.sizeOf3 2 rfl) ?_
          refine dl (i := 6) rfl rfl rfl rfl (by kernel_rfl) (by kernel_rfl) (fun w' hU => x_ld rfl Tryd.isAgg3 (hU.cell rfl)) ?_
          refine d1 (i := 3) (by kernel_rfl) ?_
          refine oc rfl rfl rfl rfl (c_fn rfl Tryd.call18 (drop_r K.Q nd)) ?_
          rintro _ w12_3 ⟨rfl, Q1, fr⟩
          have R1 := K.mid fr
          replace b0 := b0.fr fr (by simp; omega)
          replace F := F.trans (fr.mono (by simp))
          refine ⟨.inr b0, ?_⟩
          refine d1 (i := 7) (by kernel_rfl) ?_
          refine oc rfl rfl rfl rfl (c_fn rfl Tryd.call33 (rdrop_c _ B0 B rp lb N ls R1 K.hB nd)) ?_
          rintro _ w12_7 ⟨rfl, R2, fr⟩
          replace K := K.both Q1 fr R2
          replace b0 := b0.fr fr (by simp; omega)
          replace F := F.trans (fr.mono (by simp))
          refine ⟨.inr b0, ?_⟩
          refine dt (i := 8) rfl rfl rfl rfl (by kernel_rfl) (fun _ => (x_eql rfl rfl).b1 rfl) ?_
          refine dt (i := 9) rfl rfl rfl rfl (by kernel_rfl) (fun _ => x_asg rfl) ?_
          refine dn (by kernel_rfl) ?_
          refine al_k ?_
          refine cl_ret rfl ?_
          refine fin1 rfl rfl ?_
          rw [show aDo N ls kd li nd = (aDrop N ls nd).1 from by unfold aDo; rw [if_neg c3_0, if_neg c5_0, if_neg c7_0, if_pos c11_0]]
          exact ⟨rfl, K, F⟩
        · skip
          refine st rfl rfl rfl rfl (x_asg rfl) ?_
          refine rl_end rfl ?_
          refine al_k ?_
          refine cl_if0 rfl rfl ?_
          refine cl_seq rfl ?_
          refine cl_reg rfl ?_
          refine sf rfl rfl rfl rfl (x_eql rfl rfl) (fun c13_0 => ?_) (fun c13_0 => ?_)
          · skip
            refine st rfl rfl rfl rfl (x_asg rfl) ?_
            refine rl_end rfl ?_
            refine al_k ?_
            refine cl_if1 rfl rfl ?_
            refine cl_seq rfl ?_
            refine cl_draw (by kernel_rfl) rfl [] (fun w' => Blk w' bq 39 [.int .i64 kd, .int .i64 li, .int .i64 nd]) ?_
            rintro wd14 frd14 hpd14
            replace K := K.fr0 frd14
            replace F := F.trans frd14.of0
            replace b0 := b0.fr0 frd14
            refine ⟨b0, ?_⟩
            refine dt (i := 0) rfl rfl rfl rfl (by kernel_rfl) (fun _ => x_move rfl) ?_
            refine dt (i := 1) rfl rfl rfl rfl (by kernel_rfl) (fun _ => x_fa rfl Tryd.underlying39 rfl Tryd.sizeOf3 1 rfl) ?_
            refine dl (i := 2) rfl rfl rfl rfl (by kernel_rfl) (by kernel_rfl) (fun w' hU => x_ld rfl Tryd.isAgg3 (hU.cell rfl)) ?_
            refine dt (i := 3) rfl rfl rfl rfl (by kernel_rfl) (fun _ => x_fa rfl Tryd.underlying39 rfl Tryd.sizeOf3 2 rfl) ?_
            refine dl (i := 4) rfl rfl rfl rfl (by kernel_rfl) (by kernel_rfl) (fun w' hU => x_ld rfl Tryd.isAgg3 (hU.cell rfl)) ?_
            refine dt (i := 6) rfl rfl rfl rfl (by kernel_rfl) (fun _ => x_move rfl) ?_
            refine dt (i := 7) rfl rfl rfl rfl (by kernel_rfl) (fun _ => x_fa rfl Tryd.underlying39 rfl Tryd.sizeOf3 1 rfl) ?_
            refine dl (i := 8) rfl rfl rfl rfl (by kernel_rfl) (by kernel_rfl) (fun w' hU => x_ld rfl Tryd.isAgg3 (hU.cell rfl)) ?_
            refine dt (i := 9) rfl rfl rfl rfl (by kernel_rfl) (fun _ => x_fa rfl Tryd.underlying39 rfl Tryd.sizeOf3 2 rfl) ?_
            refine dl (i := 10) rfl rfl rfl rfl (by kernel_rfl) (by kernel_rfl) (fun w' hU => x_ld rfl Tryd.isAgg3 (hU.cell rfl)) ?_
            refine d1 (i := 5) (by kernel_rfl) ?_
            refine oc rfl rfl rfl rfl (c_fn rfl Tryd.call24 (move_r K.Q li nd)) ?_
            rintro _ w14_5 ⟨rfl, Q1, fr⟩
            have R1 := K.mid fr
            replace b0 := b0.fr fr (by simp; omega)
            replace F := F.trans (fr.mono (by simp))
            refine ⟨.inr b0, ?_⟩
            refine d1 (i := 11) (by kernel_rfl) ?_
            refine oc rfl rfl rfl rfl (c_fn rfl Tryd.call34 (rmove_c _ B0 B rp lb N ls R1 K.hB li nd)) ?_
            rintro _ w14_11 ⟨rfl, R2, fr⟩
            replace K := K.both Q1 fr R2
            replace b0 := b0.fr fr (by simp; omega)
            replace F := F.trans (fr.mono (by simp))
            refine ⟨.inr b0, ?_⟩
            refine dt (i := 12) rfl rfl rfl rfl (by kernel_rfl) (fun _ => (x_eql rfl rfl).b1 rfl) ?_
            refine dt (i := 13) rfl rfl rfl rfl (by kernel_rfl) (fun _ => x_asg rfl) ?_
            refine dn (by kernel_rfl) ?_
            refine al_k ?_
            refine cl_ret rfl ?_
            refine fin1 rfl rfl ?_
            rw [show aDo N ls kd li nd = (aMove N ls li nd).1 from by unfold aDo; rw [if_neg c3_0, if_neg c5_0, if_neg c7_0, if_neg c11_0, if_pos c13_0]]
            exact ⟨rfl, K, F⟩
          · skip
            refine st rfl rfl rfl rfl (x_asg rfl) ?_
            refine rl_end rfl ?_
            refine al_k ?_
            refine cl_if0 rfl rfl ?_
            refine cl_seq rfl ?_
            refine cl_reg rfl ?_
            refine sf rfl rfl rfl rfl (x_eql rfl rfl) (fun c15_0 => ?_) (fun c15_0 => ?_)
            · skip
              refine st rfl rfl rfl rfl (x_asg rfl) ?_
              refine rl_end rfl ?_
              refine al_k ?_
              refine cl_if1 rfl rfl ?_
              refine cl_seq rfl ?_
              refine cl_draw (by kernel_rfl) rfl [] (fun w' => Blk w' bq 39 [.int .i64 kd, .int .i64 li, .int .i64 nd]) ?_
              rintro wd16 frd16 hpd16
              replace K := K.fr0 frd16
              replace F := F.trans frd16.of0
              replace b0 := b0.fr0 frd16
              refine ⟨b0, ?_⟩
              refine dt (i := 0) rfl rfl rfl rfl (by kernel_rfl) (fun _ => x_move rfl) ?_
              refine dt (i := 1) rfl rfl rfl rfl (by kernel_rfl) (fun _ => x_fa rfl Tryd.underlying39 rfl Tryd.sizeOf3 1 rfl) ?_
              refine dl (i := 2) rfl rfl rfl rfl (by kernel_rfl) (by kernel_rfl) (fun w' hU => x_ld rfl Tryd.isAgg3 (hU.cell rfl)) ?_
              refine dt (i := 3) rfl rfl rfl rfl (by kernel_rfl) (fun _ => x_fa rfl Tryd.underlying39 rfl Tryd.sizeOf3 2 rfl) ?_
              refine dl (i := 4) rfl rfl rfl rfl (by kernel_rfl) (by kernel_rfl) (fun w' hU => x_ld rfl Tryd.isAgg3 (hU.cell rfl)) ?_
              refine dt (i := 6) rfl rfl rfl rfl (by kernel_rfl) (fun _ => x_move rfl) ?_
              refine dt (i := 7) rfl rfl rfl rfl (by kernel_rfl) (fun _ => x_fa rfl Tryd.underlying39 rfl Tryd.sizeOf3 1 rfl) ?_
              refine dl (i := 8) rfl rfl rfl rfl (by kernel_rfl) (by kernel_rfl) (fun w' hU => x_ld rfl Tryd.isAgg3 (hU.cell rfl)) ?_
              refine dt (i := 9) rfl rfl rfl rfl (by kernel_rfl) (fun _ => x_fa rfl Tryd.underlying39 rfl Tryd.sizeOf3 2 rfl) ?_
              refine dl (i := 10) rfl rfl rfl rfl (by kernel_rfl) (by kernel_rfl) (fun w' hU => x_ld rfl Tryd.isAgg3 (hU.cell rfl)) ?_
              refine d1 (i := 5) (by kernel_rfl) ?_
              refine oc rfl rfl rfl rfl (c_fn rfl Tryd.call25 (take_r K.Q li nd)) ?_
              rintro _ w16_5 ⟨rfl, Q1, fr⟩
              have R1 := K.mid fr
              replace b0 := b0.fr fr (by simp; omega)
              replace F := F.trans (fr.mono (by simp))
              refine ⟨.inr b0, ?_⟩
              refine d1 (i := 11) (by kernel_rfl) ?_
              refine oc rfl rfl rfl rfl (c_fn rfl Tryd.call35 (rtake_c _ B0 B rp lb N ls R1 K.hB li nd)) ?_
              rintro _ w16_11 ⟨rfl, R2, fr⟩
              replace K := K.both Q1 fr R2
              replace b0 := b0.fr fr (by simp; omega)
              replace F := F.trans (fr.mono (by simp))
              refine ⟨.inr b0, ?_⟩
              refine dt (i := 12) rfl rfl rfl rfl (by kernel_rfl) (fun _ => (x_eql rfl rfl).b1 rfl) ?_
              refine dt (i := 13) rfl rfl rfl rfl (by kernel_rfl) (fun _ => x_asg rfl) ?_
              refine dn (by kernel_rfl) ?_
              refine al_k ?_
              refine cl_ret rfl ?_
              refine fin1 rfl rfl ?_
              rw [show aDo N ls kd li nd = (aTake ls li nd).1 from by unfold aDo; rw [if_neg c3_0, if_neg c5_0, if_neg c7_0, if_neg c11_0, if_neg c13_0, if_pos c15_0]]
              exact ⟨rfl, K, F⟩
            · skip
              refine st rfl rfl rfl rfl (x_asg rfl) ?_
              refine rl_end rfl ?_
              refine al_k ?_
              refine cl_if0 rfl rfl ?_
              refine cl_seq rfl ?_
              refine cl_reg rfl ?_
              refine st rfl rfl rfl rfl (x_asg rfl) ?_
              refine rl_end rfl ?_
              refine al_k ?_
              refine cl_ret rfl ?_
              refine fin1 rfl rfl ?_
              rw [show aDo N ls kd li nd = ls from by unfold aDo; rw [if_neg c3_0, if_neg c5_0, if_neg c7_0, if_neg c11_0, if_neg c13_0, if_neg c15_0]]
              exact ⟨rfl, K, F⟩

end Go.Proofs.YtnnhpbjibhnhnabDoor.Ls
