/- The reference: the walks of what asks. -/
import Derived.Test.YtjjaijabdfoanaaDoorArW12
import Derived.Test.YtjjaijabdfoanaaDoorArR
set_option linter.unusedVariables false
namespace Go.Proofs.YtjjaijabdfoanaaDoor.Arn
open Go Go.RowKit Go.Proofs.YtjjaijabdfoanaaDoor.Sx Go.Proofs.YtjjaijabdfoanaaDoor.Ls Go.Proofs.YtjjaijabdfoanaaDoor
set_option maxRecDepth 100000

theorem rpart_y (w : World) (B0 B : Nat) (r : RK) (qs : List Int) (x : Ar) (R : RAt w B0 B r qs x) (i : Int) (h0 : 0 ≤ i) (h1 : i < (qs.length : Int)) : Cl Tryd.prog 38 [.pointer (some ⟨r.rp, 0, none⟩), .int .i64 i] w (fun v w' => v = .bool true ∧ w' = w) := by
  refine enter Tryd.func38 rfl Tryd.ntmps38 rfl ?_
  refine cl_seq rfl ?_
  refine cl_reg rfl ?_
  refine st rfl rfl rfl rfl (x_asg rfl) ?_
  refine rl_end rfl ?_
  refine al_k ?_
  refine cl_seq rfl ?_
  refine cl_reg rfl ?_
  refine st rfl rfl rfl rfl (x_move rfl) ?_
  refine st rfl rfl rfl rfl ((x_geq rfl rfl).b1 (by omega)) ?_
  refine st rfl rfl rfl rfl (x_move rfl) ?_
  refine st rfl rfl rfl rfl (x_move rfl) ?_
  refine st rfl rfl rfl rfl (x_move rfl) ?_
  refine st rfl rfl rfl rfl (x_nil rfl) ?_
  refine st rfl rfl rfl rfl (x_fa rfl Tryd.underlying79 rfl Tryd.sizeOf22 0 rfl) ?_
  refine st rfl rfl rfl rfl (x_ld rfl Tryd.isAgg22 R.c0) ?_
  refine st rfl rfl rfl rfl (x_len rfl Tryd.underlying22) ?_
  refine st rfl rfl rfl rfl ((x_lss rfl rfl).b1 (by omega)) ?_
  refine st rfl rfl rfl rfl (x_pick1 rfl rfl) ?_
  refine st rfl rfl rfl rfl (x_asg rfl) ?_
  refine rl_end rfl ?_
  refine al_k ?_
  refine cl_ret rfl ?_
  refine fin1 rfl rfl ?_
  exact ⟨rfl, rfl⟩

theorem rpart_n (w : World) (B0 B : Nat) (r : RK) (qs : List Int) (x : Ar) (R : RAt w B0 B r qs x) (i : Int) (h0 : 0 ≤ i) (h1 : ¬ i < (qs.length : Int)) : Cl Tryd.prog 38 [.pointer (some ⟨r.rp, 0, none⟩), .int .i64 i] w (fun v w' => v = .bool false ∧ w' = w) := by
  refine enter Tryd.func38 rfl Tryd.ntmps38 rfl ?_
  refine cl_seq rfl ?_
  refine cl_reg rfl ?_
  refine st rfl rfl rfl rfl (x_asg rfl) ?_
  refine rl_end rfl ?_
  refine al_k ?_
  refine cl_seq rfl ?_
  refine cl_reg rfl ?_
  refine st rfl rfl rfl rfl (x_move rfl) ?_
  refine st rfl rfl rfl rfl ((x_geq rfl rfl).b1 (by omega)) ?_
  refine st rfl rfl rfl rfl (x_move rfl) ?_
  refine st rfl rfl rfl rfl (x_move rfl) ?_
  refine st rfl rfl rfl rfl (x_move rfl) ?_
  refine st rfl rfl rfl rfl (x_nil rfl) ?_
  refine st rfl rfl rfl rfl (x_fa rfl Tryd.underlying79 rfl Tryd.sizeOf22 0 rfl) ?_
  refine st rfl rfl rfl rfl (x_ld rfl Tryd.isAgg22 R.c0) ?_
  refine st rfl rfl rfl rfl (x_len rfl Tryd.underlying22) ?_
  refine st rfl rfl rfl rfl ((x_lss rfl rfl).b0 (by omega)) ?_
  refine st rfl rfl rfl rfl (x_pick1 rfl rfl) ?_
  refine st rfl rfl rfl rfl (x_asg rfl) ?_
  refine rl_end rfl ?_
  refine al_k ?_
  refine cl_ret rfl ?_
  refine fin1 rfl rfl ?_
  exact ⟨rfl, rfl⟩

theorem rpart_z (w : World) (B0 B : Nat) (r : RK) (qs : List Int) (x : Ar) (R : RAt w B0 B r qs x) (i : Int) (h0 : ¬ 0 ≤ i) : Cl Tryd.prog 38 [.pointer (some ⟨r.rp, 0, none⟩), .int .i64 i] w (fun v w' => v = .bool false ∧ w' = w) := by
  refine enter Tryd.func38 rfl Tryd.ntmps38 rfl ?_
  refine cl_seq rfl ?_
  refine cl_reg rfl ?_
  refine st rfl rfl rfl rfl (x_asg rfl) ?_
  refine rl_end rfl ?_
  refine al_k ?_
  refine cl_seq rfl ?_
  refine cl_reg rfl ?_
  refine st rfl rfl rfl rfl (x_move rfl) ?_
  refine st rfl rfl rfl rfl ((x_geq rfl rfl).b0 (by omega)) ?_
  refine st rfl rfl rfl rfl (x_move rfl) ?_
  refine so rfl rfl rfl rfl ?_
  refine so rfl rfl rfl rfl ?_
  refine so rfl rfl rfl rfl ?_
  refine so rfl rfl rfl rfl ?_
  refine so rfl rfl rfl rfl ?_
  refine so rfl rfl rfl rfl ?_
  refine so rfl rfl rfl rfl ?_
  refine st rfl rfl rfl rfl (x_pick0 rfl rfl) ?_
  refine st rfl rfl rfl rfl (x_asg rfl) ?_
  refine rl_end rfl ?_
  refine al_k ?_
  refine cl_ret rfl ?_
  refine fin1 rfl rfl ?_
  exact ⟨rfl, rfl⟩

theorem rpart_c (w : World) (B0 B : Nat) (r : RK) (qs : List Int) (x : Ar) (R : RAt w B0 B r qs x) (i : Int) : Cl Tryd.prog 38 [.pointer (some ⟨r.rp, 0, none⟩), .int .i64 i] w (fun v w' => v = .bool (decide (0 ≤ i ∧ i < (qs.length : Int))) ∧ w' = w) := by
  by_cases h0 : 0 ≤ i
  · by_cases h1 : i < (qs.length : Int)
    · rw [decide_eq_true ⟨h0, h1⟩]; exact rpart_y w B0 B r qs x R i h0 h1
    · rw [decide_eq_false (fun h => h1 h.2)]; exact rpart_n w B0 B r qs x R i h0 h1
  · rw [decide_eq_false (fun h => h0 h.1)]; exact rpart_z w B0 B r qs x R i h0

theorem rPart_c (w : World) (B0 B : Nat) (r : RK) (qs : List Int) (x : Ar) (R : RAt w B0 B r qs x) (hS : Sz qs x) (hok : okQ qs) (n : Int) (hn : n ≤ 9223372036854775807) : Cl Tryd.prog 20 [.pointer (some ⟨r.rp, 0, none⟩), .int .i64 n] w (fun v w' => v = .tuple #[.int .i64 (x.part_ n).1, .bool (x.part_ n).2] ∧ w' = w) := by
  have hql := R.ql
  refine enter Tryd.func20 rfl Tryd.ntmps20 rfl ?_
  refine cl_seq rfl ?_
  refine cl_reg rfl ?_
  refine st rfl rfl rfl rfl (x_asg rfl) ?_
  refine st rfl rfl rfl rfl (x_asg rfl) ?_
  refine rl_end rfl ?_
  refine al_k ?_
  refine cl_seq rfl ?_
  refine cl_reg rfl ?_
  refine st rfl rfl rfl rfl (x_asg rfl) ?_
  refine rl_end rfl ?_
  refine al_k ?_
  refine cl_seq rfl ?_
  refine cl_seq rfl ?_
  refine cl_reg rfl ?_
  refine st rfl rfl rfl rfl (x_asg rfl) ?_
  refine rl_end rfl ?_
  refine al_k ?_
  refine cl_block rfl ?_
  refine cl_loop (fun i : Nat => [(7, .int .i64 i), (6, .int .i64 ((mkS qs i).length : Nat)), (0, .pointer (some ⟨r.rp, 0, none⟩)), (1, .int .i64 n)]) (fun i w' => w' = w ∧ i ≤ qs.length ∧ (n < 0 ∨ (((mkS qs i).length : Nat) : Int) ≤ n)) (fun i => qs.length - i) 0 rfl ⟨rfl, rfl, rfl, rfl, trivial⟩ ?_ ?_
  · exact ⟨rfl, Nat.zero_le _, by simp [mkS]; omega⟩
  · skip
    rintro i wk ⟨hwk, hi, hn0⟩
    obtain rfl := hwk.symm
    refine cl_seq rfl ?_
    refine cl_seq rfl ?_
    refine cl_reg rfl ?_
    refine st rfl rfl rfl rfl (x_move rfl) ?_
    refine st rfl rfl rfl rfl (x_move rfl) ?_
    refine st rfl rfl rfl rfl (x_nil rfl) ?_
    refine st rfl rfl rfl rfl (x_fa rfl Tryd.underlying79 rfl Tryd.sizeOf22 0 rfl) ?_
    refine st rfl rfl rfl rfl (x_ld rfl Tryd.isAgg22 R.c0) ?_
    refine st rfl rfl rfl rfl (x_len rfl Tryd.underlying22) ?_
    refine sf rfl rfl rfl rfl (x_lss rfl rfl) (fun c3_6 => ?_) (fun c3_6 => ?_)
    · skip
      refine rl_end rfl ?_
      refine al_k ?_
      refine cl_if1 rfl rfl ?_
      refine cl_skip rfl ?_
      refine al_k ?_
      refine cl_seq rfl ?_
      refine cl_block rfl ?_
      refine cl_seq rfl ?_
      refine cl_seq rfl ?_
      obtain ⟨q, hq⟩ : ∃ q, qs[i]? = some q := ⟨_, List.getElem?_eq_getElem (by omega)⟩
      obtain ⟨hq0, hq6⟩ := hok.2 i q hq
      obtain ⟨b, eA, _, _, _, hc⟩ := R.sz i q hq
      have hA : w.cell? ⟨r.rp, 0, none⟩ = some (.slice (some ⟨b, 0, none⟩) qs.length r.cs) := by rw [R.c0, eA]
      have hml := mkS_len i (fun j q hj h => (hok.2 j q h).2)
      have en : ((mkS qs (i + 1)).length : Int) = (mkS qs i).length + q := by rw [mkS_succ hq, List.length_append, List.length_replicate]; omega
      refine cl_reg rfl ?_
      refine st rfl rfl rfl rfl (x_move rfl) ?_
      refine st rfl rfl rfl rfl (x_move rfl) ?_
      refine sf rfl rfl rfl rfl (x_geq rfl rfl) (fun c5_2 => ?_) (fun c5_2 => ?_)
      · skip
        refine st rfl rfl rfl rfl (x_move rfl) ?_
        refine st rfl rfl rfl rfl (x_move rfl) ?_
        refine st rfl rfl rfl rfl (x_move rfl) ?_
        refine st rfl rfl rfl rfl (x_sub rfl rfl (by omega)) ?_
        refine st rfl rfl rfl rfl (x_move rfl) ?_
        refine st rfl rfl rfl rfl (x_nil rfl) ?_
        refine st rfl rfl rfl rfl (x_fa rfl Tryd.underlying79 rfl Tryd.sizeOf22 0 rfl) ?_
        refine st rfl rfl rfl rfl (x_ld rfl Tryd.isAgg22 hA) ?_
        refine st rfl rfl rfl rfl (x_move rfl) ?_
        refine st rfl rfl rfl rfl (x_ia0 rfl rfl Tryd.underlying22 Tryd.sizeOf3 (by omega)) ?_
        refine st rfl rfl rfl rfl (x_ld rfl Tryd.isAgg3 hc) ?_
        refine sf rfl rfl rfl rfl (x_lss rfl rfl) (fun c5_14 => ?_) (fun c5_14 => ?_)
        · skip
          refine st rfl rfl rfl rfl (x_pick1 rfl rfl) ?_
          refine rl_end rfl ?_
          refine al_k ?_
          refine cl_if1 rfl rfl ?_
          refine cl_seq rfl ?_
          refine cl_reg rfl ?_
          refine st rfl rfl rfl rfl (x_move rfl) ?_
          refine st rfl rfl rfl rfl (x_asg rfl) ?_
          refine st rfl rfl rfl rfl (x_asg rfl) ?_
          refine rl_end rfl ?_
          refine al_k ?_
          refine cl_ret rfl ?_
          refine fin2 rfl rfl rfl ?_
          obtain ⟨s, hs, hsp⟩ := hS.at hq (k := (n - (mkS qs i).length).toNat) (by omega)
          have hp := part_some (x := x) (N := n) (by omega) (by rw [show n.toNat = (mkS qs i).length + (n - (mkS qs i).length).toNat by omega]; exact hs)
          rw [hp, hsp]
          exact ⟨rfl, rfl⟩
        · skip
          refine st rfl rfl rfl rfl (x_pick1 rfl rfl) ?_
          refine rl_end rfl ?_
          refine al_k ?_
          refine cl_if0 rfl rfl ?_
          refine cl_skip rfl ?_
          refine al_k ?_
          refine cl_reg rfl ?_
          refine st rfl rfl rfl rfl (x_move rfl) ?_
          refine st rfl rfl rfl rfl (x_move rfl) ?_
          refine st rfl rfl rfl rfl (x_nil rfl) ?_
          refine st rfl rfl rfl rfl (x_fa rfl Tryd.underlying79 rfl Tryd.sizeOf22 0 rfl) ?_
          refine st rfl rfl rfl rfl (x_ld rfl Tryd.isAgg22 hA) ?_
          refine st rfl rfl rfl rfl (x_move rfl) ?_
          refine st rfl rfl rfl rfl (x_ia0 rfl rfl Tryd.underlying22 Tryd.sizeOf3 (by omega)) ?_
          refine st rfl rfl rfl rfl (x_ld rfl Tryd.isAgg3 hc) ?_
          refine st rfl rfl rfl rfl (x_add rfl rfl (by omega)) ?_
          refine st rfl rfl rfl rfl (x_asg rfl) ?_
          refine rl_end rfl ?_
          refine al_k ?_
          refine cl_reg rfl ?_
          refine st rfl rfl rfl rfl (x_move rfl) ?_
          refine st rfl rfl rfl rfl (x_add rfl rfl (by omega)) ?_
          refine st rfl rfl rfl rfl (x_asg rfl) ?_
          refine rl_end rfl ?_
          refine again (i + 1) (by omega) ⟨rfl, (by rw [en]; rfl), rfl, rfl, trivial⟩ ⟨rfl, by omega, by rw [en]; omega⟩
      · skip
        refine st rfl rfl rfl rfl (x_move rfl) ?_
        refine so rfl rfl rfl rfl ?_
        refine so rfl rfl rfl rfl ?_
        refine so rfl rfl rfl rfl ?_
        refine so rfl rfl rfl rfl ?_
        refine so rfl rfl rfl rfl ?_
        refine so rfl rfl rfl rfl ?_
        refine so rfl rfl rfl rfl ?_
        refine so rfl rfl rfl rfl ?_
        refine so rfl rfl rfl rfl ?_
        refine so rfl rfl rfl rfl ?_
        refine so rfl rfl rfl rfl ?_
        refine st rfl rfl rfl rfl (x_pick0 rfl rfl) ?_
        refine rl_end rfl ?_
        refine al_k ?_
        refine cl_if0 rfl rfl ?_
        refine cl_skip rfl ?_
        refine al_k ?_
        refine cl_reg rfl ?_
        refine st rfl rfl rfl rfl (x_move rfl) ?_
        refine st rfl rfl rfl rfl (x_move rfl) ?_
        refine st rfl rfl rfl rfl (x_nil rfl) ?_
        refine st rfl rfl rfl rfl (x_fa rfl Tryd.underlying79 rfl Tryd.sizeOf22 0 rfl) ?_
        refine st rfl rfl rfl rfl (x_ld rfl Tryd.isAgg22 hA) ?_
        refine st rfl rfl rfl rfl (x_move rfl) ?_
        refine st rfl rfl rfl rfl (x_ia0 rfl rfl Tryd.underlying22 Tryd.sizeOf3 (by omega)) ?_
        refine st rfl rfl rfl rfl (x_ld rfl Tryd.isAgg3 hc) ?_
        refine st rfl rfl rfl rfl (x_add rfl rfl (by omega)) ?_
        refine st rfl rfl rfl rfl (x_asg rfl) ?_
        refine rl_end rfl ?_
        refine al_k ?_
        refine cl_reg rfl ?_
        refine st rfl rfl rfl rfl (x_move rfl) ?_
        refine st rfl rfl rfl rfl (x_add rfl rfl (by omega)) ?_
        refine st rfl rfl rfl rfl (x_asg rfl) ?_
        refine rl_end rfl ?_
        refine again (i + 1) (by omega) ⟨rfl, (by rw [en]; rfl), rfl, rfl, trivial⟩ ⟨rfl, by omega, by rw [en]; omega⟩
    · skip
      refine rl_end rfl ?_
      refine al_k ?_
      refine cl_if0 rfl rfl ?_
      refine cl_exit rfl ?_
      refine upd_self ?_
      refine al_k ?_
      refine cl_seq rfl ?_
      refine cl_reg rfl ?_
      refine st rfl rfl rfl rfl (x_asg rfl) ?_
      refine st rfl rfl rfl rfl (x_asg rfl) ?_
      refine rl_end rfl ?_
      refine al_k ?_
      refine cl_ret rfl ?_
      refine fin2 rfl rfl rfl ?_
      have ei : i = qs.length := by omega
      subst ei
      have hp : x.part_ n = (0, false) := if_neg (fun h => by have h1 := h.1; have h2 := h.2; rw [hS.len] at h2; omega)
      rw [hp]
      exact ⟨rfl, rfl⟩

theorem ralive_neg (w : World) (B0 B : Nat) (r : RK) (qs : List Int) (x : Ar) (R : RAt w B0 B r qs x) (n g : Int) (h0 : n < 0) : Cl Tryd.prog 44 [.pointer (some ⟨r.rp, 0, none⟩), .agg [.int .i64 n, .int .u64 g].toArray] w (fun v w' => v = .bool false ∧ Fr [] w w') := by
  have F := Fr.refl [] w
  refine enter Tryd.func44 rfl Tryd.ntmps44 rfl ?_
  refine cl_seq rfl ?_
  refine cl_reg rfl ?_
  refine se rfl rfl rfl rfl (e_new (x_box (cs := [.int .i64 n, .int .u64 g]) rfl rfl)) ?_
  rintro _ w0 ⟨rfl, b0, fr, _⟩
  replace F := F.trans fr
  replace R := R.fr0 fr
  clear fr
  refine st rfl rfl rfl rfl (x_asg rfl) ?_
  refine rl_end rfl ?_
  refine al_k ?_
  refine cl_seq rfl ?_
  refine cl_draw (by kernel_rfl) rfl [] (fun w' => w'.heap = w0.heap) ?_
  rintro wd1 frd1 hpd1
  refine ⟨hpd1, ?_⟩
  refine dt (i := 0) rfl rfl rfl rfl (by kernel_rfl) (fun _ => x_fa rfl Tryd.underlying33 rfl Tryd.sizeOf3 0 rfl) ?_
  refine dlt (i := 1) rfl rfl rfl rfl (by kernel_rfl) (by kernel_rfl) (fun w' hU => x_ld rfl Tryd.isAgg3 (heq hU (b0.cell rfl))) ?_
  refine dt (i := 2) rfl rfl rfl rfl (by kernel_rfl) (fun _ => (x_geq rfl rfl).b0 (by omega)) ?_
  refine dt (i := 3) rfl rfl rfl rfl (by kernel_rfl) (fun _ => x_move rfl) ?_
  refine dz (i := 4) rfl rfl rfl rfl (by kernel_rfl) ?_
  refine dz (i := 5) rfl rfl rfl rfl (by kernel_rfl) ?_
  refine dz (i := 6) rfl rfl rfl rfl (by kernel_rfl) ?_
  refine dz (i := 7) rfl rfl rfl rfl (by kernel_rfl) ?_
  refine dz (i := 8) rfl rfl rfl rfl (by kernel_rfl) ?_
  refine dz (i := 9) rfl rfl rfl rfl (by kernel_rfl) ?_
  refine dz (i := 10) rfl rfl rfl rfl (by kernel_rfl) ?_
  refine dz (i := 11) rfl rfl rfl rfl (by kernel_rfl) ?_
  refine dt (i := 12) rfl rfl rfl rfl (by kernel_rfl) (fun _ => x_pick0 rfl rfl) ?_
  refine dt (i := 13) rfl rfl rfl rfl (by kernel_rfl) (fun _ => x_move rfl) ?_
  refine dz (i := 14) rfl rfl rfl rfl (by kernel_rfl) ?_
  refine dz (i := 15) rfl rfl rfl rfl (by kernel_rfl) ?_
  refine dz (i := 16) rfl rfl rfl rfl (by kernel_rfl) ?_
  refine dz (i := 17) rfl rfl rfl rfl (by kernel_rfl) ?_
  refine dz (i := 18) rfl rfl rfl rfl (by kernel_rfl) ?_
  refine dz (i := 19) rfl rfl rfl rfl (by kernel_rfl) ?_
  refine dz (i := 20) rfl rfl rfl rfl (by kernel_rfl) ?_
  refine dz (i := 21) rfl rfl rfl rfl (by kernel_rfl) ?_
  refine dz (i := 22) rfl rfl rfl rfl (by kernel_rfl) ?_
  refine dt (i := 23) rfl rfl rfl rfl (by kernel_rfl) (fun _ => x_pick0 rfl rfl) ?_
  refine dt (i := 24) rfl rfl rfl rfl (by kernel_rfl) (fun _ => x_move rfl) ?_
  refine dz (i := 25) rfl rfl rfl rfl (by kernel_rfl) ?_
  refine dz (i := 26) rfl rfl rfl rfl (by kernel_rfl) ?_
  refine dz (i := 27) rfl rfl rfl rfl (by kernel_rfl) ?_
  refine dz (i := 28) rfl rfl rfl rfl (by kernel_rfl) ?_
  refine dz (i := 29) rfl rfl rfl rfl (by kernel_rfl) ?_
  refine dz (i := 30) rfl rfl rfl rfl (by kernel_rfl) ?_
  refine dz (i := 31) rfl rfl rfl rfl (by kernel_rfl) ?_
  refine dz (i := 32) rfl rfl rfl rfl (by kernel_rfl) ?_
  refine dz (i := 33) rfl rfl rfl rfl (by kernel_rfl) ?_
  refine dz (i := 34) rfl rfl rfl rfl (by kernel_rfl) ?_
  refine dz (i := 35) rfl rfl rfl rfl (by kernel_rfl) ?_
  refine dz (i := 36) rfl rfl rfl rfl (by kernel_rfl) ?_
  refine dt (i := 37) rfl rfl rfl rfl (by kernel_rfl) (fun _ => x_pick0 rfl rfl) ?_
  refine dt (i := 38) rfl rfl rfl rfl (by kernel_rfl) (fun _ => x_asg rfl) ?_
  replace F := F.trans frd1
  replace R := R.fr0 frd1
  replace b0 := b0.fr0 frd1
  refine dn (by kernel_rfl) ?_
  refine al_k ?_
  refine cl_ret rfl ?_
  refine fin1 rfl rfl ?_
  exact ⟨rfl, F⟩

theorem ralive_out (w : World) (B0 B : Nat) (r : RK) (qs : List Int) (x : Ar) (R : RAt w B0 B r qs x) (n g : Int) (h0 : 0 ≤ n) (h1 : (x.slots.length : Int) ≤ n) : Cl Tryd.prog 44 [.pointer (some ⟨r.rp, 0, none⟩), .agg [.int .i64 n, .int .u64 g].toArray] w (fun v w' => v = .bool false ∧ Fr [] w w') := by
  have F := Fr.refl [] w
  refine enter Tryd.func44 rfl Tryd.ntmps44 rfl ?_
  refine cl_seq rfl ?_
  refine cl_reg rfl ?_
  refine se rfl rfl rfl rfl (e_new (x_box (cs := [.int .i64 n, .int .u64 g]) rfl rfl)) ?_
  rintro _ w0 ⟨rfl, b0, fr, _⟩
  replace F := F.trans fr
  replace R := R.fr0 fr
  clear fr
  refine st rfl rfl rfl rfl (x_asg rfl) ?_
  refine rl_end rfl ?_
  refine al_k ?_
  refine cl_seq rfl ?_
  refine cl_draw (by kernel_rfl) rfl [] (fun w' => w'.heap = w0.heap) ?_
  rintro wd1 frd1 hpd1
  refine ⟨hpd1, ?_⟩
  refine dt (i := 0) rfl rfl rfl rfl (by kernel_rfl) (fun _ => x_fa rfl Tryd.underlying33 rfl Tryd.sizeOf3 0 rfl) ?_
  refine dlt (i := 1) rfl rfl rfl rfl (by kernel_rfl) (by kernel_rfl) (fun w' hU => x_ld rfl Tryd.isAgg3 (heq hU (b0.cell rfl))) ?_
  refine dt (i := 2) rfl rfl rfl rfl (by kernel_rfl) (fun _ => (x_geq rfl rfl).b1 (by omega)) ?_
  refine dt (i := 3) rfl rfl rfl rfl (by kernel_rfl) (fun _ => x_move rfl) ?_
  refine dt (i := 4) rfl rfl rfl rfl (by kernel_rfl) (fun _ => x_fa rfl Tryd.underlying33 rfl Tryd.sizeOf3 0 rfl) ?_
  refine dlt (i := 5) rfl rfl rfl rfl (by kernel_rfl) (by kernel_rfl) (fun w' hU => x_ld rfl Tryd.isAgg3 (heq hU (b0.cell rfl))) ?_
  refine dt (i := 6) rfl rfl rfl rfl (by kernel_rfl) (fun _ => x_move rfl) ?_
  refine dt (i := 7) rfl rfl rfl rfl (by kernel_rfl) (fun _ => x_nil rfl) ?_
  refine dt (i := 8) rfl rfl rfl rfl (by kernel_rfl) (fun _ => x_fa rfl Tryd.underlying79 rfl Tryd.sizeOf76 1 rfl) ?_
  refine dlt (i := 9) rfl rfl rfl rfl (by kernel_rfl) (by kernel_rfl) (fun w' hU => x_ld rfl Tryd.isAgg76 (heq hU R.c1)) ?_
  refine dt (i := 10) rfl rfl rfl rfl (by kernel_rfl) (fun _ => x_len rfl Tryd.underlying76) ?_
  refine dt (i := 11) rfl rfl rfl rfl (by kernel_rfl) (fun _ => (x_lss rfl rfl).b0 (by omega)) ?_
  refine dt (i := 12) rfl rfl rfl rfl (by kernel_rfl) (fun _ => x_pick1 rfl rfl) ?_
  refine dt (i := 13) rfl rfl rfl rfl (by kernel_rfl) (fun _ => x_move rfl) ?_
  refine dz (i := 14) rfl rfl rfl rfl (by kernel_rfl) ?_
  refine dz (i := 15) rfl rfl rfl rfl (by kernel_rfl) ?_
  refine dz (i := 16) rfl rfl rfl rfl (by kernel_rfl) ?_
  refine dz (i := 17) rfl rfl rfl rfl (by kernel_rfl) ?_
  refine dz (i := 18) rfl rfl rfl rfl (by kernel_rfl) ?_
  refine dz (i := 19) rfl rfl rfl rfl (by kernel_rfl) ?_
  refine dz (i := 20) rfl rfl rfl rfl (by kernel_rfl) ?_
  refine dz (i := 21) rfl rfl rfl rfl (by kernel_rfl) ?_
  refine dz (i := 22) rfl rfl rfl rfl (by kernel_rfl) ?_
  refine dt (i := 23) rfl rfl rfl rfl (by kernel_rfl) (fun _ => x_pick0 rfl rfl) ?_
  refine dt (i := 24) rfl rfl rfl rfl (by kernel_rfl) (fun _ => x_move rfl) ?_
  refine dz (i := 25) rfl rfl rfl rfl (by kernel_rfl) ?_
  refine dz (i := 26) rfl rfl rfl rfl (by kernel_rfl) ?_
  refine dz (i := 27) rfl rfl rfl rfl (by kernel_rfl) ?_
  refine dz (i := 28) rfl rfl rfl rfl (by kernel_rfl) ?_
  refine dz (i := 29) rfl rfl rfl rfl (by kernel_rfl) ?_
  refine dz (i := 30) rfl rfl rfl rfl (by kernel_rfl) ?_
  refine dz (i := 31) rfl rfl rfl rfl (by kernel_rfl) ?_
  refine dz (i := 32) rfl rfl rfl rfl (by kernel_rfl) ?_
  refine dz (i := 33) rfl rfl rfl rfl (by kernel_rfl) ?_
  refine dz (i := 34) rfl rfl rfl rfl (by kernel_rfl) ?_
  refine dz (i := 35) rfl rfl rfl rfl (by kernel_rfl) ?_
  refine dz (i := 36) rfl rfl rfl rfl (by kernel_rfl) ?_
  refine dt (i := 37) rfl rfl rfl rfl (by kernel_rfl) (fun _ => x_pick0 rfl rfl) ?_
  refine dt (i := 38) rfl rfl rfl rfl (by kernel_rfl) (fun _ => x_asg rfl) ?_
  replace F := F.trans frd1
  replace R := R.fr0 frd1
  replace b0 := b0.fr0 frd1
  refine dn (by kernel_rfl) ?_
  refine al_k ?_
  refine cl_ret rfl ?_
  refine fin1 rfl rfl ?_
  exact ⟨rfl, F⟩

theorem ralive_free (w : World) (B0 B : Nat) (r : RK) (qs : List Int) (x : Ar) (R : RAt w B0 B r qs x) (n g : Int) (h0 : 0 ≤ n) (s : Sl) (hs : x.slots[n.toNat]? = some s) (hh : s.held = false) : Cl Tryd.prog 44 [.pointer (some ⟨r.rp, 0, none⟩), .agg [.int .i64 n, .int .u64 g].toArray] w (fun v w' => v = .bool false ∧ Fr [] w w') := by
  have F := Fr.refl [] w
  refine enter Tryd.func44 rfl Tryd.ntmps44 rfl ?_
  refine cl_seq rfl ?_
  refine cl_reg rfl ?_
  refine se rfl rfl rfl rfl (e_new (x_box (cs := [.int .i64 n, .int .u64 g]) rfl rfl)) ?_
  rintro _ w0 ⟨rfl, b0, fr, _⟩
  replace F := F.trans fr
  replace R := R.fr0 fr
  clear fr
  refine st rfl rfl rfl rfl (x_asg rfl) ?_
  refine rl_end rfl ?_
  refine al_k ?_
  refine cl_seq rfl ?_
  refine cl_draw (by kernel_rfl) rfl [] (fun w' => w'.heap = w0.heap) ?_
  rintro wd1 frd1 hpd1
  refine ⟨hpd1, ?_⟩
  refine dt (i := 0) rfl rfl rfl rfl (by kernel_rfl) (fun _ => x_fa rfl Tryd.underlying33 rfl Tryd.sizeOf3 0 rfl) ?_
  refine dlt (i := 1) rfl rfl rfl rfl (by kernel_rfl) (by kernel_rfl) (fun w' hU => x_ld rfl Tryd.isAgg3 (heq hU (b0.cell rfl))) ?_
  refine dt (i := 2) rfl rfl rfl rfl (by kernel_rfl) (fun _ => (x_geq rfl rfl).b1 (by omega)) ?_
  refine dt (i := 3) rfl rfl rfl rfl (by kernel_rfl) (fun _ => x_move rfl) ?_
  refine dt (i := 4) rfl rfl rfl rfl (by kernel_rfl) (fun _ => x_fa rfl Tryd.underlying33 rfl Tryd.sizeOf3 0 rfl) ?_
  refine dlt (i := 5) rfl rfl rfl rfl (by kernel_rfl) (by kernel_rfl) (fun w' hU => x_ld rfl Tryd.isAgg3 (heq hU (b0.cell rfl))) ?_
  refine dt (i := 6) rfl rfl rfl rfl (by kernel_rfl) (fun _ => x_move rfl) ?_
  refine dt (i := 7) rfl rfl rfl rfl (by kernel_rfl) (fun _ => x_nil rfl) ?_
  refine dt (i := 8) rfl rfl rfl rfl (by kernel_rfl) (fun _ => x_fa rfl Tryd.underlying79 rfl Tryd.sizeOf76 1 rfl) ?_
  refine dlt (i := 9) rfl rfl rfl rfl (by kernel_rfl) (by kernel_rfl) (fun w' hU => x_ld rfl Tryd.isAgg76 (heq hU R.c1)) ?_
  refine dt (i := 10) rfl rfl rfl rfl (by kernel_rfl) (fun _ => x_len rfl Tryd.underlying76) ?_
  refine dt (i := 11) rfl rfl rfl rfl (by kernel_rfl) (fun _ => (x_lss rfl rfl).b1 (by have := (List.getElem?_eq_some_iff.1 hs).1; omega)) ?_
  refine dt (i := 12) rfl rfl rfl rfl (by kernel_rfl) (fun _ => x_pick1 rfl rfl) ?_
  refine dt (i := 13) rfl rfl rfl rfl (by kernel_rfl) (fun _ => x_move rfl) ?_
  refine dt (i := 14) rfl rfl rfl rfl (by kernel_rfl) (fun _ => x_move rfl) ?_
  refine dt (i := 15) rfl rfl rfl rfl (by kernel_rfl) (fun _ => x_nil rfl) ?_
  refine dt (i := 16) rfl rfl rfl rfl (by kernel_rfl) (fun _ => x_fa rfl Tryd.underlying79 rfl Tryd.sizeOf76 1 rfl) ?_
  refine dlt (i := 17) rfl rfl rfl rfl (by kernel_rfl) (by kernel_rfl) (fun w' hU => x_ld rfl Tryd.isAgg76 (heq hU (R.c1' (ne_of_at hs)))) ?_
  refine dt (i := 18) rfl rfl rfl rfl (by kernel_rfl) (fun _ => x_fa rfl Tryd.underlying33 rfl Tryd.sizeOf3 0 rfl) ?_
  refine dlt (i := 19) rfl rfl rfl rfl (by kernel_rfl) (by kernel_rfl) (fun w' hU => x_ld rfl Tryd.isAgg3 (heq hU (b0.cell rfl))) ?_
  refine dt (i := 20) rfl rfl rfl rfl (by kernel_rfl) (fun _ => x_ia0 rfl rfl Tryd.underlying76 Tryd.sizeOf81 (by have := (List.getElem?_eq_some_iff.1 hs).1; omega)) ?_
  refine dt (i := 21) rfl rfl rfl rfl (by kernel_rfl) (fun _ => x_fa rfl Tryd.underlying81 rfl Tryd.sizeOf4 2 rfl) ?_
  refine dlt (i := 22) rfl rfl rfl rfl (by kernel_rfl) (by kernel_rfl) (fun w' hU => x_ld rfl Tryd.isAgg4 (heq hU (R.cCl hs (j := 2) (v := .bool false) (by simp [encC, hh])))) ?_
  refine dt (i := 23) rfl rfl rfl rfl (by kernel_rfl) (fun _ => x_pick1 rfl rfl) ?_
  refine dt (i := 24) rfl rfl rfl rfl (by kernel_rfl) (fun _ => x_move rfl) ?_
  refine dz (i := 25) rfl rfl rfl rfl (by kernel_rfl) ?_
  refine dz (i := 26) rfl rfl rfl rfl (by kernel_rfl) ?_
  refine dz (i := 27) rfl rfl rfl rfl (by kernel_rfl) ?_
  refine dz (i := 28) rfl rfl rfl rfl (by kernel_rfl) ?_
  refine dz (i := 29) rfl rfl rfl rfl (by kernel_rfl) ?_
  refine dz (i := 30) rfl rfl rfl rfl (by kernel_rfl) ?_
  refine dz (i := 31) rfl rfl rfl rfl (by kernel_rfl) ?_
  refine dz (i := 32) rfl rfl rfl rfl (by kernel_rfl) ?_
  refine dz (i := 33) rfl rfl rfl rfl (by kernel_rfl) ?_
  refine dz (i := 34) rfl rfl rfl rfl (by kernel_rfl) ?_
  refine dz (i := 35) rfl rfl rfl rfl (by kernel_rfl) ?_
  refine dz (i := 36) rfl rfl rfl rfl (by kernel_rfl) ?_
  refine dt (i := 37) rfl rfl rfl rfl (by kernel_rfl) (fun _ => x_pick0 rfl rfl) ?_
  refine dt (i := 38) rfl rfl rfl rfl (by kernel_rfl) (fun _ => x_asg rfl) ?_
  replace F := F.trans frd1
  replace R := R.fr0 frd1
  replace b0 := b0.fr0 frd1
  refine dn (by kernel_rfl) ?_
  refine al_k ?_
  refine cl_ret rfl ?_
  refine fin1 rfl rfl ?_
  exact ⟨rfl, F⟩

theorem ralive_gen (w : World) (B0 B : Nat) (r : RK) (qs : List Int) (x : Ar) (R : RAt w B0 B r qs x) (n g : Int) (h0 : 0 ≤ n) (s : Sl) (hs : x.slots[n.toNat]? = some s) (hh : s.held = true) (hg : ¬ s.gen = g) : Cl Tryd.prog 44 [.pointer (some ⟨r.rp, 0, none⟩), .agg [.int .i64 n, .int .u64 g].toArray] w (fun v w' => v = .bool false ∧ Fr [] w w') := by
  have F := Fr.refl [] w
  refine enter Tryd.func44 rfl Tryd.ntmps44 rfl ?_
  refine cl_seq rfl ?_
  refine cl_reg rfl ?_
  refine se rfl rfl rfl rfl (e_new (x_box (cs := [.int .i64 n, .int .u64 g]) rfl rfl)) ?_
  rintro _ w0 ⟨rfl, b0, fr, _⟩
  replace F := F.trans fr
  replace R := R.fr0 fr
  clear fr
  refine st rfl rfl rfl rfl (x_asg rfl) ?_
  refine rl_end rfl ?_
  refine al_k ?_
  refine cl_seq rfl ?_
  refine cl_draw (by kernel_rfl) rfl [] (fun w' => w'.heap = w0.heap) ?_
  rintro wd1 frd1 hpd1
  refine ⟨hpd1, ?_⟩
  refine dt (i := 0) rfl rfl rfl rfl (by kernel_rfl) (fun _ => x_fa rfl Tryd.underlying33 rfl Tryd.sizeOf3 0 rfl) ?_
  refine dlt (i := 1) rfl rfl rfl rfl (by kernel_rfl) (by kernel_rfl) (fun w' hU => x_ld rfl Tryd.isAgg3 (heq hU (b0.cell rfl))) ?_
  refine dt (i := 2) rfl rfl rfl rfl (by kernel_rfl) (fun _ => (x_geq rfl rfl).b1 (by omega)) ?_
  refine dt (i := 3) rfl rfl rfl rfl (by kernel_rfl) (fun _ => x_move rfl) ?_
  refine dt (i := 4) rfl rfl rfl rfl (by kernel_rfl) (fun _ => x_fa rfl Tryd.underlying33 rfl Tryd.sizeOf3 0 rfl) ?_
  refine dlt (i := 5) rfl rfl rfl rfl (by kernel_rfl) (by kernel_rfl) (fun w' hU => x_ld rfl Tryd.isAgg3 (heq hU (b0.cell rfl))) ?_
  refine dt (i := 6) rfl rfl rfl rfl (by kernel_rfl) (fun _ => x_move rfl) ?_
  refine dt (i := 7) rfl rfl rfl rfl (by kernel_rfl) (fun _ => x_nil rfl) ?_
  refine dt (i := 8) rfl rfl rfl rfl (by kernel_rfl) (fun _ => x_fa rfl Tryd.underlying79 rfl Tryd.sizeOf76 1 rfl) ?_
  refine dlt (i := 9) rfl rfl rfl rfl (by kernel_rfl) (by kernel_rfl) (fun w' hU => x_ld rfl Tryd.isAgg76 (heq hU R.c1)) ?_
  refine dt (i := 10) rfl rfl rfl rfl (by kernel_rfl) (fun _ => x_len rfl Tryd.underlying76) ?_
  refine dt (i := 11) rfl rfl rfl rfl (by kernel_rfl) (fun _ => (x_lss rfl rfl).b1 (by have := (List.getElem?_eq_some_iff.1 hs).1; omega)) ?_
  refine dt (i := 12) rfl rfl rfl rfl (by kernel_rfl) (fun _ => x_pick1 rfl rfl) ?_
  refine dt (i := 13) rfl rfl rfl rfl (by kernel_rfl) (fun _ => x_move rfl) ?_
  refine dt (i := 14) rfl rfl rfl rfl (by kernel_rfl) (fun _ => x_move rfl) ?_
  refine dt (i := 15) rfl rfl rfl rfl (by kernel_rfl) (fun _ => x_nil rfl) ?_
  refine dt (i := 16) rfl rfl rfl rfl (by kernel_rfl) (fun _ => x_fa rfl Tryd.underlying79 rfl Tryd.sizeOf76 1 rfl) ?_
  refine dlt (i := 17) rfl rfl rfl rfl (by kernel_rfl) (by kernel_rfl) (fun w' hU => x_ld rfl Tryd.isAgg76 (heq hU (R.c1' (ne_of_at hs)))) ?_
  refine dt (i := 18) rfl rfl rfl rfl (by kernel_rfl) (fun _ => x_fa rfl Tryd.underlying33 rfl Tryd.sizeOf3 0 rfl) ?_
  refine dlt (i := 19) rfl rfl rfl rfl (by kernel_rfl) (by kernel_rfl) (fun w' hU => x_ld rfl Tryd.isAgg3 (heq hU (b0.cell rfl))) ?_
  refine dt (i := 20) rfl rfl rfl rfl (by kernel_rfl) (fun _ => x_ia0 rfl rfl Tryd.underlying76 Tryd.sizeOf81 (by have := (List.getElem?_eq_some_iff.1 hs).1; omega)) ?_
  refine dt (i := 21) rfl rfl rfl rfl (by kernel_rfl) (fun _ => x_fa rfl Tryd.underlying81 rfl Tryd.sizeOf4 2 rfl) ?_
  refine dlt (i := 22) rfl rfl rfl rfl (by kernel_rfl) (by kernel_rfl) (fun w' hU => x_ld rfl Tryd.isAgg4 (heq hU (R.cCl hs (j := 2) (v := .bool true) (by simp [encC, hh])))) ?_
  refine dt (i := 23) rfl rfl rfl rfl (by kernel_rfl) (fun _ => x_pick1 rfl rfl) ?_
  refine dt (i := 24) rfl rfl rfl rfl (by kernel_rfl) (fun _ => x_move rfl) ?_
  refine dt (i := 25) rfl rfl rfl rfl (by kernel_rfl) (fun _ => x_move rfl) ?_
  refine dt (i := 26) rfl rfl rfl rfl (by kernel_rfl) (fun _ => x_nil rfl) ?_
  refine dt (i := 27) rfl rfl rfl rfl (by kernel_rfl) (fun _ => x_fa rfl Tryd.underlying79 rfl Tryd.sizeOf76 1 rfl) ?_
  refine dlt (i := 28) rfl rfl rfl rfl (by kernel_rfl) (by kernel_rfl) (fun w' hU => x_ld rfl Tryd.isAgg76 (heq hU (R.c1' (ne_of_at hs)))) ?_
  refine dt (i := 29) rfl rfl rfl rfl (by kernel_rfl) (fun _ => x_fa rfl Tryd.underlying33 rfl Tryd.sizeOf3 0 rfl) ?_
  refine dlt (i := 30) rfl rfl rfl rfl (by kernel_rfl) (by kernel_rfl) (fun w' hU => x_ld rfl Tryd.isAgg3 (heq hU (b0.cell rfl))) ?_
  refine dt (i := 31) rfl rfl rfl rfl (by kernel_rfl) (fun _ => x_ia0 rfl rfl Tryd.underlying76 Tryd.sizeOf81 (by have := (List.getElem?_eq_some_iff.1 hs).1; omega)) ?_
  refine dt (i := 32) rfl rfl rfl rfl (by kernel_rfl) (fun _ => x_fa rfl Tryd.underlying81 rfl Tryd.sizeOf31 1 rfl) ?_
  refine dlt (i := 33) rfl rfl rfl rfl (by kernel_rfl) (by kernel_rfl) (fun w' hU => x_ld rfl Tryd.isAgg31 (heq hU (R.cCl hs (j := 1) rfl))) ?_
  refine dt (i := 34) rfl rfl rfl rfl (by kernel_rfl) (fun _ => x_fa rfl Tryd.underlying33 rfl Tryd.sizeOf31 1 rfl) ?_
  refine dlt (i := 35) rfl rfl rfl rfl (by kernel_rfl) (by kernel_rfl) (fun w' hU => x_ld rfl Tryd.isAgg31 (heq hU (b0.cell rfl))) ?_
  refine dt (i := 36) rfl rfl rfl rfl (by kernel_rfl) (fun _ => (x_eql rfl rfl).b0 hg) ?_
  refine dt (i := 37) rfl rfl rfl rfl (by kernel_rfl) (fun _ => x_pick1 rfl rfl) ?_
  refine dt (i := 38) rfl rfl rfl rfl (by kernel_rfl) (fun _ => x_asg rfl) ?_
  replace F := F.trans frd1
  replace R := R.fr0 frd1
  replace b0 := b0.fr0 frd1
  refine dn (by kernel_rfl) ?_
  refine al_k ?_
  refine cl_ret rfl ?_
  refine fin1 rfl rfl ?_
  exact ⟨rfl, F⟩

theorem ralive_y (w : World) (B0 B : Nat) (r : RK) (qs : List Int) (x : Ar) (R : RAt w B0 B r qs x) (n g : Int) (h0 : 0 ≤ n) (s : Sl) (hs : x.slots[n.toNat]? = some s) (hh : s.held = true) (hg : s.gen = g) : Cl Tryd.prog 44 [.pointer (some ⟨r.rp, 0, none⟩), .agg [.int .i64 n, .int .u64 g].toArray] w (fun v w' => v = .bool true ∧ Fr [] w w') := by
  have F := Fr.refl [] w
  refine enter Tryd.func44 rfl Tryd.ntmps44 rfl ?_
  refine cl_seq rfl ?_
  refine cl_reg rfl ?_
  refine se rfl rfl rfl rfl (e_new (x_box (cs := [.int .i64 n, .int .u64 g]) rfl rfl)) ?_
  rintro _ w0 ⟨rfl, b0, fr, _⟩
  replace F := F.trans fr
  replace R := R.fr0 fr
  clear fr
  refine st rfl rfl rfl rfl (x_asg rfl) ?_
  refine rl_end rfl ?_
  refine al_k ?_
  refine cl_seq rfl ?_
  refine cl_draw (by kernel_rfl) rfl [] (fun w' => w'.heap = w0.heap) ?_
  rintro wd1 frd1 hpd1
  refine ⟨hpd1, ?_⟩
  refine dt (i := 0) rfl rfl rfl rfl (by kernel_rfl) (fun _ => x_fa rfl Tryd.underlying33 rfl Tryd.sizeOf3 0 rfl) ?_
  refine dlt (i := 1) rfl rfl rfl rfl (by kernel_rfl) (by kernel_rfl) (fun w' hU => x_ld rfl Tryd.isAgg3 (heq hU (b0.cell rfl))) ?_
  refine dt (i := 2) rfl rfl rfl rfl (by kernel_rfl) (fun _ => (x_geq rfl rfl).b1 (by omega)) ?_
  refine dt (i := 3) rfl rfl rfl rfl (by kernel_rfl) (fun _ => x_move rfl) ?_
  refine dt (i := 4) rfl rfl rfl rfl (by kernel_rfl) (fun _ => x_fa rfl Tryd.underlying33 rfl Tryd.sizeOf3 0 rfl) ?_
  refine dlt (i := 5) rfl rfl rfl rfl (by kernel_rfl) (by kernel_rfl) (fun w' hU => x_ld rfl Tryd.isAgg3 (heq hU (b0.cell rfl))) ?_
  refine dt (i := 6) rfl rfl rfl rfl (by kernel_rfl) (fun _ => x_move rfl) ?_
  refine dt (i := 7) rfl rfl rfl rfl (by kernel_rfl) (fun _ => x_nil rfl) ?_
  refine dt (i := 8) rfl rfl rfl rfl (by kernel_rfl) (fun _ => x_fa rfl Tryd.underlying79 rfl Tryd.sizeOf76 1 rfl) ?_
  refine dlt (i := 9) rfl rfl rfl rfl (by kernel_rfl) (by kernel_rfl) (fun w' hU => x_ld rfl Tryd.isAgg76 (heq hU R.c1)) ?_
  refine dt (i := 10) rfl rfl rfl rfl (by kernel_rfl) (fun _ => x_len rfl Tryd.underlying76) ?_
  refine dt (i := 11) rfl rfl rfl rfl (by kernel_rfl) (fun _ => (x_lss rfl rfl).b1 (by have := (List.getElem?_eq_some_iff.1 hs).1; omega)) ?_
  refine dt (i := 12) rfl rfl rfl rfl (by kernel_rfl) (fun _ => x_pick1 rfl rfl) ?_
  refine dt (i := 13) rfl rfl rfl rfl (by kernel_rfl) (fun _ => x_move rfl) ?_
  refine dt (i := 14) rfl rfl rfl rfl (by kernel_rfl) (fun _ => x_move rfl) ?_
  refine dt (i := 15) rfl rfl rfl rfl (by kernel_rfl) (fun _ => x_nil rfl) ?_
  refine dt (i := 16) rfl rfl rfl rfl (by kernel_rfl) (fun _ => x_fa rfl Tryd.underlying79 rfl Tryd.sizeOf76 1 rfl) ?_
  refine dlt (i := 17) rfl rfl rfl rfl (by kernel_rfl) (by kernel_rfl) (fun w' hU => x_ld rfl Tryd.isAgg76 (heq hU (R.c1' (ne_of_at hs)))) ?_
  refine dt (i := 18) rfl rfl rfl rfl (by kernel_rfl) (fun _ => x_fa rfl Tryd.underlying33 rfl Tryd.sizeOf3 0 rfl) ?_
  refine dlt (i := 19) rfl rfl rfl rfl (by kernel_rfl) (by kernel_rfl) (fun w' hU => x_ld rfl Tryd.isAgg3 (heq hU (b0.cell rfl))) ?_
  refine dt (i := 20) rfl rfl rfl rfl (by kernel_rfl) (fun _ => x_ia0 rfl rfl Tryd.underlying76 Tryd.sizeOf81 (by have := (List.getElem?_eq_some_iff.1 hs).1; omega)) ?_
  refine dt (i := 21) rfl rfl rfl rfl (by kernel_rfl) (fun _ => x_fa rfl Tryd.underlying81 rfl Tryd.sizeOf4 2 rfl) ?_
  refine dlt (i := 22) rfl rfl rfl rfl (by kernel_rfl) (by kernel_rfl) (fun w' hU => x_ld rfl Tryd.isAgg4 (heq hU (R.cCl hs (j := 2) (v := .bool true) (by simp [encC, hh])))) ?_
  refine dt (i := 23) rfl rfl rfl rfl (by kernel_rfl) (fun _ => x_pick1 rfl rfl) ?_
  refine dt (i := 24) rfl rfl rfl rfl (by kernel_rfl) (fun _ => x_move rfl) ?_
  refine dt (i := 25) rfl rfl rfl rfl (by kernel_rfl) (fun _ => x_move rfl) ?_
  refine dt (i := 26) rfl rfl rfl rfl (by kernel_rfl) (fun _ => x_nil rfl) ?_
  refine dt (i := 27) rfl rfl rfl rfl (by kernel_rfl) (fun _ => x_fa rfl Tryd.underlying79 rfl Tryd.sizeOf76 1 rfl) ?_
  refine dlt (i := 28) rfl rfl rfl rfl (by kernel_rfl) (by kernel_rfl) (fun w' hU => x_ld rfl Tryd.isAgg76 (heq hU (R.c1' (ne_of_at hs)))) ?_
  refine dt (i := 29) rfl rfl rfl rfl (by kernel_rfl) (fun _ => x_fa rfl Tryd.underlying33 rfl Tryd.sizeOf3 0 rfl) ?_
  refine dlt (i := 30) rfl rfl rfl rfl (by kernel_rfl) (by kernel_rfl) (fun w' hU => x_ld rfl Tryd.isAgg3 (heq hU (b0.cell rfl))) ?_
  refine dt (i := 31) rfl rfl rfl rfl (by kernel_rfl) (fun _ => x_ia0 rfl rfl Tryd.underlying76 Tryd.sizeOf81 (by have := (List.getElem?_eq_some_iff.1 hs).1; omega)) ?_
  refine dt (i := 32) rfl rfl rfl rfl (by kernel_rfl) (fun _ => x_fa rfl Tryd.underlying81 rfl Tryd.sizeOf31 1 rfl) ?_
  refine dlt (i := 33) rfl rfl rfl rfl (by kernel_rfl) (by kernel_rfl) (fun w' hU => x_ld rfl Tryd.isAgg31 (heq hU (R.cCl hs (j := 1) rfl))) ?_
  refine dt (i := 34) rfl rfl rfl rfl (by kernel_rfl) (fun _ => x_fa rfl Tryd.underlying33 rfl Tryd.sizeOf31 1 rfl) ?_
  refine dlt (i := 35) rfl rfl rfl rfl (by kernel_rfl) (by kernel_rfl) (fun w' hU => x_ld rfl Tryd.isAgg31 (heq hU (b0.cell rfl))) ?_
  refine dt (i := 36) rfl rfl rfl rfl (by kernel_rfl) (fun _ => (x_eql rfl rfl).b1 hg) ?_
  refine dt (i := 37) rfl rfl rfl rfl (by kernel_rfl) (fun _ => x_pick1 rfl rfl) ?_
  refine dt (i := 38) rfl rfl rfl rfl (by kernel_rfl) (fun _ => x_asg rfl) ?_
  replace F := F.trans frd1
  replace R := R.fr0 frd1
  replace b0 := b0.fr0 frd1
  refine dn (by kernel_rfl) ?_
  refine al_k ?_
  refine cl_ret rfl ?_
  refine fin1 rfl rfl ?_
  exact ⟨rfl, F⟩

theorem ralive_c (w : World) (B0 B : Nat) (r : RK) (qs : List Int) (x : Ar) (R : RAt w B0 B r qs x) (n g : Int) : Cl Tryd.prog 44 [.pointer (some ⟨r.rp, 0, none⟩), .agg [.int .i64 n, .int .u64 g].toArray] w (fun v w' => v = .bool (x.find n g).isSome ∧ Fr [] w w') := by
  unfold Ar.find
  by_cases h0 : 0 ≤ n
  · rw [if_pos h0]
    cases hs : x.slots[n.toNat]? with
    | none => exact ralive_out w B0 B r qs x R n g h0 (by have := List.getElem?_eq_none_iff.1 hs; omega)
    | some s =>
      dsimp only
      cases hh : s.held with
      | false => exact ralive_free w B0 B r qs x R n g h0 s hs hh
      | true =>
        by_cases hg : s.gen = g
        · rw [if_pos ⟨rfl, hg⟩]; exact ralive_y w B0 B r qs x R n g h0 s hs hh hg
        · rw [if_neg (fun h => hg h.2)]; exact ralive_gen w B0 B r qs x R n g h0 s hs hh hg
  · rw [if_neg h0]; exact ralive_neg w B0 B r qs x R n g (by omega)

theorem rlook_neg (w : World) (B0 B : Nat) (r : RK) (qs : List Int) (x : Ar) (R : RAt w B0 B r qs x) (n : Int) (h0 : n < 0) : Cl Tryd.prog 19 [.pointer (some ⟨r.rp, 0, none⟩), .int .i64 n] w (fun v w' => v = .tuple #[.int .u64 0, .int .u64 0, .bool false] ∧ Fr [] w w') := by
  have F := Fr.refl [] w
  refine enter Tryd.func19 rfl Tryd.ntmps19 rfl ?_
  refine cl_seq rfl ?_
  refine cl_reg rfl ?_
  refine st rfl rfl rfl rfl (x_asg rfl) ?_
  refine st rfl rfl rfl rfl (x_asg rfl) ?_
  refine st rfl rfl rfl rfl (x_asg rfl) ?_
  refine rl_end rfl ?_
  refine al_k ?_
  refine cl_seq rfl ?_
  refine cl_seq rfl ?_
  refine cl_reg rfl ?_
  refine st rfl rfl rfl rfl (x_move rfl) ?_
  refine st rfl rfl rfl rfl ((x_lss rfl rfl).b1 (by omega)) ?_
  refine st rfl rfl rfl rfl (x_move rfl) ?_
  refine so rfl rfl rfl rfl ?_
  refine so rfl rfl rfl rfl ?_
  refine so rfl rfl rfl rfl ?_
  refine so rfl rfl rfl rfl ?_
  refine so rfl rfl rfl rfl ?_
  refine so rfl rfl rfl rfl ?_
  refine so rfl rfl rfl rfl ?_
  refine st rfl rfl rfl rfl (x_pick1 rfl rfl) ?_
  refine rl_end rfl ?_
  refine al_k ?_
  refine cl_if1 rfl rfl ?_
  refine cl_seq rfl ?_
  refine cl_reg rfl ?_
  refine st rfl rfl rfl rfl (x_asg rfl) ?_
  refine st rfl rfl rfl rfl (x_asg rfl) ?_
  refine st rfl rfl rfl rfl (x_asg rfl) ?_
  refine rl_end rfl ?_
  refine al_k ?_
  refine cl_ret rfl ?_
  refine fin3 rfl rfl rfl rfl ?_
  exact ⟨rfl, F⟩

theorem rlook_out (w : World) (B0 B : Nat) (r : RK) (qs : List Int) (x : Ar) (R : RAt w B0 B r qs x) (n : Int) (h0 : 0 ≤ n) (h1 : (x.slots.length : Int) ≤ n) : Cl Tryd.prog 19 [.pointer (some ⟨r.rp, 0, none⟩), .int .i64 n] w (fun v w' => v = .tuple #[.int .u64 0, .int .u64 0, .bool false] ∧ Fr [] w w') := by
  have F := Fr.refl [] w
  refine enter Tryd.func19 rfl Tryd.ntmps19 rfl ?_
  refine cl_seq rfl ?_
  refine cl_reg rfl ?_
  refine st rfl rfl rfl rfl (x_asg rfl) ?_
  refine st rfl rfl rfl rfl (x_asg rfl) ?_
  refine st rfl rfl rfl rfl (x_asg rfl) ?_
  refine rl_end rfl ?_
  refine al_k ?_
  refine cl_seq rfl ?_
  refine cl_seq rfl ?_
  refine cl_reg rfl ?_
  refine st rfl rfl rfl rfl (x_move rfl) ?_
  refine st rfl rfl rfl rfl ((x_lss rfl rfl).b0 (by omega)) ?_
  refine st rfl rfl rfl rfl (x_move rfl) ?_
  refine st rfl rfl rfl rfl (x_move rfl) ?_
  refine st rfl rfl rfl rfl (x_move rfl) ?_
  refine st rfl rfl rfl rfl (x_nil rfl) ?_
  refine st rfl rfl rfl rfl (x_fa rfl Tryd.underlying79 rfl Tryd.sizeOf76 1 rfl) ?_
  refine st rfl rfl rfl rfl (x_ld rfl Tryd.isAgg76 R.c1) ?_
  refine st rfl rfl rfl rfl (x_len rfl Tryd.underlying76) ?_
  refine st rfl rfl rfl rfl ((x_geq rfl rfl).b1 (by omega)) ?_
  refine st rfl rfl rfl rfl (x_pick0 rfl rfl) ?_
  refine rl_end rfl ?_
  refine al_k ?_
  refine cl_if1 rfl rfl ?_
  refine cl_seq rfl ?_
  refine cl_reg rfl ?_
  refine st rfl rfl rfl rfl (x_asg rfl) ?_
  refine st rfl rfl rfl rfl (x_asg rfl) ?_
  refine st rfl rfl rfl rfl (x_asg rfl) ?_
  refine rl_end rfl ?_
  refine al_k ?_
  refine cl_ret rfl ?_
  refine fin3 rfl rfl rfl rfl ?_
  exact ⟨rfl, F⟩

theorem rlook_y (w : World) (B0 B : Nat) (r : RK) (qs : List Int) (x : Ar) (R : RAt w B0 B r qs x) (n : Int) (h0 : 0 ≤ n) (s : Sl) (hs : x.slots[n.toNat]? = some s) : Cl Tryd.prog 19 [.pointer (some ⟨r.rp, 0, none⟩), .int .i64 n] w (fun v w' => v = .tuple #[.int .u64 s.pay, .int .u64 s.gen, .bool s.held] ∧ Fr [] w w') := by
  have F := Fr.refl [] w
  refine enter Tryd.func19 rfl Tryd.ntmps19 rfl ?_
  refine cl_seq rfl ?_
  refine cl_reg rfl ?_
  refine st rfl rfl rfl rfl (x_asg rfl) ?_
  refine st rfl rfl rfl rfl (x_asg rfl) ?_
  refine st rfl rfl rfl rfl (x_asg rfl) ?_
  refine rl_end rfl ?_
  refine al_k ?_
  refine cl_seq rfl ?_
  refine cl_seq rfl ?_
  refine cl_reg rfl ?_
  refine st rfl rfl rfl rfl (x_move rfl) ?_
  refine st rfl rfl rfl rfl ((x_lss rfl rfl).b0 (by omega)) ?_
  refine st rfl rfl rfl rfl (x_move rfl) ?_
  refine st rfl rfl rfl rfl (x_move rfl) ?_
  refine st rfl rfl rfl rfl (x_move rfl) ?_
  refine st rfl rfl rfl rfl (x_nil rfl) ?_
  refine st rfl rfl rfl rfl (x_fa rfl Tryd.underlying79 rfl Tryd.sizeOf76 1 rfl) ?_
  refine st rfl rfl rfl rfl (x_ld rfl Tryd.isAgg76 R.c1) ?_
  refine st rfl rfl rfl rfl (x_len rfl Tryd.underlying76) ?_
  refine st rfl rfl rfl rfl ((x_geq rfl rfl).b0 (by have := (List.getElem?_eq_some_iff.1 hs).1; omega)) ?_
  refine st rfl rfl rfl rfl (x_pick0 rfl rfl) ?_
  refine rl_end rfl ?_
  refine al_k ?_
  refine cl_if0 rfl rfl ?_
  refine cl_skip rfl ?_
  refine al_k ?_
  refine cl_seq rfl ?_
  refine cl_draw (by kernel_rfl) rfl [] (fun w' => w'.heap = w.heap) ?_
  rintro wd3 frd3 hpd3
  refine ⟨hpd3, ?_⟩
  refine dt (i := 0) rfl rfl rfl rfl (by kernel_rfl) (fun _ => x_move rfl) ?_
  refine dt (i := 1) rfl rfl rfl rfl (by kernel_rfl) (fun _ => x_nil rfl) ?_
  refine dt (i := 2) rfl rfl rfl rfl (by kernel_rfl) (fun _ => x_fa rfl Tryd.underlying79 rfl Tryd.sizeOf76 1 rfl) ?_
  refine dlt (i := 3) rfl rfl rfl rfl (by kernel_rfl) (by kernel_rfl) (fun w' hU => x_ld rfl Tryd.isAgg76 (heq hU (R.c1' (ne_of_at hs)))) ?_
  refine dt (i := 4) rfl rfl rfl rfl (by kernel_rfl) (fun _ => x_move rfl) ?_
  refine dt (i := 5) rfl rfl rfl rfl (by kernel_rfl) (fun _ => x_ia0 rfl rfl Tryd.underlying76 Tryd.sizeOf81 (by have := (List.getElem?_eq_some_iff.1 hs).1; omega)) ?_
  refine dt (i := 6) rfl rfl rfl rfl (by kernel_rfl) (fun _ => x_fa rfl Tryd.underlying81 rfl Tryd.sizeOf31 0 rfl) ?_
  refine dlt (i := 7) rfl rfl rfl rfl (by kernel_rfl) (by kernel_rfl) (fun w' hU => x_ld rfl Tryd.isAgg31 (heq hU (R.cCl hs (j := 0) rfl))) ?_
  refine dt (i := 8) rfl rfl rfl rfl (by kernel_rfl) (fun _ => x_move rfl) ?_
  refine dt (i := 9) rfl rfl rfl rfl (by kernel_rfl) (fun _ => x_nil rfl) ?_
  refine dt (i := 10) rfl rfl rfl rfl (by kernel_rfl) (fun _ => x_fa rfl Tryd.underlying79 rfl Tryd.sizeOf76 1 rfl) ?_
  refine dlt (i := 11) rfl rfl rfl rfl (by kernel_rfl) (by kernel_rfl) (fun w' hU => x_ld rfl Tryd.isAgg76 (heq hU (R.c1' (ne_of_at hs)))) ?_
  refine dt (i := 12) rfl rfl rfl rfl (by kernel_rfl) (fun _ => x_move rfl) ?_
  refine dt (i := 13) rfl rfl rfl rfl (by kernel_rfl) (fun _ => x_ia0 rfl rfl Tryd.underlying76 Tryd.sizeOf81 (by have := (List.getElem?_eq_some_iff.1 hs).1; omega)) ?_
  refine dt (i := 14) rfl rfl rfl rfl (by kernel_rfl) (fun _ => x_fa rfl Tryd.underlying81 rfl Tryd.sizeOf31 1 rfl) ?_
  refine dlt (i := 15) rfl rfl rfl rfl (by kernel_rfl) (by kernel_rfl) (fun w' hU => x_ld rfl Tryd.isAgg31 (heq hU (R.cCl hs (j := 1) rfl))) ?_
  refine dt (i := 16) rfl rfl rfl rfl (by kernel_rfl) (fun _ => x_move rfl) ?_
  refine dt (i := 17) rfl rfl rfl rfl (by kernel_rfl) (fun _ => x_nil rfl) ?_
  refine dt (i := 18) rfl rfl rfl rfl (by kernel_rfl) (fun _ => x_fa rfl Tryd.underlying79 rfl Tryd.sizeOf76 1 rfl) ?_
  refine dlt (i := 19) rfl rfl rfl rfl (by kernel_rfl) (by kernel_rfl) (fun w' hU => x_ld rfl Tryd.isAgg76 (heq hU (R.c1' (ne_of_at hs)))) ?_
  refine dt (i := 20) rfl rfl rfl rfl (by kernel_rfl) (fun _ => x_move rfl) ?_
  refine dt (i := 21) rfl rfl rfl rfl (by kernel_rfl) (fun _ => x_ia0 rfl rfl Tryd.underlying76 Tryd.sizeOf81 (by have := (List.getElem?_eq_some_iff.1 hs).1; omega)) ?_
  refine dt (i := 22) rfl rfl rfl rfl (by kernel_rfl) (fun _ => x_fa rfl Tryd.underlying81 rfl Tryd.sizeOf4 2 rfl) ?_
  refine dlt (i := 23) rfl rfl rfl rfl (by kernel_rfl) (by kernel_rfl) (fun w' hU => x_ld rfl Tryd.isAgg4 (heq hU (R.cCl hs (j := 2) rfl))) ?_
  refine dt (i := 24) rfl rfl rfl rfl (by kernel_rfl) (fun _ => x_asg rfl) ?_
  refine dt (i := 25) rfl rfl rfl rfl (by kernel_rfl) (fun _ => x_asg rfl) ?_
  refine dt (i := 26) rfl rfl rfl rfl (by kernel_rfl) (fun _ => x_asg rfl) ?_
  replace F := F.trans frd3
  replace R := R.fr0 frd3
  refine dn (by kernel_rfl) ?_
  refine al_k ?_
  refine cl_ret rfl ?_
  refine fin3 rfl rfl rfl rfl ?_
  exact ⟨rfl, F⟩

theorem rlook_c (w : World) (B0 B : Nat) (r : RK) (qs : List Int) (x : Ar) (R : RAt w B0 B r qs x) (n : Int) : Cl Tryd.prog 19 [.pointer (some ⟨r.rp, 0, none⟩), .int .i64 n] w (fun v w' => v = .tuple #[.int .u64 (x.look n).1, .int .u64 (x.look n).2.1, .bool (x.look n).2.2] ∧ Fr [] w w') := by
  unfold Ar.look
  by_cases h0 : 0 ≤ n
  · cases hs : x.slots[n.toNat]? with
    | none =>
      have h1 := List.getElem?_eq_none_iff.1 hs
      rw [if_neg (fun h => by have := h.2; omega)]
      exact rlook_out w B0 B r qs x R n h0 (by omega)
    | some s =>
      have h1 := (List.getElem?_eq_some_iff.1 hs).1
      rw [if_pos (show x.okP n from ⟨h0, by omega⟩)]
      exact rlook_y w B0 B r qs x R n h0 s hs
  · rw [if_neg (fun h => h0 h.1)]
    exact rlook_neg w B0 B r qs x R n (by omega)

theorem rcounts_c (w : World) (B0 B : Nat) (r : RK) (qs : List Int) (x : Ar) (R : RAt w B0 B r qs x) (hS : Sz qs x) (hok : okQ qs) (p : Int) : Cl Tryd.prog 22 [.pointer (some ⟨r.rp, 0, none⟩), .int .i64 p] w (fun v w' => v = .tuple #[.int .i64 (x.counts p).1, .int .i64 (x.counts p).2.1, .int .i64 (x.counts p).2.2] ∧ Fr [] w w') := by
  have F := Fr.refl [] w
  refine enter Tryd.func22 rfl Tryd.ntmps22 rfl ?_
  refine cl_seq rfl ?_
  refine cl_reg rfl ?_
  refine st rfl rfl rfl rfl (x_asg rfl) ?_
  refine st rfl rfl rfl rfl (x_asg rfl) ?_
  refine st rfl rfl rfl rfl (x_asg rfl) ?_
  refine rl_end rfl ?_
  refine al_k ?_
  refine cl_seq rfl ?_
  refine cl_seq rfl ?_
  refine cl_reg rfl ?_
  refine st rfl rfl rfl rfl (x_move rfl) ?_
  refine st rfl rfl rfl rfl (x_move rfl) ?_
  refine sc rfl rfl rfl rfl (c_fn rfl Tryd.call38 (rpart_c _ B0 B r qs x R p)) ?_
  rintro _ wk ⟨rfl, hwk⟩
  obtain rfl := hwk.symm
  cases hf1_2 : (decide (0 ≤ p ∧ p < (qs.length : Int)))
  · skip
    refine st rfl rfl rfl rfl (x_not0 rfl) ?_
    refine rl_end rfl ?_
    refine al_k ?_
    refine cl_if1 rfl rfl ?_
    refine cl_seq rfl ?_
    refine cl_reg rfl ?_
    refine st rfl rfl rfl rfl (x_asg rfl) ?_
    refine st rfl rfl rfl rfl (x_asg rfl) ?_
    refine st rfl rfl rfl rfl (x_asg rfl) ?_
    refine rl_end rfl ?_
    refine al_k ?_
    refine cl_ret rfl ?_
    refine fin3 rfl rfl rfl rfl ?_
    have e : x.counts p = (0, 0, 5) := if_neg (fun h => by have := h.1; have := h.2; have := hS.pq; have := of_decide_eq_false hf1_2; omega)
    rw [e]
    exact ⟨rfl, F⟩
  · skip
    refine st rfl rfl rfl rfl (x_not1 rfl) ?_
    refine rl_end rfl ?_
    refine al_k ?_
    refine cl_if0 rfl rfl ?_
    refine cl_skip rfl ?_
    refine al_k ?_
    refine cl_seq rfl ?_
    obtain ⟨h0, h1⟩ := of_decide_eq_true hf1_2
    obtain ⟨pn, rfl⟩ : ∃ pn : Nat, p = pn := ⟨p.toNat, by omega⟩
    obtain ⟨q, hq⟩ : ∃ q, qs[pn]? = some q := ⟨_, List.getElem?_eq_getElem (by omega)⟩
    obtain ⟨hq0, hq6⟩ := hok.2 pn q hq
    obtain ⟨cc, ff, hc1, hc2, hc3, hcf, _⟩ := hS.sum hq hq0
    obtain ⟨b, eA, _, _, _, hc⟩ := R.sz pn q hq
    have hA : w.cell? ⟨r.rp, 0, none⟩ = some (.slice (some ⟨b, 0, none⟩) qs.length r.cs) := by rw [R.c0, eA]
    have hfl := hS.I.fl
    have hpq := hS.pq
    have hrow : x.free[pn]? = some (Ls.rowAt x.free (pn : Int)) := by have := rowAt_some (ls := x.free) (i := (pn : Int)) ⟨by omega, by omega⟩; simpa using this
    obtain ⟨A1, c1, hc4, _⟩ := R.row hrow
    have hff : ((Ls.rowAt x.free (pn : Int)).length : Int) = ff := by rw [← hc2]; unfold Ar.counts; rw [if_pos ⟨by omega, by omega⟩]
    refine cl_draw (by kernel_rfl) rfl [] (fun w' => w'.heap = w.heap) ?_
    rintro wd3 frd3 hpd3
    refine ⟨hpd3, ?_⟩
    refine dt (i := 0) rfl rfl rfl rfl (by kernel_rfl) (fun _ => x_move rfl) ?_
    refine dt (i := 1) rfl rfl rfl rfl (by kernel_rfl) (fun _ => x_nil rfl) ?_
    refine dt (i := 2) rfl rfl rfl rfl (by kernel_rfl) (fun _ => x_fa rfl Tryd.underlying79 rfl Tryd.sizeOf22 0 rfl) ?_
    refine dlt (i := 3) rfl rfl rfl rfl (by kernel_rfl) (by kernel_rfl) (fun w' hU => x_ld rfl Tryd.isAgg22 (heq hU hA)) ?_
    refine dt (i := 4) rfl rfl rfl rfl (by kernel_rfl) (fun _ => x_move rfl) ?_
    refine dt (i := 5) rfl rfl rfl rfl (by kernel_rfl) (fun _ => x_ia0 rfl rfl Tryd.underlying22 Tryd.sizeOf3 (by omega)) ?_
    refine dlt (i := 6) rfl rfl rfl rfl (by kernel_rfl) (by kernel_rfl) (fun w' hU => x_ld rfl Tryd.isAgg3 (heq hU hc)) ?_
    refine dt (i := 7) rfl rfl rfl rfl (by kernel_rfl) (fun _ => x_move rfl) ?_
    refine dt (i := 8) rfl rfl rfl rfl (by kernel_rfl) (fun _ => x_nil rfl) ?_
    refine dt (i := 9) rfl rfl rfl rfl (by kernel_rfl) (fun _ => x_fa rfl Tryd.underlying79 rfl Tryd.sizeOf77 2 rfl) ?_
    refine dlt (i := 10) rfl rfl rfl rfl (by kernel_rfl) (by kernel_rfl) (fun w' hU => x_ld rfl Tryd.isAgg77 (heq hU R.c2)) ?_
    refine dt (i := 11) rfl rfl rfl rfl (by kernel_rfl) (fun _ => x_move rfl) ?_
    refine dt (i := 12) rfl rfl rfl rfl (by kernel_rfl) (fun _ => x_ia0 rfl rfl Tryd.underlying77 Tryd.sizeOf22 (by omega)) ?_
    refine dlt (i := 13) rfl rfl rfl rfl (by kernel_rfl) (by kernel_rfl) (fun w' hU => x_ld rfl Tryd.isAgg22 (heq hU hc4)) ?_
    refine dt (i := 14) rfl rfl rfl rfl (by kernel_rfl) (fun _ => x_len rfl Tryd.underlying22) ?_
    refine dt (i := 15) rfl rfl rfl rfl (by kernel_rfl) (fun _ => x_sub rfl rfl (by omega)) ?_
    refine dt (i := 16) rfl rfl rfl rfl (by kernel_rfl) (fun _ => x_move rfl) ?_
    refine dt (i := 17) rfl rfl rfl rfl (by kernel_rfl) (fun _ => x_nil rfl) ?_
    refine dt (i := 18) rfl rfl rfl rfl (by kernel_rfl) (fun _ => x_fa rfl Tryd.underlying79 rfl Tryd.sizeOf77 2 rfl) ?_
    refine dlt (i := 19) rfl rfl rfl rfl (by kernel_rfl) (by kernel_rfl) (fun w' hU => x_ld rfl Tryd.isAgg77 (heq hU R.c2)) ?_
    refine dt (i := 20) rfl rfl rfl rfl (by kernel_rfl) (fun _ => x_move rfl) ?_
    refine dt (i := 21) rfl rfl rfl rfl (by kernel_rfl) (fun _ => x_ia0 rfl rfl Tryd.underlying77 Tryd.sizeOf22 (by omega)) ?_
    refine dlt (i := 22) rfl rfl rfl rfl (by kernel_rfl) (by kernel_rfl) (fun w' hU => x_ld rfl Tryd.isAgg22 (heq hU hc4)) ?_
    refine dt (i := 23) rfl rfl rfl rfl (by kernel_rfl) (fun _ => x_len rfl Tryd.underlying22) ?_
    refine dt (i := 24) rfl rfl rfl rfl (by kernel_rfl) (fun _ => x_asg rfl) ?_
    refine dt (i := 25) rfl rfl rfl rfl (by kernel_rfl) (fun _ => x_asg rfl) ?_
    refine dt (i := 26) rfl rfl rfl rfl (by kernel_rfl) (fun _ => x_asg rfl) ?_
    replace F := F.trans frd3
    replace R := R.fr0 frd3
    refine dn (by kernel_rfl) ?_
    refine al_k ?_
    refine cl_ret rfl ?_
    refine fin3 rfl rfl rfl rfl ?_
    rw [hc1, hc2, hc3, hff]
    have e : q - (ff : Int) = cc := by omega
    rw [e]
    exact ⟨rfl, F⟩

end Go.Proofs.YtjjaijabdfoanaaDoor.Arn
