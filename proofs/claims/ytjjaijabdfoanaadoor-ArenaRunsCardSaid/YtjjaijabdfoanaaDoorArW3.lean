/- The arena: the walks of what asks of it. -/
import Derived.Test.YtjjaijabdfoanaaDoorArW2
set_option linter.unusedVariables false
namespace Go.Proofs.YtjjaijabdfoanaaDoor.Arn
open Go Go.RowKit Go.Proofs.YtjjaijabdfoanaaDoor.Sx Go.Proofs.YtjjaijabdfoanaaDoor.Ls Go.Proofs.YtjjaijabdfoanaaDoor
set_option maxRecDepth 100000

theorem has_y (w : World) (k : AK) (x : Ar) (K : ArAt w k x) (n : Int) (h0 : 0 ≤ n) (h1 : n < (x.slots.length : Int)) : Cl Tryd.prog 32 [.pointer (some ⟨k.ap, 0, none⟩), .int .i64 n] w (fun v w' => v = .bool true ∧ w' = w) := by
  refine enter Tryd.func32 rfl Tryd.ntmps32 rfl ?_
  refine cl_seq rfl ?_
  refine cl_reg rfl ?_
  refine st rfl rfl rfl rfl (x_asg rfl) ?_
  refine rl_end rfl ?_
  refine al_k ?_
  refine cl_seq rfl ?_
  refine cl_reg rfl ?_
  refine st rfl rfl rfl rfl (x_move rfl) ?_
  refine sc rfl rfl rfl rfl (c_fn rfl Tryd.call28 (is_a _ k x K)) ?_
  rintro _ wk ⟨rfl, hwk⟩
  obtain rfl := hwk.symm
  refine st rfl rfl rfl rfl (x_move rfl) ?_
  refine st rfl rfl rfl rfl (x_move rfl) ?_
  refine st rfl rfl rfl rfl ((x_geq rfl rfl).b1 (by omega)) ?_
  refine st rfl rfl rfl rfl (x_pick1 rfl rfl) ?_
  refine st rfl rfl rfl rfl (x_move rfl) ?_
  refine st rfl rfl rfl rfl (x_move rfl) ?_
  refine st rfl rfl rfl rfl (x_move rfl) ?_
  refine st rfl rfl rfl rfl (x_nil rfl) ?_
  refine st rfl rfl rfl rfl (x_fa rfl Tryd.underlying64 rfl Tryd.sizeOf60 0 rfl) ?_
  refine st rfl rfl rfl rfl (x_ld rfl Tryd.isAgg60 K.cS) ?_
  refine st rfl rfl rfl rfl (x_len rfl Tryd.underlying60) ?_
  refine st rfl rfl rfl rfl ((x_lss rfl rfl).b1 (by omega)) ?_
  refine st rfl rfl rfl rfl (x_pick1 rfl rfl) ?_
  refine st rfl rfl rfl rfl (x_asg rfl) ?_
  refine rl_end rfl ?_
  refine al_k ?_
  refine cl_ret rfl ?_
  refine fin1 rfl rfl ?_
  exact ⟨rfl, rfl⟩

theorem has_n (w : World) (k : AK) (x : Ar) (K : ArAt w k x) (n : Int) (h0 : 0 ≤ n) (h1 : ¬ n < (x.slots.length : Int)) : Cl Tryd.prog 32 [.pointer (some ⟨k.ap, 0, none⟩), .int .i64 n] w (fun v w' => v = .bool false ∧ w' = w) := by
  refine enter Tryd.func32 rfl Tryd.ntmps32 rfl ?_
  refine cl_seq rfl ?_
  refine cl_reg rfl ?_
  refine st rfl rfl rfl rfl (x_asg rfl) ?_
  refine rl_end rfl ?_
  refine al_k ?_
  refine cl_seq rfl ?_
  refine cl_reg rfl ?_
  refine st rfl rfl rfl rfl (x_move rfl) ?_
  refine sc rfl rfl rfl rfl (c_fn rfl Tryd.call28 (is_a _ k x K)) ?_
  rintro _ wk ⟨rfl, hwk⟩
  obtain rfl := hwk.symm
  refine st rfl rfl rfl rfl (x_move rfl) ?_
  refine st rfl rfl rfl rfl (x_move rfl) ?_
  refine st rfl rfl rfl rfl ((x_geq rfl rfl).b1 (by omega)) ?_
  refine st rfl rfl rfl rfl (x_pick1 rfl rfl) ?_
  refine st rfl rfl rfl rfl (x_move rfl) ?_
  refine st rfl rfl rfl rfl (x_move rfl) ?_
  refine st rfl rfl rfl rfl (x_move rfl) ?_
  refine st rfl rfl rfl rfl (x_nil rfl) ?_
  refine st rfl rfl rfl rfl (x_fa rfl Tryd.underlying64 rfl Tryd.sizeOf60 0 rfl) ?_
  refine st rfl rfl rfl rfl (x_ld rfl Tryd.isAgg60 K.cS) ?_
  refine st rfl rfl rfl rfl (x_len rfl Tryd.underlying60) ?_
  refine st rfl rfl rfl rfl ((x_lss rfl rfl).b0 (by omega)) ?_
  refine st rfl rfl rfl rfl (x_pick1 rfl rfl) ?_
  refine st rfl rfl rfl rfl (x_asg rfl) ?_
  refine rl_end rfl ?_
  refine al_k ?_
  refine cl_ret rfl ?_
  refine fin1 rfl rfl ?_
  exact ⟨rfl, rfl⟩

theorem has_z (w : World) (k : AK) (x : Ar) (K : ArAt w k x) (n : Int) (h0 : ¬ 0 ≤ n) : Cl Tryd.prog 32 [.pointer (some ⟨k.ap, 0, none⟩), .int .i64 n] w (fun v w' => v = .bool false ∧ w' = w) := by
  refine enter Tryd.func32 rfl Tryd.ntmps32 rfl ?_
  refine cl_seq rfl ?_
  refine cl_reg rfl ?_
  refine st rfl rfl rfl rfl (x_asg rfl) ?_
  refine rl_end rfl ?_
  refine al_k ?_
  refine cl_seq rfl ?_
  refine cl_reg rfl ?_
  refine st rfl rfl rfl rfl (x_move rfl) ?_
  refine sc rfl rfl rfl rfl (c_fn rfl Tryd.call28 (is_a _ k x K)) ?_
  rintro _ wk ⟨rfl, hwk⟩
  obtain rfl := hwk.symm
  refine st rfl rfl rfl rfl (x_move rfl) ?_
  refine st rfl rfl rfl rfl (x_move rfl) ?_
  refine st rfl rfl rfl rfl ((x_geq rfl rfl).b0 (by omega)) ?_
  refine st rfl rfl rfl rfl (x_pick1 rfl rfl) ?_
  refine st rfl rfl rfl rfl (x_move rfl) ?_
  refine so rfl rfl rfl rfl ?_
  refine so rfl rfl rfl rfl ?_
  refine so rfl rfl rfl rfl ?_
  refine so rfl rfl rfl rfl ?_
  refine so rfl rfl rfl rfl ?_
  refine so rfl rfl rfl rfl ?_
  refine so rfl rfl rfl rfl ?_
  refine st rfl rfl rfl rfl (x_pick0 rfl rfl) ?_
  refine st rfl rfl rfl rfl (x_asg rfl) ?_
  refine rl_end rfl ?_
  refine al_k ?_
  refine cl_ret rfl ?_
  refine fin1 rfl rfl ?_
  exact ⟨rfl, rfl⟩

theorem has_a (w : World) (k : AK) (x : Ar) (K : ArAt w k x) (n : Int) : Cl Tryd.prog 32 [.pointer (some ⟨k.ap, 0, none⟩), .int .i64 n] w (fun v w' => v = .bool (decide (x.okP n)) ∧ w' = w) := by
  by_cases h0 : 0 ≤ n
  · by_cases h1 : n < (x.slots.length : Int)
    · rw [decide_eq_true (show x.okP n from ⟨h0, h1⟩)]; exact has_y w k x K n h0 h1
    · rw [decide_eq_false (show ¬ x.okP n from fun h => h1 h.2)]; exact has_n w k x K n h0 h1
  · rw [decide_eq_false (show ¬ x.okP n from fun h => h0 h.1)]; exact has_z w k x K n h0

theorem part_a (w : World) (k : AK) (x : Ar) (K : ArAt w k x) (n : Int) : Cl Tryd.prog 14 [.pointer (some ⟨k.ap, 0, none⟩), .int .i64 n] w (fun v w' => v = .tuple #[.int .i64 (x.part_ n).1, .bool (x.part_ n).2] ∧ w' = w) := by
  refine enter Tryd.func14 rfl Tryd.ntmps14 rfl ?_
  refine cl_seq rfl ?_
  refine cl_reg rfl ?_
  refine st rfl rfl rfl rfl (x_asg rfl) ?_
  refine st rfl rfl rfl rfl (x_asg rfl) ?_
  refine rl_end rfl ?_
  refine al_k ?_
  refine cl_seq rfl ?_
  refine cl_seq rfl ?_
  refine cl_reg rfl ?_
  refine st rfl rfl rfl rfl (x_move rfl) ?_
  refine st rfl rfl rfl rfl (x_move rfl) ?_
  refine sc rfl rfl rfl rfl (c_fn rfl Tryd.call32 (has_a _ k x K n)) ?_
  rintro _ wk ⟨rfl, hwk⟩
  obtain rfl := hwk.symm
  cases hf1_2 : (decide (x.okP n))
  · skip
    refine st rfl rfl rfl rfl (x_not0 rfl) ?_
    refine rl_end rfl ?_
    refine al_k ?_
    refine cl_if1 rfl rfl ?_
    refine cl_seq rfl ?_
    refine cl_reg rfl ?_
    refine st rfl rfl rfl rfl (x_asg rfl) ?_
    refine st rfl rfl rfl rfl (x_asg rfl) ?_
    refine rl_end rfl ?_
    refine al_k ?_
    refine cl_ret rfl ?_
    refine fin2 rfl rfl rfl ?_
    rw [show x.part_ n = (0, false) from if_neg (fun h => by rw [decide_eq_true h] at hf1_2; cases hf1_2)]
    exact ⟨rfl, rfl⟩
  · skip
    refine st rfl rfl rfl rfl (x_not1 rfl) ?_
    refine rl_end rfl ?_
    refine al_k ?_
    refine cl_if0 rfl rfl ?_
    refine cl_skip rfl ?_
    refine al_k ?_
    refine cl_seq rfl ?_
    have hok := of_decide_eq_true hf1_2
    obtain ⟨h0, h1⟩ := hok
    obtain ⟨s, hs⟩ : ∃ s, x.slots[n.toNat]? = some s := ⟨_, List.getElem?_eq_getElem (by omega)⟩
    refine cl_reg rfl ?_
    refine st rfl rfl rfl rfl (x_move rfl) ?_
    refine st rfl rfl rfl rfl (x_nil rfl) ?_
    refine st rfl rfl rfl rfl (x_fa rfl Tryd.underlying64 rfl Tryd.sizeOf60 0 rfl) ?_
    refine st rfl rfl rfl rfl (x_ld rfl Tryd.isAgg60 (K.cS1 (ne_of_at hs))) ?_
    refine st rfl rfl rfl rfl (x_move rfl) ?_
    refine st rfl rfl rfl rfl (x_ia0 rfl rfl Tryd.underlying60 Tryd.sizeOf68 (by omega)) ?_
    refine st rfl rfl rfl rfl (x_fa rfl Tryd.underlying68 rfl Tryd.sizeOf3 0 rfl) ?_
    refine st rfl rfl rfl rfl (x_ld rfl Tryd.isAgg3 (K.cSl hs rfl)) ?_
    refine st rfl rfl rfl rfl (x_asg rfl) ?_
    refine st rfl rfl rfl rfl (x_asg rfl) ?_
    refine rl_end rfl ?_
    refine al_k ?_
    refine cl_ret rfl ?_
    refine fin2 rfl rfl rfl ?_
    rw [show x.part_ n = (s.part, true) from by unfold Ar.part_; rw [if_pos (show x.okP n from ⟨h0, h1⟩), hs]]
    exact ⟨rfl, rfl⟩

def Ar.look (x : Ar) (n : Int) : Int × Int × Bool := if x.okP n then match x.slots[n.toNat]? with | some s => (s.pay, s.gen, s.held) | none => (0, 0, false) else (0, 0, false)

theorem look_a (w : World) (k : AK) (x : Ar) (K : ArAt w k x) (n : Int) : Cl Tryd.prog 18 [.pointer (some ⟨k.ap, 0, none⟩), .int .i64 n] w (fun v w' => v = .tuple #[.int .u64 (x.look n).1, .int .u64 (x.look n).2.1, .bool (x.look n).2.2] ∧ Fr [] w w') := by
  have F := Fr.refl [] w
  refine enter Tryd.func18 rfl Tryd.ntmps18 rfl ?_
  refine cl_seq rfl ?_
  refine cl_reg rfl ?_
  refine st rfl rfl rfl rfl (x_asg rfl) ?_
  refine st rfl rfl rfl rfl (x_asg rfl) ?_
  refine st rfl rfl rfl rfl (x_asg rfl) ?_
  refine rl_end rfl ?_
  refine al_k ?_
  refine cl_seq rfl ?_
  refine cl_seq rfl ?_
  refine cl_reg rfl ?_
  refine st rfl rfl rfl rfl (x_move rfl) ?_
  refine st rfl rfl rfl rfl (x_move rfl) ?_
  refine sc rfl rfl rfl rfl (c_fn rfl Tryd.call32 (has_a _ k x K n)) ?_
  rintro _ wk ⟨rfl, hwk⟩
  obtain rfl := hwk.symm
  cases hf1_2 : (decide (x.okP n))
  · skip
    refine st rfl rfl rfl rfl (x_not0 rfl) ?_
    refine rl_end rfl ?_
    refine al_k ?_
    refine cl_if1 rfl rfl ?_
    refine cl_seq rfl ?_
    refine cl_reg rfl ?_
    refine st rfl rfl rfl rfl (x_asg rfl) ?_
    refine st rfl rfl rfl rfl (x_asg rfl) ?_
    refine st rfl rfl rfl rfl (x_asg rfl) ?_
    refine rl_end rfl ?_
    refine al_k ?_
    refine cl_ret rfl ?_
    refine fin3 rfl rfl rfl rfl ?_
    rw [show x.look n = (0, 0, false) from if_neg (fun h => by rw [decide_eq_true h] at hf1_2; cases hf1_2)]
    exact ⟨rfl, F⟩
  · skip
    refine st rfl rfl rfl rfl (x_not1 rfl) ?_
    refine rl_end rfl ?_
    refine al_k ?_
    refine cl_if0 rfl rfl ?_
    refine cl_skip rfl ?_
    refine al_k ?_
    refine cl_seq rfl ?_
    have hok := of_decide_eq_true hf1_2
    obtain ⟨h0, h1⟩ := hok
    obtain ⟨s, hs⟩ : ∃ s, x.slots[n.toNat]? = some s := ⟨_, List.getElem?_eq_getElem (by omega)⟩
    refine cl_reg rfl ?_
    refine st rfl rfl rfl rfl (x_move rfl) ?_
    refine st rfl rfl rfl rfl (x_nil rfl) ?_
    refine st rfl rfl rfl rfl (x_fa rfl Tryd.underlying64 rfl Tryd.sizeOf60 0 rfl) ?_
    refine st rfl rfl rfl rfl (x_ld rfl Tryd.isAgg60 (K.cS1 (ne_of_at hs))) ?_
    refine st rfl rfl rfl rfl (x_move rfl) ?_
    refine st rfl rfl rfl rfl (x_ia0 rfl rfl Tryd.underlying60 Tryd.sizeOf68 (by omega)) ?_
    refine st rfl rfl rfl rfl (x_ldn rfl Tryd.isAgg68 Tryd.sizeOf68 rfl (K.cSe hs)) ?_
    refine se rfl rfl rfl rfl (e_new (x_alloc Tryd.zeroValue68 rfl)) ?_
    rintro _ w3_7 ⟨rfl, b3_7, fr3_7, sz3_7⟩
    replace F := F.trans fr3_7
    replace K := K.fr0 fr3_7
    refine sv rfl rfl rfl (v_n rfl rfl (oneS s) Tryd.sizeOf68 rfl b3_7 (by decide)) ?_
    rintro wc ⟨bC, frc⟩
    replace bC : Blk wc _ 68 (encS s) := bC
    replace F := F.trans_new frc (by intro q hq; simp at hq; subst hq; exact .inr (Nat.le_refl _))
    refine rl_end rfl ?_
    refine al_k ?_
    refine cl_seq rfl ?_
    refine cl_draw (by kernel_rfl) rfl [] (fun w' => w'.heap = wc.heap) ?_
    rintro wd4 frd4 hpd4
    refine ⟨hpd4, ?_⟩
    refine dt (i := 0) rfl rfl rfl rfl (by kernel_rfl) (fun _ => x_fa rfl Tryd.underlying68 rfl Tryd.sizeOf31 2 rfl) ?_
    refine dl (i := 1) rfl rfl rfl rfl (by kernel_rfl) (by kernel_rfl) (fun w' hU => x_ld rfl Tryd.isAgg31 (heq hU (bC.cell rfl))) ?_
    refine dt (i := 2) rfl rfl rfl rfl (by kernel_rfl) (fun _ => x_fa rfl Tryd.underlying68 rfl Tryd.sizeOf31 1 rfl) ?_
    refine dl (i := 3) rfl rfl rfl rfl (by kernel_rfl) (by kernel_rfl) (fun w' hU => x_ld rfl Tryd.isAgg31 (heq hU (bC.cell rfl))) ?_
    refine dt (i := 4) rfl rfl rfl rfl (by kernel_rfl) (fun _ => x_fa rfl Tryd.underlying68 rfl Tryd.sizeOf4 3 rfl) ?_
    refine dl (i := 5) rfl rfl rfl rfl (by kernel_rfl) (by kernel_rfl) (fun w' hU => x_ld rfl Tryd.isAgg4 (heq hU (bC.cell rfl))) ?_
    refine dt (i := 6) rfl rfl rfl rfl (by kernel_rfl) (fun _ => x_asg rfl) ?_
    refine dt (i := 7) rfl rfl rfl rfl (by kernel_rfl) (fun _ => x_asg rfl) ?_
    refine dt (i := 8) rfl rfl rfl rfl (by kernel_rfl) (fun _ => x_asg rfl) ?_
    replace F := F.trans frd4
    replace bC := bC.fr0 frd4
    refine dn (by kernel_rfl) ?_
    refine al_k ?_
    refine cl_ret rfl ?_
    refine fin3 rfl rfl rfl rfl ?_
    rw [show x.look n = (s.pay, s.gen, s.held) from by unfold Ar.look; rw [if_pos (show x.okP n from ⟨h0, h1⟩), hs]]
    exact ⟨rfl, F⟩

def Ar.counts (x : Ar) (p : Int) : Int × Int × Int := if 0 ≤ p ∧ p < x.parts then ((x.hs[p.toNat]?).getD 0, (Ls.rowAt x.free p).length, 0) else (0, 0, 5)

theorem counts_neg (w : World) (k : AK) (x : Ar) (K : ArAt w k x) (p : Int) (h0 : p < 0) : Cl Tryd.prog 21 [.pointer (some ⟨k.ap, 0, none⟩), .int .i64 p] w (fun v w' => v = .tuple #[.int .i64 0, .int .i64 0, .int .i64 5] ∧ Fr [] w w') := by
  have F := Fr.refl [] w
  have hpp := K.pp
  refine enter Tryd.func21 rfl Tryd.ntmps21 rfl ?_
  refine cl_seq rfl ?_
  refine cl_reg rfl ?_
  refine st rfl rfl rfl rfl (x_asg rfl) ?_
  refine st rfl rfl rfl rfl (x_asg rfl) ?_
  refine st rfl rfl rfl rfl (x_asg rfl) ?_
  refine rl_end rfl ?_
  refine al_k ?_
  refine cl_seq rfl ?_
  refine cl_block rfl ?_
  refine cl_seq rfl ?_
  refine cl_reg rfl ?_
  refine st rfl rfl rfl rfl (x_move rfl) ?_
  refine sc rfl rfl rfl rfl (c_fn rfl Tryd.call28 (is_a _ k x K)) ?_
  rintro _ wk ⟨rfl, hwk⟩
  obtain rfl := hwk.symm
  refine st rfl rfl rfl rfl (x_not1 rfl) ?_
  refine st rfl rfl rfl rfl (x_asg rfl) ?_
  refine rl_end rfl ?_
  refine al_k ?_
  refine cl_if0 rfl rfl ?_
  refine cl_seq rfl ?_
  refine cl_reg rfl ?_
  refine st rfl rfl rfl rfl (x_move rfl) ?_
  refine st rfl rfl rfl rfl ((x_lss rfl rfl).b1 (by omega)) ?_
  refine st rfl rfl rfl rfl (x_move rfl) ?_
  refine so rfl rfl rfl rfl ?_
  refine so rfl rfl rfl rfl ?_
  refine so rfl rfl rfl rfl ?_
  refine so rfl rfl rfl rfl ?_
  refine so rfl rfl rfl rfl ?_
  refine so rfl rfl rfl rfl ?_
  refine st rfl rfl rfl rfl (x_pick1 rfl rfl) ?_
  refine st rfl rfl rfl rfl (x_asg rfl) ?_
  refine rl_end rfl ?_
  refine al_k ?_
  refine cl_if1 rfl rfl ?_
  refine cl_seq rfl ?_
  refine cl_reg rfl ?_
  refine st rfl rfl rfl rfl (x_asg rfl) ?_
  refine st rfl rfl rfl rfl (x_asg rfl) ?_
  refine st rfl rfl rfl rfl (x_asg rfl) ?_
  refine rl_end rfl ?_
  refine al_k ?_
  refine cl_ret rfl ?_
  refine fin3 rfl rfl rfl rfl ?_
  exact ⟨rfl, F⟩

theorem counts_out (w : World) (k : AK) (x : Ar) (K : ArAt w k x) (p : Int) (h0 : 0 ≤ p) (h1 : (x.parts : Int) ≤ p) : Cl Tryd.prog 21 [.pointer (some ⟨k.ap, 0, none⟩), .int .i64 p] w (fun v w' => v = .tuple #[.int .i64 0, .int .i64 0, .int .i64 5] ∧ Fr [] w w') := by
  have F := Fr.refl [] w
  have hpp := K.pp
  refine enter Tryd.func21 rfl Tryd.ntmps21 rfl ?_
  refine cl_seq rfl ?_
  refine cl_reg rfl ?_
  refine st rfl rfl rfl rfl (x_asg rfl) ?_
  refine st rfl rfl rfl rfl (x_asg rfl) ?_
  refine st rfl rfl rfl rfl (x_asg rfl) ?_
  refine rl_end rfl ?_
  refine al_k ?_
  refine cl_seq rfl ?_
  refine cl_block rfl ?_
  refine cl_seq rfl ?_
  refine cl_reg rfl ?_
  refine st rfl rfl rfl rfl (x_move rfl) ?_
  refine sc rfl rfl rfl rfl (c_fn rfl Tryd.call28 (is_a _ k x K)) ?_
  rintro _ wk ⟨rfl, hwk⟩
  obtain rfl := hwk.symm
  refine st rfl rfl rfl rfl (x_not1 rfl) ?_
  refine st rfl rfl rfl rfl (x_asg rfl) ?_
  refine rl_end rfl ?_
  refine al_k ?_
  refine cl_if0 rfl rfl ?_
  refine cl_seq rfl ?_
  refine cl_reg rfl ?_
  refine st rfl rfl rfl rfl (x_move rfl) ?_
  refine st rfl rfl rfl rfl ((x_lss rfl rfl).b0 (by omega)) ?_
  refine st rfl rfl rfl rfl (x_move rfl) ?_
  refine st rfl rfl rfl rfl (x_move rfl) ?_
  refine st rfl rfl rfl rfl (x_move rfl) ?_
  refine st rfl rfl rfl rfl (x_nil rfl) ?_
  refine st rfl rfl rfl rfl (x_fa rfl Tryd.underlying64 rfl Tryd.sizeOf3 18 rfl) ?_
  refine st rfl rfl rfl rfl (x_ld rfl Tryd.isAgg3 K.cN) ?_
  refine st rfl rfl rfl rfl ((x_geq rfl rfl).b1 (by omega)) ?_
  refine st rfl rfl rfl rfl (x_pick0 rfl rfl) ?_
  refine st rfl rfl rfl rfl (x_asg rfl) ?_
  refine rl_end rfl ?_
  refine al_k ?_
  refine cl_if1 rfl rfl ?_
  refine cl_seq rfl ?_
  refine cl_reg rfl ?_
  refine st rfl rfl rfl rfl (x_asg rfl) ?_
  refine st rfl rfl rfl rfl (x_asg rfl) ?_
  refine st rfl rfl rfl rfl (x_asg rfl) ?_
  refine rl_end rfl ?_
  refine al_k ?_
  refine cl_ret rfl ?_
  refine fin3 rfl rfl rfl rfl ?_
  exact ⟨rfl, F⟩

theorem counts_ok (w : World) (k : AK) (x : Ar) (K : ArAt w k x) (p : Int) (h0 : 0 ≤ p) (h1 : p < x.parts) (h : Int) (hh : x.hs[p.toNat]? = some h) : Cl Tryd.prog 21 [.pointer (some ⟨k.ap, 0, none⟩), .int .i64 p] w (fun v w' => v = .tuple #[.int .i64 h, .int .i64 ((Ls.rowAt x.free p).length : Nat), .int .i64 0] ∧ Fr [] w w') := by
  have F := Fr.refl [] w
  have hpp := K.pp
  refine enter Tryd.func21 rfl Tryd.ntmps21 rfl ?_
  refine cl_seq rfl ?_
  refine cl_reg rfl ?_
  refine st rfl rfl rfl rfl (x_asg rfl) ?_
  refine st rfl rfl rfl rfl (x_asg rfl) ?_
  refine st rfl rfl rfl rfl (x_asg rfl) ?_
  refine rl_end rfl ?_
  refine al_k ?_
  refine cl_seq rfl ?_
  refine cl_block rfl ?_
  refine cl_seq rfl ?_
  refine cl_reg rfl ?_
  refine st rfl rfl rfl rfl (x_move rfl) ?_
  refine sc rfl rfl rfl rfl (c_fn rfl Tryd.call28 (is_a _ k x K)) ?_
  rintro _ wk ⟨rfl, hwk⟩
  obtain rfl := hwk.symm
  refine st rfl rfl rfl rfl (x_not1 rfl) ?_
  refine st rfl rfl rfl rfl (x_asg rfl) ?_
  refine rl_end rfl ?_
  refine al_k ?_
  refine cl_if0 rfl rfl ?_
  refine cl_seq rfl ?_
  refine cl_reg rfl ?_
  refine st rfl rfl rfl rfl (x_move rfl) ?_
  refine st rfl rfl rfl rfl ((x_lss rfl rfl).b0 (by omega)) ?_
  refine st rfl rfl rfl rfl (x_move rfl) ?_
  refine st rfl rfl rfl rfl (x_move rfl) ?_
  refine st rfl rfl rfl rfl (x_move rfl) ?_
  refine st rfl rfl rfl rfl (x_nil rfl) ?_
  refine st rfl rfl rfl rfl (x_fa rfl Tryd.underlying64 rfl Tryd.sizeOf3 18 rfl) ?_
  refine st rfl rfl rfl rfl (x_ld rfl Tryd.isAgg3 K.cN) ?_
  refine st rfl rfl rfl rfl ((x_geq rfl rfl).b0 (by omega)) ?_
  refine st rfl rfl rfl rfl (x_pick0 rfl rfl) ?_
  refine st rfl rfl rfl rfl (x_asg rfl) ?_
  refine rl_end rfl ?_
  refine al_k ?_
  refine cl_if0 rfl rfl ?_
  refine cl_skip rfl ?_
  refine al_k ?_
  refine cl_seq rfl ?_
  refine cl_draw (by kernel_rfl) rfl [] (fun w' => ArAt w' k x) ?_
  rintro wd5 fr hpd
  replace F := F.trans fr
  replace K := K.fr0 fr
  refine ⟨K, ?_⟩
  refine dt (i := 0) rfl rfl rfl rfl (by kernel_rfl) (fun _ => x_move rfl) ?_
  refine dt (i := 1) rfl rfl rfl rfl (by kernel_rfl) (fun _ => x_move rfl) ?_
  refine dt (i := 2) rfl rfl rfl rfl (by kernel_rfl) (fun _ => x_nil rfl) ?_
  refine dt (i := 3) rfl rfl rfl rfl (by kernel_rfl) (fun _ => x_fa rfl Tryd.underlying64 rfl Tryd.sizeOf62 2 rfl) ?_
  refine dt (i := 4) rfl rfl rfl rfl (by kernel_rfl) (fun _ => x_iaa rfl rfl Tryd.underlying62 Tryd.sizeOf3 (by omega)) ?_
  refine dl (i := 5) rfl rfl rfl rfl (by kernel_rfl) (by kernel_rfl) (fun w' hU => x_ld rfl Tryd.isAgg3 (by simpa using hU.cH hh)) ?_
  refine dt (i := 6) rfl rfl rfl rfl (by kernel_rfl) (fun _ => x_move rfl) ?_
  refine dt (i := 7) rfl rfl rfl rfl (by kernel_rfl) (fun _ => x_nil rfl) ?_
  refine dt (i := 8) rfl rfl rfl rfl (by kernel_rfl) (fun _ => x_fa rfl Tryd.underlying64 rfl Tryd.sizeOf61 1 rfl) ?_
  refine dl (i := 9) rfl rfl rfl rfl (by kernel_rfl) (by kernel_rfl) (fun w' hU => x_ld rfl Tryd.isAgg61 hU.cP) ?_
  refine dt (i := 10) rfl rfl rfl rfl (by kernel_rfl) (fun _ => x_move rfl) ?_
  refine d1 (i := 11) (by kernel_rfl) ?_
  refine oc rfl rfl rfl rfl (c_fn rfl Tryd.call37 ((len_r K.Q p).mono (R' := fun v w' => v = .int .i64 ((Ls.rowAt x.free p).length : Nat) ∧ Fr [] _ w') (fun v w' h => ⟨h.1.trans (congrArg _ (by unfold aLen; rw [if_pos (show okL x.free p from ⟨h0, by rw [K.Q.len]; exact h1⟩)])), h.2.2⟩))) ?_
  rintro _ w5 ⟨rfl, fr⟩
  replace F := F.trans fr
  replace K := K.fr0 fr
  refine ⟨.inr K, ?_⟩
  refine dt (i := 12) rfl rfl rfl rfl (by kernel_rfl) (fun _ => x_asg rfl) ?_
  refine dt (i := 13) rfl rfl rfl rfl (by kernel_rfl) (fun _ => x_asg rfl) ?_
  refine dt (i := 14) rfl rfl rfl rfl (by kernel_rfl) (fun _ => x_asg rfl) ?_
  refine dn (by kernel_rfl) ?_
  refine al_k ?_
  refine cl_ret rfl ?_
  refine fin3 rfl rfl rfl rfl ?_
  exact ⟨rfl, F⟩

theorem ArAt.hsAt {w : World} {k : AK} {x : Ar} (K : ArAt w k x) {p : Int} (h0 : 0 ≤ p) (h1 : p < x.parts) : ∃ h, x.hs[p.toNat]? = some h := by
  have h2 := K.pp
  have h3 := K.hl
  exact ⟨_, List.getElem?_eq_getElem (by omega)⟩
theorem counts_a (w : World) (k : AK) (x : Ar) (K : ArAt w k x) (p : Int) : Cl Tryd.prog 21 [.pointer (some ⟨k.ap, 0, none⟩), .int .i64 p] w (fun v w' => v = .tuple #[.int .i64 (x.counts p).1, .int .i64 (x.counts p).2.1, .int .i64 (x.counts p).2.2] ∧ Fr [] w w') := by
  unfold Ar.counts
  by_cases h0 : 0 ≤ p
  · by_cases h1 : p < x.parts
    · rw [if_pos ⟨h0, h1⟩]
      obtain ⟨h, hh⟩ := K.hsAt h0 h1
      rw [hh]
      exact counts_ok w k x K p h0 h1 h hh
    · rw [if_neg (fun h => h1 h.2)]
      exact counts_out w k x K p h0 (by omega)
  · rw [if_neg (fun h => h0 h.1)]
    exact counts_neg w k x K p (by omega)

end Go.Proofs.YtjjaijabdfoanaaDoor.Arn
