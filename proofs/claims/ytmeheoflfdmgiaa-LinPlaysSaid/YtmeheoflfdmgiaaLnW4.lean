/- Deeds: the walks of rows, of what is right, and of the reference's search. -/
import Derived.Test.YtmeheoflfdmgiaaLnW3
import Derived.Test.YtmeheoflfdmgiaaLnC
set_option linter.unusedVariables false
namespace Go.Proofs.Ytmeheoflfdmgiaa.Lin
open Go Go.RowKit Go.Proofs.Ytmeheoflfdmgiaa.Sx Go.Proofs.Ytmeheoflfdmgiaa
set_option maxRecDepth 100000

theorem egD (op : BinOp) (x y : Operand) (u v : D) (w : World) : (eqGuard op 40 x y (.agg (encD u).toArray) (.agg (encD v).toArray)).run Try.prog w = .ok () w := by
  unfold encD
  cases op <;> go_simp
theorem neD (u v : D) (w : World) : (binOp .neq 40 (.agg (encD u).toArray) (.agg (encD v).toArray)).run Try.prog w = .ok (.bool (decide (¬ u = v))) w := by
  obtain ⟨a, b, c, d, e, f⟩ := u
  obtain ⟨a', b', c', d', e', f'⟩ := v
  unfold encD
  go_simp
  (repeat' split) <;> simp_all
theorem bldS (p f t : Int) (w : World) : (Instr.build 40 [(0, .int .i64 1), (2, .int .u64 p), (3, .int .i64 f), (4, .int .i64 t)].toArray).run Try.prog w = .ok (.agg (encD ⟨1, 0, p, f, t, false⟩).toArray) w := by kernel_rfl
theorem bslI (z : Int) (w : World) : (Instr.buildSlice 24 1 [(0, .int .i64 z)].toArray).run Try.prog w = .ok (.slice (some ⟨w.heap.size, 0, none⟩) 1 1) (w.alloc (.cells (encI z).toArray 3)) := bsl1 Try.underlying24 Try.sizeOf3 Try.zeroValue3 rfl rfl

theorem same_c (w : World) (A : Option Addr) (c : Nat) (a : List Int) (HA : RowG encI 1 w A a) (A2 : Option Addr) (c2 : Nat) (b : List Int) (HB : RowG encI 1 w A2 b) (ha : a.length ≤ 100000) : Cl Try.prog 11 [.slice A a.length c, .slice A2 b.length c2] w (fun v w' => v = .bool (decide (a = b)) ∧ Fr [] w w') := by
  have F := Fr.refl [] w
  refine enter Try.func11 rfl Try.ntmps11 rfl ?_
  refine cl_seq rfl ?_
  refine cl_reg rfl ?_
  refine st rfl rfl rfl rfl (x_asg rfl) ?_
  refine rl_end rfl ?_
  refine al_k ?_
  refine cl_seq rfl ?_
  refine cl_seq rfl ?_
  refine cl_reg rfl ?_
  refine st rfl rfl rfl rfl (x_move rfl) ?_
  refine st rfl rfl rfl rfl (x_len rfl Try.underlying24) ?_
  refine st rfl rfl rfl rfl (x_move rfl) ?_
  refine st rfl rfl rfl rfl (x_len rfl Try.underlying24) ?_
  refine sf rfl rfl rfl rfl (x_neq rfl rfl) (fun c1_4 => ?_) (fun c1_4 => ?_)
  · skip
    refine rl_end rfl ?_
    refine al_k ?_
    refine cl_if1 rfl rfl ?_
    refine cl_seq rfl ?_
    refine cl_reg rfl ?_
    refine st rfl rfl rfl rfl (x_asg rfl) ?_
    refine rl_end rfl ?_
    refine al_k ?_
    refine cl_ret rfl ?_
    refine fin1 rfl rfl ?_
    rw [decide_eq_false (fun h : a = b => by subst h; exact c1_4 rfl)]
    exact ⟨rfl, F⟩
  · skip
    refine rl_end rfl ?_
    refine al_k ?_
    refine cl_if0 rfl rfl ?_
    refine cl_skip rfl ?_
    refine al_k ?_
    refine cl_seq rfl ?_
    refine cl_seq rfl ?_
    refine cl_reg rfl ?_
    refine st rfl rfl rfl rfl (x_asg rfl) ?_
    refine rl_end rfl ?_
    refine al_k ?_
    refine cl_block rfl ?_
    refine cl_loop (fun i : Nat => [(5, .int .i64 i), (0, .slice A a.length c), (1, .slice A2 b.length c2)]) (fun i w' => (i ≤ a.length ∧ i ≤ b.length ∧ a.take i = b.take i) ∧ Fr [] w w') (fun i => a.length - i) 0 rfl ⟨rfl, rfl, rfl, trivial⟩ ?_ ?_
    · exact ⟨⟨Nat.zero_le _, Nat.zero_le _, by simp⟩, F⟩
    · skip
      rintro i wr ⟨⟨hi, hib, hab⟩, F⟩
      refine cl_seq rfl ?_
      refine cl_seq rfl ?_
      refine cl_reg rfl ?_
      refine st rfl rfl rfl rfl (x_move rfl) ?_
      refine st rfl rfl rfl rfl (x_move rfl) ?_
      refine st rfl rfl rfl rfl (x_len rfl Try.underlying24) ?_
      refine sf rfl rfl rfl rfl (x_lss rfl rfl) (fun c4_3 => ?_) (fun c4_3 => ?_)
      · skip
        refine rl_end rfl ?_
        refine al_k ?_
        refine cl_if1 rfl rfl ?_
        refine cl_skip rfl ?_
        refine al_k ?_
        refine cl_seq rfl ?_
        refine cl_block rfl ?_
        refine cl_seq rfl ?_
        obtain ⟨x, hx⟩ : ∃ x, a[i]? = some x := ⟨_, List.getElem?_eq_getElem (by omega)⟩
        obtain ⟨y, hy⟩ : ∃ y, b[i]? = some y := ⟨_, List.getElem?_eq_getElem (by omega)⟩
        obtain ⟨a1, rfl, hcx⟩ := RowI.at_ HA hx
        obtain ⟨a2, rfl, hcy⟩ := RowI.at_ HB hy
        refine cl_draw (by kernel_rfl) rfl [] (fun w' => w'.heap = wr.heap) ?_
        rintro wd6 frd6 hpd6
        refine ⟨hpd6, ?_⟩
        refine dt (i := 0) rfl rfl rfl rfl (by kernel_rfl) (fun _ => x_move rfl) ?_
        refine dt (i := 1) rfl rfl rfl rfl (by kernel_rfl) (fun _ => x_move rfl) ?_
        refine dt (i := 2) rfl rfl rfl rfl (by kernel_rfl) (fun _ => x_iag rfl rfl Try.underlying24 Try.sizeOf3 (by omega)) ?_
        refine dlt (i := 3) rfl rfl rfl rfl (by kernel_rfl) (by kernel_rfl) (fun w' hU => x_ld rfl Try.isAgg3 (heq hU (F.cell hcx (by simp)))) ?_
        refine dt (i := 4) rfl rfl rfl rfl (by kernel_rfl) (fun _ => x_move rfl) ?_
        refine dt (i := 5) rfl rfl rfl rfl (by kernel_rfl) (fun _ => x_move rfl) ?_
        refine dt (i := 6) rfl rfl rfl rfl (by kernel_rfl) (fun _ => x_iag rfl rfl Try.underlying24 Try.sizeOf3 (by omega)) ?_
        refine dlt (i := 7) rfl rfl rfl rfl (by kernel_rfl) (by kernel_rfl) (fun w' hU => x_ld rfl Try.isAgg3 (heq hU (F.cell hcy (by simp)))) ?_
        refine dfk (i := 8) rfl rfl rfl rfl (by kernel_rfl) (fun _ => x_neq rfl rfl) (fun c6_8 => ?_) (fun c6_8 => ?_)
        · skip
          replace F := F.trans frd6
          refine dn (by kernel_rfl) ?_
          refine al_k ?_
          refine cl_if1 rfl rfl ?_
          refine cl_seq rfl ?_
          refine cl_reg rfl ?_
          refine st rfl rfl rfl rfl (x_asg rfl) ?_
          refine rl_end rfl ?_
          refine al_k ?_
          refine cl_ret rfl ?_
          refine fin1 rfl rfl ?_
          rw [decide_eq_false (fun h : a = b => by subst h; rw [hx] at hy; exact c6_8 (Option.some.inj hy))]
          exact ⟨rfl, F⟩
        · skip
          replace F := F.trans frd6
          refine dn (by kernel_rfl) ?_
          refine al_k ?_
          refine cl_if0 rfl rfl ?_
          refine cl_skip rfl ?_
          refine al_k ?_
          refine cl_reg rfl ?_
          refine st rfl rfl rfl rfl (x_move rfl) ?_
          refine st rfl rfl rfl rfl (x_add rfl rfl (by omega)) ?_
          refine st rfl rfl rfl rfl (x_asg rfl) ?_
          refine rl_end rfl ?_
          refine again (i + 1) (by omega) ⟨rfl, rfl, rfl, trivial⟩ ⟨⟨by omega, by omega, ?_⟩, F⟩
          rw [take_snoc hx, take_snoc hy, hab, Decidable.not_not.1 c6_8]
      · skip
        refine rl_end rfl ?_
        refine al_k ?_
        refine cl_if0 rfl rfl ?_
        refine cl_exit rfl ?_
        refine upd_self ?_
        refine al_k ?_
        refine cl_seq rfl ?_
        refine cl_reg rfl ?_
        refine st rfl rfl rfl rfl (x_asg rfl) ?_
        refine rl_end rfl ?_
        refine al_k ?_
        refine cl_ret rfl ?_
        refine fin1 rfl rfl ?_
        have e : i = a.length := by omega
        have e2 : i = b.length := by omega
        rw [e, List.take_length, ← e, e2, List.take_length] at hab
        rw [decide_eq_true hab]
        exact ⟨rfl, F⟩

theorem samedeeds_c (w : World) (A : Option Addr) (c : Nat) (a : List D) (HA : RowG encD 6 w A a) (A2 : Option Addr) (c2 : Nat) (b : List D) (HB : RowG encD 6 w A2 b) (ha : a.length ≤ 100000) : Cl Try.prog 22 [.slice A a.length c, .slice A2 b.length c2] w (fun v w' => v = .bool (decide (a = b)) ∧ Fr [] w w') := by
  have F := Fr.refl [] w
  refine enter Try.func22 rfl Try.ntmps22 rfl ?_
  refine cl_seq rfl ?_
  refine cl_reg rfl ?_
  refine st rfl rfl rfl rfl (x_asg rfl) ?_
  refine rl_end rfl ?_
  refine al_k ?_
  refine cl_seq rfl ?_
  refine cl_seq rfl ?_
  refine cl_reg rfl ?_
  refine st rfl rfl rfl rfl (x_move rfl) ?_
  refine st rfl rfl rfl rfl (x_len rfl Try.underlying22) ?_
  refine st rfl rfl rfl rfl (x_move rfl) ?_
  refine st rfl rfl rfl rfl (x_len rfl Try.underlying22) ?_
  refine sf rfl rfl rfl rfl (x_neq rfl rfl) (fun c1_4 => ?_) (fun c1_4 => ?_)
  · skip
    refine rl_end rfl ?_
    refine al_k ?_
    refine cl_if1 rfl rfl ?_
    refine cl_seq rfl ?_
    refine cl_reg rfl ?_
    refine st rfl rfl rfl rfl (x_asg rfl) ?_
    refine rl_end rfl ?_
    refine al_k ?_
    refine cl_ret rfl ?_
    refine fin1 rfl rfl ?_
    rw [decide_eq_false (fun h : a = b => by subst h; exact c1_4 rfl)]
    exact ⟨rfl, F⟩
  · skip
    refine rl_end rfl ?_
    refine al_k ?_
    refine cl_if0 rfl rfl ?_
    refine cl_skip rfl ?_
    refine al_k ?_
    refine cl_seq rfl ?_
    refine cl_seq rfl ?_
    refine cl_reg rfl ?_
    refine st rfl rfl rfl rfl (x_asg rfl) ?_
    refine rl_end rfl ?_
    refine al_k ?_
    refine cl_block rfl ?_
    refine cl_loop (fun i : Nat => [(5, .int .i64 i), (0, .slice A a.length c), (1, .slice A2 b.length c2)]) (fun i w' => (i ≤ a.length ∧ i ≤ b.length ∧ a.take i = b.take i) ∧ Fr [] w w') (fun i => a.length - i) 0 rfl ⟨rfl, rfl, rfl, trivial⟩ ?_ ?_
    · exact ⟨⟨Nat.zero_le _, Nat.zero_le _, by simp⟩, F⟩
    · skip
      rintro i wr ⟨⟨hi, hib, hab⟩, F⟩
      refine cl_seq rfl ?_
      refine cl_seq rfl ?_
      refine cl_reg rfl ?_
      refine st rfl rfl rfl rfl (x_move rfl) ?_
      refine st rfl rfl rfl rfl (x_move rfl) ?_
      refine st rfl rfl rfl rfl (x_len rfl Try.underlying22) ?_
      refine sf rfl rfl rfl rfl (x_lss rfl rfl) (fun c4_3 => ?_) (fun c4_3 => ?_)
      · skip
        refine rl_end rfl ?_
        refine al_k ?_
        refine cl_if1 rfl rfl ?_
        refine cl_skip rfl ?_
        refine al_k ?_
        refine cl_seq rfl ?_
        refine cl_block rfl ?_
        refine cl_seq rfl ?_
        obtain ⟨x, hx⟩ : ∃ x, a[i]? = some x := ⟨_, List.getElem?_eq_getElem (by omega)⟩
        obtain ⟨y, hy⟩ : ∃ y, b[i]? = some y := ⟨_, List.getElem?_eq_getElem (by omega)⟩
        obtain ⟨a1, rfl, hcx⟩ := HA i x hx
        obtain ⟨a2, rfl, hcy⟩ := HB i y hy
        refine cl_draw (by kernel_rfl) rfl [] (fun w' => w'.heap = wr.heap) ?_
        rintro wd6 frd6 hpd6
        refine ⟨hpd6, ?_⟩
        refine dt (i := 0) rfl rfl rfl rfl (by kernel_rfl) (fun _ => x_move rfl) ?_
        refine dt (i := 1) rfl rfl rfl rfl (by kernel_rfl) (fun _ => x_move rfl) ?_
        refine dt (i := 2) rfl rfl rfl rfl (by kernel_rfl) (fun _ => x_iag rfl rfl Try.underlying22 Try.sizeOf40 (by omega)) ?_
        refine dlt (i := 3) rfl rfl rfl rfl (by kernel_rfl) (by kernel_rfl) (fun w' hU => x_ldg (cs := encD x) rfl Try.isAgg40 Try.sizeOf40 rfl (fun j v h => heq hU (F.cell (hcx j v h) (by simp)))) ?_
        refine dt (i := 4) rfl rfl rfl rfl (by kernel_rfl) (fun _ => x_move rfl) ?_
        refine dt (i := 5) rfl rfl rfl rfl (by kernel_rfl) (fun _ => x_move rfl) ?_
        refine dt (i := 6) rfl rfl rfl rfl (by kernel_rfl) (fun _ => x_iag rfl rfl Try.underlying22 Try.sizeOf40 (by omega)) ?_
        refine dlt (i := 7) rfl rfl rfl rfl (by kernel_rfl) (by kernel_rfl) (fun w' hU => x_ldg (cs := encD y) rfl Try.isAgg40 Try.sizeOf40 rfl (fun j v h => heq hU (F.cell (hcy j v h) (by simp)))) ?_
        refine dfk (i := 8) rfl rfl rfl rfl (by kernel_rfl) (fun _ => x_eqs rfl rfl (egD _ _ _ _ _ _) (neD _ _ _)) (fun c6_8 => ?_) (fun c6_8 => ?_)
        · skip
          replace F := F.trans frd6
          refine dn (by kernel_rfl) ?_
          refine al_k ?_
          refine cl_if1 rfl rfl ?_
          refine cl_seq rfl ?_
          refine cl_reg rfl ?_
          refine st rfl rfl rfl rfl (x_asg rfl) ?_
          refine rl_end rfl ?_
          refine al_k ?_
          refine cl_ret rfl ?_
          refine fin1 rfl rfl ?_
          rw [decide_eq_false (fun h : a = b => by subst h; rw [hx] at hy; exact c6_8 (Option.some.inj hy))]
          exact ⟨rfl, F⟩
        · skip
          replace F := F.trans frd6
          refine dn (by kernel_rfl) ?_
          refine al_k ?_
          refine cl_if0 rfl rfl ?_
          refine cl_skip rfl ?_
          refine al_k ?_
          refine cl_reg rfl ?_
          refine st rfl rfl rfl rfl (x_move rfl) ?_
          refine st rfl rfl rfl rfl (x_add rfl rfl (by omega)) ?_
          refine st rfl rfl rfl rfl (x_asg rfl) ?_
          refine rl_end rfl ?_
          refine again (i + 1) (by omega) ⟨rfl, rfl, rfl, trivial⟩ ⟨⟨by omega, by omega, ?_⟩, F⟩
          rw [take_snoc hx, take_snoc hy, hab, Decidable.not_not.1 c6_8]
      · skip
        refine rl_end rfl ?_
        refine al_k ?_
        refine cl_if0 rfl rfl ?_
        refine cl_exit rfl ?_
        refine upd_self ?_
        refine al_k ?_
        refine cl_seq rfl ?_
        refine cl_reg rfl ?_
        refine st rfl rfl rfl rfl (x_asg rfl) ?_
        refine rl_end rfl ?_
        refine al_k ?_
        refine cl_ret rfl ?_
        refine fin1 rfl rfl ?_
        have e : i = a.length := by omega
        have e2 : i = b.length := by omega
        rw [e, List.take_length, ← e, e2, List.take_length] at hab
        rw [decide_eq_true hab]
        exact ⟨rfl, F⟩

theorem less_c (w : World) (A : Option Addr) (c : Nat) (a : List Int) (HA : RowG encI 1 w A a) (A2 : Option Addr) (c2 : Nat) (b : List Int) (HB : RowG encI 1 w A2 b) (ha : a.length ≤ 100000) (hb : b.length ≤ 100000) : Cl Try.prog 15 [.slice A a.length c, .slice A2 b.length c2] w (fun v w' => v = .bool (lessB a b) ∧ Fr [] w w') := by
  have F := Fr.refl [] w
  refine enter Try.func15 rfl Try.ntmps15 rfl ?_
  refine cl_seq rfl ?_
  refine cl_reg rfl ?_
  refine st rfl rfl rfl rfl (x_asg rfl) ?_
  refine rl_end rfl ?_
  refine al_k ?_
  refine cl_seq rfl ?_
  refine cl_seq rfl ?_
  refine cl_reg rfl ?_
  refine st rfl rfl rfl rfl (x_asg rfl) ?_
  refine rl_end rfl ?_
  refine al_k ?_
  refine cl_block rfl ?_
  refine cl_loop (fun i : Nat => [(5, .int .i64 i), (0, .slice A a.length c), (1, .slice A2 b.length c2)]) (fun i w' => (i ≤ a.length ∧ i ≤ b.length ∧ a.take i = b.take i) ∧ Fr [] w w') (fun i => a.length - i) 0 rfl ⟨rfl, rfl, rfl, trivial⟩ ?_ ?_
  · exact ⟨⟨Nat.zero_le _, Nat.zero_le _, by simp⟩, F⟩
  · skip
    rintro i wr ⟨⟨hi, hib, hab⟩, F⟩
    refine cl_seq rfl ?_
    refine cl_seq rfl ?_
    refine cl_reg rfl ?_
    refine st rfl rfl rfl rfl (x_move rfl) ?_
    refine st rfl rfl rfl rfl (x_move rfl) ?_
    refine st rfl rfl rfl rfl (x_len rfl Try.underlying24) ?_
    refine sf rfl rfl rfl rfl (x_lss rfl rfl) (fun c2_3 => ?_) (fun c2_3 => ?_)
    · skip
      refine st rfl rfl rfl rfl (x_move rfl) ?_
      refine st rfl rfl rfl rfl (x_move rfl) ?_
      refine st rfl rfl rfl rfl (x_move rfl) ?_
      refine st rfl rfl rfl rfl (x_len rfl Try.underlying24) ?_
      refine sf rfl rfl rfl rfl (x_lss rfl rfl) (fun c2_8 => ?_) (fun c2_8 => ?_)
      · skip
        refine st rfl rfl rfl rfl (x_pick1 rfl rfl) ?_
        refine rl_end rfl ?_
        refine al_k ?_
        refine cl_if1 rfl rfl ?_
        refine cl_skip rfl ?_
        refine al_k ?_
        refine cl_seq rfl ?_
        refine cl_block rfl ?_
        refine cl_seq rfl ?_
        obtain ⟨x, hx⟩ : ∃ x, a[i]? = some x := ⟨_, List.getElem?_eq_getElem (by omega)⟩
        obtain ⟨y, hy⟩ : ∃ y, b[i]? = some y := ⟨_, List.getElem?_eq_getElem (by omega)⟩
        obtain ⟨a1, rfl, hcx⟩ := RowI.at_ HA hx
        obtain ⟨a2, rfl, hcy⟩ := RowI.at_ HB hy
        refine cl_draw (by kernel_rfl) rfl [] (fun w' => w'.heap = wr.heap) ?_
        rintro wd4 frd4 hpd4
        refine ⟨hpd4, ?_⟩
        refine dt (i := 0) rfl rfl rfl rfl (by kernel_rfl) (fun _ => x_move rfl) ?_
        refine dt (i := 1) rfl rfl rfl rfl (by kernel_rfl) (fun _ => x_move rfl) ?_
        refine dt (i := 2) rfl rfl rfl rfl (by kernel_rfl) (fun _ => x_iag rfl rfl Try.underlying24 Try.sizeOf3 (by omega)) ?_
        refine dlt (i := 3) rfl rfl rfl rfl (by kernel_rfl) (by kernel_rfl) (fun w' hU => x_ld rfl Try.isAgg3 (heq hU (F.cell hcx (by simp)))) ?_
        refine dt (i := 4) rfl rfl rfl rfl (by kernel_rfl) (fun _ => x_move rfl) ?_
        refine dt (i := 5) rfl rfl rfl rfl (by kernel_rfl) (fun _ => x_move rfl) ?_
        refine dt (i := 6) rfl rfl rfl rfl (by kernel_rfl) (fun _ => x_iag rfl rfl Try.underlying24 Try.sizeOf3 (by omega)) ?_
        refine dlt (i := 7) rfl rfl rfl rfl (by kernel_rfl) (by kernel_rfl) (fun w' hU => x_ld rfl Try.isAgg3 (heq hU (F.cell hcy (by simp)))) ?_
        refine dfk (i := 8) rfl rfl rfl rfl (by kernel_rfl) (fun _ => x_neq rfl rfl) (fun c4_8 => ?_) (fun c4_8 => ?_)
        · skip
          replace F := F.trans frd4
          refine dn (by kernel_rfl) ?_
          refine al_k ?_
          refine cl_if1 rfl rfl ?_
          refine cl_seq rfl ?_
          refine cl_draw (by kernel_rfl) rfl [] (fun w' => w'.heap = wd4.heap) ?_
          rintro wd5 frd5 hpd5
          refine ⟨hpd5, ?_⟩
          refine dt (i := 0) rfl rfl rfl rfl (by kernel_rfl) (fun _ => x_move rfl) ?_
          refine dt (i := 1) rfl rfl rfl rfl (by kernel_rfl) (fun _ => x_move rfl) ?_
          refine dt (i := 2) rfl rfl rfl rfl (by kernel_rfl) (fun _ => x_iag rfl rfl Try.underlying24 Try.sizeOf3 (by omega)) ?_
          refine dlt (i := 3) rfl rfl rfl rfl (by kernel_rfl) (by kernel_rfl) (fun w' hU => x_ld rfl Try.isAgg3 (heq hU (F.cell hcx (by simp)))) ?_
          refine dt (i := 4) rfl rfl rfl rfl (by kernel_rfl) (fun _ => x_move rfl) ?_
          refine dt (i := 5) rfl rfl rfl rfl (by kernel_rfl) (fun _ => x_move rfl) ?_
          refine dt (i := 6) rfl rfl rfl rfl (by kernel_rfl) (fun _ => x_iag rfl rfl Try.underlying24 Try.sizeOf3 (by omega)) ?_
          refine dlt (i := 7) rfl rfl rfl rfl (by kernel_rfl) (by kernel_rfl) (fun w' hU => x_ld rfl Try.isAgg3 (heq hU (F.cell hcy (by simp)))) ?_
          refine dt (i := 8) rfl rfl rfl rfl (by kernel_rfl) (fun _ => x_lss rfl rfl) ?_
          refine dt (i := 9) rfl rfl rfl rfl (by kernel_rfl) (fun _ => x_asg rfl) ?_
          replace F := F.trans frd5
          refine dn (by kernel_rfl) ?_
          refine al_k ?_
          refine cl_ret rfl ?_
          refine fin1 rfl rfl ?_
          rw [lessB_at i a b x y hab hx hy c4_8]
          exact ⟨rfl, F⟩
        · skip
          replace F := F.trans frd4
          refine dn (by kernel_rfl) ?_
          refine al_k ?_
          refine cl_if0 rfl rfl ?_
          refine cl_skip rfl ?_
          refine al_k ?_
          refine cl_reg rfl ?_
          refine st rfl rfl rfl rfl (x_move rfl) ?_
          refine st rfl rfl rfl rfl (x_add rfl rfl (by omega)) ?_
          refine st rfl rfl rfl rfl (x_asg rfl) ?_
          refine rl_end rfl ?_
          refine again (i + 1) (by omega) ⟨rfl, rfl, rfl, trivial⟩ ⟨⟨by omega, by omega, ?_⟩, F⟩
          rw [take_snoc hx, take_snoc hy, hab, Decidable.not_not.1 c4_8]
      · skip
        refine st rfl rfl rfl rfl (x_pick1 rfl rfl) ?_
        refine rl_end rfl ?_
        refine al_k ?_
        refine cl_if0 rfl rfl ?_
        refine cl_exit rfl ?_
        refine upd_self ?_
        refine al_k ?_
        refine cl_seq rfl ?_
        refine cl_reg rfl ?_
        refine st rfl rfl rfl rfl (x_move rfl) ?_
        refine st rfl rfl rfl rfl (x_len rfl Try.underlying24) ?_
        refine st rfl rfl rfl rfl (x_move rfl) ?_
        refine st rfl rfl rfl rfl (x_len rfl Try.underlying24) ?_
        refine st rfl rfl rfl rfl (x_lss rfl rfl) ?_
        refine st rfl rfl rfl rfl (x_asg rfl) ?_
        refine rl_end rfl ?_
        refine al_k ?_
        refine cl_ret rfl ?_
        refine fin1 rfl rfl ?_
        rw [lessB_end i a b hab hi hib (by omega)]
        exact ⟨rfl, F⟩
    · skip
      refine st rfl rfl rfl rfl (x_move rfl) ?_
      refine so rfl rfl rfl rfl ?_
      refine so rfl rfl rfl rfl ?_
      refine so rfl rfl rfl rfl ?_
      refine so rfl rfl rfl rfl ?_
      refine st rfl rfl rfl rfl (x_pick0 rfl rfl) ?_
      refine rl_end rfl ?_
      refine al_k ?_
      refine cl_if0 rfl rfl ?_
      refine cl_exit rfl ?_
      refine upd_self ?_
      refine al_k ?_
      refine cl_seq rfl ?_
      refine cl_reg rfl ?_
      refine st rfl rfl rfl rfl (x_move rfl) ?_
      refine st rfl rfl rfl rfl (x_len rfl Try.underlying24) ?_
      refine st rfl rfl rfl rfl (x_move rfl) ?_
      refine st rfl rfl rfl rfl (x_len rfl Try.underlying24) ?_
      refine st rfl rfl rfl rfl (x_lss rfl rfl) ?_
      refine st rfl rfl rfl rfl (x_asg rfl) ?_
      refine rl_end rfl ?_
      refine al_k ?_
      refine cl_ret rfl ?_
      refine fin1 rfl rfl ?_
      rw [lessB_end i a b hab hi hib (by omega)]
      exact ⟨rfl, F⟩

theorem send_c (w : World) (p f t : Int) : Cl Try.prog 29 [.int .u64 p, .int .i64 f, .int .i64 t] w (fun v w' => v = .agg (encD ⟨1, 0, p, f, t, false⟩).toArray ∧ Fr [] w w') := by
  refine enter Try.func29 rfl Try.ntmps29 rfl ?_
  refine cl_seq rfl ?_
  refine cl_reg rfl ?_
  refine se rfl rfl rfl rfl (e_new (x_alloc Try.zeroValue40 rfl)) ?_
  rintro _ w6 ⟨rfl, b6, fA, _⟩
  refine rl_end rfl ?_
  refine al_k ?_
  refine cl_seq rfl ?_
  refine cl_reg rfl ?_
  refine st rfl rfl rfl rfl (x_move rfl) ?_
  refine st rfl rfl rfl rfl (x_move rfl) ?_
  refine st rfl rfl rfl rfl (x_move rfl) ?_
  refine st rfl rfl rfl rfl (x_build rfl (bldS _ _ _ _)) ?_
  refine sv rfl rfl rfl (v_n (vs := encD ⟨1, 0, p, f, t, false⟩) rfl rfl (oneD _) Try.sizeOf40 rfl b6 (by decide)) ?_
  rintro w7 ⟨b7, fr⟩
  have F := fA.trans_new fr (by intro q hq; simp at hq; subst hq; exact .inr (Nat.le_refl _))
  replace b7 : Blk w7 _ 40 (encD ⟨1, 0, p, f, t, false⟩) := b7
  refine rl_end rfl ?_
  refine al_k ?_
  refine cl_ret rfl ?_
  refine fin_c rfl rfl (run_ldv Try.isAgg40 Try.sizeOf40 rfl b7) ?_
  exact ⟨rfl, F⟩

theorem rPlay_c (w : World) (A : Option Addr) (c : Nat) (l : List D) (HR : RowG encD 6 w A l) (A2 : Option Addr) (c2 : Nat) (row : List Int) (HI : RowG encI 1 w A2 row) (hl : l.length ≤ 1000) (hr : row.length ≤ 1000) : Cl Try.prog 16 [.slice A l.length c, .slice A2 row.length c2] w (fun r w' => PR w' r (playR l row) ∧ Fr [] w w') := by
  have F := Fr.refl [] w
  refine enter Try.func16 rfl Try.ntmps16 rfl ?_
  refine cl_seq rfl ?_
  refine cl_reg rfl ?_
  refine st rfl rfl rfl rfl (x_asg rfl) ?_
  refine st rfl rfl rfl rfl (x_asg rfl) ?_
  refine st rfl rfl rfl rfl (x_asg rfl) ?_
  refine rl_end rfl ?_
  refine al_k ?_
  refine cl_seq rfl ?_
  refine cl_reg rfl ?_
  refine st rfl rfl rfl rfl (x_move rfl) ?_
  refine st rfl rfl rfl rfl (x_move rfl) ?_
  refine sc rfl rfl rfl rfl (c_fn rfl Try.call30 (rasked_c _ A c l HR A2 c2 row HI hl (by omega))) ?_
  rintro _ w1 ⟨rfl, fr⟩
  replace F := F.trans fr
  clear fr
  refine st rfl rfl rfl rfl (x_asg rfl) ?_
  refine rl_end rfl ?_
  refine al_k ?_
  refine cl_seq rfl ?_
  refine cl_seq rfl ?_
  refine cl_reg rfl ?_
  refine st rfl rfl rfl rfl (x_move rfl) ?_
  refine sf rfl rfl rfl rfl (x_neq rfl rfl) (fun c2_1 => ?_) (fun c2_1 => ?_)
  · skip
    refine rl_end rfl ?_
    refine al_k ?_
    refine cl_if1 rfl rfl ?_
    refine cl_seq rfl ?_
    refine cl_reg rfl ?_
    refine st rfl rfl rfl rfl (x_move rfl) ?_
    refine st rfl rfl rfl rfl (x_asg rfl) ?_
    refine st rfl rfl rfl rfl (x_asg rfl) ?_
    refine st rfl rfl rfl rfl (x_asg rfl) ?_
    refine rl_end rfl ?_
    refine al_k ?_
    refine cl_ret rfl ?_
    refine fin3 rfl rfl rfl rfl ?_
    exact ⟨.no (ask_n c2_1).1, F⟩
  · skip
    refine rl_end rfl ?_
    refine al_k ?_
    refine cl_if0 rfl rfl ?_
    refine cl_skip rfl ?_
    refine al_k ?_
    refine cl_seq rfl ?_
    obtain ⟨hH, hO⟩ := ask_0 (Decidable.not_not.1 c2_1)
    refine cl_reg rfl ?_
    refine st rfl rfl rfl rfl (x_asg rfl) ?_
    refine rl_end rfl ?_
    refine al_k ?_
    refine cl_seq rfl ?_
    refine cl_seq rfl ?_
    refine cl_reg rfl ?_
    refine st rfl rfl rfl rfl (x_asg rfl) ?_
    refine rl_end rfl ?_
    refine al_k ?_
    refine cl_block rfl ?_
    refine cl_loop (fun s : Nat × Value × List D => [(9, .int .i64 s.1), (8, s.2.1), (0, .slice A l.length c), (1, .slice A2 row.length c2)]) (fun s w' => (s.1 ≤ row.length ∧ qplay [] (prow l (row.take s.1)) = some s.2.2) ∧ SlG encD 6 w' s.2.1 s.2.2 ∧ Fr [] w w') (fun s => row.length - s.1) (0, .slice none 0 0, []) rfl ⟨rfl, rfl, rfl, rfl, trivial⟩ ?_ ?_
    · exact ⟨⟨Nat.zero_le _, rfl⟩, SlG.nil _, F⟩
    · skip
      rintro ⟨i, v8, q⟩ wr ⟨⟨hi, hq⟩, hs, F⟩
      dsimp only at hi hq hs
      obtain ⟨A3, c3, rfl, HQ, hcq⟩ := hs
      have hql := qplay_len _ hq
      simp only [prow, List.length_map, List.length_take, List.length_nil] at hql
      refine cl_seq rfl ?_
      refine cl_seq rfl ?_
      refine cl_reg rfl ?_
      refine st rfl rfl rfl rfl (x_move rfl) ?_
      refine st rfl rfl rfl rfl (x_move rfl) ?_
      refine st rfl rfl rfl rfl (x_len rfl Try.underlying24) ?_
      refine sf rfl rfl rfl rfl (x_lss rfl rfl) (fun c6_3 => ?_) (fun c6_3 => ?_)
      · skip
        refine rl_end rfl ?_
        refine al_k ?_
        refine cl_if1 rfl rfl ?_
        refine cl_skip rfl ?_
        refine al_k ?_
        refine cl_seq rfl ?_
        refine cl_block rfl ?_
        refine cl_seq rfl ?_
        obtain ⟨z, hz⟩ : ∃ z, row[i]? = some z := ⟨_, List.getElem?_eq_getElem (by omega)⟩
        obtain ⟨a2, rfl, hcz⟩ := RowI.at_ HI hz
        obtain ⟨hz0, hz1⟩ := hO z (List.mem_of_getElem? hz)
        obtain ⟨d, hd⟩ : ∃ d, l[z.toNat]? = some d := ⟨_, List.getElem?_eq_getElem (by omega)⟩
        obtain ⟨a_, rfl, hcd⟩ := HR _ d hd
        refine cl_reg rfl ?_
        refine st rfl rfl rfl rfl (x_move rfl) ?_
        refine st rfl rfl rfl rfl (x_move rfl) ?_
        refine st rfl rfl rfl rfl (x_move rfl) ?_
        refine st rfl rfl rfl rfl (x_move rfl) ?_
        refine st rfl rfl rfl rfl (x_iag rfl rfl Try.underlying24 Try.sizeOf3 (by omega)) ?_
        refine st rfl rfl rfl rfl (x_ld rfl Try.isAgg3 (F.cell hcz (by simp))) ?_
        refine st rfl rfl rfl rfl (x_iag rfl rfl Try.underlying22 Try.sizeOf40 (by omega)) ?_
        refine st rfl rfl rfl rfl (x_ldg (cs := encD d) rfl Try.isAgg40 Try.sizeOf40 rfl (fun j v h => F.cell (hcd j v h) (by simp))) ?_
        refine sc rfl rfl rfl rfl (c_fn rfl Try.call33 (rplay_c _ A3 c3 q HQ hcq (by omega) d)) ?_
        rintro _ w8 ⟨⟨vn, rfl, hv⟩, fr⟩
        replace F := F.trans fr
        clear fr
        refine st rfl rfl rfl rfl (x_move rfl) ?_
        refine st rfl rfl rfl rfl (x_ext rfl rfl) ?_
        refine st rfl rfl rfl rfl (x_ext rfl rfl) ?_
        cases hf8_11 : ((qstep q d).isSome)
        · skip
          refine st rfl rfl rfl rfl (x_asg rfl) ?_
          refine st rfl rfl rfl rfl (x_asg rfl) ?_
          refine rl_end rfl ?_
          refine al_k ?_
          refine cl_seq rfl ?_
          refine cl_seq rfl ?_
          refine cl_reg rfl ?_
          refine st rfl rfl rfl rfl (x_move rfl) ?_
          refine st rfl rfl rfl rfl (x_not0 rfl) ?_
          refine rl_end rfl ?_
          refine al_k ?_
          refine cl_if1 rfl rfl ?_
          refine cl_seq rfl ?_
          refine cl_reg rfl ?_
          refine st rfl rfl rfl rfl (x_asg rfl) ?_
          refine st rfl rfl rfl rfl (x_asg rfl) ?_
          refine st rfl rfl rfl rfl (x_asg rfl) ?_
          refine rl_end rfl ?_
          refine al_k ?_
          refine cl_ret rfl ?_
          refine fin3 rfl rfl rfl rfl ?_
          exact ⟨.no (by rw [playR_ok hH hO, qplay_stuck hq hz (by rw [atI_some hd]; exact none_of hf8_11)]), F⟩
        · skip
          refine st rfl rfl rfl rfl (x_asg rfl) ?_
          refine st rfl rfl rfl rfl (x_asg rfl) ?_
          refine rl_end rfl ?_
          refine al_k ?_
          refine cl_seq rfl ?_
          refine cl_seq rfl ?_
          refine cl_reg rfl ?_
          refine st rfl rfl rfl rfl (x_move rfl) ?_
          refine st rfl rfl rfl rfl (x_not1 rfl) ?_
          refine rl_end rfl ?_
          refine al_k ?_
          refine cl_if0 rfl rfl ?_
          refine cl_skip rfl ?_
          refine al_k ?_
          refine cl_reg rfl ?_
          refine st rfl rfl rfl rfl (x_move rfl) ?_
          refine st rfl rfl rfl rfl (x_asg rfl) ?_
          refine rl_end rfl ?_
          refine al_k ?_
          refine cl_reg rfl ?_
          refine st rfl rfl rfl rfl (x_move rfl) ?_
          refine st rfl rfl rfl rfl (x_add rfl rfl (by omega)) ?_
          refine st rfl rfl rfl rfl (x_asg rfl) ?_
          refine rl_end rfl ?_
          obtain ⟨q2, hq2⟩ := some_of hf8_11
          refine again (i + 1, vn, q2) (show row.length - (i + 1) < row.length - i by omega) ⟨rfl, rfl, rfl, rfl, trivial⟩ ⟨⟨by dsimp only; omega, by dsimp only; rw [qplay_snoc hq hz, atI_some hd]; exact hq2⟩, hv q2 hq2, F⟩
      · skip
        refine rl_end rfl ?_
        refine al_k ?_
        refine cl_if0 rfl rfl ?_
        refine cl_exit rfl ?_
        refine upd_self ?_
        refine al_k ?_
        refine cl_seq rfl ?_
        refine cl_reg rfl ?_
        refine st rfl rfl rfl rfl (x_move rfl) ?_
        refine st rfl rfl rfl rfl (x_asg rfl) ?_
        refine st rfl rfl rfl rfl (x_asg rfl) ?_
        refine st rfl rfl rfl rfl (x_asg rfl) ?_
        refine rl_end rfl ?_
        refine al_k ?_
        refine cl_ret rfl ?_
        refine fin3 rfl rfl rfl rfl ?_
        have e : i = row.length := by omega
        subst e
        rw [List.take_length] at hq
        exact ⟨.yes (by rw [playR_ok hH hO, hq]) ⟨A3, c3, rfl, HQ, hcq⟩, F⟩

theorem rRight_c (w : World) (A : Option Addr) (c : Nat) (l : List D) (HR : RowG encD 6 w A l) (A2 : Option Addr) (c2 : Nat) (row : List Int) (HI : RowG encI 1 w A2 row) (hl : l.length ≤ 1000) (hr : row.length ≤ 1000) (hcr : row.length ≤ c2) : Cl Try.prog 14 [.slice A l.length c, .slice A2 row.length c2] w (fun r w' => r = .tuple #[.bool (rightR l row).1, .int .i64 (rightR l row).2] ∧ Fr [] w w') := by
  have F := Fr.refl [] w
  refine enter Try.func14 rfl Try.ntmps14 rfl ?_
  refine cl_seq rfl ?_
  refine cl_reg rfl ?_
  refine st rfl rfl rfl rfl (x_asg rfl) ?_
  refine st rfl rfl rfl rfl (x_asg rfl) ?_
  refine rl_end rfl ?_
  refine al_k ?_
  refine cl_seq rfl ?_
  refine cl_reg rfl ?_
  refine st rfl rfl rfl rfl (x_move rfl) ?_
  refine st rfl rfl rfl rfl (x_move rfl) ?_
  refine sc rfl rfl rfl rfl (c_fn rfl Try.call30 (rasked_c _ A c l HR A2 c2 row HI hl (by omega))) ?_
  rintro _ w1 ⟨rfl, fr⟩
  replace F := F.trans fr
  clear fr
  refine st rfl rfl rfl rfl (x_asg rfl) ?_
  refine rl_end rfl ?_
  refine al_k ?_
  refine cl_seq rfl ?_
  refine cl_seq rfl ?_
  refine cl_reg rfl ?_
  refine st rfl rfl rfl rfl (x_move rfl) ?_
  refine sf rfl rfl rfl rfl (x_neq rfl rfl) (fun c2_1 => ?_) (fun c2_1 => ?_)
  · skip
    refine rl_end rfl ?_
    refine al_k ?_
    refine cl_if1 rfl rfl ?_
    refine cl_seq rfl ?_
    refine cl_reg rfl ?_
    refine st rfl rfl rfl rfl (x_move rfl) ?_
    refine st rfl rfl rfl rfl (x_asg rfl) ?_
    refine st rfl rfl rfl rfl (x_asg rfl) ?_
    refine rl_end rfl ?_
    refine al_k ?_
    refine cl_ret rfl ?_
    refine fin2 rfl rfl rfl ?_
    rw [(ask_n c2_1).2]
    exact ⟨rfl, F⟩
  · skip
    refine rl_end rfl ?_
    refine al_k ?_
    refine cl_if0 rfl rfl ?_
    refine cl_skip rfl ?_
    refine al_k ?_
    refine cl_seq rfl ?_
    refine cl_seq rfl ?_
    obtain ⟨hH, hO⟩ := ask_0 (Decidable.not_not.1 c2_1)
    refine cl_reg rfl ?_
    refine st rfl rfl rfl rfl (x_asg rfl) ?_
    refine rl_end rfl ?_
    refine al_k ?_
    refine cl_block rfl ?_
    refine cl_loop (fun i : Nat => [(7, .int .i64 i), (0, .slice A l.length c), (1, .slice A2 row.length c2)]) (fun i w' => (i ≤ row.length ∧ ∀ (j : Nat) z, j < i → row[j]? = some z → fitsI l (row.take j) z) ∧ Fr [] w w') (fun i => row.length - i) 0 rfl ⟨rfl, rfl, rfl, trivial⟩ ?_ ?_
    · exact ⟨⟨Nat.zero_le _, fun j z h => absurd h (by omega)⟩, F⟩
    · skip
      rintro i wr ⟨⟨hi, hfit⟩, F⟩
      refine cl_seq rfl ?_
      refine cl_seq rfl ?_
      refine cl_reg rfl ?_
      refine st rfl rfl rfl rfl (x_move rfl) ?_
      refine st rfl rfl rfl rfl (x_move rfl) ?_
      refine st rfl rfl rfl rfl (x_len rfl Try.underlying24) ?_
      refine sf rfl rfl rfl rfl (x_lss rfl rfl) (fun c5_3 => ?_) (fun c5_3 => ?_)
      · skip
        refine rl_end rfl ?_
        refine al_k ?_
        refine cl_if1 rfl rfl ?_
        refine cl_skip rfl ?_
        refine al_k ?_
        refine cl_seq rfl ?_
        refine cl_block rfl ?_
        refine cl_seq rfl ?_
        obtain ⟨z, hz⟩ : ∃ z, row[i]? = some z := ⟨_, List.getElem?_eq_getElem (by omega)⟩
        obtain ⟨a2, rfl, hcz⟩ := RowI.at_ HI hz
        obtain ⟨hz0, hz1⟩ := hO z (List.mem_of_getElem? hz)
        refine cl_draw (by kernel_rfl) rfl [8] (fun w' => w'.heap = wr.heap) ?_
        rintro wd7 frd7 hpd7
        refine ⟨hpd7, ?_⟩
        refine dt (i := 0) rfl rfl rfl rfl (by kernel_rfl) (fun _ => x_move rfl) ?_
        refine dt (i := 1) rfl rfl rfl rfl (by kernel_rfl) (fun _ => x_move rfl) ?_
        refine dt (i := 2) rfl rfl rfl rfl (by kernel_rfl) (fun _ => x_move rfl) ?_
        refine dt (i := 3) rfl rfl rfl rfl (by kernel_rfl) (fun _ => x_slt (m := (row.take i).length) rfl rfl Try.underlying24 Try.sizeOf3 (by omega) (by rw [List.length_take]; omega)) ?_
        refine dt (i := 4) rfl rfl rfl rfl (by kernel_rfl) (fun _ => x_move rfl) ?_
        refine dt (i := 5) rfl rfl rfl rfl (by kernel_rfl) (fun _ => x_move rfl) ?_
        refine dt (i := 6) rfl rfl rfl rfl (by kernel_rfl) (fun _ => x_iag rfl rfl Try.underlying24 Try.sizeOf3 (by omega)) ?_
        refine dlt (i := 7) rfl rfl rfl rfl (by kernel_rfl) (by kernel_rfl) (fun w' hU => x_ld rfl Try.isAgg3 (heq hU (F.cell hcz (by simp)))) ?_
        replace F := F.trans frd7
        refine d1 (i := 8) (by kernel_rfl) ?_
        refine oc rfl rfl rfl rfl (c_fn rfl Try.call31 (fits_c _ A c l (HR.fr0 F) _ c2 (row.take i) ((HI.fr0 F).take i) hl (by rw [List.length_take]; omega) (fun y hy => hO y (List.mem_of_mem_take hy)) z ⟨hz0, hz1⟩)) ?_
        rintro _ w7 ⟨rfl, fr⟩
        replace F := F.trans fr
        clear fr
        refine ⟨.inl (by kernel_rfl), ?_⟩
        cases hf7_8 : (dc (fitsI l (row.take i) z))
        · skip
          refine dt (i := 9) rfl rfl rfl rfl (by kernel_rfl) (fun _ => x_not0 rfl) ?_
          refine dn (by kernel_rfl) ?_
          refine al_k ?_
          refine cl_if1 rfl rfl ?_
          refine cl_seq rfl ?_
          refine cl_reg rfl ?_
          refine st rfl rfl rfl rfl (x_asg rfl) ?_
          refine st rfl rfl rfl rfl (x_asg rfl) ?_
          refine rl_end rfl ?_
          refine al_k ?_
          refine cl_ret rfl ?_
          refine fin2 rfl rfl rfl ?_
          rw [rightR_ok hH hO, dc_false (P := rightI l row) (fun h => not_dc hf7_8 (h.1 i z hz))]
          exact ⟨rfl, F⟩
        · skip
          refine dt (i := 9) rfl rfl rfl rfl (by kernel_rfl) (fun _ => x_not1 rfl) ?_
          refine dn (by kernel_rfl) ?_
          refine al_k ?_
          refine cl_if0 rfl rfl ?_
          refine cl_skip rfl ?_
          refine al_k ?_
          refine cl_reg rfl ?_
          refine st rfl rfl rfl rfl (x_move rfl) ?_
          refine st rfl rfl rfl rfl (x_add rfl rfl (by omega)) ?_
          refine st rfl rfl rfl rfl (x_asg rfl) ?_
          refine rl_end rfl ?_
          refine again (i + 1) (by omega) ⟨rfl, rfl, rfl, trivial⟩ ⟨⟨by omega, ?_⟩, F⟩
          intro j y hj hy
          rcases Nat.lt_or_ge j i with h | h
          · exact hfit j y h hy
          · obtain rfl : j = i := by omega
            rw [hz] at hy
            obtain rfl := Option.some.inj hy
            exact of_dc hf7_8
      · skip
        refine rl_end rfl ?_
        refine al_k ?_
        refine cl_if0 rfl rfl ?_
        refine cl_exit rfl ?_
        refine upd_self ?_
        refine al_k ?_
        refine cl_seq rfl ?_
        refine cl_reg rfl ?_
        refine st rfl rfl rfl rfl (x_move rfl) ?_
        refine st rfl rfl rfl rfl (x_move rfl) ?_
        refine sc rfl rfl rfl rfl (c_fn rfl Try.call16 (rPlay_c _ A c l (HR.fr0 F) A2 c2 row (HI.fr0 F) hl hr)) ?_
        rintro _ w9 ⟨⟨v9, rfl, hs9⟩, fr⟩
        replace F := F.trans fr
        clear fr
        refine st rfl rfl rfl rfl (x_move rfl) ?_
        refine st rfl rfl rfl rfl (x_ext rfl rfl) ?_
        refine st rfl rfl rfl rfl (x_ext rfl rfl) ?_
        cases hf9_5 : ((playR l row).1.isSome)
        · skip
          refine st rfl rfl rfl rfl (x_ext rfl rfl) ?_
          refine st rfl rfl rfl rfl (x_asg rfl) ?_
          refine st rfl rfl rfl rfl (x_asg rfl) ?_
          refine st rfl rfl rfl rfl (x_asg rfl) ?_
          refine rl_end rfl ?_
          refine al_k ?_
          refine cl_seq rfl ?_
          refine cl_reg rfl ?_
          refine st rfl rfl rfl rfl (x_move rfl) ?_
          refine st rfl rfl rfl rfl (x_move rfl) ?_
          refine so rfl rfl rfl rfl ?_
          refine so rfl rfl rfl rfl ?_
          refine so rfl rfl rfl rfl ?_
          refine st rfl rfl rfl rfl (x_pick0 rfl rfl) ?_
          refine st rfl rfl rfl rfl (x_asg rfl) ?_
          refine st rfl rfl rfl rfl (x_asg rfl) ?_
          refine rl_end rfl ?_
          refine al_k ?_
          refine cl_ret rfl ?_
          refine fin2 rfl rfl rfl ?_
          rw [playR_ok hH hO] at hf9_5
          have e : i = row.length := by omega
          subst e
          rw [rightR_ok hH hO, dc_false (P := rightI l row) (fun h => by rw [h.2.1] at hf9_5; cases hf9_5)]
          exact ⟨rfl, F⟩
        · skip
          refine st rfl rfl rfl rfl (x_ext rfl rfl) ?_
          refine st rfl rfl rfl rfl (x_asg rfl) ?_
          refine st rfl rfl rfl rfl (x_asg rfl) ?_
          refine st rfl rfl rfl rfl (x_asg rfl) ?_
          refine rl_end rfl ?_
          refine al_k ?_
          refine cl_seq rfl ?_
          refine cl_reg rfl ?_
          refine st rfl rfl rfl rfl (x_move rfl) ?_
          refine st rfl rfl rfl rfl (x_move rfl) ?_
          refine st rfl rfl rfl rfl (x_move rfl) ?_
          refine st rfl rfl rfl rfl (x_move rfl) ?_
          refine sc rfl rfl rfl rfl (c_fn rfl Try.call32 (all_c _ A c l (HR.fr0 F) A2 c2 row (HI.fr0 F) hl (by omega))) ?_
          rintro _ wk ⟨rfl, hwk⟩
          obtain rfl := hwk.symm
          refine st rfl rfl rfl rfl (x_pick1 rfl rfl) ?_
          refine st rfl rfl rfl rfl (x_asg rfl) ?_
          refine st rfl rfl rfl rfl (x_asg rfl) ?_
          refine rl_end rfl ?_
          refine al_k ?_
          refine cl_ret rfl ?_
          refine fin2 rfl rfl rfl ?_
          rw [playR_ok hH hO] at hf9_5
          have e : i = row.length := by omega
          subst e
          rw [rightR_ok hH hO, dc_congr (P := rightI l row) (Q := allI l row) ⟨fun h => h.2.2, fun h => ⟨fun j y hy => hfit j y (List.getElem?_eq_some_iff.1 hy).1 hy, hf9_5, h⟩⟩]
          exact ⟨rfl, F⟩

theorem search_step (l : List D) (hl : l.length ≤ 1000) (Gs : List Int → List D → Option (List Int)) (m : Nat) (hm : m ≤ 900) (ih : ∀ (w : World) (A : Option Addr) (c : Nat) (A2 : Option Addr) (c2 : Nat) (row : List Int) (A3 : Option Addr) (c3 : Nat) (q : List D) (HR : RowG encD 6 w A l) (HI : RowG encI 1 w A2 row) (hcr : row.length ≤ c2) (HQ : RowG encD 6 w A3 q) (hcq : q.length ≤ c3) (hrow : okRow l row) (hnd : row.Nodup) (hqr : q.length ≤ row.length), row.length = m + 1 → Cl Try.prog 28 [.slice A l.length c, .slice A2 row.length c2, .slice A3 q.length c3] w (fun r w' => SR w' r (Gs row q) ∧ Fr [] w w')) (w : World) (A : Option Addr) (c : Nat) (A2 : Option Addr) (c2 : Nat) (row : List Int) (A3 : Option Addr) (c3 : Nat) (q : List D) (HR : RowG encD 6 w A l) (HI : RowG encI 1 w A2 row) (hcr : row.length ≤ c2) (HQ : RowG encD 6 w A3 q) (hcq : q.length ≤ c3) (hrow : okRow l row) (hnd : row.Nodup) (hqr : q.length ≤ row.length) (hlen : row.length = m) : Cl Try.prog 28 [.slice A l.length c, .slice A2 row.length c2, .slice A3 q.length c3] w (fun r w' => SR w' r (stepF l Gs row q) ∧ Fr [] w w') := by
  have F := Fr.refl [] w
  refine enter Try.func28 rfl Try.ntmps28 rfl ?_
  refine cl_seq rfl ?_
  refine cl_reg rfl ?_
  refine st rfl rfl rfl rfl (x_asg rfl) ?_
  refine st rfl rfl rfl rfl (x_asg rfl) ?_
  refine rl_end rfl ?_
  refine al_k ?_
  refine cl_seq rfl ?_
  refine cl_seq rfl ?_
  refine cl_reg rfl ?_
  refine st rfl rfl rfl rfl (x_move rfl) ?_
  refine st rfl rfl rfl rfl (x_move rfl) ?_
  refine sc rfl rfl rfl rfl (c_fn rfl Try.call32 (all_c _ A c l HR A2 c2 row HI hl (by omega))) ?_
  rintro _ wk ⟨rfl, hwk⟩
  obtain rfl := hwk.symm
  cases hf1_2 : (dc (allI l row))
  · skip
    refine rl_end rfl ?_
    refine al_k ?_
    refine cl_if0 rfl rfl ?_
    refine cl_skip rfl ?_
    refine al_k ?_
    refine cl_seq rfl ?_
    refine cl_seq rfl ?_
    refine cl_reg rfl ?_
    refine st rfl rfl rfl rfl (x_asg rfl) ?_
    refine rl_end rfl ?_
    refine al_k ?_
    refine cl_block rfl ?_
    refine cl_loop (fun i : Nat => [(8, .int .i64 i), (0, .slice A l.length c), (1, .slice A2 row.length c2), (2, .slice A3 q.length c3)]) (fun i w' => (i ≤ l.length ∧ ∀ (j : Nat), j < i → candF l Gs row q j = none) ∧ Fr [] w w') (fun i => l.length - i) 0 rfl ⟨rfl, rfl, rfl, rfl, trivial⟩ ?_ ?_
    · exact ⟨⟨Nat.zero_le _, fun j h => absurd h (by omega)⟩, F⟩
    · skip
      rintro i wr ⟨⟨hi, hno⟩, F⟩
      refine cl_seq rfl ?_
      refine cl_seq rfl ?_
      refine cl_reg rfl ?_
      refine st rfl rfl rfl rfl (x_move rfl) ?_
      refine st rfl rfl rfl rfl (x_move rfl) ?_
      refine st rfl rfl rfl rfl (x_len rfl Try.underlying22) ?_
      refine sf rfl rfl rfl rfl (x_lss rfl rfl) (fun c4_3 => ?_) (fun c4_3 => ?_)
      · skip
        refine rl_end rfl ?_
        refine al_k ?_
        refine cl_if1 rfl rfl ?_
        refine cl_skip rfl ?_
        refine al_k ?_
        refine cl_seq rfl ?_
        refine cl_block rfl ?_
        refine cl_seq rfl ?_
        refine cl_seq rfl ?_
        refine cl_reg rfl ?_
        refine st rfl rfl rfl rfl (x_move rfl) ?_
        refine st rfl rfl rfl rfl (x_move rfl) ?_
        refine st rfl rfl rfl rfl (x_move rfl) ?_
        refine sc rfl rfl rfl rfl (c_fn rfl Try.call31 (fits_c _ A c l (HR.fr0 F) A2 c2 row (HI.fr0 F) hl (by omega) hrow (i : Int) (by omega))) ?_
        rintro _ w6 ⟨rfl, fr⟩
        replace F := F.trans fr
        clear fr
        cases hf6_3 : (dc (fitsI l row (i : Int)))
        · skip
          refine st rfl rfl rfl rfl (x_not0 rfl) ?_
          refine st rfl rfl rfl rfl (x_move rfl) ?_
          refine so rfl rfl rfl rfl ?_
          refine so rfl rfl rfl rfl ?_
          refine so rfl rfl rfl rfl ?_
          refine so rfl rfl rfl rfl ?_
          refine st rfl rfl rfl rfl (x_pick1 rfl rfl) ?_
          refine rl_end rfl ?_
          refine al_k ?_
          refine cl_if1 rfl rfl ?_
          refine cl_exit rfl ?_
          refine upd_self ?_
          refine al_k ?_
          refine cl_reg rfl ?_
          refine st rfl rfl rfl rfl (x_move rfl) ?_
          refine st rfl rfl rfl rfl (x_add rfl rfl (by omega)) ?_
          refine st rfl rfl rfl rfl (x_asg rfl) ?_
          refine rl_end rfl ?_
          refine again (i + 1) (by omega) ⟨rfl, rfl, rfl, rfl, trivial⟩ ⟨⟨by omega, ?_⟩, F⟩
          intro j hj
          rcases Nat.lt_or_ge j i with h | h
          · exact hno j h
          · obtain rfl : j = i := by omega
            exact candF_unfit hf6_3
        · skip
          refine st rfl rfl rfl rfl (x_not1 rfl) ?_
          refine st rfl rfl rfl rfl (x_move rfl) ?_
          refine st rfl rfl rfl rfl (x_move rfl) ?_
          refine st rfl rfl rfl rfl (x_move rfl) ?_
          refine st rfl rfl rfl rfl (x_move rfl) ?_
          refine sc rfl rfl rfl rfl (c_fn rfl Try.call42 (late_c _ A c l (HR.fr0 F) A2 c2 row (HI.fr0 F) hl (by omega) (i : Int) (by omega))) ?_
          rintro _ w69 ⟨rfl, fr⟩
          replace F := F.trans fr
          clear fr
          cases hf6_9 : (dc (lateI l row (i : Int)))
          · skip
            refine st rfl rfl rfl rfl (x_pick0 rfl rfl) ?_
            refine rl_end rfl ?_
            refine al_k ?_
            refine cl_if0 rfl rfl ?_
            refine cl_skip rfl ?_
            refine al_k ?_
            refine cl_seq rfl ?_
            obtain ⟨d, hd⟩ : ∃ d, l[i]? = some d := ⟨_, List.getElem?_eq_getElem (by omega)⟩
            obtain ⟨a, rfl, hc⟩ := HR i d hd
            refine cl_reg rfl ?_
            refine st rfl rfl rfl rfl (x_move rfl) ?_
            refine st rfl rfl rfl rfl (x_move rfl) ?_
            refine st rfl rfl rfl rfl (x_move rfl) ?_
            refine st rfl rfl rfl rfl (x_iag rfl rfl Try.underlying22 Try.sizeOf40 (by omega)) ?_
            refine st rfl rfl rfl rfl (x_ldg (cs := encD d) rfl Try.isAgg40 Try.sizeOf40 rfl (fun j v h => F.cell (hc j v h) (by simp))) ?_
            refine sc rfl rfl rfl rfl (c_fn rfl Try.call33 (rplay_c _ A3 c3 q (HQ.fr0 F) hcq (by omega) d)) ?_
            rintro _ w7 ⟨⟨v7, rfl, hv7⟩, fr⟩
            replace F := F.trans fr
            clear fr
            refine st rfl rfl rfl rfl (x_move rfl) ?_
            refine st rfl rfl rfl rfl (x_ext rfl rfl) ?_
            refine st rfl rfl rfl rfl (x_ext rfl rfl) ?_
            cases hf7_8 : ((qstep q d).isSome)
            · skip
              refine st rfl rfl rfl rfl (x_asg rfl) ?_
              refine st rfl rfl rfl rfl (x_asg rfl) ?_
              refine rl_end rfl ?_
              refine al_k ?_
              refine cl_seq rfl ?_
              refine cl_seq rfl ?_
              refine cl_reg rfl ?_
              refine st rfl rfl rfl rfl (x_move rfl) ?_
              refine st rfl rfl rfl rfl (x_not0 rfl) ?_
              refine rl_end rfl ?_
              refine al_k ?_
              refine cl_if1 rfl rfl ?_
              refine cl_exit rfl ?_
              refine upd_self ?_
              refine al_k ?_
              refine cl_reg rfl ?_
              refine st rfl rfl rfl rfl (x_move rfl) ?_
              refine st rfl rfl rfl rfl (x_add rfl rfl (by omega)) ?_
              refine st rfl rfl rfl rfl (x_asg rfl) ?_
              refine rl_end rfl ?_
              refine again (i + 1) (by omega) ⟨rfl, rfl, rfl, rfl, trivial⟩ ⟨⟨by omega, ?_⟩, F⟩
              intro j hj
              rcases Nat.lt_or_ge j i with h | h
              · exact hno j h
              · obtain rfl : j = i := by omega
                exact candF_stuck (by rw [atI_nat hd]; exact none_of hf7_8)
            · skip
              refine st rfl rfl rfl rfl (x_asg rfl) ?_
              refine st rfl rfl rfl rfl (x_asg rfl) ?_
              refine rl_end rfl ?_
              refine al_k ?_
              refine cl_seq rfl ?_
              refine cl_seq rfl ?_
              refine cl_reg rfl ?_
              refine st rfl rfl rfl rfl (x_move rfl) ?_
              refine st rfl rfl rfl rfl (x_not1 rfl) ?_
              refine rl_end rfl ?_
              refine al_k ?_
              refine cl_if0 rfl rfl ?_
              refine cl_skip rfl ?_
              refine al_k ?_
              refine cl_seq rfl ?_
              obtain ⟨q2, hq2⟩ := some_of hf7_8
              obtain ⟨A5, c5, rfl, HQ2, hc5⟩ := hv7 q2 hq2
              have G := Fr.refl [] w7
              have FB := F
              refine cl_reg rfl ?_
              refine st rfl rfl rfl rfl (x_move rfl) ?_
              refine se rfl rfl rfl rfl (e_new (x_bsl rfl (bsl0 Try.underlying24 Try.sizeOf3))) ?_
              rintro _ wn ⟨rfl, b5, fr, _⟩
              have HO := own_lit (base := (World.heap w7).size) (n := 0) (size := 1) b5 G.size rfl (by decide)
              have l5 := b5.lt
              clear b5
              replace F := F.trans fr
              replace G := G.trans fr
              clear fr
              refine st rfl rfl rfl rfl (x_move rfl) ?_
              refine se rfl rfl rfl rfl (e_appv 1 8 (.int .i64 0) (flat encI row) rfl rfl Try.underlying24 (by kernel_rfl) rfl (by decide) HO (by rw [flat_length lenI]; (try rfl); (try simp)) (fun e => RowG.none HI e) (fun ad e j u hu => F.cell (RowG.all (by decide) lenI HI ad e j u hu) (by simp)) (flat_mem1 oneIn _) (by omega) (by omega) G.size) ?_
              rintro va wa ⟨HOa, hg, hat⟩
              have fg1 := (Fr.of_grown hg).size
              have hge := own_ge HO
              replace G := G.grown hg hge
              replace F := F.grown hg (fun q hq => Nat.le_trans FB.size (hge q hq))
              clear hge
              clear HO
              refine st rfl rfl rfl rfl (x_move rfl) ?_
              refine se rfl rfl rfl rfl (e_new (x_bsl rfl (bslI _ _))) ?_
              rintro _ wl ⟨rfl, b16, fr, _⟩
              have l16 := b16.lt
              replace F := F.trans fr
              replace G := G.trans fr
              replace HOa := own_fr0 HOa fr
              clear fr
              refine se rfl rfl rfl rfl (e_app 1 8 (.int .i64 0) (encI (i : Int)) rfl rfl Try.underlying24 (by kernel_rfl) rfl (by decide) HOa (by rw [lenI]) b16.news (oneIn _) (by omega) (by omega) G.size) ?_
              rintro vb wb ⟨HOb, hg, hat⟩
              have hge := own_ge HOa
              replace G := G.grown hg hge
              replace F := F.grown hg (fun q hq => Nat.le_trans FB.size (hge q hq))
              clear hge
              clear HOa
              refine st rfl rfl rfl rfl (x_move rfl) ?_
              obtain ⟨A4, c4, rfl, HI4, hc4⟩ := SlG.own (l := row ++ [(i : Int)]) (by decide) lenI HOb (by simp) (by rw [flat_app', flat_one']; simp)
              replace HQ2 := HQ2.fr0 G
              refine sc rfl rfl rfl rfl (c_fn rfl Try.call28 (ih _ _ c A4 c4 (row ++ [(i : Int)]) A5 c5 q2 (HR.fr0 F) HI4 hc4 HQ2 hc5 (okRow_snoc hrow (by omega)) (nodup_snoc hnd (of_dc hf6_3).1) (by have := qstep_len hq2; rw [List.length_append]; simp; omega) (by rw [List.length_append]; simp; omega))) ?_
              rintro _ w9 ⟨⟨v9, rfl, hs9⟩, fr⟩
              replace F := F.trans fr
              clear fr
              refine st rfl rfl rfl rfl (x_move rfl) ?_
              refine st rfl rfl rfl rfl (x_ext rfl rfl) ?_
              refine st rfl rfl rfl rfl (x_ext rfl rfl) ?_
              cases hf9_11 : ((Gs (row ++ [(i : Int)]) q2).isSome)
              · skip
                refine st rfl rfl rfl rfl (x_asg rfl) ?_
                refine st rfl rfl rfl rfl (x_asg rfl) ?_
                refine rl_end rfl ?_
                refine al_k ?_
                refine cl_seq rfl ?_
                refine cl_reg rfl ?_
                refine st rfl rfl rfl rfl (x_move rfl) ?_
                refine rl_end rfl ?_
                refine al_k ?_
                refine cl_if0 rfl rfl ?_
                refine cl_skip rfl ?_
                refine al_k ?_
                refine cl_reg rfl ?_
                refine st rfl rfl rfl rfl (x_move rfl) ?_
                refine st rfl rfl rfl rfl (x_add rfl rfl (by omega)) ?_
                refine st rfl rfl rfl rfl (x_asg rfl) ?_
                refine rl_end rfl ?_
                refine again (i + 1) (by omega) ⟨rfl, rfl, rfl, rfl, trivial⟩ ⟨⟨by omega, ?_⟩, F⟩
                intro j hj
                rcases Nat.lt_or_ge j i with h | h
                · exact hno j h
                · obtain rfl : j = i := by omega
                  exact (candF_go hf6_3 hf6_9 (by rw [atI_nat hd]; exact hq2)).trans (none_of hf9_11)
              · skip
                refine st rfl rfl rfl rfl (x_asg rfl) ?_
                refine st rfl rfl rfl rfl (x_asg rfl) ?_
                refine rl_end rfl ?_
                refine al_k ?_
                refine cl_seq rfl ?_
                refine cl_reg rfl ?_
                refine st rfl rfl rfl rfl (x_move rfl) ?_
                refine rl_end rfl ?_
                refine al_k ?_
                refine cl_if1 rfl rfl ?_
                refine cl_seq rfl ?_
                refine cl_reg rfl ?_
                refine st rfl rfl rfl rfl (x_move rfl) ?_
                refine st rfl rfl rfl rfl (x_asg rfl) ?_
                refine st rfl rfl rfl rfl (x_asg rfl) ?_
                refine rl_end rfl ?_
                refine al_k ?_
                refine cl_ret rfl ?_
                refine fin2 rfl rfl rfl ?_
                obtain ⟨a, ha⟩ := some_of hf9_11
                rw [ha] at hs9
                exact ⟨.yes (stepF_yes hf1_2 hno (by omega) ((candF_go hf6_3 hf6_9 (by rw [atI_nat hd]; exact hq2)).trans ha)) hs9, F⟩
          · skip
            refine st rfl rfl rfl rfl (x_pick0 rfl rfl) ?_
            refine rl_end rfl ?_
            refine al_k ?_
            refine cl_if1 rfl rfl ?_
            refine cl_exit rfl ?_
            refine upd_self ?_
            refine al_k ?_
            refine cl_reg rfl ?_
            refine st rfl rfl rfl rfl (x_move rfl) ?_
            refine st rfl rfl rfl rfl (x_add rfl rfl (by omega)) ?_
            refine st rfl rfl rfl rfl (x_asg rfl) ?_
            refine rl_end rfl ?_
            refine again (i + 1) (by omega) ⟨rfl, rfl, rfl, rfl, trivial⟩ ⟨⟨by omega, ?_⟩, F⟩
            intro j hj
            rcases Nat.lt_or_ge j i with h | h
            · exact hno j h
            · obtain rfl : j = i := by omega
              exact candF_late hf6_9
      · skip
        refine rl_end rfl ?_
        refine al_k ?_
        refine cl_if0 rfl rfl ?_
        refine cl_exit rfl ?_
        refine upd_self ?_
        refine al_k ?_
        refine cl_seq rfl ?_
        refine cl_reg rfl ?_
        refine st rfl rfl rfl rfl (x_asg rfl) ?_
        refine st rfl rfl rfl rfl (x_asg rfl) ?_
        refine rl_end rfl ?_
        refine al_k ?_
        refine cl_ret rfl ?_
        refine fin2 rfl rfl rfl ?_
        exact ⟨.no (stepF_no hf1_2 (fun j hj => hno j (by omega))), F⟩
  · skip
    refine rl_end rfl ?_
    refine al_k ?_
    refine cl_if1 rfl rfl ?_
    refine cl_seq rfl ?_
    refine cl_reg rfl ?_
    refine st rfl rfl rfl rfl (x_move rfl) ?_
    refine st rfl rfl rfl rfl (x_asg rfl) ?_
    refine st rfl rfl rfl rfl (x_asg rfl) ?_
    refine rl_end rfl ?_
    refine al_k ?_
    refine cl_ret rfl ?_
    refine fin2 rfl rfl rfl ?_
    rw [stepF_all hf1_2]
    exact ⟨.yes rfl ⟨A2, c2, rfl, HI, hcr⟩, F⟩

theorem search_c (l : List D) (hl : l.length ≤ 800) : ∀ (f : Nat) (w : World) (A : Option Addr) (c : Nat) (A2 : Option Addr) (c2 : Nat) (row : List Int) (A3 : Option Addr) (c3 : Nat) (q : List D) (HR : RowG encD 6 w A l) (HI : RowG encI 1 w A2 row) (hcr : row.length ≤ c2) (HQ : RowG encD 6 w A3 q) (hcq : q.length ≤ c3) (hrow : okRow l row) (hnd : row.Nodup) (hqr : q.length ≤ row.length), row.length + f = l.length + 1 → Cl Try.prog 28 [.slice A l.length c, .slice A2 row.length c2, .slice A3 q.length c3] w (fun r w' => SR w' r (searchF l f row q) ∧ Fr [] w w') := by
  intro f
  induction f with
  | zero =>
    intro w A c A2 c2 row A3 c3 q HR HI hcr HQ hcq hrow hnd hqr hlen
    have := okRow_len hrow hnd
    omega
  | succ f ih =>
    intro w A c A2 c2 row A3 c3 q HR HI hcr HQ hcq hrow hnd hqr hlen
    exact search_step l (by omega) (searchF l f) row.length (by omega) (fun w A c A2 c2 row' A3 c3 q HR HI hcr HQ hcq hrow hnd hqr hlen' => ih w A c A2 c2 row' A3 c3 q HR HI hcr HQ hcq hrow hnd hqr (by omega)) w A c A2 c2 row A3 c3 q HR HI hcr HQ hcq hrow hnd hqr rfl

theorem rOrder_c (w : World) (A : Option Addr) (c : Nat) (l : List D) (HR : RowG encD 6 w A l) (hl : l.length ≤ 800) : Cl Try.prog 10 [.slice A l.length c] w (fun r w' => OR w' r (orderR l) ∧ Fr [] w w') := by
  have F := Fr.refl [] w
  refine enter Try.func10 rfl Try.ntmps10 rfl ?_
  refine cl_seq rfl ?_
  refine cl_reg rfl ?_
  refine st rfl rfl rfl rfl (x_asg rfl) ?_
  refine st rfl rfl rfl rfl (x_asg rfl) ?_
  refine st rfl rfl rfl rfl (x_asg rfl) ?_
  refine rl_end rfl ?_
  refine al_k ?_
  refine cl_seq rfl ?_
  refine cl_seq rfl ?_
  refine cl_reg rfl ?_
  refine st rfl rfl rfl rfl (x_move rfl) ?_
  refine sc rfl rfl rfl rfl (c_fn rfl Try.call13 (rcheck_c _ A c l HR (by omega))) ?_
  rintro _ w1 ⟨rfl, fr⟩
  replace F := F.trans fr
  clear fr
  refine sf rfl rfl rfl rfl (x_neq rfl rfl) (fun c1_2 => ?_) (fun c1_2 => ?_)
  · skip
    refine rl_end rfl ?_
    refine al_k ?_
    refine cl_if1 rfl rfl ?_
    refine cl_seq rfl ?_
    refine cl_reg rfl ?_
    refine st rfl rfl rfl rfl (x_asg rfl) ?_
    refine st rfl rfl rfl rfl (x_asg rfl) ?_
    refine st rfl rfl rfl rfl (x_asg rfl) ?_
    refine rl_end rfl ?_
    refine al_k ?_
    refine cl_ret rfl ?_
    refine fin3 rfl rfl rfl rfl ?_
    have hH : ¬ Hist l := fun h => c1_2 (if_pos h)
    unfold orderR
    rw [if_neg hH]
    exact ⟨⟨_, rfl, SlG.nil _⟩, F⟩
  · skip
    refine rl_end rfl ?_
    refine al_k ?_
    refine cl_if0 rfl rfl ?_
    refine cl_skip rfl ?_
    refine al_k ?_
    refine cl_seq rfl ?_
    refine cl_reg rfl ?_
    refine st rfl rfl rfl rfl (x_move rfl) ?_
    refine sc rfl rfl rfl rfl (c_fn rfl Try.call28 (search_c l hl (l.length + 1) _ A c none 0 [] none 0 [] (HR.fr0 F) (RowG.nil _ _) (Nat.le_refl _) (RowG.nil _ _) (Nat.le_refl _) (by intro z hz; cases hz) List.nodup_nil (Nat.le_refl _) (by simp))) ?_
    rintro _ w3 ⟨⟨v3, rfl, hs3⟩, fr⟩
    replace F := F.trans fr
    clear fr
    refine st rfl rfl rfl rfl (x_move rfl) ?_
    refine st rfl rfl rfl rfl (x_ext rfl rfl) ?_
    refine st rfl rfl rfl rfl (x_ext rfl rfl) ?_
    refine st rfl rfl rfl rfl (x_asg rfl) ?_
    refine st rfl rfl rfl rfl (x_asg rfl) ?_
    refine rl_end rfl ?_
    refine al_k ?_
    refine cl_seq rfl ?_
    refine cl_reg rfl ?_
    refine st rfl rfl rfl rfl (x_move rfl) ?_
    refine st rfl rfl rfl rfl (x_move rfl) ?_
    refine st rfl rfl rfl rfl (x_asg rfl) ?_
    refine st rfl rfl rfl rfl (x_asg rfl) ?_
    refine st rfl rfl rfl rfl (x_asg rfl) ?_
    refine rl_end rfl ?_
    refine al_k ?_
    refine cl_ret rfl ?_
    refine fin3 rfl rfl rfl rfl ?_
    have hH : Hist l := Decidable.by_contra (fun h => c1_2 (by rw [if_neg h]; decide))
    unfold orderR
    rw [if_pos hH]
    exact ⟨⟨_, rfl, hs3⟩, F⟩

end Go.Proofs.Ytmeheoflfdmgiaa.Lin
