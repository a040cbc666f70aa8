/- Deeds: the walks of what is asked of histories and rows. -/
import Derived.Test.YtmeheoflfdmgiaaLnW1
set_option linter.unusedVariables false
namespace Go.Proofs.Ytmeheoflfdmgiaa.Lin
open Go Go.RowKit Go.Proofs.Ytmeheoflfdmgiaa.Sx Go.Proofs.Ytmeheoflfdmgiaa
set_option maxRecDepth 100000

theorem check_c (w : World) (A : Option Addr) (c : Nat) (l : List D) (HR : RowG encD 6 w A l) (hl : l.length ≤ 1000) : Cl Try.prog 19 [.slice A l.length c] w (fun v w' => v = .int .i64 (if Hist l then 0 else 270) ∧ Fr [] w w') := by
  have F := Fr.refl [] w
  refine enter Try.func19 rfl Try.ntmps19 rfl ?_
  refine cl_seq rfl ?_
  refine cl_reg rfl ?_
  refine st rfl rfl rfl rfl (x_asg rfl) ?_
  refine rl_end rfl ?_
  refine al_k ?_
  refine cl_seq rfl ?_
  refine cl_seq rfl ?_
  refine cl_reg rfl ?_
  refine st rfl rfl rfl rfl (x_move rfl) ?_
  refine st rfl rfl rfl rfl (x_len rfl Try.underlying22) ?_
  refine sf rfl rfl rfl rfl (x_gtr rfl rfl) (fun c1_2 => ?_) (fun c1_2 => ?_)
  · skip
    refine rl_end rfl ?_
    refine al_k ?_
    refine cl_if1 rfl rfl ?_
    refine cl_seq rfl ?_
    refine cl_reg rfl ?_
    refine st rfl rfl rfl rfl (x_asg rfl) ?_
    refine rl_end rfl ?_
    refine al_k ?_
    refine cl_ret rfl ?_
    refine fin1 rfl rfl ?_
    rw [if_neg (fun h : Hist l => by have := h.1; omega)]
    exact ⟨rfl, F⟩
  · skip
    refine rl_end rfl ?_
    refine al_k ?_
    refine cl_if0 rfl rfl ?_
    refine cl_skip rfl ?_
    refine al_k ?_
    refine cl_seq rfl ?_
    refine cl_seq rfl ?_
    refine cl_reg rfl ?_
    refine st rfl rfl rfl rfl (x_move rfl) ?_
    refine st rfl rfl rfl rfl (x_len rfl Try.underlying22) ?_
    refine st rfl rfl rfl rfl (x_move rfl) ?_
    refine rl_end rfl ?_
    refine al_k ?_
    refine cl_block rfl ?_
    refine cl_loop (fun i : Nat => [(10, .int .i64 i), (9, .int .i64 l.length), (8, .slice A l.length c)]) (fun i w' => i ≤ l.length ∧ (∀ (j : Nat) d, j < i → l[j]? = some d → okD d) ∧ Fr [] w w') (fun i => l.length - i) 0 rfl ⟨rfl, rfl, rfl, trivial⟩ ?_ ?_
    · exact ⟨Nat.zero_le _, fun j d h => absurd h (by omega), F⟩
    · skip
      rintro i wr ⟨hi, hok, F⟩
      refine cl_seq rfl ?_
      refine cl_reg rfl ?_
      refine sf rfl rfl rfl rfl (x_lss rfl rfl) (fun c4_0 => ?_) (fun c4_0 => ?_)
      · skip
        refine rl_end rfl ?_
        refine al_k ?_
        refine cl_seq rfl ?_
        refine cl_if1 rfl rfl ?_
        refine cl_skip rfl ?_
        refine al_k ?_
        refine cl_seq rfl ?_
        refine cl_block rfl ?_
        refine cl_seq rfl ?_
        obtain ⟨d, hd⟩ : ∃ d, l[i]? = some d := ⟨_, List.getElem?_eq_getElem (by omega)⟩
        obtain ⟨a, rfl, hc⟩ := HR i d hd
        refine cl_reg rfl ?_
        refine st rfl rfl rfl rfl (x_iag rfl rfl Try.underlying22 Try.sizeOf40 (by omega)) ?_
        refine st rfl rfl rfl rfl (x_ldg (cs := encD d) rfl Try.isAgg40 Try.sizeOf40 rfl (fun j v h => F.cell (hc j v h) (by simp))) ?_
        refine se rfl rfl rfl rfl (e_new (x_alloc Try.zeroValue40 rfl)) ?_
        rintro _ wbd ⟨rfl, bd, fA, _⟩
        refine sv rfl rfl rfl (v_n (vs := encD d) rfl rfl (oneD _) Try.sizeOf40 rfl bd (by decide)) ?_
        rintro wbdb ⟨bb2, fr⟩
        replace bd : Blk wbdb _ 40 (encD d) := bb2
        have FF := fA.trans_new fr (by intro q hq; simp at hq; subst hq; exact .inr (Nat.le_refl _))
        clear fr fA bb2
        replace F := F.trans FF
        clear FF
        refine rl_end rfl ?_
        refine al_k ?_
        refine cl_seq rfl ?_
        refine cl_reg rfl ?_
        refine st rfl rfl rfl rfl (x_ldn rfl Try.isAgg40 Try.sizeOf40 rfl (by intro j v hv; rw [Nat.zero_add]; exact bd.cell hv)) ?_
        refine sc rfl rfl rfl rfl (c_fn rfl Try.call38 (may_c _ d)) ?_
        rintro _ w6 ⟨rfl, fr⟩
        replace F := F.trans fr
        replace bd := bd.fr0 fr
        clear fr
        cases hf6_1 : (decide (okD d))
        · skip
          refine st rfl rfl rfl rfl (x_not0 rfl) ?_
          refine rl_end rfl ?_
          refine al_k ?_
          refine cl_if1 rfl rfl ?_
          refine cl_seq rfl ?_
          refine cl_reg rfl ?_
          refine st rfl rfl rfl rfl (x_asg rfl) ?_
          refine rl_end rfl ?_
          refine al_k ?_
          refine cl_ret rfl ?_
          refine fin1 rfl rfl ?_
          rw [if_neg (fun h : Hist l => of_decide_eq_false hf6_1 (h.2 d (List.mem_of_getElem? hd)))]
          exact ⟨rfl, F⟩
        · skip
          refine st rfl rfl rfl rfl (x_not1 rfl) ?_
          refine rl_end rfl ?_
          refine al_k ?_
          refine cl_if0 rfl rfl ?_
          refine cl_skip rfl ?_
          refine al_k ?_
          refine cl_reg rfl ?_
          refine st rfl rfl rfl rfl (x_add rfl rfl (by omega)) ?_
          refine st rfl rfl rfl rfl (x_move rfl) ?_
          refine rl_end rfl ?_
          refine again (i + 1) (by omega) ⟨rfl, rfl, rfl, trivial⟩ ⟨by omega, ?_, F⟩
          intro j d2 hj h2
          rcases Nat.lt_or_ge j i with h | h
          · exact hok j d2 h h2
          · obtain rfl : j = i := by omega
            rw [hd] at h2
            obtain rfl := Option.some.inj h2
            exact of_decide_eq_true hf6_1
      · skip
        refine rl_end rfl ?_
        refine al_k ?_
        refine cl_seq rfl ?_
        refine cl_if0 rfl rfl ?_
        refine cl_exit rfl ?_
        refine upd_self ?_
        refine al_k ?_
        refine cl_seq rfl ?_
        refine cl_reg rfl ?_
        refine st rfl rfl rfl rfl (x_asg rfl) ?_
        refine rl_end rfl ?_
        refine al_k ?_
        refine cl_ret rfl ?_
        refine fin1 rfl rfl ?_
        rw [if_pos (show Hist l from ⟨by omega, fun d hm => by obtain ⟨j, hj⟩ := List.getElem?_of_mem hm; exact hok j d (by have := (List.getElem?_eq_some_iff.1 hj).1; omega) hj⟩)]
        exact ⟨rfl, F⟩

theorem rcheck_c (w : World) (A : Option Addr) (c : Nat) (l : List D) (HR : RowG encD 6 w A l) (hl : l.length ≤ 1000) : Cl Try.prog 13 [.slice A l.length c] w (fun v w' => v = .int .i64 (if Hist l then 0 else 270) ∧ Fr [] w w') := by
  have F := Fr.refl [] w
  refine enter Try.func13 rfl Try.ntmps13 rfl ?_
  refine cl_seq rfl ?_
  refine cl_reg rfl ?_
  refine st rfl rfl rfl rfl (x_asg rfl) ?_
  refine rl_end rfl ?_
  refine al_k ?_
  refine cl_seq rfl ?_
  refine cl_seq rfl ?_
  refine cl_reg rfl ?_
  refine st rfl rfl rfl rfl (x_move rfl) ?_
  refine st rfl rfl rfl rfl (x_len rfl Try.underlying22) ?_
  refine sf rfl rfl rfl rfl (x_gtr rfl rfl) (fun c1_2 => ?_) (fun c1_2 => ?_)
  · skip
    refine rl_end rfl ?_
    refine al_k ?_
    refine cl_if1 rfl rfl ?_
    refine cl_seq rfl ?_
    refine cl_reg rfl ?_
    refine st rfl rfl rfl rfl (x_asg rfl) ?_
    refine rl_end rfl ?_
    refine al_k ?_
    refine cl_ret rfl ?_
    refine fin1 rfl rfl ?_
    rw [if_neg (fun h : Hist l => by have := h.1; omega)]
    exact ⟨rfl, F⟩
  · skip
    refine rl_end rfl ?_
    refine al_k ?_
    refine cl_if0 rfl rfl ?_
    refine cl_skip rfl ?_
    refine al_k ?_
    refine cl_seq rfl ?_
    refine cl_seq rfl ?_
    refine cl_reg rfl ?_
    refine st rfl rfl rfl rfl (x_asg rfl) ?_
    refine rl_end rfl ?_
    refine al_k ?_
    refine cl_block rfl ?_
    refine cl_loop (fun i : Nat => [(3, .int .i64 i), (0, .slice A l.length c)]) (fun i w' => i ≤ l.length ∧ (∀ (j : Nat) d, j < i → l[j]? = some d → okD d) ∧ Fr [] w w') (fun i => l.length - i) 0 rfl ⟨rfl, rfl, trivial⟩ ?_ ?_
    · exact ⟨Nat.zero_le _, fun j d h => absurd h (by omega), F⟩
    · skip
      rintro i wr ⟨hi, hok, F⟩
      refine cl_seq rfl ?_
      refine cl_seq rfl ?_
      refine cl_reg rfl ?_
      refine st rfl rfl rfl rfl (x_move rfl) ?_
      refine st rfl rfl rfl rfl (x_move rfl) ?_
      refine st rfl rfl rfl rfl (x_len rfl Try.underlying22) ?_
      refine sf rfl rfl rfl rfl (x_lss rfl rfl) (fun c4_3 => ?_) (fun c4_3 => ?_)
      · skip
        refine rl_end rfl ?_
        refine al_k ?_
        refine cl_if1 rfl rfl ?_
        refine cl_skip rfl ?_
        refine al_k ?_
        refine cl_seq rfl ?_
        refine cl_block rfl ?_
        refine cl_seq rfl ?_
        obtain ⟨d, hd⟩ : ∃ d, l[i]? = some d := ⟨_, List.getElem?_eq_getElem (by omega)⟩
        obtain ⟨a, rfl, hc⟩ := HR i d hd
        refine cl_reg rfl ?_
        refine st rfl rfl rfl rfl (x_move rfl) ?_
        refine st rfl rfl rfl rfl (x_move rfl) ?_
        refine st rfl rfl rfl rfl (x_iag rfl rfl Try.underlying22 Try.sizeOf40 (by omega)) ?_
        refine st rfl rfl rfl rfl (x_ldg (cs := encD d) rfl Try.isAgg40 Try.sizeOf40 rfl (fun j v h => F.cell (hc j v h) (by simp))) ?_
        refine se rfl rfl rfl rfl (e_new (x_alloc Try.zeroValue40 rfl)) ?_
        rintro _ wbd ⟨rfl, bd, fA, _⟩
        refine sv rfl rfl rfl (v_n (vs := encD d) rfl rfl (oneD _) Try.sizeOf40 rfl bd (by decide)) ?_
        rintro wbdb ⟨bb2, fr⟩
        replace bd : Blk wbdb _ 40 (encD d) := bb2
        have FF := fA.trans_new fr (by intro q hq; simp at hq; subst hq; exact .inr (Nat.le_refl _))
        clear fr fA bb2
        replace F := F.trans FF
        clear FF
        refine rl_end rfl ?_
        refine al_k ?_
        refine cl_seq rfl ?_
        refine cl_reg rfl ?_
        refine st rfl rfl rfl rfl (x_fa rfl Try.underlying40 rfl Try.sizeOf37 0 rfl) ?_
        refine st rfl rfl rfl rfl (x_ld rfl Try.isAgg37 (bd.cell rfl)) ?_
        refine sf rfl rfl rfl rfl (x_lss rfl rfl) (fun c7_2 => ?_) (fun c7_2 => ?_)
        · skip
          refine st rfl rfl rfl rfl (x_move rfl) ?_
          refine so rfl rfl rfl rfl ?_
          refine so rfl rfl rfl rfl ?_
          refine so rfl rfl rfl rfl ?_
          refine st rfl rfl rfl rfl (x_pick1 rfl rfl) ?_
          refine st rfl rfl rfl rfl (x_move rfl) ?_
          refine so rfl rfl rfl rfl ?_
          refine so rfl rfl rfl rfl ?_
          refine so rfl rfl rfl rfl ?_
          refine st rfl rfl rfl rfl (x_pick1 rfl rfl) ?_
          refine st rfl rfl rfl rfl (x_move rfl) ?_
          refine so rfl rfl rfl rfl ?_
          refine so rfl rfl rfl rfl ?_
          refine so rfl rfl rfl rfl ?_
          refine st rfl rfl rfl rfl (x_pick1 rfl rfl) ?_
          refine st rfl rfl rfl rfl (x_move rfl) ?_
          refine so rfl rfl rfl rfl ?_
          refine so rfl rfl rfl rfl ?_
          refine so rfl rfl rfl rfl ?_
          refine so rfl rfl rfl rfl ?_
          refine so rfl rfl rfl rfl ?_
          refine so rfl rfl rfl rfl ?_
          refine so rfl rfl rfl rfl ?_
          refine so rfl rfl rfl rfl ?_
          refine so rfl rfl rfl rfl ?_
          refine so rfl rfl rfl rfl ?_
          refine st rfl rfl rfl rfl (x_pick1 rfl rfl) ?_
          refine rl_end rfl ?_
          refine al_k ?_
          refine cl_if1 rfl rfl ?_
          refine cl_seq rfl ?_
          refine cl_reg rfl ?_
          refine st rfl rfl rfl rfl (x_asg rfl) ?_
          refine rl_end rfl ?_
          refine al_k ?_
          refine cl_ret rfl ?_
          refine fin1 rfl rfl ?_
          rw [if_neg (fun h : Hist l => by have h0 := h.2 d (List.mem_of_getElem? hd); have h1 := h0.1; have h2 := h0.2.1; have h3 := h0.2.2; (try rw [hf7_20] at h3); rcases h3 with h3 | h3 <;> first | omega | cases h3)]
          exact ⟨rfl, F⟩
        · skip
          refine st rfl rfl rfl rfl (x_move rfl) ?_
          refine st rfl rfl rfl rfl (x_fa rfl Try.underlying40 rfl Try.sizeOf37 0 rfl) ?_
          refine st rfl rfl rfl rfl (x_ld rfl Try.isAgg37 (bd.cell rfl)) ?_
          refine sf rfl rfl rfl rfl (x_gtr rfl rfl) (fun c7_6 => ?_) (fun c7_6 => ?_)
          · skip
            refine st rfl rfl rfl rfl (x_pick0 rfl rfl) ?_
            refine st rfl rfl rfl rfl (x_move rfl) ?_
            refine so rfl rfl rfl rfl ?_
            refine so rfl rfl rfl rfl ?_
            refine so rfl rfl rfl rfl ?_
            refine st rfl rfl rfl rfl (x_pick1 rfl rfl) ?_
            refine st rfl rfl rfl rfl (x_move rfl) ?_
            refine so rfl rfl rfl rfl ?_
            refine so rfl rfl rfl rfl ?_
            refine so rfl rfl rfl rfl ?_
            refine st rfl rfl rfl rfl (x_pick1 rfl rfl) ?_
            refine st rfl rfl rfl rfl (x_move rfl) ?_
            refine so rfl rfl rfl rfl ?_
            refine so rfl rfl rfl rfl ?_
            refine so rfl rfl rfl rfl ?_
            refine so rfl rfl rfl rfl ?_
            refine so rfl rfl rfl rfl ?_
            refine so rfl rfl rfl rfl ?_
            refine so rfl rfl rfl rfl ?_
            refine so rfl rfl rfl rfl ?_
            refine so rfl rfl rfl rfl ?_
            refine so rfl rfl rfl rfl ?_
            refine st rfl rfl rfl rfl (x_pick1 rfl rfl) ?_
            refine rl_end rfl ?_
            refine al_k ?_
            refine cl_if1 rfl rfl ?_
            refine cl_seq rfl ?_
            refine cl_reg rfl ?_
            refine st rfl rfl rfl rfl (x_asg rfl) ?_
            refine rl_end rfl ?_
            refine al_k ?_
            refine cl_ret rfl ?_
            refine fin1 rfl rfl ?_
            rw [if_neg (fun h : Hist l => by have h0 := h.2 d (List.mem_of_getElem? hd); have h1 := h0.1; have h2 := h0.2.1; have h3 := h0.2.2; (try rw [hf7_20] at h3); rcases h3 with h3 | h3 <;> first | omega | cases h3)]
            exact ⟨rfl, F⟩
          · skip
            refine st rfl rfl rfl rfl (x_pick0 rfl rfl) ?_
            refine st rfl rfl rfl rfl (x_move rfl) ?_
            refine st rfl rfl rfl rfl (x_fa rfl Try.underlying40 rfl Try.sizeOf3 1 rfl) ?_
            refine st rfl rfl rfl rfl (x_ld rfl Try.isAgg3 (bd.cell rfl)) ?_
            refine sf rfl rfl rfl rfl (x_lss rfl rfl) (fun c7_11 => ?_) (fun c7_11 => ?_)
            · skip
              refine st rfl rfl rfl rfl (x_pick0 rfl rfl) ?_
              refine st rfl rfl rfl rfl (x_move rfl) ?_
              refine so rfl rfl rfl rfl ?_
              refine so rfl rfl rfl rfl ?_
              refine so rfl rfl rfl rfl ?_
              refine st rfl rfl rfl rfl (x_pick1 rfl rfl) ?_
              refine st rfl rfl rfl rfl (x_move rfl) ?_
              refine so rfl rfl rfl rfl ?_
              refine so rfl rfl rfl rfl ?_
              refine so rfl rfl rfl rfl ?_
              refine so rfl rfl rfl rfl ?_
              refine so rfl rfl rfl rfl ?_
              refine so rfl rfl rfl rfl ?_
              refine so rfl rfl rfl rfl ?_
              refine so rfl rfl rfl rfl ?_
              refine so rfl rfl rfl rfl ?_
              refine so rfl rfl rfl rfl ?_
              refine st rfl rfl rfl rfl (x_pick1 rfl rfl) ?_
              refine rl_end rfl ?_
              refine al_k ?_
              refine cl_if1 rfl rfl ?_
              refine cl_seq rfl ?_
              refine cl_reg rfl ?_
              refine st rfl rfl rfl rfl (x_asg rfl) ?_
              refine rl_end rfl ?_
              refine al_k ?_
              refine cl_ret rfl ?_
              refine fin1 rfl rfl ?_
              rw [if_neg (fun h : Hist l => by have h0 := h.2 d (List.mem_of_getElem? hd); have h1 := h0.1; have h2 := h0.2.1; have h3 := h0.2.2; (try rw [hf7_20] at h3); rcases h3 with h3 | h3 <;> first | omega | cases h3)]
              exact ⟨rfl, F⟩
            · skip
              refine st rfl rfl rfl rfl (x_pick0 rfl rfl) ?_
              refine st rfl rfl rfl rfl (x_move rfl) ?_
              refine st rfl rfl rfl rfl (x_fa rfl Try.underlying40 rfl Try.sizeOf3 1 rfl) ?_
              refine st rfl rfl rfl rfl (x_ld rfl Try.isAgg3 (bd.cell rfl)) ?_
              refine sf rfl rfl rfl rfl (x_gtr rfl rfl) (fun c7_16 => ?_) (fun c7_16 => ?_)
              · skip
                refine st rfl rfl rfl rfl (x_pick0 rfl rfl) ?_
                refine st rfl rfl rfl rfl (x_move rfl) ?_
                refine so rfl rfl rfl rfl ?_
                refine so rfl rfl rfl rfl ?_
                refine so rfl rfl rfl rfl ?_
                refine so rfl rfl rfl rfl ?_
                refine so rfl rfl rfl rfl ?_
                refine so rfl rfl rfl rfl ?_
                refine so rfl rfl rfl rfl ?_
                refine so rfl rfl rfl rfl ?_
                refine so rfl rfl rfl rfl ?_
                refine so rfl rfl rfl rfl ?_
                refine st rfl rfl rfl rfl (x_pick1 rfl rfl) ?_
                refine rl_end rfl ?_
                refine al_k ?_
                refine cl_if1 rfl rfl ?_
                refine cl_seq rfl ?_
                refine cl_reg rfl ?_
                refine st rfl rfl rfl rfl (x_asg rfl) ?_
                refine rl_end rfl ?_
                refine al_k ?_
                refine cl_ret rfl ?_
                refine fin1 rfl rfl ?_
                rw [if_neg (fun h : Hist l => by have h0 := h.2 d (List.mem_of_getElem? hd); have h1 := h0.1; have h2 := h0.2.1; have h3 := h0.2.2; (try rw [hf7_20] at h3); rcases h3 with h3 | h3 <;> first | omega | cases h3)]
                exact ⟨rfl, F⟩
              · skip
                refine st rfl rfl rfl rfl (x_pick0 rfl rfl) ?_
                refine st rfl rfl rfl rfl (x_move rfl) ?_
                refine st rfl rfl rfl rfl (x_fa rfl Try.underlying40 rfl Try.sizeOf4 5 rfl) ?_
                refine st rfl rfl rfl rfl (x_ld rfl Try.isAgg4 (bd.cell rfl)) ?_
                cases hf7_20 : (d.opn)
                · skip
                  refine st rfl rfl rfl rfl (x_not0 rfl) ?_
                  refine st rfl rfl rfl rfl (x_move rfl) ?_
                  refine st rfl rfl rfl rfl (x_fa rfl Try.underlying40 rfl Try.sizeOf3 3 rfl) ?_
                  refine st rfl rfl rfl rfl (x_ld rfl Try.isAgg3 (bd.cell rfl)) ?_
                  refine st rfl rfl rfl rfl (x_fa rfl Try.underlying40 rfl Try.sizeOf3 4 rfl) ?_
                  refine st rfl rfl rfl rfl (x_ld rfl Try.isAgg3 (bd.cell rfl)) ?_
                  refine sf rfl rfl rfl rfl (x_gtr rfl rfl) (fun c7_27 => ?_) (fun c7_27 => ?_)
                  · skip
                    refine st rfl rfl rfl rfl (x_pick1 rfl rfl) ?_
                    refine st rfl rfl rfl rfl (x_pick0 rfl rfl) ?_
                    refine rl_end rfl ?_
                    refine al_k ?_
                    refine cl_if1 rfl rfl ?_
                    refine cl_seq rfl ?_
                    refine cl_reg rfl ?_
                    refine st rfl rfl rfl rfl (x_asg rfl) ?_
                    refine rl_end rfl ?_
                    refine al_k ?_
                    refine cl_ret rfl ?_
                    refine fin1 rfl rfl ?_
                    rw [if_neg (fun h : Hist l => by have h0 := h.2 d (List.mem_of_getElem? hd); have h1 := h0.1; have h2 := h0.2.1; have h3 := h0.2.2; (try rw [hf7_20] at h3); rcases h3 with h3 | h3 <;> first | omega | cases h3)]
                    exact ⟨rfl, F⟩
                  · skip
                    refine st rfl rfl rfl rfl (x_pick1 rfl rfl) ?_
                    refine st rfl rfl rfl rfl (x_pick0 rfl rfl) ?_
                    refine rl_end rfl ?_
                    refine al_k ?_
                    refine cl_if0 rfl rfl ?_
                    refine cl_skip rfl ?_
                    refine al_k ?_
                    refine cl_reg rfl ?_
                    refine st rfl rfl rfl rfl (x_move rfl) ?_
                    refine st rfl rfl rfl rfl (x_add rfl rfl (by omega)) ?_
                    refine st rfl rfl rfl rfl (x_asg rfl) ?_
                    refine rl_end rfl ?_
                    refine again (i + 1) (by omega) ⟨rfl, rfl, trivial⟩ ⟨by omega, ?_, F⟩
                    intro j d2 hj h2
                    rcases Nat.lt_or_ge j i with h | h
                    · exact hok j d2 h h2
                    · obtain rfl : j = i := by omega
                      rw [hd] at h2
                      obtain rfl := Option.some.inj h2
                      exact ⟨by omega, by omega, by first | exact .inr (by omega) | exact .inl hf7_20⟩
                · skip
                  refine st rfl rfl rfl rfl (x_not1 rfl) ?_
                  refine st rfl rfl rfl rfl (x_move rfl) ?_
                  refine so rfl rfl rfl rfl ?_
                  refine so rfl rfl rfl rfl ?_
                  refine so rfl rfl rfl rfl ?_
                  refine so rfl rfl rfl rfl ?_
                  refine so rfl rfl rfl rfl ?_
                  refine st rfl rfl rfl rfl (x_pick0 rfl rfl) ?_
                  refine st rfl rfl rfl rfl (x_pick0 rfl rfl) ?_
                  refine rl_end rfl ?_
                  refine al_k ?_
                  refine cl_if0 rfl rfl ?_
                  refine cl_skip rfl ?_
                  refine al_k ?_
                  refine cl_reg rfl ?_
                  refine st rfl rfl rfl rfl (x_move rfl) ?_
                  refine st rfl rfl rfl rfl (x_add rfl rfl (by omega)) ?_
                  refine st rfl rfl rfl rfl (x_asg rfl) ?_
                  refine rl_end rfl ?_
                  refine again (i + 1) (by omega) ⟨rfl, rfl, trivial⟩ ⟨by omega, ?_, F⟩
                  intro j d2 hj h2
                  rcases Nat.lt_or_ge j i with h | h
                  · exact hok j d2 h h2
                  · obtain rfl : j = i := by omega
                    rw [hd] at h2
                    obtain rfl := Option.some.inj h2
                    exact ⟨by omega, by omega, by first | exact .inr (by omega) | exact .inl hf7_20⟩
      · skip
        refine rl_end rfl ?_
        refine al_k ?_
        refine cl_if0 rfl rfl ?_
        refine cl_exit rfl ?_
        refine upd_self ?_
        refine al_k ?_
        refine cl_seq rfl ?_
        refine cl_reg rfl ?_
        refine st rfl rfl rfl rfl (x_asg rfl) ?_
        refine rl_end rfl ?_
        refine al_k ?_
        refine cl_ret rfl ?_
        refine fin1 rfl rfl ?_
        rw [if_pos (show Hist l from ⟨by omega, fun d hm => by obtain ⟨j, hj⟩ := List.getElem?_of_mem hm; exact hok j d (by have := (List.getElem?_eq_some_iff.1 hj).1; omega) hj⟩)]
        exact ⟨rfl, F⟩

theorem has_c (w : World) (A2 : Option Addr) (c2 : Nat) (row : List Int) (HI : RowG encI 1 w A2 row) (hr : row.length ≤ 100000) (n : Int) : Cl Try.prog 43 [.slice A2 row.length c2, .int .i64 n] w (fun v w' => v = .bool (decide (n ∈ row)) ∧ w' = w) := by
  refine enter Try.func43 rfl Try.ntmps43 rfl ?_
  refine cl_seq rfl ?_
  refine cl_reg rfl ?_
  refine st rfl rfl rfl rfl (x_asg rfl) ?_
  refine rl_end rfl ?_
  refine al_k ?_
  refine cl_seq rfl ?_
  refine cl_seq rfl ?_
  refine cl_reg rfl ?_
  refine st rfl rfl rfl rfl (x_asg rfl) ?_
  refine rl_end rfl ?_
  refine al_k ?_
  refine cl_block rfl ?_
  refine cl_loop (fun i : Nat => [(5, .int .i64 i), (0, .slice A2 row.length c2), (1, .int .i64 n)]) (fun i w' => w' = w ∧ i ≤ row.length ∧ n ∉ row.take i) (fun i => row.length - i) 0 rfl ⟨rfl, rfl, rfl, trivial⟩ ?_ ?_
  · exact ⟨rfl, Nat.zero_le _, by simp⟩
  · skip
    rintro i wk ⟨hwk, hi, hno⟩
    obtain rfl := hwk.symm
    refine cl_seq rfl ?_
    refine cl_seq rfl ?_
    refine cl_reg rfl ?_
    refine st rfl rfl rfl rfl (x_move rfl) ?_
    refine st rfl rfl rfl rfl (x_move rfl) ?_
    refine st rfl rfl rfl rfl (x_len rfl Try.underlying24) ?_
    refine sf rfl rfl rfl rfl (x_lss rfl rfl) (fun c2_3 => ?_) (fun c2_3 => ?_)
    · skip
      refine rl_end rfl ?_
      refine al_k ?_
      refine cl_if1 rfl rfl ?_
      refine cl_skip rfl ?_
      refine al_k ?_
      refine cl_seq rfl ?_
      refine cl_block rfl ?_
      refine cl_seq rfl ?_
      obtain ⟨z, hz⟩ : ∃ z, row[i]? = some z := ⟨_, List.getElem?_eq_getElem (by omega)⟩
      obtain ⟨a2, rfl, hcz⟩ := RowI.at_ HI hz
      refine cl_reg rfl ?_
      refine st rfl rfl rfl rfl (x_move rfl) ?_
      refine st rfl rfl rfl rfl (x_move rfl) ?_
      refine st rfl rfl rfl rfl (x_iag rfl rfl Try.underlying24 Try.sizeOf3 (by omega)) ?_
      refine st rfl rfl rfl rfl (x_ld rfl Try.isAgg3 hcz) ?_
      refine st rfl rfl rfl rfl (x_move rfl) ?_
      refine sf rfl rfl rfl rfl (x_eql rfl rfl) (fun c4_5 => ?_) (fun c4_5 => ?_)
      · skip
        refine rl_end rfl ?_
        refine al_k ?_
        refine cl_if1 rfl rfl ?_
        refine cl_seq rfl ?_
        refine cl_reg rfl ?_
        refine st rfl rfl rfl rfl (x_asg rfl) ?_
        refine rl_end rfl ?_
        refine al_k ?_
        refine cl_ret rfl ?_
        refine fin1 rfl rfl ?_
        rw [decide_eq_true (show n ∈ row from by rw [← c4_5]; exact List.mem_of_getElem? hz)]
        exact ⟨rfl, rfl⟩
      · skip
        refine rl_end rfl ?_
        refine al_k ?_
        refine cl_if0 rfl rfl ?_
        refine cl_skip rfl ?_
        refine al_k ?_
        refine cl_reg rfl ?_
        refine st rfl rfl rfl rfl (x_move rfl) ?_
        refine st rfl rfl rfl rfl (x_add rfl rfl (by omega)) ?_
        refine st rfl rfl rfl rfl (x_asg rfl) ?_
        refine rl_end rfl ?_
        refine again (i + 1) (by omega) ⟨rfl, rfl, rfl, trivial⟩ ⟨rfl, by omega, ?_⟩
        rw [List.take_add_one, hz]
        simp only [Option.toList, List.mem_append, List.mem_singleton, not_or]
        exact ⟨hno, fun e => c4_5 e.symm⟩
    · skip
      refine rl_end rfl ?_
      refine al_k ?_
      refine cl_if0 rfl rfl ?_
      refine cl_exit rfl ?_
      refine upd_self ?_
      refine al_k ?_
      refine cl_seq rfl ?_
      refine cl_reg rfl ?_
      refine st rfl rfl rfl rfl (x_asg rfl) ?_
      refine rl_end rfl ?_
      refine al_k ?_
      refine cl_ret rfl ?_
      refine fin1 rfl rfl ?_
      have e : i = row.length := by omega
      subst e
      rw [List.take_length] at hno
      rw [decide_eq_false hno]
      exact ⟨rfl, rfl⟩

theorem all_c (w : World) (A : Option Addr) (c : Nat) (l : List D) (HR : RowG encD 6 w A l) (A2 : Option Addr) (c2 : Nat) (row : List Int) (HI : RowG encI 1 w A2 row) (hl : l.length ≤ 1000) (hr : row.length ≤ 100000) : Cl Try.prog 32 [.slice A l.length c, .slice A2 row.length c2] w (fun v w' => v = .bool (dc (allI l row)) ∧ w' = w) := by
  refine enter Try.func32 rfl Try.ntmps32 rfl ?_
  refine cl_seq rfl ?_
  refine cl_reg rfl ?_
  refine st rfl rfl rfl rfl (x_asg rfl) ?_
  refine rl_end rfl ?_
  refine al_k ?_
  refine cl_seq rfl ?_
  refine cl_seq rfl ?_
  refine cl_reg rfl ?_
  refine st rfl rfl rfl rfl (x_asg rfl) ?_
  refine rl_end rfl ?_
  refine al_k ?_
  refine cl_block rfl ?_
  refine cl_loop (fun i : Nat => [(5, .int .i64 i), (0, .slice A l.length c), (1, .slice A2 row.length c2)]) (fun i w' => w' = w ∧ i ≤ l.length ∧ ∀ (j : Nat) d, j < i → l[j]? = some d → d.opn = false → (j : Int) ∈ row) (fun i => l.length - i) 0 rfl ⟨rfl, rfl, rfl, trivial⟩ ?_ ?_
  · exact ⟨rfl, Nat.zero_le _, fun j d h => absurd h (by omega)⟩
  · skip
    rintro i wk ⟨hwk, hi, hok⟩
    obtain rfl := hwk.symm
    refine cl_seq rfl ?_
    refine cl_seq rfl ?_
    refine cl_reg rfl ?_
    refine st rfl rfl rfl rfl (x_move rfl) ?_
    refine st rfl rfl rfl rfl (x_move rfl) ?_
    refine st rfl rfl rfl rfl (x_len rfl Try.underlying22) ?_
    refine sf rfl rfl rfl rfl (x_lss rfl rfl) (fun c2_3 => ?_) (fun c2_3 => ?_)
    · skip
      refine rl_end rfl ?_
      refine al_k ?_
      refine cl_if1 rfl rfl ?_
      refine cl_skip rfl ?_
      refine al_k ?_
      refine cl_seq rfl ?_
      refine cl_block rfl ?_
      refine cl_seq rfl ?_
      obtain ⟨d, hd⟩ : ∃ d, l[i]? = some d := ⟨_, List.getElem?_eq_getElem (by omega)⟩
      obtain ⟨a, rfl, hc⟩ := HR i d hd
      refine cl_reg rfl ?_
      refine st rfl rfl rfl rfl (x_move rfl) ?_
      refine st rfl rfl rfl rfl (x_move rfl) ?_
      refine st rfl rfl rfl rfl (x_iag rfl rfl Try.underlying22 Try.sizeOf40 (by omega)) ?_
      refine st rfl rfl rfl rfl (x_fag rfl Try.underlying40 rfl Try.sizeOf4 5 rfl) ?_
      refine st rfl rfl rfl rfl (x_ld rfl Try.isAgg4 (hc 5 _ rfl)) ?_
      cases hf4_4 : (d.opn)
      · skip
        refine st rfl rfl rfl rfl (x_not0 rfl) ?_
        refine st rfl rfl rfl rfl (x_move rfl) ?_
        refine st rfl rfl rfl rfl (x_move rfl) ?_
        refine st rfl rfl rfl rfl (x_move rfl) ?_
        refine sc rfl rfl rfl rfl (c_fn rfl Try.call43 (has_c _ A2 c2 row HI hr (i : Int))) ?_
        rintro _ wk ⟨rfl, hwk⟩
        obtain rfl := hwk.symm
        cases hf4_9 : (decide ((i : Int) ∈ row))
        · skip
          refine st rfl rfl rfl rfl (x_not0 rfl) ?_
          refine st rfl rfl rfl rfl (x_pick1 rfl rfl) ?_
          refine rl_end rfl ?_
          refine al_k ?_
          refine cl_if1 rfl rfl ?_
          refine cl_seq rfl ?_
          refine cl_reg rfl ?_
          refine st rfl rfl rfl rfl (x_asg rfl) ?_
          refine rl_end rfl ?_
          refine al_k ?_
          refine cl_ret rfl ?_
          refine fin1 rfl rfl ?_
          rw [dc_false (P := allI l row) (fun h => of_decide_eq_false hf4_9 (h i d hd hf4_4))]
          exact ⟨rfl, rfl⟩
        · skip
          refine st rfl rfl rfl rfl (x_not1 rfl) ?_
          refine st rfl rfl rfl rfl (x_pick1 rfl rfl) ?_
          refine rl_end rfl ?_
          refine al_k ?_
          refine cl_if0 rfl rfl ?_
          refine cl_skip rfl ?_
          refine al_k ?_
          refine cl_reg rfl ?_
          refine st rfl rfl rfl rfl (x_move rfl) ?_
          refine st rfl rfl rfl rfl (x_add rfl rfl (by omega)) ?_
          refine st rfl rfl rfl rfl (x_asg rfl) ?_
          refine rl_end rfl ?_
          refine again (i + 1) (by omega) ⟨rfl, rfl, rfl, trivial⟩ ⟨rfl, by omega, ?_⟩
          intro j d2 hj h2 ho
          rcases Nat.lt_or_ge j i with h | h
          · exact hok j d2 h h2 ho
          · obtain rfl : j = i := by omega
            rw [hd] at h2
            obtain rfl := Option.some.inj h2
            first | exact of_decide_eq_true hf4_9 | (rw [hf4_4] at ho; cases ho)
      · skip
        refine st rfl rfl rfl rfl (x_not1 rfl) ?_
        refine st rfl rfl rfl rfl (x_move rfl) ?_
        refine so rfl rfl rfl rfl ?_
        refine so rfl rfl rfl rfl ?_
        refine so rfl rfl rfl rfl ?_
        refine so rfl rfl rfl rfl ?_
        refine st rfl rfl rfl rfl (x_pick0 rfl rfl) ?_
        refine rl_end rfl ?_
        refine al_k ?_
        refine cl_if0 rfl rfl ?_
        refine cl_skip rfl ?_
        refine al_k ?_
        refine cl_reg rfl ?_
        refine st rfl rfl rfl rfl (x_move rfl) ?_
        refine st rfl rfl rfl rfl (x_add rfl rfl (by omega)) ?_
        refine st rfl rfl rfl rfl (x_asg rfl) ?_
        refine rl_end rfl ?_
        refine again (i + 1) (by omega) ⟨rfl, rfl, rfl, trivial⟩ ⟨rfl, by omega, ?_⟩
        intro j d2 hj h2 ho
        rcases Nat.lt_or_ge j i with h | h
        · exact hok j d2 h h2 ho
        · obtain rfl : j = i := by omega
          rw [hd] at h2
          obtain rfl := Option.some.inj h2
          first | exact of_decide_eq_true hf4_9 | (rw [hf4_4] at ho; cases ho)
    · skip
      refine rl_end rfl ?_
      refine al_k ?_
      refine cl_if0 rfl rfl ?_
      refine cl_exit rfl ?_
      refine upd_self ?_
      refine al_k ?_
      refine cl_seq rfl ?_
      refine cl_reg rfl ?_
      refine st rfl rfl rfl rfl (x_asg rfl) ?_
      refine rl_end rfl ?_
      refine al_k ?_
      refine cl_ret rfl ?_
      refine fin1 rfl rfl ?_
      rw [dc_true (P := allI l row) (fun j d hj ho => hok j d (by have := (List.getElem?_eq_some_iff.1 hj).1; omega) hj ho)]
      exact ⟨rfl, rfl⟩

theorem fits_c (w : World) (A : Option Addr) (c : Nat) (l : List D) (HR : RowG encD 6 w A l) (A2 : Option Addr) (c2 : Nat) (row : List Int) (HI : RowG encI 1 w A2 row) (hl : l.length ≤ 1000) (hr : row.length ≤ 100000) (hrow : okRow l row) (n : Int) (hn : 0 ≤ n ∧ n < (l.length : Int)) : Cl Try.prog 31 [.slice A l.length c, .slice A2 row.length c2, .int .i64 n] w (fun v w' => v = .bool (dc (fitsI l row n)) ∧ Fr [] w w') := by
  have F := Fr.refl [] w
  refine enter Try.func31 rfl Try.ntmps31 rfl ?_
  refine cl_seq rfl ?_
  refine cl_reg rfl ?_
  refine st rfl rfl rfl rfl (x_asg rfl) ?_
  refine rl_end rfl ?_
  refine al_k ?_
  refine cl_seq rfl ?_
  refine cl_seq rfl ?_
  refine cl_reg rfl ?_
  refine st rfl rfl rfl rfl (x_move rfl) ?_
  refine st rfl rfl rfl rfl (x_move rfl) ?_
  refine sc rfl rfl rfl rfl (c_fn rfl Try.call43 (has_c _ A2 c2 row HI hr n)) ?_
  rintro _ wk ⟨rfl, hwk⟩
  obtain rfl := hwk.symm
  cases hf1_2 : (decide (n ∈ row))
  · skip
    refine rl_end rfl ?_
    refine al_k ?_
    refine cl_if0 rfl rfl ?_
    refine cl_skip rfl ?_
    refine al_k ?_
    refine cl_seq rfl ?_
    refine cl_seq rfl ?_
    refine cl_reg rfl ?_
    refine st rfl rfl rfl rfl (x_asg rfl) ?_
    refine rl_end rfl ?_
    refine al_k ?_
    refine cl_block rfl ?_
    refine cl_loop (fun i : Nat => [(7, .int .i64 i), (0, .slice A l.length c), (1, .slice A2 row.length c2), (2, .int .i64 n)]) (fun i w' => i ≤ row.length ∧ (∀ z ∈ row.take i, ¬ ahead (atI l n) (atI l z)) ∧ Fr [] w w') (fun i => row.length - i) 0 rfl ⟨rfl, rfl, rfl, rfl, trivial⟩ ?_ ?_
    · exact ⟨Nat.zero_le _, by simp, F⟩
    · skip
      rintro i wr ⟨hi, hno, F⟩
      refine cl_seq rfl ?_
      refine cl_seq rfl ?_
      refine cl_reg rfl ?_
      refine st rfl rfl rfl rfl (x_move rfl) ?_
      refine st rfl rfl rfl rfl (x_move rfl) ?_
      refine st rfl rfl rfl rfl (x_len rfl Try.underlying24) ?_
      refine sf rfl rfl rfl rfl (x_lss rfl rfl) (fun c4_3 => ?_) (fun c4_3 => ?_)
      · skip
        refine rl_end rfl ?_
        refine al_k ?_
        refine cl_if1 rfl rfl ?_
        refine cl_skip rfl ?_
        refine al_k ?_
        refine cl_seq rfl ?_
        refine cl_block rfl ?_
        refine cl_seq rfl ?_
        obtain ⟨dq, hdq⟩ : ∃ d, l[n.toNat]? = some d := ⟨_, List.getElem?_eq_getElem (by omega)⟩
        obtain ⟨a, rfl, hcn⟩ := HR _ dq hdq
        obtain ⟨z, hz⟩ : ∃ z, row[i]? = some z := ⟨_, List.getElem?_eq_getElem (by omega)⟩
        obtain ⟨a2, rfl, hcz⟩ := RowI.at_ HI hz
        obtain ⟨hz0, hz1⟩ := hrow z (List.mem_of_getElem? hz)
        obtain ⟨dz, hdz⟩ : ∃ d, l[z.toNat]? = some d := ⟨_, List.getElem?_eq_getElem (by omega)⟩
        obtain ⟨a_, ea, hcd⟩ := HR _ dz hdz
        obtain rfl := Option.some.inj ea
        refine cl_draw (by kernel_rfl) rfl [11] (fun w' => w'.heap = wr.heap) ?_
        rintro wd6 frd6 hpd6
        refine ⟨hpd6, ?_⟩
        refine dt (i := 0) rfl rfl rfl rfl (by kernel_rfl) (fun _ => x_move rfl) ?_
        refine dt (i := 1) rfl rfl rfl rfl (by kernel_rfl) (fun _ => x_move rfl) ?_
        refine dt (i := 2) rfl rfl rfl rfl (by kernel_rfl) (fun _ => x_iag rfl rfl Try.underlying22 Try.sizeOf40 (by omega)) ?_
        refine dlt (i := 3) rfl rfl rfl rfl (by kernel_rfl) (by kernel_rfl) (fun w' hU => x_ldg (cs := encD dq) rfl Try.isAgg40 Try.sizeOf40 rfl (fun j v h => heq hU (F.cell (hcn j v h) (by simp)))) ?_
        refine dt (i := 4) rfl rfl rfl rfl (by kernel_rfl) (fun _ => x_move rfl) ?_
        refine dt (i := 5) rfl rfl rfl rfl (by kernel_rfl) (fun _ => x_move rfl) ?_
        refine dt (i := 6) rfl rfl rfl rfl (by kernel_rfl) (fun _ => x_move rfl) ?_
        refine dt (i := 7) rfl rfl rfl rfl (by kernel_rfl) (fun _ => x_iag rfl rfl Try.underlying24 Try.sizeOf3 (by omega)) ?_
        refine dlt (i := 8) rfl rfl rfl rfl (by kernel_rfl) (by kernel_rfl) (fun w' hU => x_ld rfl Try.isAgg3 (heq hU (F.cell hcz (by simp)))) ?_
        refine dt (i := 9) rfl rfl rfl rfl (by kernel_rfl) (fun _ => x_iag rfl rfl Try.underlying22 Try.sizeOf40 (by omega)) ?_
        refine dlt (i := 10) rfl rfl rfl rfl (by kernel_rfl) (by kernel_rfl) (fun w' hU => x_ldg (cs := encD dz) rfl Try.isAgg40 Try.sizeOf40 rfl (fun j v h => heq hU (F.cell (hcd j v h) (by simp)))) ?_
        replace F := F.trans frd6
        refine d1 (i := 11) (by kernel_rfl) ?_
        refine oc rfl rfl rfl rfl (c_fn rfl Try.call21 (rahead_c _ dq dz)) ?_
        rintro _ w6 ⟨rfl, fr⟩
        replace F := F.trans fr
        clear fr
        refine ⟨.inl (by kernel_rfl), ?_⟩
        cases hf6_11 : (decide (ahead dq dz))
        · skip
          refine dn (by kernel_rfl) ?_
          refine al_k ?_
          refine cl_if0 rfl rfl ?_
          refine cl_skip rfl ?_
          refine al_k ?_
          refine cl_reg rfl ?_
          refine st rfl rfl rfl rfl (x_move rfl) ?_
          refine st rfl rfl rfl rfl (x_add rfl rfl (by omega)) ?_
          refine st rfl rfl rfl rfl (x_asg rfl) ?_
          refine rl_end rfl ?_
          refine again (i + 1) (by omega) ⟨rfl, rfl, rfl, rfl, trivial⟩ ⟨by omega, ?_, F⟩
          intro y hy
          rw [List.take_add_one, hz] at hy
          simp only [Option.toList, List.mem_append, List.mem_singleton] at hy
          rcases hy with hy | rfl
          · exact hno y hy
          · rw [atI_some hdq, atI_some hdz]; exact of_decide_eq_false hf6_11
        · skip
          refine dn (by kernel_rfl) ?_
          refine al_k ?_
          refine cl_if1 rfl rfl ?_
          refine cl_seq rfl ?_
          refine cl_reg rfl ?_
          refine st rfl rfl rfl rfl (x_asg rfl) ?_
          refine rl_end rfl ?_
          refine al_k ?_
          refine cl_ret rfl ?_
          refine fin1 rfl rfl ?_
          rw [dc_false (P := fitsI l row n) (fun h => h.2 z (List.mem_of_getElem? hz) (by rw [atI_some hdq, atI_some hdz]; exact of_decide_eq_true hf6_11))]
          exact ⟨rfl, F⟩
      · skip
        refine rl_end rfl ?_
        refine al_k ?_
        refine cl_if0 rfl rfl ?_
        refine cl_exit rfl ?_
        refine upd_self ?_
        refine al_k ?_
        refine cl_seq rfl ?_
        refine cl_reg rfl ?_
        refine st rfl rfl rfl rfl (x_asg rfl) ?_
        refine rl_end rfl ?_
        refine al_k ?_
        refine cl_ret rfl ?_
        refine fin1 rfl rfl ?_
        have e : i = row.length := by omega
        subst e
        rw [List.take_length] at hno
        rw [dc_true (P := fitsI l row n) ⟨of_decide_eq_false hf1_2, hno⟩]
        exact ⟨rfl, F⟩
  · skip
    refine rl_end rfl ?_
    refine al_k ?_
    refine cl_if1 rfl rfl ?_
    refine cl_seq rfl ?_
    refine cl_reg rfl ?_
    refine st rfl rfl rfl rfl (x_asg rfl) ?_
    refine rl_end rfl ?_
    refine al_k ?_
    refine cl_ret rfl ?_
    refine fin1 rfl rfl ?_
    rw [dc_false (P := fitsI l row n) (fun h => h.1 (of_decide_eq_true hf1_2))]
    exact ⟨rfl, F⟩

theorem late_c (w : World) (A : Option Addr) (c : Nat) (l : List D) (HR : RowG encD 6 w A l) (A2 : Option Addr) (c2 : Nat) (row : List Int) (HI : RowG encI 1 w A2 row) (hl : l.length ≤ 1000) (hr : row.length ≤ 100000) (n : Int) (hn : 0 ≤ n ∧ n < (l.length : Int)) : Cl Try.prog 42 [.slice A l.length c, .slice A2 row.length c2, .int .i64 n] w (fun v w' => v = .bool (dc (lateI l row n)) ∧ Fr [] w w') := by
  have F := Fr.refl [] w
  refine enter Try.func42 rfl Try.ntmps42 rfl ?_
  refine cl_seq rfl ?_
  refine cl_reg rfl ?_
  refine st rfl rfl rfl rfl (x_asg rfl) ?_
  refine rl_end rfl ?_
  refine al_k ?_
  refine cl_seq rfl ?_
  refine cl_seq rfl ?_
  refine cl_reg rfl ?_
  refine st rfl rfl rfl rfl (x_asg rfl) ?_
  refine rl_end rfl ?_
  refine al_k ?_
  refine cl_block rfl ?_
  refine cl_loop (fun i : Nat => [(7, .int .i64 i), (0, .slice A l.length c), (1, .slice A2 row.length c2), (2, .int .i64 n)]) (fun i w' => i ≤ l.length ∧ (∀ (j : Nat) d, j < i → l[j]? = some d → ¬ ((j : Int) ≠ n ∧ (j : Int) ∉ row ∧ ahead d (atI l n))) ∧ Fr [] w w') (fun i => l.length - i) 0 rfl ⟨rfl, rfl, rfl, rfl, trivial⟩ ?_ ?_
  · exact ⟨Nat.zero_le _, fun j d h => absurd h (by omega), F⟩
  · skip
    rintro i wr ⟨hi, hno, F⟩
    refine cl_seq rfl ?_
    refine cl_seq rfl ?_
    refine cl_reg rfl ?_
    refine st rfl rfl rfl rfl (x_move rfl) ?_
    refine st rfl rfl rfl rfl (x_move rfl) ?_
    refine st rfl rfl rfl rfl (x_len rfl Try.underlying22) ?_
    refine sf rfl rfl rfl rfl (x_lss rfl rfl) (fun c2_3 => ?_) (fun c2_3 => ?_)
    · skip
      refine rl_end rfl ?_
      refine al_k ?_
      refine cl_if1 rfl rfl ?_
      refine cl_skip rfl ?_
      refine al_k ?_
      refine cl_seq rfl ?_
      refine cl_block rfl ?_
      refine cl_seq rfl ?_
      obtain ⟨dq, hdq⟩ : ∃ d, l[n.toNat]? = some d := ⟨_, List.getElem?_eq_getElem (by omega)⟩
      obtain ⟨a, rfl, hcn⟩ := HR _ dq hdq
      obtain ⟨d, hd⟩ : ∃ d, l[i]? = some d := ⟨_, List.getElem?_eq_getElem (by omega)⟩
      obtain ⟨a_, ea, hcd⟩ := HR _ d hd
      obtain rfl := Option.some.inj ea
      refine cl_draw (by kernel_rfl) rfl [] (fun w' => Fr [] wr w') ?_
      rintro wd4 fr hpd
      have G := fr
      have FB := F
      replace F := F.trans fr
      clear fr
      refine ⟨G, ?_⟩
      refine dt (i := 0) rfl rfl rfl rfl (by kernel_rfl) (fun _ => x_move rfl) ?_
      refine dt (i := 1) rfl rfl rfl rfl (by kernel_rfl) (fun _ => x_move rfl) ?_
      refine dfk (i := 2) rfl rfl rfl rfl (by kernel_rfl) (fun _ => x_neq rfl rfl) (fun c4_2 => ?_) (fun c4_2 => ?_)
      · skip
        refine dt (i := 3) rfl rfl rfl rfl (by kernel_rfl) (fun _ => x_move rfl) ?_
        refine dt (i := 4) rfl rfl rfl rfl (by kernel_rfl) (fun _ => x_move rfl) ?_
        refine dt (i := 5) rfl rfl rfl rfl (by kernel_rfl) (fun _ => x_move rfl) ?_
        refine d1 (i := 6) (by kernel_rfl) ?_
        refine oc rfl rfl rfl rfl (c_fn rfl Try.call43 (has_c _ A2 c2 row (HI.fr0 F) hr (i : Int))) ?_
        rintro _ wk ⟨rfl, hwk⟩
        obtain rfl := hwk.symm
        refine ⟨.inr G, ?_⟩
        cases hf4_6 : (decide ((i : Int) ∈ row))
        · skip
          refine dt (i := 7) rfl rfl rfl rfl (by kernel_rfl) (fun _ => x_not0 rfl) ?_
          refine dt (i := 8) rfl rfl rfl rfl (by kernel_rfl) (fun _ => x_pick1 rfl rfl) ?_
          refine dt (i := 9) rfl rfl rfl rfl (by kernel_rfl) (fun _ => x_move rfl) ?_
          refine dt (i := 10) rfl rfl rfl rfl (by kernel_rfl) (fun _ => x_move rfl) ?_
          refine dt (i := 11) rfl rfl rfl rfl (by kernel_rfl) (fun _ => x_move rfl) ?_
          refine dt (i := 12) rfl rfl rfl rfl (by kernel_rfl) (fun _ => x_iag rfl rfl Try.underlying22 Try.sizeOf40 (by omega)) ?_
          refine dlt (i := 13) rfl rfl rfl rfl (by kernel_rfl) (by kernel_rfl) (fun w' hU => x_ldg (cs := encD d) rfl Try.isAgg40 Try.sizeOf40 rfl (fun j v h => hU.cell (FB.cell (hcd j v h) (by simp)) (by simp))) ?_
          refine dt (i := 14) rfl rfl rfl rfl (by kernel_rfl) (fun _ => x_move rfl) ?_
          refine dt (i := 15) rfl rfl rfl rfl (by kernel_rfl) (fun _ => x_move rfl) ?_
          refine dt (i := 16) rfl rfl rfl rfl (by kernel_rfl) (fun _ => x_iag rfl rfl Try.underlying22 Try.sizeOf40 (by omega)) ?_
          refine dlt (i := 17) rfl rfl rfl rfl (by kernel_rfl) (by kernel_rfl) (fun w' hU => x_ldg (cs := encD dq) rfl Try.isAgg40 Try.sizeOf40 rfl (fun j v h => hU.cell (FB.cell (hcn j v h) (by simp)) (by simp))) ?_
          refine d1 (i := 18) (by kernel_rfl) ?_
          refine oc rfl rfl rfl rfl (c_fn rfl Try.call21 (rahead_c _ d dq)) ?_
          rintro _ w6 ⟨rfl, fr⟩
          replace F := F.trans fr
          replace G := G.trans fr
          clear fr
          refine ⟨.inr G, ?_⟩
          cases hf4_18 : (decide (ahead d dq))
          · skip
            refine dt (i := 19) rfl rfl rfl rfl (by kernel_rfl) (fun _ => x_pick1 rfl rfl) ?_
            refine dn (by kernel_rfl) ?_
            refine al_k ?_
            refine cl_if0 rfl rfl ?_
            refine cl_skip rfl ?_
            refine al_k ?_
            refine cl_reg rfl ?_
            refine st rfl rfl rfl rfl (x_move rfl) ?_
            refine st rfl rfl rfl rfl (x_add rfl rfl (by omega)) ?_
            refine st rfl rfl rfl rfl (x_asg rfl) ?_
            refine rl_end rfl ?_
            refine again (i + 1) (by omega) ⟨rfl, rfl, rfl, rfl, trivial⟩ ⟨by omega, ?_, F⟩
            intro j d2 hj h2
            rcases Nat.lt_or_ge j i with h | h
            · exact hno j d2 h h2
            · obtain rfl : j = i := by omega
              rw [hd] at h2
              obtain rfl := Option.some.inj h2
              rintro ⟨k1, k2, k3⟩
              rw [atI_some hdq] at k3
              first | exact c4_2 k1 | exact k2 (of_decide_eq_true hf4_6) | exact of_decide_eq_false hf4_18 k3
          · skip
            refine dt (i := 19) rfl rfl rfl rfl (by kernel_rfl) (fun _ => x_pick1 rfl rfl) ?_
            refine dn (by kernel_rfl) ?_
            refine al_k ?_
            refine cl_if1 rfl rfl ?_
            refine cl_seq rfl ?_
            refine cl_reg rfl ?_
            refine st rfl rfl rfl rfl (x_asg rfl) ?_
            refine rl_end rfl ?_
            refine al_k ?_
            refine cl_ret rfl ?_
            refine fin1 rfl rfl ?_
            rw [dc_true (P := lateI l row n) ⟨i, d, hd, c4_2, of_decide_eq_false hf4_6, by rw [atI_some hdq]; exact of_decide_eq_true hf4_18⟩]
            exact ⟨rfl, F⟩
        · skip
          refine dt (i := 7) rfl rfl rfl rfl (by kernel_rfl) (fun _ => x_not1 rfl) ?_
          refine dt (i := 8) rfl rfl rfl rfl (by kernel_rfl) (fun _ => x_pick1 rfl rfl) ?_
          refine dt (i := 9) rfl rfl rfl rfl (by kernel_rfl) (fun _ => x_move rfl) ?_
          refine dz (i := 10) rfl rfl rfl rfl (by kernel_rfl) ?_
          refine dz (i := 11) rfl rfl rfl rfl (by kernel_rfl) ?_
          refine dz (i := 12) rfl rfl rfl rfl (by kernel_rfl) ?_
          refine dz (i := 13) rfl rfl rfl rfl (by kernel_rfl) ?_
          refine dz (i := 14) rfl rfl rfl rfl (by kernel_rfl) ?_
          refine dz (i := 15) rfl rfl rfl rfl (by kernel_rfl) ?_
          refine dz (i := 16) rfl rfl rfl rfl (by kernel_rfl) ?_
          refine dz (i := 17) rfl rfl rfl rfl (by kernel_rfl) ?_
          refine dz (i := 18) rfl rfl rfl rfl (by kernel_rfl) ?_
          refine dt (i := 19) rfl rfl rfl rfl (by kernel_rfl) (fun _ => x_pick0 rfl rfl) ?_
          refine dn (by kernel_rfl) ?_
          refine al_k ?_
          refine cl_if0 rfl rfl ?_
          refine cl_skip rfl ?_
          refine al_k ?_
          refine cl_reg rfl ?_
          refine st rfl rfl rfl rfl (x_move rfl) ?_
          refine st rfl rfl rfl rfl (x_add rfl rfl (by omega)) ?_
          refine st rfl rfl rfl rfl (x_asg rfl) ?_
          refine rl_end rfl ?_
          refine again (i + 1) (by omega) ⟨rfl, rfl, rfl, rfl, trivial⟩ ⟨by omega, ?_, F⟩
          intro j d2 hj h2
          rcases Nat.lt_or_ge j i with h | h
          · exact hno j d2 h h2
          · obtain rfl : j = i := by omega
            rw [hd] at h2
            obtain rfl := Option.some.inj h2
            rintro ⟨k1, k2, k3⟩
            rw [atI_some hdq] at k3
            first | exact c4_2 k1 | exact k2 (of_decide_eq_true hf4_6) | exact of_decide_eq_false hf4_18 k3
      · skip
        refine dt (i := 3) rfl rfl rfl rfl (by kernel_rfl) (fun _ => x_move rfl) ?_
        refine dz (i := 4) rfl rfl rfl rfl (by kernel_rfl) ?_
        refine dz (i := 5) rfl rfl rfl rfl (by kernel_rfl) ?_
        refine dz (i := 6) rfl rfl rfl rfl (by kernel_rfl) ?_
        refine dz (i := 7) rfl rfl rfl rfl (by kernel_rfl) ?_
        refine dt (i := 8) rfl rfl rfl rfl (by kernel_rfl) (fun _ => x_pick0 rfl rfl) ?_
        refine dt (i := 9) rfl rfl rfl rfl (by kernel_rfl) (fun _ => x_move rfl) ?_
        refine dz (i := 10) rfl rfl rfl rfl (by kernel_rfl) ?_
        refine dz (i := 11) rfl rfl rfl rfl (by kernel_rfl) ?_
        refine dz (i := 12) rfl rfl rfl rfl (by kernel_rfl) ?_
        refine dz (i := 13) rfl rfl rfl rfl (by kernel_rfl) ?_
        refine dz (i := 14) rfl rfl rfl rfl (by kernel_rfl) ?_
        refine dz (i := 15) rfl rfl rfl rfl (by kernel_rfl) ?_
        refine dz (i := 16) rfl rfl rfl rfl (by kernel_rfl) ?_
        refine dz (i := 17) rfl rfl rfl rfl (by kernel_rfl) ?_
        refine dz (i := 18) rfl rfl rfl rfl (by kernel_rfl) ?_
        refine dt (i := 19) rfl rfl rfl rfl (by kernel_rfl) (fun _ => x_pick0 rfl rfl) ?_
        refine dn (by kernel_rfl) ?_
        refine al_k ?_
        refine cl_if0 rfl rfl ?_
        refine cl_skip rfl ?_
        refine al_k ?_
        refine cl_reg rfl ?_
        refine st rfl rfl rfl rfl (x_move rfl) ?_
        refine st rfl rfl rfl rfl (x_add rfl rfl (by omega)) ?_
        refine st rfl rfl rfl rfl (x_asg rfl) ?_
        refine rl_end rfl ?_
        refine again (i + 1) (by omega) ⟨rfl, rfl, rfl, rfl, trivial⟩ ⟨by omega, ?_, F⟩
        intro j d2 hj h2
        rcases Nat.lt_or_ge j i with h | h
        · exact hno j d2 h h2
        · obtain rfl : j = i := by omega
          rw [hd] at h2
          obtain rfl := Option.some.inj h2
          rintro ⟨k1, k2, k3⟩
          rw [atI_some hdq] at k3
          first | exact c4_2 k1 | exact k2 (of_decide_eq_true hf4_6) | exact of_decide_eq_false hf4_18 k3
    · skip
      refine rl_end rfl ?_
      refine al_k ?_
      refine cl_if0 rfl rfl ?_
      refine cl_exit rfl ?_
      refine upd_self ?_
      refine al_k ?_
      refine cl_seq rfl ?_
      refine cl_reg rfl ?_
      refine st rfl rfl rfl rfl (x_asg rfl) ?_
      refine rl_end rfl ?_
      refine al_k ?_
      refine cl_ret rfl ?_
      refine fin1 rfl rfl ?_
      rw [dc_false (P := lateI l row n) (fun ⟨j, d, hj, h⟩ => hno j d (by have := (List.getElem?_eq_some_iff.1 hj).1; omega) hj h)]
      exact ⟨rfl, F⟩

end Go.Proofs.Ytmeheoflfdmgiaa.Lin
