/- Deeds: the walks of asked, and of a step of the reference's queue. -/
import Derived.Test.YtmeheoflfdmgiaaLnW2
set_option linter.unusedVariables false
namespace Go.Proofs.Ytmeheoflfdmgiaa.Lin
open Go Go.RowKit Go.Proofs.Ytmeheoflfdmgiaa.Sx Go.Proofs.Ytmeheoflfdmgiaa
set_option maxRecDepth 100000

theorem bslD (d : D) (w : World) : (Instr.buildSlice 22 1 [(0, .agg (encD d).toArray)].toArray).run Try.prog w = .ok (.slice (some ⟨w.heap.size, 0, none⟩) 1 1) (w.alloc (.cells (encD d).toArray 40)) := by kernel_rfl
theorem bslQ (d : D) (w : World) : (Instr.buildSlice 74 1 [(0, .agg (encD d).toArray)].toArray).run Try.prog w = .ok (.slice (some ⟨w.heap.size, 0, none⟩) 1 1) (w.alloc (.cells (encD d).toArray 40)) := by kernel_rfl

theorem rasked_c (w : World) (A : Option Addr) (c : Nat) (l : List D) (HR : RowG encD 6 w A l) (A2 : Option Addr) (c2 : Nat) (row : List Int) (HI : RowG encI 1 w A2 row) (hl : l.length ≤ 1000) (hr : row.length ≤ 100000) : Cl Try.prog 30 [.slice A l.length c, .slice A2 row.length c2] w (fun v w' => v = .int .i64 (if ¬ Hist l then 270 else if okRow l row then 0 else 5) ∧ Fr [] w w') := by
  have F := Fr.refl [] w
  refine enter Try.func30 rfl Try.ntmps30 rfl ?_
  refine cl_seq rfl ?_
  refine cl_reg rfl ?_
  refine st rfl rfl rfl rfl (x_asg rfl) ?_
  refine rl_end rfl ?_
  refine al_k ?_
  refine cl_seq rfl ?_
  refine cl_seq rfl ?_
  refine cl_reg rfl ?_
  refine st rfl rfl rfl rfl (x_move rfl) ?_
  refine sc rfl rfl rfl rfl (c_fn rfl Try.call13 (rcheck_c _ A c l HR hl)) ?_
  rintro _ w1 ⟨rfl, fr⟩
  replace F := F.trans fr
  clear fr
  refine sf rfl rfl rfl rfl (x_neq rfl rfl) (fun c1_2 => ?_) (fun c1_2 => ?_)
  · skip
    refine rl_end rfl ?_
    refine al_k ?_
    refine cl_if1 rfl rfl ?_
    refine cl_seq rfl ?_
    refine cl_reg rfl ?_
    refine st rfl rfl rfl rfl (x_asg rfl) ?_
    refine rl_end rfl ?_
    refine al_k ?_
    refine cl_ret rfl ?_
    refine fin1 rfl rfl ?_
    have hH : ¬ Hist l := fun h => c1_2 (by rw [if_pos h])
    rw [if_pos hH]
    exact ⟨rfl, F⟩
  · skip
    refine rl_end rfl ?_
    refine al_k ?_
    refine cl_if0 rfl rfl ?_
    refine cl_skip rfl ?_
    refine al_k ?_
    refine cl_seq rfl ?_
    refine cl_seq rfl ?_
    refine cl_reg rfl ?_
    refine st rfl rfl rfl rfl (x_asg rfl) ?_
    refine rl_end rfl ?_
    refine al_k ?_
    refine cl_block rfl ?_
    refine cl_loop (fun i : Nat => [(5, .int .i64 i), (0, .slice A l.length c), (1, .slice A2 row.length c2)]) (fun i w' => (i ≤ row.length ∧ ∀ z ∈ row.take i, 0 ≤ z ∧ z < (l.length : Int)) ∧ Fr [] w w') (fun i => row.length - i) 0 rfl ⟨rfl, rfl, rfl, trivial⟩ ?_ ?_
    · exact ⟨⟨Nat.zero_le _, by simp⟩, F⟩
    · skip
      rintro i wr ⟨⟨hi, hok⟩, F⟩
      refine cl_seq rfl ?_
      refine cl_seq rfl ?_
      refine cl_reg rfl ?_
      refine st rfl rfl rfl rfl (x_move rfl) ?_
      refine st rfl rfl rfl rfl (x_move rfl) ?_
      refine st rfl rfl rfl rfl (x_len rfl Try.underlying24) ?_
      refine sf rfl rfl rfl rfl (x_lss rfl rfl) (fun c4_3 => ?_) (fun c4_3 => ?_)
      · skip
        refine rl_end rfl ?_
        refine al_k ?_
        refine cl_if1 rfl rfl ?_
        refine cl_skip rfl ?_
        refine al_k ?_
        refine cl_seq rfl ?_
        refine cl_block rfl ?_
        refine cl_seq rfl ?_
        obtain ⟨z, hz⟩ : ∃ z, row[i]? = some z := ⟨_, List.getElem?_eq_getElem (by omega)⟩
        obtain ⟨a2, rfl, hcz⟩ := RowI.at_ HI hz
        refine cl_reg rfl ?_
        refine st rfl rfl rfl rfl (x_move rfl) ?_
        refine st rfl rfl rfl rfl (x_move rfl) ?_
        refine st rfl rfl rfl rfl (x_iag rfl rfl Try.underlying24 Try.sizeOf3 (by omega)) ?_
        refine st rfl rfl rfl rfl (x_ld rfl Try.isAgg3 (F.cell hcz (by simp))) ?_
        refine sf rfl rfl rfl rfl (x_lss rfl rfl) (fun c6_4 => ?_) (fun c6_4 => ?_)
        · skip
          refine st rfl rfl rfl rfl (x_move rfl) ?_
          refine so rfl rfl rfl rfl ?_
          refine so rfl rfl rfl rfl ?_
          refine so rfl rfl rfl rfl ?_
          refine so rfl rfl rfl rfl ?_
          refine so rfl rfl rfl rfl ?_
          refine so rfl rfl rfl rfl ?_
          refine so rfl rfl rfl rfl ?_
          refine st rfl rfl rfl rfl (x_pick1 rfl rfl) ?_
          refine rl_end rfl ?_
          refine al_k ?_
          refine cl_if1 rfl rfl ?_
          refine cl_seq rfl ?_
          refine cl_reg rfl ?_
          refine st rfl rfl rfl rfl (x_asg rfl) ?_
          refine rl_end rfl ?_
          refine al_k ?_
          refine cl_ret rfl ?_
          refine fin1 rfl rfl ?_
          have hH : Hist l := by
            by_cases h : Hist l
            · exact h
            · rw [if_neg h] at c1_2; exact absurd (by decide) c1_2
          rw [if_neg (fun h => h hH), if_neg (fun h : okRow l row => by have := h z (List.mem_of_getElem? hz); omega)]
          exact ⟨rfl, F⟩
        · skip
          refine st rfl rfl rfl rfl (x_move rfl) ?_
          refine st rfl rfl rfl rfl (x_move rfl) ?_
          refine st rfl rfl rfl rfl (x_move rfl) ?_
          refine st rfl rfl rfl rfl (x_iag rfl rfl Try.underlying24 Try.sizeOf3 (by omega)) ?_
          refine st rfl rfl rfl rfl (x_ld rfl Try.isAgg3 (F.cell hcz (by simp))) ?_
          refine st rfl rfl rfl rfl (x_move rfl) ?_
          refine st rfl rfl rfl rfl (x_len rfl Try.underlying22) ?_
          refine sf rfl rfl rfl rfl (x_geq rfl rfl) (fun c6_12 => ?_) (fun c6_12 => ?_)
          · skip
            refine st rfl rfl rfl rfl (x_pick0 rfl rfl) ?_
            refine rl_end rfl ?_
            refine al_k ?_
            refine cl_if1 rfl rfl ?_
            refine cl_seq rfl ?_
            refine cl_reg rfl ?_
            refine st rfl rfl rfl rfl (x_asg rfl) ?_
            refine rl_end rfl ?_
            refine al_k ?_
            refine cl_ret rfl ?_
            refine fin1 rfl rfl ?_
            have hH : Hist l := by
              by_cases h : Hist l
              · exact h
              · rw [if_neg h] at c1_2; exact absurd (by decide) c1_2
            rw [if_neg (fun h => h hH), if_neg (fun h : okRow l row => by have := h z (List.mem_of_getElem? hz); omega)]
            exact ⟨rfl, F⟩
          · skip
            refine st rfl rfl rfl rfl (x_pick0 rfl rfl) ?_
            refine rl_end rfl ?_
            refine al_k ?_
            refine cl_if0 rfl rfl ?_
            refine cl_skip rfl ?_
            refine al_k ?_
            refine cl_reg rfl ?_
            refine st rfl rfl rfl rfl (x_move rfl) ?_
            refine st rfl rfl rfl rfl (x_add rfl rfl (by omega)) ?_
            refine st rfl rfl rfl rfl (x_asg rfl) ?_
            refine rl_end rfl ?_
            refine again (i + 1) (by omega) ⟨rfl, rfl, rfl, trivial⟩ ⟨⟨by omega, ?_⟩, F⟩
            intro y hy
            rw [List.take_add_one, hz] at hy
            simp only [Option.toList, List.mem_append, List.mem_singleton] at hy
            rcases hy with hy | rfl
            · exact hok y hy
            · omega
      · skip
        refine rl_end rfl ?_
        refine al_k ?_
        refine cl_if0 rfl rfl ?_
        refine cl_exit rfl ?_
        refine upd_self ?_
        refine al_k ?_
        refine cl_seq rfl ?_
        refine cl_reg rfl ?_
        refine st rfl rfl rfl rfl (x_asg rfl) ?_
        refine rl_end rfl ?_
        refine al_k ?_
        refine cl_ret rfl ?_
        refine fin1 rfl rfl ?_
        have hH : Hist l := by
          by_cases h : Hist l
          · exact h
          · rw [if_neg h] at c1_2; exact absurd (by decide) c1_2
        have e : i = row.length := by omega
        subst e
        rw [List.take_length] at hok
        rw [if_neg (fun h => h hH), if_pos (show okRow l row from hok)]
        exact ⟨rfl, F⟩

theorem asked_c (w : World) (A : Option Addr) (c : Nat) (l : List D) (HR : RowG encD 6 w A l) (A2 : Option Addr) (c2 : Nat) (row : List Int) (HI : RowG encI 1 w A2 row) (hl : l.length ≤ 1000) (hr : row.length ≤ 100000) : Cl Try.prog 34 [.slice A l.length c, .slice A2 row.length c2] w (fun v w' => v = .int .i64 (if ¬ Hist l then 270 else if okRow l row then 0 else 5) ∧ Fr [] w w') := by
  have F := Fr.refl [] w
  refine enter Try.func34 rfl Try.ntmps34 rfl ?_
  refine cl_seq rfl ?_
  refine cl_reg rfl ?_
  refine st rfl rfl rfl rfl (x_asg rfl) ?_
  refine rl_end rfl ?_
  refine al_k ?_
  refine cl_seq rfl ?_
  refine cl_seq rfl ?_
  refine cl_reg rfl ?_
  refine st rfl rfl rfl rfl (x_move rfl) ?_
  refine sc rfl rfl rfl rfl (c_fn rfl Try.call19 (check_c _ A c l HR hl)) ?_
  rintro _ w1 ⟨rfl, fr⟩
  replace F := F.trans fr
  clear fr
  refine st rfl rfl rfl rfl (x_asg rfl) ?_
  refine rl_end rfl ?_
  refine al_k ?_
  refine cl_seq rfl ?_
  refine cl_reg rfl ?_
  refine st rfl rfl rfl rfl (x_move rfl) ?_
  refine sf rfl rfl rfl rfl (x_neq rfl rfl) (fun c2_1 => ?_) (fun c2_1 => ?_)
  · skip
    refine rl_end rfl ?_
    refine al_k ?_
    refine cl_if1 rfl rfl ?_
    refine cl_seq rfl ?_
    refine cl_reg rfl ?_
    refine st rfl rfl rfl rfl (x_move rfl) ?_
    refine st rfl rfl rfl rfl (x_asg rfl) ?_
    refine rl_end rfl ?_
    refine al_k ?_
    refine cl_ret rfl ?_
    refine fin1 rfl rfl ?_
    have hH : ¬ Hist l := fun h => c2_1 (by rw [if_pos h])
    rw [if_neg hH]
    rw [if_pos hH]
    exact ⟨rfl, F⟩
  · skip
    refine rl_end rfl ?_
    refine al_k ?_
    refine cl_if0 rfl rfl ?_
    refine cl_skip rfl ?_
    refine al_k ?_
    refine cl_seq rfl ?_
    refine cl_seq rfl ?_
    refine cl_reg rfl ?_
    refine st rfl rfl rfl rfl (x_move rfl) ?_
    refine st rfl rfl rfl rfl (x_len rfl Try.underlying24) ?_
    refine st rfl rfl rfl rfl (x_move rfl) ?_
    refine rl_end rfl ?_
    refine al_k ?_
    refine cl_block rfl ?_
    refine cl_loop (fun i : Nat => [(15, .int .i64 i), (14, .int .i64 row.length), (13, .slice A2 row.length c2), (0, .slice A l.length c)]) (fun i w' => (i ≤ row.length ∧ ∀ z ∈ row.take i, 0 ≤ z ∧ z < (l.length : Int)) ∧ Fr [] w w') (fun i => row.length - i) 0 rfl ⟨rfl, rfl, rfl, rfl, trivial⟩ ?_ ?_
    · exact ⟨⟨Nat.zero_le _, by simp⟩, F⟩
    · skip
      rintro i wr ⟨⟨hi, hok⟩, F⟩
      refine cl_seq rfl ?_
      refine cl_reg rfl ?_
      refine sf rfl rfl rfl rfl (x_lss rfl rfl) (fun c5_0 => ?_) (fun c5_0 => ?_)
      · skip
        refine rl_end rfl ?_
        refine al_k ?_
        refine cl_seq rfl ?_
        refine cl_if1 rfl rfl ?_
        refine cl_skip rfl ?_
        refine al_k ?_
        refine cl_seq rfl ?_
        refine cl_block rfl ?_
        refine cl_seq rfl ?_
        obtain ⟨z, hz⟩ : ∃ z, row[i]? = some z := ⟨_, List.getElem?_eq_getElem (by omega)⟩
        obtain ⟨a2, rfl, hcz⟩ := RowI.at_ HI hz
        refine cl_reg rfl ?_
        refine st rfl rfl rfl rfl (x_iag rfl rfl Try.underlying24 Try.sizeOf3 (by omega)) ?_
        refine st rfl rfl rfl rfl (x_ld rfl Try.isAgg3 (F.cell hcz (by simp))) ?_
        refine st rfl rfl rfl rfl (x_asg rfl) ?_
        refine rl_end rfl ?_
        refine al_k ?_
        refine cl_seq rfl ?_
        refine cl_reg rfl ?_
        refine st rfl rfl rfl rfl (x_move rfl) ?_
        refine sf rfl rfl rfl rfl (x_lss rfl rfl) (fun c7_1 => ?_) (fun c7_1 => ?_)
        · skip
          refine st rfl rfl rfl rfl (x_move rfl) ?_
          refine so rfl rfl rfl rfl ?_
          refine so rfl rfl rfl rfl ?_
          refine so rfl rfl rfl rfl ?_
          refine so rfl rfl rfl rfl ?_
          refine st rfl rfl rfl rfl (x_pick1 rfl rfl) ?_
          refine rl_end rfl ?_
          refine al_k ?_
          refine cl_if1 rfl rfl ?_
          refine cl_seq rfl ?_
          refine cl_reg rfl ?_
          refine st rfl rfl rfl rfl (x_asg rfl) ?_
          refine rl_end rfl ?_
          refine al_k ?_
          refine cl_ret rfl ?_
          refine fin1 rfl rfl ?_
          have hH : Hist l := by
            by_cases h : Hist l
            · exact h
            · rw [if_neg h] at c2_1; exact absurd (by decide) c2_1
          rw [if_neg (fun h => h hH), if_neg (fun h : okRow l row => by have := h z (List.mem_of_getElem? hz); omega)]
          exact ⟨rfl, F⟩
        · skip
          refine st rfl rfl rfl rfl (x_move rfl) ?_
          refine st rfl rfl rfl rfl (x_move rfl) ?_
          refine st rfl rfl rfl rfl (x_move rfl) ?_
          refine st rfl rfl rfl rfl (x_len rfl Try.underlying22) ?_
          refine sf rfl rfl rfl rfl (x_geq rfl rfl) (fun c7_6 => ?_) (fun c7_6 => ?_)
          · skip
            refine st rfl rfl rfl rfl (x_pick0 rfl rfl) ?_
            refine rl_end rfl ?_
            refine al_k ?_
            refine cl_if1 rfl rfl ?_
            refine cl_seq rfl ?_
            refine cl_reg rfl ?_
            refine st rfl rfl rfl rfl (x_asg rfl) ?_
            refine rl_end rfl ?_
            refine al_k ?_
            refine cl_ret rfl ?_
            refine fin1 rfl rfl ?_
            have hH : Hist l := by
              by_cases h : Hist l
              · exact h
              · rw [if_neg h] at c2_1; exact absurd (by decide) c2_1
            rw [if_neg (fun h => h hH), if_neg (fun h : okRow l row => by have := h z (List.mem_of_getElem? hz); omega)]
            exact ⟨rfl, F⟩
          · skip
            refine st rfl rfl rfl rfl (x_pick0 rfl rfl) ?_
            refine rl_end rfl ?_
            refine al_k ?_
            refine cl_if0 rfl rfl ?_
            refine cl_skip rfl ?_
            refine al_k ?_
            refine cl_reg rfl ?_
            refine st rfl rfl rfl rfl (x_add rfl rfl (by omega)) ?_
            refine st rfl rfl rfl rfl (x_move rfl) ?_
            refine rl_end rfl ?_
            refine again (i + 1) (by omega) ⟨rfl, rfl, rfl, rfl, trivial⟩ ⟨⟨by omega, ?_⟩, F⟩
            intro y hy
            rw [List.take_add_one, hz] at hy
            simp only [Option.toList, List.mem_append, List.mem_singleton] at hy
            rcases hy with hy | rfl
            · exact hok y hy
            · omega
      · skip
        refine rl_end rfl ?_
        refine al_k ?_
        refine cl_seq rfl ?_
        refine cl_if0 rfl rfl ?_
        refine cl_exit rfl ?_
        refine upd_self ?_
        refine al_k ?_
        refine cl_seq rfl ?_
        refine cl_reg rfl ?_
        refine st rfl rfl rfl rfl (x_asg rfl) ?_
        refine rl_end rfl ?_
        refine al_k ?_
        refine cl_ret rfl ?_
        refine fin1 rfl rfl ?_
        have hH : Hist l := by
          by_cases h : Hist l
          · exact h
          · rw [if_neg h] at c2_1; exact absurd (by decide) c2_1
        have e : i = row.length := by omega
        subst e
        rw [List.take_length] at hok
        rw [if_neg (fun h => h hH), if_pos (show okRow l row from hok)]
        exact ⟨rfl, F⟩

theorem rplay_c (w : World) (A : Option Addr) (c : Nat) (q : List D) (HQ : RowG encD 6 w A q) (hcp : q.length ≤ c) (hq : q.length ≤ 1000) (d : D) : Cl Try.prog 33 [.slice A q.length c, .agg (encD d).toArray] w (fun r w' => QR w' r (qstep q d) ∧ Fr [] w w') := by
  have F := Fr.refl [] w
  refine enter Try.func33 rfl Try.ntmps33 rfl ?_
  refine cl_seq rfl ?_
  refine cl_reg rfl ?_
  refine se rfl rfl rfl rfl (e_new (x_box (cs := encD d) rfl rfl)) ?_
  rintro _ wb3 ⟨rfl, b3, fr, _⟩
  replace F := F.trans fr
  clear fr
  refine st rfl rfl rfl rfl (x_asg rfl) ?_
  refine st rfl rfl rfl rfl (x_asg rfl) ?_
  refine rl_end rfl ?_
  refine al_k ?_
  refine cl_seq rfl ?_
  refine cl_seq rfl ?_
  refine cl_reg rfl ?_
  refine st rfl rfl rfl rfl (x_fa rfl Try.underlying40 rfl Try.sizeOf37 0 rfl) ?_
  refine st rfl rfl rfl rfl (x_ld rfl Try.isAgg37 (b3.cell rfl)) ?_
  refine rl_end rfl ?_
  refine al_k ?_
  refine cl_block rfl ?_
  refine cl_seq rfl ?_
  refine cl_reg rfl ?_
  refine sf rfl rfl rfl rfl (x_eql rfl rfl) (fun c2_0 => ?_) (fun c2_0 => ?_)
  · skip
    refine st rfl rfl rfl rfl (x_asg rfl) ?_
    refine rl_end rfl ?_
    refine al_k ?_
    refine cl_if1 rfl rfl ?_
    refine cl_seq rfl ?_
    refine cl_draw (by kernel_rfl) rfl [] (fun w' => Fr [] wb3 w') ?_
    have b3B := b3
    rintro wd3 G hpd
    have FB := F
    replace F := F.trans G
    refine ⟨G, ?_⟩
    refine dt (i := 1) rfl rfl rfl rfl (by kernel_rfl) (fun _ => x_move rfl) ?_
    refine dlt (i := 3) rfl rfl rfl rfl (by kernel_rfl) (by kernel_rfl) (fun w' hU => x_ldn (cs := encD d) rfl Try.isAgg40 Try.sizeOf40 rfl (by intro j v hv; rw [Nat.zero_add]; exact (b3B.fr0 hU).cell hv)) ?_
    refine d2 (i := 0) (j := 4) (by kernel_rfl) ?_ ?_
    · skip
      refine oe rfl rfl rfl rfl (e_new (x_bsl rfl (bsl0 Try.underlying22 Try.sizeOf40))) ?_
      rintro _ wn ⟨rfl, b5, fr, _⟩
      have HO := own_lit (base := (World.heap wb3).size) (n := 0) (size := 6) b5 G.size rfl (by decide)
      have l5 := b5.lt
      clear b5
      replace F := F.trans fr
      replace G := G.trans fr
      clear fr
      refine ⟨.inr G, ?_⟩
      refine d2 (i := 2) (j := 4) (by kernel_rfl) ?_ ?_
      · skip
        refine oe rfl rfl rfl rfl (e_appv 6 48 (.agg #[.int .i64 0, .int .i64 0, .int .u64 0, .int .i64 0, .int .i64 0, .bool false]) (flat encD q) rfl rfl Try.underlying22 (by kernel_rfl) rfl (by decide) HO (by rw [flat_length lenD]; (try rfl); (try simp)) (fun e => RowG.none HQ e) (fun ad e j u hu => F.cell (RowG.all (by decide) lenD HQ ad e j u hu) (by simp)) (flat_mem1 oneD _) (by omega) (by omega) G.size) ?_
        rintro va wa ⟨HOa, hg, hat⟩
        have fg1 := (Fr.of_grown hg).size
        have hge := own_ge HO
        replace G := G.grown hg hge
        replace F := F.grown hg (fun q hq => Nat.le_trans FB.size (hge q hq))
        clear hge
        clear HO
        refine ⟨.inr G, ?_⟩
        refine d1 (i := 4) (by kernel_rfl) ?_
        refine oe rfl rfl rfl rfl (e_new (x_bsl rfl (bslD _ _))) ?_
        rintro _ wl ⟨rfl, b16, fr, _⟩
        have l16 := b16.lt
        replace F := F.trans fr
        replace G := G.trans fr
        replace HOa := own_fr0 HOa fr
        clear fr
        refine ⟨.inr G, ?_⟩
        refine d1 (i := 5) (by kernel_rfl) ?_
        refine oe rfl rfl rfl rfl (e_app 6 48 (.agg #[.int .i64 0, .int .i64 0, .int .u64 0, .int .i64 0, .int .i64 0, .bool false]) (encD d) rfl rfl Try.underlying22 (by kernel_rfl) rfl (by decide) HOa (by rw [lenD]) b16.news (oneD _) (by omega) (by omega) G.size) ?_
        rintro vb wb ⟨HOb, hg, hat⟩
        have hge := own_ge HOa
        replace G := G.grown hg hge
        replace F := F.grown hg (fun q hq => Nat.le_trans FB.size (hge q hq))
        clear hge
        clear HOa
        refine ⟨.inr G, ?_⟩
        refine dt (i := 6) rfl rfl rfl rfl (by kernel_rfl) (fun _ => x_asg rfl) ?_
        refine dt (i := 7) rfl rfl rfl rfl (by kernel_rfl) (fun _ => x_asg rfl) ?_
        refine dn (by kernel_rfl) ?_
        refine al_k ?_
        refine cl_ret rfl ?_
        refine fin2 rfl rfl rfl ?_
        exact ⟨.yes (qstep_1 c2_0) (SlG.own (by decide) lenD HOb (by rw [List.length_append]; simp) (by rw [flat_app', flat_one']; simp)), F⟩
      · skip
        refine oe rfl rfl rfl rfl (e_new (x_bsl rfl (bslD _ _))) ?_
        rintro _ wl ⟨rfl, b16, fr, _⟩
        have n516 := Nat.ne_of_lt l5
        have l16 := b16.lt
        replace F := F.trans fr
        replace G := G.trans fr
        replace HO := own_fr0 HO fr
        replace l5 := Nat.lt_of_lt_of_le l5 fr.size
        clear fr
        refine ⟨.inr G, ?_⟩
        refine d1 (i := 2) (by kernel_rfl) ?_
        refine oe rfl rfl rfl rfl (e_appv 6 48 (.agg #[.int .i64 0, .int .i64 0, .int .u64 0, .int .i64 0, .int .i64 0, .bool false]) (flat encD q) rfl rfl Try.underlying22 (by kernel_rfl) rfl (by decide) HO (by rw [flat_length lenD]; (try rfl); (try simp)) (fun e => RowG.none HQ e) (fun ad e j u hu => F.cell (RowG.all (by decide) lenD HQ ad e j u hu) (by simp)) (flat_mem1 oneD _) (by omega) (by omega) G.size) ?_
        rintro va wa ⟨HOa, hg, hat⟩
        replace b16 := b16.fr (Fr.of_grown hg) (by intro hq; simp [Value.ownBlock] at hq; omega)
        have fg1 := (Fr.of_grown hg).size
        have hge := own_ge HO
        replace G := G.grown hg hge
        replace F := F.grown hg (fun q hq => Nat.le_trans FB.size (hge q hq))
        clear hge
        clear HO
        replace l16 := Nat.lt_of_lt_of_le l16 fg1
        refine ⟨.inr G, ?_⟩
        refine d1 (i := 5) (by kernel_rfl) ?_
        refine oe rfl rfl rfl rfl (e_app 6 48 (.agg #[.int .i64 0, .int .i64 0, .int .u64 0, .int .i64 0, .int .i64 0, .bool false]) (encD d) rfl rfl Try.underlying22 (by kernel_rfl) rfl (by decide) HOa (by rw [lenD]) b16.news (oneD _) (by omega) (by omega) G.size) ?_
        rintro vb wb ⟨HOb, hg, hat⟩
        have hge := own_ge HOa
        replace G := G.grown hg hge
        replace F := F.grown hg (fun q hq => Nat.le_trans FB.size (hge q hq))
        clear hge
        clear HOa
        refine ⟨.inr G, ?_⟩
        refine dt (i := 6) rfl rfl rfl rfl (by kernel_rfl) (fun _ => x_asg rfl) ?_
        refine dt (i := 7) rfl rfl rfl rfl (by kernel_rfl) (fun _ => x_asg rfl) ?_
        refine dn (by kernel_rfl) ?_
        refine al_k ?_
        refine cl_ret rfl ?_
        refine fin2 rfl rfl rfl ?_
        exact ⟨.yes (qstep_1 c2_0) (SlG.own (by decide) lenD HOb (by rw [List.length_append]; simp) (by rw [flat_app', flat_one']; simp)), F⟩
    · skip
      refine oe rfl rfl rfl rfl (e_new (x_bsl rfl (bslD _ _))) ?_
      rintro _ wl ⟨rfl, b16, fr, _⟩
      have l16 := b16.lt
      replace F := F.trans fr
      replace G := G.trans fr
      clear fr
      refine ⟨.inr G, ?_⟩
      refine d1 (i := 0) (by kernel_rfl) ?_
      refine oe rfl rfl rfl rfl (e_new (x_bsl rfl (bsl0 Try.underlying22 Try.sizeOf40))) ?_
      rintro _ wn ⟨rfl, b5, fr, _⟩
      have HO := own_lit (base := (World.heap wb3).size) (n := 0) (size := 6) b5 G.size rfl (by decide)
      have l5 := b5.lt
      have n516 := Nat.ne_of_gt l16
      clear b5
      replace F := F.trans fr
      replace G := G.trans fr
      replace b16 := b16.fr0 fr
      replace l16 := Nat.lt_of_lt_of_le l16 fr.size
      clear fr
      refine ⟨.inr G, ?_⟩
      refine d1 (i := 2) (by kernel_rfl) ?_
      refine oe rfl rfl rfl rfl (e_appv 6 48 (.agg #[.int .i64 0, .int .i64 0, .int .u64 0, .int .i64 0, .int .i64 0, .bool false]) (flat encD q) rfl rfl Try.underlying22 (by kernel_rfl) rfl (by decide) HO (by rw [flat_length lenD]; (try rfl); (try simp)) (fun e => RowG.none HQ e) (fun ad e j u hu => F.cell (RowG.all (by decide) lenD HQ ad e j u hu) (by simp)) (flat_mem1 oneD _) (by omega) (by omega) G.size) ?_
      rintro va wa ⟨HOa, hg, hat⟩
      replace b16 := b16.fr (Fr.of_grown hg) (by intro hq; simp [Value.ownBlock] at hq; omega)
      have fg1 := (Fr.of_grown hg).size
      have hge := own_ge HO
      replace G := G.grown hg hge
      replace F := F.grown hg (fun q hq => Nat.le_trans FB.size (hge q hq))
      clear hge
      clear HO
      replace l16 := Nat.lt_of_lt_of_le l16 fg1
      refine ⟨.inr G, ?_⟩
      refine d1 (i := 5) (by kernel_rfl) ?_
      refine oe rfl rfl rfl rfl (e_app 6 48 (.agg #[.int .i64 0, .int .i64 0, .int .u64 0, .int .i64 0, .int .i64 0, .bool false]) (encD d) rfl rfl Try.underlying22 (by kernel_rfl) rfl (by decide) HOa (by rw [lenD]) b16.news (oneD _) (by omega) (by omega) G.size) ?_
      rintro vb wb ⟨HOb, hg, hat⟩
      have hge := own_ge HOa
      replace G := G.grown hg hge
      replace F := F.grown hg (fun q hq => Nat.le_trans FB.size (hge q hq))
      clear hge
      clear HOa
      refine ⟨.inr G, ?_⟩
      refine dt (i := 6) rfl rfl rfl rfl (by kernel_rfl) (fun _ => x_asg rfl) ?_
      refine dt (i := 7) rfl rfl rfl rfl (by kernel_rfl) (fun _ => x_asg rfl) ?_
      refine dn (by kernel_rfl) ?_
      refine al_k ?_
      refine cl_ret rfl ?_
      refine fin2 rfl rfl rfl ?_
      exact ⟨.yes (qstep_1 c2_0) (SlG.own (by decide) lenD HOb (by rw [List.length_append]; simp) (by rw [flat_app', flat_one']; simp)), F⟩
  · skip
    refine st rfl rfl rfl rfl (x_asg rfl) ?_
    refine rl_end rfl ?_
    refine al_k ?_
    refine cl_if0 rfl rfl ?_
    refine cl_seq rfl ?_
    refine cl_reg rfl ?_
    refine sf rfl rfl rfl rfl (x_eql rfl rfl) (fun c4_0 => ?_) (fun c4_0 => ?_)
    · skip
      refine st rfl rfl rfl rfl (x_asg rfl) ?_
      refine rl_end rfl ?_
      refine al_k ?_
      refine cl_if1 rfl rfl ?_
      refine cl_seq rfl ?_
      refine cl_seq rfl ?_
      refine cl_draw (by kernel_rfl) rfl [] (fun w' => w'.heap = wb3.heap) ?_
      rintro wd5 frd5 hpd5
      refine ⟨hpd5, ?_⟩
      refine dt (i := 0) rfl rfl rfl rfl (by kernel_rfl) (fun _ => x_move rfl) ?_
      refine dt (i := 1) rfl rfl rfl rfl (by kernel_rfl) (fun _ => x_len rfl Try.underlying22) ?_
      refine dfk (i := 2) rfl rfl rfl rfl (by kernel_rfl) (fun _ => x_eql rfl rfl) (fun c5_2 => ?_) (fun c5_2 => ?_)
      · skip
        refine dt (i := 3) rfl rfl rfl rfl (by kernel_rfl) (fun _ => x_move rfl) ?_
        refine dz (i := 4) rfl rfl rfl rfl (by kernel_rfl) ?_
        refine dz (i := 5) rfl rfl rfl rfl (by kernel_rfl) ?_
        refine dz (i := 6) rfl rfl rfl rfl (by kernel_rfl) ?_
        refine dz (i := 7) rfl rfl rfl rfl (by kernel_rfl) ?_
        refine dz (i := 8) rfl rfl rfl rfl (by kernel_rfl) ?_
        refine dz (i := 9) rfl rfl rfl rfl (by kernel_rfl) ?_
        refine dz (i := 10) rfl rfl rfl rfl (by kernel_rfl) ?_
        refine dt (i := 11) rfl rfl rfl rfl (by kernel_rfl) (fun _ => x_pick1 rfl rfl) ?_
        replace F := F.trans frd5
        replace b3 := b3.fr0 frd5
        refine dn (by kernel_rfl) ?_
        refine al_k ?_
        refine cl_if1 rfl rfl ?_
        refine cl_seq rfl ?_
        refine cl_reg rfl ?_
        refine st rfl rfl rfl rfl (x_asg rfl) ?_
        refine st rfl rfl rfl rfl (x_asg rfl) ?_
        refine rl_end rfl ?_
        refine al_k ?_
        refine cl_ret rfl ?_
        refine fin2 rfl rfl rfl ?_
        obtain rfl : q = [] := List.eq_nil_of_length_eq_zero (by omega)
        exact ⟨.no (qstep_20 c4_0), F⟩
      · skip
        refine dt (i := 3) rfl rfl rfl rfl (by kernel_rfl) (fun _ => x_move rfl) ?_
        obtain ⟨x, q1, rfl⟩ : ∃ x q1, q = x :: q1 := by cases q with | nil => (simp at c5_2) | cons x q1 => exact ⟨x, q1, rfl⟩
        obtain ⟨a, rfl, hc0⟩ := HQ 0 x rfl
        refine dt (i := 4) rfl rfl rfl rfl (by kernel_rfl) (fun _ => x_move rfl) ?_
        refine dt (i := 5) rfl rfl rfl rfl (by kernel_rfl) (fun _ => x_iag rfl rfl Try.underlying22 Try.sizeOf40 (by simp only [List.length_cons]; omega)) ?_
        refine dt (i := 6) rfl rfl rfl rfl (by kernel_rfl) (fun _ => x_fag rfl Try.underlying40 rfl Try.sizeOf38 2 rfl) ?_
        refine dlt (i := 7) rfl rfl rfl rfl (by kernel_rfl) (by kernel_rfl) (fun w' hU => x_ld rfl Try.isAgg38 (heq hU (F.cell (hc0 2 _ rfl) (by simp)))) ?_
        refine dt (i := 8) rfl rfl rfl rfl (by kernel_rfl) (fun _ => x_fa rfl Try.underlying40 rfl Try.sizeOf38 2 rfl) ?_
        refine dlt (i := 9) rfl rfl rfl rfl (by kernel_rfl) (by kernel_rfl) (fun w' hU => x_ld rfl Try.isAgg38 (heq hU (b3.cell rfl))) ?_
        refine dfk (i := 10) rfl rfl rfl rfl (by kernel_rfl) (fun _ => x_neq rfl rfl) (fun c5_10 => ?_) (fun c5_10 => ?_)
        · skip
          refine dt (i := 11) rfl rfl rfl rfl (by kernel_rfl) (fun _ => x_pick0 rfl rfl) ?_
          replace F := F.trans frd5
          replace b3 := b3.fr0 frd5
          refine dn (by kernel_rfl) ?_
          refine al_k ?_
          refine cl_if1 rfl rfl ?_
          refine cl_seq rfl ?_
          refine cl_reg rfl ?_
          refine st rfl rfl rfl rfl (x_asg rfl) ?_
          refine st rfl rfl rfl rfl (x_asg rfl) ?_
          refine rl_end rfl ?_
          refine al_k ?_
          refine cl_ret rfl ?_
          refine fin2 rfl rfl rfl ?_
          exact ⟨.no (qstep_2n c4_0 c5_10), F⟩
        · skip
          refine dt (i := 11) rfl rfl rfl rfl (by kernel_rfl) (fun _ => x_pick0 rfl rfl) ?_
          replace F := F.trans frd5
          replace b3 := b3.fr0 frd5
          refine dn (by kernel_rfl) ?_
          refine al_k ?_
          refine cl_if0 rfl rfl ?_
          refine cl_skip rfl ?_
          refine al_k ?_
          refine cl_seq rfl ?_
          refine cl_reg rfl ?_
          refine se rfl rfl rfl rfl (e_new (x_bsl rfl (bsl0 Try.underlying22 Try.sizeOf40))) ?_
          rintro _ wn ⟨rfl, b5, fr, _⟩
          have HO := own_lit (base := (World.heap w).size) (n := 0) (size := 6) b5 F.size rfl (by decide)
          have l5 := b5.lt
          clear b5
          replace F := F.trans fr
          clear fr
          refine st rfl rfl rfl rfl (x_move rfl) ?_
          refine st rfl rfl rfl rfl (x_sll rfl rfl Try.underlying22 Try.sizeOf40 (by simp only [List.length_cons]; omega)) ?_
          refine se rfl rfl rfl rfl (e_appv 6 48 (.agg #[.int .i64 0, .int .i64 0, .int .u64 0, .int .i64 0, .int .i64 0, .bool false]) (flat encD q1) rfl rfl Try.underlying22 (by kernel_rfl) rfl (by decide) HO (by rw [flat_length lenD]; (try rfl); (try simp)) (fun e => RowG.none (RowG.tail HQ hcp) e) (fun ad e j u hu => F.cell (RowG.all (by decide) lenD (RowG.tail HQ hcp) ad e j u hu) (by simp)) (flat_mem1 oneD _) (by simp only [List.length_cons] at hq ⊢; omega) (by simp only [List.length_cons] at hq ⊢; omega) F.size) ?_
          rintro va wa ⟨HOa, hg, hat⟩
          have fg1 := (Fr.of_grown hg).size
          have hge := own_ge HO
          replace F := F.grown hg hge
          clear hge
          clear HO
          refine st rfl rfl rfl rfl (x_asg rfl) ?_
          refine st rfl rfl rfl rfl (x_asg rfl) ?_
          refine rl_end rfl ?_
          refine al_k ?_
          refine cl_ret rfl ?_
          refine fin2 rfl rfl rfl ?_
          exact ⟨.yes (qstep_2y c4_0 (Decidable.not_not.1 c5_10)) (SlG.own (by decide) lenD HOa (by simp) (by simp)), F⟩
    · skip
      refine st rfl rfl rfl rfl (x_asg rfl) ?_
      refine rl_end rfl ?_
      refine al_k ?_
      refine cl_if0 rfl rfl ?_
      refine cl_seq rfl ?_
      refine cl_reg rfl ?_
      refine sf rfl rfl rfl rfl (x_eql rfl rfl) (fun c8_0 => ?_) (fun c8_0 => ?_)
      · skip
        refine st rfl rfl rfl rfl (x_asg rfl) ?_
        refine rl_end rfl ?_
        refine al_k ?_
        refine cl_if1 rfl rfl ?_
        refine cl_seq rfl ?_
        refine cl_reg rfl ?_
        refine st rfl rfl rfl rfl (x_move rfl) ?_
        refine st rfl rfl rfl rfl (x_move rfl) ?_
        refine st rfl rfl rfl rfl (x_len rfl Try.underlying22) ?_
        refine sf rfl rfl rfl rfl (x_eql rfl rfl) (fun c9_3 => ?_) (fun c9_3 => ?_)
        · skip
          refine st rfl rfl rfl rfl (x_asg rfl) ?_
          refine st rfl rfl rfl rfl (x_asg rfl) ?_
          refine rl_end rfl ?_
          refine al_k ?_
          refine cl_ret rfl ?_
          refine fin2 rfl rfl rfl ?_
          obtain rfl : q = [] := List.eq_nil_of_length_eq_zero (by omega)
          exact ⟨.yes (by rw [qstep_3 c8_0]; rfl) ⟨A, c, rfl, RowG.nil _ _, hcp⟩, F⟩
        · skip
          refine st rfl rfl rfl rfl (x_asg rfl) ?_
          refine st rfl rfl rfl rfl (x_asg rfl) ?_
          refine rl_end rfl ?_
          refine al_k ?_
          refine cl_ret rfl ?_
          refine fin2 rfl rfl rfl ?_
          exact ⟨.no (by rw [qstep_3 c8_0, if_neg (fun h => by subst h; exact c9_3 rfl)]), F⟩
      · skip
        refine st rfl rfl rfl rfl (x_asg rfl) ?_
        refine rl_end rfl ?_
        refine al_k ?_
        refine cl_if0 rfl rfl ?_
        refine cl_skip rfl ?_
        refine al_k ?_
        refine cl_seq rfl ?_
        have hF0 := F
        have hb3 := b3.lt
        have HB := Nat.le_refl wb3.heap.size
        refine cl_reg rfl ?_
        refine st rfl rfl rfl rfl (x_asg rfl) ?_
        refine rl_end rfl ?_
        refine al_k ?_
        refine cl_seq rfl ?_
        refine cl_seq rfl ?_
        refine cl_reg rfl ?_
        refine st rfl rfl rfl rfl (x_asg rfl) ?_
        refine rl_end rfl ?_
        refine al_k ?_
        refine cl_block rfl ?_
        refine cl_loop (fun s : Nat × Value => [(7, .int .i64 s.1), (6, s.2), (0, .slice A q.length c), (3, .pointer (some ⟨w.heap.size, 0, none⟩))]) (fun s w' => s.1 ≤ q.length ∧ w'.ownsRow wb3.heap.size 40 6 s.2 ((q.take s.1).filter fun x => decide (x.lane ≠ d.lane)).length (flat encD ((q.take s.1).filter fun x => decide (x.lane ≠ d.lane))) ∧ Blk w' w.heap.size 40 (encD d) ∧ Fr [] w w' ∧ wb3.heap.size ≤ w'.heap.size) (fun s => q.length - s.1) (0, .slice none 0 0) rfl ⟨rfl, rfl, rfl, rfl, trivial⟩ ?_ ?_
        · exact ⟨Nat.zero_le _, own_nil _ _ _, b3, F, HB⟩
        · skip
          rintro ⟨i, v6⟩ wr ⟨hi, HO, b3, F, HB⟩
          dsimp only at hi HO ⊢
          have hfl : ((q.take i).filter fun x => decide (x.lane ≠ d.lane)).length ≤ 1000 := Nat.le_trans (List.length_filter_le _ _) (by rw [List.length_take]; omega)
          refine cl_seq rfl ?_
          refine cl_seq rfl ?_
          refine cl_reg rfl ?_
          refine st rfl rfl rfl rfl (x_move rfl) ?_
          refine st rfl rfl rfl rfl (x_move rfl) ?_
          refine st rfl rfl rfl rfl (x_len rfl Try.underlying22) ?_
          refine sf rfl rfl rfl rfl (x_lss rfl rfl) (fun c12_3 => ?_) (fun c12_3 => ?_)
          · skip
            refine rl_end rfl ?_
            refine al_k ?_
            refine cl_if1 rfl rfl ?_
            refine cl_skip rfl ?_
            refine al_k ?_
            refine cl_seq rfl ?_
            refine cl_block rfl ?_
            refine cl_seq rfl ?_
            obtain ⟨x, hx⟩ : ∃ x, q[i]? = some x := ⟨_, List.getElem?_eq_getElem (by omega)⟩
            obtain ⟨a, rfl, hcx⟩ := HQ i x hx
            refine cl_draw (by kernel_rfl) rfl [] (fun w' => w'.heap = wr.heap) ?_
            rintro wd14 frd14 hpd14
            refine ⟨hpd14, ?_⟩
            refine dt (i := 0) rfl rfl rfl rfl (by kernel_rfl) (fun _ => x_move rfl) ?_
            refine dt (i := 1) rfl rfl rfl rfl (by kernel_rfl) (fun _ => x_move rfl) ?_
            refine dt (i := 2) rfl rfl rfl rfl (by kernel_rfl) (fun _ => x_iag rfl rfl Try.underlying22 Try.sizeOf40 (by omega)) ?_
            refine dt (i := 3) rfl rfl rfl rfl (by kernel_rfl) (fun _ => x_fag rfl Try.underlying40 rfl Try.sizeOf3 1 rfl) ?_
            refine dlt (i := 4) rfl rfl rfl rfl (by kernel_rfl) (by kernel_rfl) (fun w' hU => x_ld rfl Try.isAgg3 (heq hU (F.cell (hcx 1 _ rfl) (by simp)))) ?_
            refine dt (i := 5) rfl rfl rfl rfl (by kernel_rfl) (fun _ => x_fa rfl Try.underlying40 rfl Try.sizeOf3 1 rfl) ?_
            refine dlt (i := 6) rfl rfl rfl rfl (by kernel_rfl) (by kernel_rfl) (fun w' hU => x_ld rfl Try.isAgg3 (heq hU (b3.cell rfl))) ?_
            refine dfk (i := 7) rfl rfl rfl rfl (by kernel_rfl) (fun _ => x_neq rfl rfl) (fun c14_7 => ?_) (fun c14_7 => ?_)
            · skip
              replace F := F.trans frd14
              replace b3 := b3.fr0 frd14
              replace HO := own_fr0 HO frd14
              replace HB := Nat.le_trans HB frd14.size
              refine dn (by kernel_rfl) ?_
              refine al_k ?_
              refine cl_if1 rfl rfl ?_
              refine cl_reg rfl ?_
              refine st rfl rfl rfl rfl (x_move rfl) ?_
              refine st rfl rfl rfl rfl (x_move rfl) ?_
              refine st rfl rfl rfl rfl (x_move rfl) ?_
              refine st rfl rfl rfl rfl (x_iag rfl rfl Try.underlying22 Try.sizeOf40 (by omega)) ?_
              refine st rfl rfl rfl rfl (x_ldg (cs := encD x) rfl Try.isAgg40 Try.sizeOf40 rfl (fun j v h => F.cell (hcx j v h) (by simp))) ?_
              refine se rfl rfl rfl rfl (e_new (x_bsl rfl (bslD _ _))) ?_
              rintro _ wl ⟨rfl, b16, fr, _⟩
              replace F := F.trans fr
              replace b3 := b3.fr0 fr
              replace HO := own_fr0 HO fr
              replace HB := Nat.le_trans HB fr.size
              clear fr
              refine se rfl rfl rfl rfl (e_app 6 48 (.agg #[.int .i64 0, .int .i64 0, .int .u64 0, .int .i64 0, .int .i64 0, .bool false]) (encD x) rfl rfl Try.underlying22 (by kernel_rfl) rfl (by decide) HO (by rw [lenD]) b16.news (oneD _) (by omega) (by omega) HB) ?_
              rintro vz wz ⟨HO1, hg, hat⟩
              have hge := own_ge HO
              have HOz := own_cast (n2 := (((q.take i).filter fun x => decide (x.lane ≠ d.lane)) ++ [x]).length) (ys := flat encD (((q.take i).filter fun x => decide (x.lane ≠ d.lane)) ++ [x])) HO1 (by rw [List.length_append]; rfl) (by rw [flat_app', flat_one'])
              replace b3 := b3.fr (Fr.of_grown hg) (by intro hm; cases hvo : v6.ownBlock with | none => (rw [hvo] at hm; simp at hm) | some z => (rw [hvo] at hm; simp at hm; subst hm; have := hge _ hvo; omega))
              replace F := F.grown hg (fun z hz => by have := hge z hz; omega)
              replace HB := Nat.le_trans HB (Fr.of_grown hg).size
              refine st rfl rfl rfl rfl (x_asg rfl) ?_
              refine rl_end rfl ?_
              refine al_k ?_
              refine cl_reg rfl ?_
              refine st rfl rfl rfl rfl (x_move rfl) ?_
              refine st rfl rfl rfl rfl (x_add rfl rfl (by omega)) ?_
              refine st rfl rfl rfl rfl (x_asg rfl) ?_
              refine rl_end rfl ?_
              have hs1 : ((q.take (i + 1)).filter fun x => decide (x.lane ≠ d.lane)) = ((q.take i).filter fun x => decide (x.lane ≠ d.lane)) ++ [x] := by rw [List.take_add_one, hx, List.filter_append]; simp [c14_7]
              refine again (i + 1, vz) (show q.length - (i + 1) < q.length - i by omega) ⟨rfl, rfl, rfl, rfl, trivial⟩ ⟨by dsimp only; omega, by dsimp only; rw [hs1]; exact HOz, b3, F, HB⟩
            · skip
              replace F := F.trans frd14
              replace b3 := b3.fr0 frd14
              replace HO := own_fr0 HO frd14
              replace HB := Nat.le_trans HB frd14.size
              refine dn (by kernel_rfl) ?_
              refine al_k ?_
              refine cl_if0 rfl rfl ?_
              refine cl_skip rfl ?_
              refine al_k ?_
              refine cl_reg rfl ?_
              refine st rfl rfl rfl rfl (x_move rfl) ?_
              refine st rfl rfl rfl rfl (x_add rfl rfl (by omega)) ?_
              refine st rfl rfl rfl rfl (x_asg rfl) ?_
              refine rl_end rfl ?_
              have hs1 : ((q.take (i + 1)).filter fun x => decide (x.lane ≠ d.lane)) = ((q.take i).filter fun x => decide (x.lane ≠ d.lane)) := by rw [List.take_add_one, hx, List.filter_append]; simp [c14_7]
              refine again (i + 1, v6) (show q.length - (i + 1) < q.length - i by omega) ⟨rfl, rfl, rfl, rfl, trivial⟩ ⟨by dsimp only; omega, by dsimp only; rw [hs1]; exact HO, b3, F, HB⟩
          · skip
            refine rl_end rfl ?_
            refine al_k ?_
            refine cl_if0 rfl rfl ?_
            refine cl_exit rfl ?_
            refine upd_self ?_
            refine al_k ?_
            refine cl_seq rfl ?_
            refine cl_reg rfl ?_
            refine st rfl rfl rfl rfl (x_move rfl) ?_
            refine st rfl rfl rfl rfl (x_asg rfl) ?_
            refine st rfl rfl rfl rfl (x_asg rfl) ?_
            refine rl_end rfl ?_
            refine al_k ?_
            refine cl_ret rfl ?_
            refine fin2 rfl rfl rfl ?_
            have e : i = q.length := by omega
            subst e
            rw [List.take_length] at HO
            exact ⟨.yes (qstep_4 c2_0 c4_0 c8_0) (SlG.own (by decide) lenD HO rfl rfl), F⟩

end Go.Proofs.Ytmeheoflfdmgiaa.Lin
