/- The reference of the lists: the walks of what reads them. -/
import Derived.Test.YtnnhpbjibhnhnabDoorLsF
set_option linter.unusedVariables false
namespace Go.Proofs.YtnnhpbjibhnhnabDoor.Ls
open Go Go.RowKit Go.Proofs.YtnnhpbjibhnhnabDoor.Sx Go.Proofs.YtnnhpbjibhnhnabDoor
set_option maxRecDepth 100000

theorem bldR (a : Option Addr) (n m c : Nat) (w : World) : (Instr.build 69 [(0, .int .i64 n), (1, .slice a m c)].toArray).run Tryd.prog w = .ok (.agg [.int .i64 n, .slice a m c].toArray) w := by kernel_rfl
theorem made_1 (v : Value) (m : Nat) : madeCells #[v] (m * 1) = (List.replicate m v).toArray := by
  have := made_flat (enc := fun v : Value => [v]) (k := 1) (fun _ => rfl) v m
  simpa [flat] using this
theorem ints1 (a : Int) (l : List Int) : [Value.int .i64 a] ++ ints l = ints (a :: l) := rfl
theorem ints2 (l : List Int) (a : Int) : ints l ++ [Value.int .i64 a] = ints (l ++ [a]) := by simp [ints]
theorem ints3 (l m : List Int) : ints l ++ ints m = ints (l ++ m) := by simp [ints]
theorem ints_len (l : List Int) : (ints l).length = l.length * 1 := by simp [ints]
theorem ints_one (l : List Int) : ∀ u ∈ ints l, u.oneCell' = true := by intro u hu; simp only [ints, List.mem_map] at hu; obtain ⟨z, _, rfl⟩ := hu; rfl

theorem ris_y (w : World) (B0 B rp lb N : Nat) (ls : Rows) (R : RefAt w B0 B rp lb N ls) (j : Int) (h0 : 0 ≤ j) (h1 : j < (ls.length : Int)) : Cl Tryd.prog 36 [.pointer (some ⟨rp, 0, none⟩), .int .i64 j] w (fun v w' => v = .bool true ∧ w' = w) := by
  refine enter Tryd.func36 rfl Tryd.ntmps36 rfl ?_
  refine cl_seq rfl ?_
  refine cl_reg rfl ?_
  refine st rfl rfl rfl rfl (x_asg rfl) ?_
  refine rl_end rfl ?_
  refine al_k ?_
  refine cl_seq rfl ?_
  refine cl_reg rfl ?_
  refine st rfl rfl rfl rfl (x_move rfl) ?_
  refine st rfl rfl rfl rfl ((x_geq rfl rfl).b1 (by omega)) ?_
  refine st rfl rfl rfl rfl (x_move rfl) ?_
  refine st rfl rfl rfl rfl (x_move rfl) ?_
  refine st rfl rfl rfl rfl (x_move rfl) ?_
  refine st rfl rfl rfl rfl (x_nil rfl) ?_
  refine st rfl rfl rfl rfl (x_fa rfl Tryd.underlying69 rfl Tryd.sizeOf67 1 rfl) ?_
  refine st rfl rfl rfl rfl (x_ld rfl Tryd.isAgg67 (R.top.cell rfl)) ?_
  refine st rfl rfl rfl rfl (x_len rfl Tryd.underlying67) ?_
  refine st rfl rfl rfl rfl ((x_lss rfl rfl).b1 (by omega)) ?_
  refine st rfl rfl rfl rfl (x_pick1 rfl rfl) ?_
  refine st rfl rfl rfl rfl (x_asg rfl) ?_
  refine rl_end rfl ?_
  refine al_k ?_
  refine cl_ret rfl ?_
  refine fin1 rfl rfl ?_
  exact ⟨rfl, rfl⟩

theorem ris_n (w : World) (B0 B rp lb N : Nat) (ls : Rows) (R : RefAt w B0 B rp lb N ls) (j : Int) (h0 : 0 ≤ j) (h1 : ¬ j < (ls.length : Int)) : Cl Tryd.prog 36 [.pointer (some ⟨rp, 0, none⟩), .int .i64 j] w (fun v w' => v = .bool false ∧ w' = w) := by
  refine enter Tryd.func36 rfl Tryd.ntmps36 rfl ?_
  refine cl_seq rfl ?_
  refine cl_reg rfl ?_
  refine st rfl rfl rfl rfl (x_asg rfl) ?_
  refine rl_end rfl ?_
  refine al_k ?_
  refine cl_seq rfl ?_
  refine cl_reg rfl ?_
  refine st rfl rfl rfl rfl (x_move rfl) ?_
  refine st rfl rfl rfl rfl ((x_geq rfl rfl).b1 (by omega)) ?_
  refine st rfl rfl rfl rfl (x_move rfl) ?_
  refine st rfl rfl rfl rfl (x_move rfl) ?_
  refine st rfl rfl rfl rfl (x_move rfl) ?_
  refine st rfl rfl rfl rfl (x_nil rfl) ?_
  refine st rfl rfl rfl rfl (x_fa rfl Tryd.underlying69 rfl Tryd.sizeOf67 1 rfl) ?_
  refine st rfl rfl rfl rfl (x_ld rfl Tryd.isAgg67 (R.top.cell rfl)) ?_
  refine st rfl rfl rfl rfl (x_len rfl Tryd.underlying67) ?_
  refine st rfl rfl rfl rfl ((x_lss rfl rfl).b0 (by omega)) ?_
  refine st rfl rfl rfl rfl (x_pick1 rfl rfl) ?_
  refine st rfl rfl rfl rfl (x_asg rfl) ?_
  refine rl_end rfl ?_
  refine al_k ?_
  refine cl_ret rfl ?_
  refine fin1 rfl rfl ?_
  exact ⟨rfl, rfl⟩

theorem ris_z (w : World) (B0 B rp lb N : Nat) (ls : Rows) (R : RefAt w B0 B rp lb N ls) (j : Int) (h0 : ¬ 0 ≤ j) : Cl Tryd.prog 36 [.pointer (some ⟨rp, 0, none⟩), .int .i64 j] w (fun v w' => v = .bool false ∧ w' = w) := by
  refine enter Tryd.func36 rfl Tryd.ntmps36 rfl ?_
  refine cl_seq rfl ?_
  refine cl_reg rfl ?_
  refine st rfl rfl rfl rfl (x_asg rfl) ?_
  refine rl_end rfl ?_
  refine al_k ?_
  refine cl_seq rfl ?_
  refine cl_reg rfl ?_
  refine st rfl rfl rfl rfl (x_move rfl) ?_
  refine st rfl rfl rfl rfl ((x_geq rfl rfl).b0 (by omega)) ?_
  refine st rfl rfl rfl rfl (x_move rfl) ?_
  refine so rfl rfl rfl rfl ?_
  refine so rfl rfl rfl rfl ?_
  refine so rfl rfl rfl rfl ?_
  refine so rfl rfl rfl rfl ?_
  refine so rfl rfl rfl rfl ?_
  refine so rfl rfl rfl rfl ?_
  refine so rfl rfl rfl rfl ?_
  refine st rfl rfl rfl rfl (x_pick0 rfl rfl) ?_
  refine st rfl rfl rfl rfl (x_asg rfl) ?_
  refine rl_end rfl ?_
  refine al_k ?_
  refine cl_ret rfl ?_
  refine fin1 rfl rfl ?_
  exact ⟨rfl, rfl⟩

theorem ris_c (w : World) (B0 B rp lb N : Nat) (ls : Rows) (R : RefAt w B0 B rp lb N ls) (j : Int) : Cl Tryd.prog 36 [.pointer (some ⟨rp, 0, none⟩), .int .i64 j] w (fun v w' => v = .bool (decide (okL ls j)) ∧ w' = w) := by
  by_cases h0 : 0 ≤ j
  · by_cases h1 : j < (ls.length : Nat)
    · rw [decide_eq_true (show okL ls j from ⟨h0, h1⟩)]; exact ris_y w B0 B rp lb N ls R j h0 h1
    · rw [decide_eq_false (show ¬ okL ls j from fun h => h1 h.2)]; exact ris_n w B0 B rp lb N ls R j h0 h1
  · rw [decide_eq_false (show ¬ okL ls j from fun h => h0 h.1)]; exact ris_z w B0 B rp lb N ls R j h0

theorem rnode_y (w : World) (B0 B rp lb N : Nat) (ls : Rows) (R : RefAt w B0 B rp lb N ls) (j : Int) (h0 : 0 ≤ j) (h1 : j < (N : Int)) : Cl Tryd.prog 46 [.pointer (some ⟨rp, 0, none⟩), .int .i64 j] w (fun v w' => v = .bool true ∧ w' = w) := by
  refine enter Tryd.func46 rfl Tryd.ntmps46 rfl ?_
  refine cl_seq rfl ?_
  refine cl_reg rfl ?_
  refine st rfl rfl rfl rfl (x_asg rfl) ?_
  refine rl_end rfl ?_
  refine al_k ?_
  refine cl_seq rfl ?_
  refine cl_reg rfl ?_
  refine st rfl rfl rfl rfl (x_move rfl) ?_
  refine st rfl rfl rfl rfl ((x_geq rfl rfl).b1 (by omega)) ?_
  refine st rfl rfl rfl rfl (x_move rfl) ?_
  refine st rfl rfl rfl rfl (x_move rfl) ?_
  refine st rfl rfl rfl rfl (x_move rfl) ?_
  refine st rfl rfl rfl rfl (x_nil rfl) ?_
  refine st rfl rfl rfl rfl (x_fa rfl Tryd.underlying69 rfl Tryd.sizeOf3 0 rfl) ?_
  refine st rfl rfl rfl rfl (x_ld rfl Tryd.isAgg3 (R.top.cell rfl)) ?_
  refine st rfl rfl rfl rfl ((x_lss rfl rfl).b1 (by omega)) ?_
  refine st rfl rfl rfl rfl (x_pick1 rfl rfl) ?_
  refine st rfl rfl rfl rfl (x_asg rfl) ?_
  refine rl_end rfl ?_
  refine al_k ?_
  refine cl_ret rfl ?_
  refine fin1 rfl rfl ?_
  exact ⟨rfl, rfl⟩

theorem rnode_n (w : World) (B0 B rp lb N : Nat) (ls : Rows) (R : RefAt w B0 B rp lb N ls) (j : Int) (h0 : 0 ≤ j) (h1 : ¬ j < (N : Int)) : Cl Tryd.prog 46 [.pointer (some ⟨rp, 0, none⟩), .int .i64 j] w (fun v w' => v = .bool false ∧ w' = w) := by
  refine enter Tryd.func46 rfl Tryd.ntmps46 rfl ?_
  refine cl_seq rfl ?_
  refine cl_reg rfl ?_
  refine st rfl rfl rfl rfl (x_asg rfl) ?_
  refine rl_end rfl ?_
  refine al_k ?_
  refine cl_seq rfl ?_
  refine cl_reg rfl ?_
  refine st rfl rfl rfl rfl (x_move rfl) ?_
  refine st rfl rfl rfl rfl ((x_geq rfl rfl).b1 (by omega)) ?_
  refine st rfl rfl rfl rfl (x_move rfl) ?_
  refine st rfl rfl rfl rfl (x_move rfl) ?_
  refine st rfl rfl rfl rfl (x_move rfl) ?_
  refine st rfl rfl rfl rfl (x_nil rfl) ?_
  refine st rfl rfl rfl rfl (x_fa rfl Tryd.underlying69 rfl Tryd.sizeOf3 0 rfl) ?_
  refine st rfl rfl rfl rfl (x_ld rfl Tryd.isAgg3 (R.top.cell rfl)) ?_
  refine st rfl rfl rfl rfl ((x_lss rfl rfl).b0 (by omega)) ?_
  refine st rfl rfl rfl rfl (x_pick1 rfl rfl) ?_
  refine st rfl rfl rfl rfl (x_asg rfl) ?_
  refine rl_end rfl ?_
  refine al_k ?_
  refine cl_ret rfl ?_
  refine fin1 rfl rfl ?_
  exact ⟨rfl, rfl⟩

theorem rnode_z (w : World) (B0 B rp lb N : Nat) (ls : Rows) (R : RefAt w B0 B rp lb N ls) (j : Int) (h0 : ¬ 0 ≤ j) : Cl Tryd.prog 46 [.pointer (some ⟨rp, 0, none⟩), .int .i64 j] w (fun v w' => v = .bool false ∧ w' = w) := by
  refine enter Tryd.func46 rfl Tryd.ntmps46 rfl ?_
  refine cl_seq rfl ?_
  refine cl_reg rfl ?_
  refine st rfl rfl rfl rfl (x_asg rfl) ?_
  refine rl_end rfl ?_
  refine al_k ?_
  refine cl_seq rfl ?_
  refine cl_reg rfl ?_
  refine st rfl rfl rfl rfl (x_move rfl) ?_
  refine st rfl rfl rfl rfl ((x_geq rfl rfl).b0 (by omega)) ?_
  refine st rfl rfl rfl rfl (x_move rfl) ?_
  refine so rfl rfl rfl rfl ?_
  refine so rfl rfl rfl rfl ?_
  refine so rfl rfl rfl rfl ?_
  refine so rfl rfl rfl rfl ?_
  refine so rfl rfl rfl rfl ?_
  refine so rfl rfl rfl rfl ?_
  refine st rfl rfl rfl rfl (x_pick0 rfl rfl) ?_
  refine st rfl rfl rfl rfl (x_asg rfl) ?_
  refine rl_end rfl ?_
  refine al_k ?_
  refine cl_ret rfl ?_
  refine fin1 rfl rfl ?_
  exact ⟨rfl, rfl⟩

theorem rnode_c (w : World) (B0 B rp lb N : Nat) (ls : Rows) (R : RefAt w B0 B rp lb N ls) (j : Int) : Cl Tryd.prog 46 [.pointer (some ⟨rp, 0, none⟩), .int .i64 j] w (fun v w' => v = .bool (decide (okN N j)) ∧ w' = w) := by
  by_cases h0 : 0 ≤ j
  · by_cases h1 : j < (N : Nat)
    · rw [decide_eq_true (show okN N j from ⟨h0, h1⟩)]; exact rnode_y w B0 B rp lb N ls R j h0 h1
    · rw [decide_eq_false (show ¬ okN N j from fun h => h1 h.2)]; exact rnode_n w B0 B rp lb N ls R j h0 h1
  · rw [decide_eq_false (show ¬ okN N j from fun h => h0 h.1)]; exact rnode_z w B0 B rp lb N ls R j h0

theorem rat_c (w : World) (B0 B rp lb N : Nat) (ls : Rows) (R : RefAt w B0 B rp lb N ls) (hB : ∀ (i : Nat) l, ls[i]? = some l → l.length ≤ 65536) (n : Int) : Cl Tryd.prog 47 [.pointer (some ⟨rp, 0, none⟩), .int .i64 n] w (fun v w' => v = .int .i64 (atI ls n) ∧ w' = w) := by
  have hsH := R.sH
  refine enter Tryd.func47 rfl Tryd.ntmps47 rfl ?_
  refine cl_seq rfl ?_
  refine cl_reg rfl ?_
  refine st rfl rfl rfl rfl (x_asg rfl) ?_
  refine rl_end rfl ?_
  refine al_k ?_
  refine cl_seq rfl ?_
  refine cl_seq rfl ?_
  refine cl_reg rfl ?_
  refine st rfl rfl rfl rfl (x_asg rfl) ?_
  refine rl_end rfl ?_
  refine al_k ?_
  refine cl_block rfl ?_
  refine cl_loop (fun i : Nat => [(5, .int .i64 i), (0, .pointer (some ⟨rp, 0, none⟩)), (1, .int .i64 n)]) (fun i w' => w' = w ∧ i ≤ ls.length ∧ ∀ (j : Nat) l, j < i → ls[j]? = some l → n ∉ l) (fun i => ls.length - i) 0 rfl ⟨rfl, rfl, rfl, trivial⟩ ?_ ?_
  · exact ⟨rfl, Nat.zero_le _, fun j l hj => absurd hj (by omega)⟩
  · skip
    rintro i wk ⟨hwk, hi, hno⟩
    obtain rfl := hwk.symm
    refine cl_seq rfl ?_
    refine cl_seq rfl ?_
    refine cl_reg rfl ?_
    refine st rfl rfl rfl rfl (x_move rfl) ?_
    refine st rfl rfl rfl rfl (x_move rfl) ?_
    refine st rfl rfl rfl rfl (x_nil rfl) ?_
    refine st rfl rfl rfl rfl (x_fa rfl Tryd.underlying69 rfl Tryd.sizeOf67 1 rfl) ?_
    refine st rfl rfl rfl rfl (x_ld rfl Tryd.isAgg67 (R.top.cell rfl)) ?_
    refine st rfl rfl rfl rfl (x_len rfl Tryd.underlying67) ?_
    refine sf rfl rfl rfl rfl (x_lss rfl rfl) (fun c2_6 => ?_) (fun c2_6 => ?_)
    · skip
      refine rl_end rfl ?_
      refine al_k ?_
      refine cl_if1 rfl rfl ?_
      refine cl_skip rfl ?_
      refine al_k ?_
      refine cl_seq rfl ?_
      refine cl_block rfl ?_
      refine cl_seq rfl ?_
      have hil : i < ls.length := by omega
      obtain ⟨l, hl⟩ : ∃ l, ls[i]? = some l := ⟨_, List.getElem?_eq_getElem hil⟩
      have hll := hB _ _ hl
      obtain ⟨A0, c0, C⟩ := R.rowc (i := (i : Int)) (l := l) (by simpa using hl)
      refine cl_reg rfl ?_
      refine st rfl rfl rfl rfl (x_asg rfl) ?_
      refine rl_end rfl ?_
      refine al_k ?_
      refine cl_block rfl ?_
      refine cl_loop (fun k : Nat => [(6, .int .i64 k), (5, .int .i64 i), (0, .pointer (some ⟨rp, 0, none⟩)), (1, .int .i64 n)]) (fun k w' => w' = w ∧ k ≤ l.length ∧ n ∉ l.take k) (fun k => l.length - k) 0 rfl ⟨rfl, rfl, rfl, rfl, trivial⟩ ?_ ?_
      · exact ⟨rfl, Nat.zero_le _, by simp⟩
      · skip
        rintro k wk ⟨hwk, hk, hk2⟩
        obtain rfl := hwk.symm
        refine cl_seq rfl ?_
        refine cl_seq rfl ?_
        refine cl_reg rfl ?_
        refine st rfl rfl rfl rfl (x_move rfl) ?_
        refine st rfl rfl rfl rfl (x_move rfl) ?_
        refine st rfl rfl rfl rfl (x_nil rfl) ?_
        refine st rfl rfl rfl rfl (x_fa rfl Tryd.underlying69 rfl Tryd.sizeOf67 1 rfl) ?_
        refine st rfl rfl rfl rfl (x_ld rfl Tryd.isAgg67 (R.top.cell rfl)) ?_
        refine st rfl rfl rfl rfl (x_move rfl) ?_
        refine st rfl rfl rfl rfl (x_ia0 rfl rfl Tryd.underlying67 Tryd.sizeOf40 (by omega)) ?_
        refine st rfl rfl rfl rfl (x_ld rfl Tryd.isAgg40 C.cell) ?_
        refine st rfl rfl rfl rfl (x_len rfl Tryd.underlying40) ?_
        refine sf rfl rfl rfl rfl (x_lss rfl rfl) (fun c5_9 => ?_) (fun c5_9 => ?_)
        · skip
          refine rl_end rfl ?_
          refine al_k ?_
          refine cl_if1 rfl rfl ?_
          refine cl_skip rfl ?_
          refine al_k ?_
          refine cl_seq rfl ?_
          refine cl_block rfl ?_
          refine cl_seq rfl ?_
          have hkl : k < l.length := by omega
          obtain ⟨z, hz⟩ : ∃ z, l[k]? = some z := ⟨_, List.getElem?_eq_getElem hkl⟩
          obtain ⟨b, rfl, _, _, hc⟩ := C.at_ k z hz
          refine cl_reg rfl ?_
          refine st rfl rfl rfl rfl (x_move rfl) ?_
          refine st rfl rfl rfl rfl (x_nil rfl) ?_
          refine st rfl rfl rfl rfl (x_fa rfl Tryd.underlying69 rfl Tryd.sizeOf67 1 rfl) ?_
          refine st rfl rfl rfl rfl (x_ld rfl Tryd.isAgg67 (R.top.cell rfl)) ?_
          refine st rfl rfl rfl rfl (x_move rfl) ?_
          refine st rfl rfl rfl rfl (x_ia0 rfl rfl Tryd.underlying67 Tryd.sizeOf40 (by omega)) ?_
          refine st rfl rfl rfl rfl (x_ld rfl Tryd.isAgg40 C.cell) ?_
          refine st rfl rfl rfl rfl (x_move rfl) ?_
          refine st rfl rfl rfl rfl (x_ia0 rfl rfl Tryd.underlying40 Tryd.sizeOf3 (by omega)) ?_
          refine st rfl rfl rfl rfl (x_ld rfl Tryd.isAgg3 (by simpa using hc)) ?_
          refine st rfl rfl rfl rfl (x_move rfl) ?_
          refine sf rfl rfl rfl rfl (x_eql rfl rfl) (fun c7_11 => ?_) (fun c7_11 => ?_)
          · skip
            refine rl_end rfl ?_
            refine al_k ?_
            refine cl_if1 rfl rfl ?_
            refine cl_seq rfl ?_
            refine cl_reg rfl ?_
            refine st rfl rfl rfl rfl (x_move rfl) ?_
            refine st rfl rfl rfl rfl (x_asg rfl) ?_
            refine rl_end rfl ?_
            refine al_k ?_
            refine cl_ret rfl ?_
            refine fin1 rfl rfl ?_
            refine ⟨congrArg _ ?_, rfl⟩
            exact (atI_at hno hl (by subst c7_11; exact List.mem_of_getElem? hz)).symm
          · skip
            refine rl_end rfl ?_
            refine al_k ?_
            refine cl_if0 rfl rfl ?_
            refine cl_skip rfl ?_
            refine al_k ?_
            refine cl_reg rfl ?_
            refine st rfl rfl rfl rfl (x_move rfl) ?_
            refine st rfl rfl rfl rfl (x_add rfl rfl (by omega)) ?_
            refine st rfl rfl rfl rfl (x_asg rfl) ?_
            refine rl_end rfl ?_
            refine again (k + 1) (by omega) ⟨rfl, rfl, rfl, rfl, trivial⟩ ⟨rfl, by omega, ?_⟩
            rw [List.take_add_one, hz]
            simp only [Option.toList, List.mem_append, List.mem_singleton, not_or]
            exact ⟨hk2, fun e => c7_11 e.symm⟩
        · skip
          refine rl_end rfl ?_
          refine al_k ?_
          refine cl_if0 rfl rfl ?_
          refine cl_exit rfl ?_
          refine upd_self ?_
          refine al_k ?_
          refine cl_reg rfl ?_
          refine st rfl rfl rfl rfl (x_move rfl) ?_
          refine st rfl rfl rfl rfl (x_add rfl rfl (by omega)) ?_
          refine st rfl rfl rfl rfl (x_asg rfl) ?_
          refine rl_end rfl ?_
          refine again (i + 1) (by omega) ⟨rfl, rfl, rfl, trivial⟩ ⟨rfl, by omega, ?_⟩
          intro j m hj hm
          rcases Nat.lt_or_ge j i with h | h
          · exact hno j m h hm
          · obtain rfl : j = i := by omega
            rw [hl] at hm
            obtain rfl := Option.some.inj hm
            have ek : k = l.length := by omega
            subst ek
            rwa [List.take_length] at hk2
    · skip
      refine rl_end rfl ?_
      refine al_k ?_
      refine cl_if0 rfl rfl ?_
      refine cl_exit rfl ?_
      refine upd_self ?_
      refine al_k ?_
      refine cl_seq rfl ?_
      refine cl_reg rfl ?_
      refine st rfl rfl rfl rfl (x_asg rfl) ?_
      refine rl_end rfl ?_
      refine al_k ?_
      refine cl_ret rfl ?_
      refine fin1 rfl rfl ?_
      refine ⟨congrArg _ ?_, rfl⟩
      exact (atI_none (fun j m hj hm => hno j m (by omega) hm)).symm

theorem rwithout_c (w : World) (A0 : Option Addr) (c0 : Nat) (l : List Int) (n : Int) (hl : l.length ≤ 100000) (hrow : ∀ (k : Nat) z, l[k]? = some z → ∃ b, A0 = some ⟨b, 0, none⟩ ∧ w.cell? ⟨b, k, none⟩ = some (.int .i64 z)) :
    Cl Tryd.prog 48 [.slice A0 l.length c0, .int .i64 n] w (fun v w' => w'.ownsRow w.heap.size 3 1 v (without l n).length (ints (without l n)) ∧ Fr [] w w') := by
  have F := Fr.refl [] w
  refine enter Tryd.func48 rfl Tryd.ntmps48 rfl ?_
  refine cl_seq rfl ?_
  refine cl_reg rfl ?_
  refine st rfl rfl rfl rfl (x_asg rfl) ?_
  refine rl_end rfl ?_
  refine al_k ?_
  refine cl_seq rfl ?_
  refine cl_reg rfl ?_
  refine st rfl rfl rfl rfl (x_asg rfl) ?_
  refine rl_end rfl ?_
  refine al_k ?_
  refine cl_seq rfl ?_
  refine cl_seq rfl ?_
  refine cl_reg rfl ?_
  refine st rfl rfl rfl rfl (x_asg rfl) ?_
  refine rl_end rfl ?_
  refine al_k ?_
  refine cl_block rfl ?_
  refine cl_loop (fun s : Nat × Value => [(6, .int .i64 s.1), (5, s.2), (0, .slice A0 l.length c0), (1, .int .i64 n)]) (fun s w' => s.1 ≤ l.length ∧ w'.ownsRow w.heap.size 3 1 s.2 (without (l.take s.1) n).length (ints (without (l.take s.1) n)) ∧ Fr [] w w') (fun s => l.length - s.1) (0, .slice none 0 0) rfl ⟨rfl, rfl, rfl, rfl, trivial⟩ ?_ ?_
  · exact ⟨Nat.zero_le _, own_nil _ _ _, F⟩
  · skip
    rintro ⟨k, v⟩ wr ⟨hk, HO, F⟩
    dsimp only at hk HO ⊢
    refine cl_seq rfl ?_
    refine cl_seq rfl ?_
    refine cl_reg rfl ?_
    refine st rfl rfl rfl rfl (x_move rfl) ?_
    refine st rfl rfl rfl rfl (x_move rfl) ?_
    refine st rfl rfl rfl rfl (x_len rfl Tryd.underlying40) ?_
    refine sf rfl rfl rfl rfl (x_lss rfl rfl) (fun c3_3 => ?_) (fun c3_3 => ?_)
    · skip
      refine rl_end rfl ?_
      refine al_k ?_
      refine cl_if1 rfl rfl ?_
      refine cl_skip rfl ?_
      refine al_k ?_
      refine cl_seq rfl ?_
      refine cl_block rfl ?_
      refine cl_seq rfl ?_
      have hkl : k < l.length := by omega
      obtain ⟨z, hz⟩ : ∃ z, l[k]? = some z := ⟨_, List.getElem?_eq_getElem hkl⟩
      obtain ⟨b, rfl, hc⟩ := hrow k z hz
      replace hc := F.cell hc (by simp)
      have hwl : (without (l.take k) n).length ≤ l.length := by
        have h1 := List.length_filter_le (fun z => z != n) (l.take k)
        have h2 := List.length_take_le k l
        have h3 : (without (l.take k) n).length = ((l.take k).filter (fun z => z != n)).length := rfl
        have h4 := List.length_take (i := k) (l := l)
        omega
      refine cl_reg rfl ?_
      refine st rfl rfl rfl rfl (x_move rfl) ?_
      refine st rfl rfl rfl rfl (x_move rfl) ?_
      refine st rfl rfl rfl rfl (x_ia0 rfl rfl Tryd.underlying40 Tryd.sizeOf3 (by omega)) ?_
      refine st rfl rfl rfl rfl (x_ld rfl Tryd.isAgg3 (by simpa using hc)) ?_
      refine st rfl rfl rfl rfl (x_move rfl) ?_
      refine sf rfl rfl rfl rfl (x_neq rfl rfl) (fun c5_5 => ?_) (fun c5_5 => ?_)
      · skip
        refine rl_end rfl ?_
        refine al_k ?_
        refine cl_if1 rfl rfl ?_
        refine cl_reg rfl ?_
        refine st rfl rfl rfl rfl (x_move rfl) ?_
        refine st rfl rfl rfl rfl (x_move rfl) ?_
        refine st rfl rfl rfl rfl (x_move rfl) ?_
        refine st rfl rfl rfl rfl (x_ia0 rfl rfl Tryd.underlying40 Tryd.sizeOf3 (by omega)) ?_
        refine st rfl rfl rfl rfl (x_ld rfl Tryd.isAgg3 (by simpa using hc)) ?_
        refine se rfl rfl rfl rfl (e_new (x_bsl rfl (bsl1 Tryd.underlying40 Tryd.sizeOf3 Tryd.zeroValue3 rfl rfl))) ?_
        rintro _ w2 ⟨rfl, b2, fr2, sz2⟩
        replace F := F.trans fr2
        replace HO := own_fr0 HO fr2
        refine se rfl rfl rfl rfl (e_app 1 8 (.int .i64 0) [.int .i64 z] rfl rfl Tryd.underlying40 (by kernel_rfl) rfl (by decide) HO rfl b2.news (by simp; rfl) (by omega) (by omega) (F.size)) ?_
        rintro v1 w1 ⟨HO1, hg, hat⟩
        replace F := F.grown hg (own_ge HO)
        replace HO := HO1
        refine st rfl rfl rfl rfl (x_asg rfl) ?_
        refine rl_end rfl ?_
        refine al_k ?_
        refine cl_reg rfl ?_
        refine st rfl rfl rfl rfl (x_move rfl) ?_
        refine st rfl rfl rfl rfl (x_add rfl rfl (by omega)) ?_
        refine st rfl rfl rfl rfl (x_asg rfl) ?_
        refine rl_end rfl ?_
        refine again (k + 1, v1) (show l.length - (k + 1) < l.length - k by omega) ⟨rfl, rfl, rfl, rfl, trivial⟩ ⟨by show k + 1 ≤ _; omega, ?_, F⟩
        have e : without (l.take (k + 1)) n = without (l.take k) n ++ [z] := by rw [List.take_add_one, hz]; simp [without, c5_5]
        dsimp only
        rw [e, List.length_append, ← ints2]
        exact HO
      · skip
        refine rl_end rfl ?_
        refine al_k ?_
        refine cl_if0 rfl rfl ?_
        refine cl_skip rfl ?_
        refine al_k ?_
        refine cl_reg rfl ?_
        refine st rfl rfl rfl rfl (x_move rfl) ?_
        refine st rfl rfl rfl rfl (x_add rfl rfl (by omega)) ?_
        refine st rfl rfl rfl rfl (x_asg rfl) ?_
        refine rl_end rfl ?_
        refine again (k + 1, v) (show l.length - (k + 1) < l.length - k by omega) ⟨rfl, rfl, rfl, rfl, trivial⟩ ⟨by show k + 1 ≤ _; omega, ?_, F⟩
        have e : without (l.take (k + 1)) n = without (l.take k) n := by rw [List.take_add_one, hz]; simp [without, Decidable.not_not.1 c5_5]
        dsimp only
        rw [e]
        exact HO
    · skip
      refine rl_end rfl ?_
      refine al_k ?_
      refine cl_if0 rfl rfl ?_
      refine cl_exit rfl ?_
      refine upd_self ?_
      refine al_k ?_
      refine cl_seq rfl ?_
      refine cl_reg rfl ?_
      refine st rfl rfl rfl rfl (x_move rfl) ?_
      refine st rfl rfl rfl rfl (x_asg rfl) ?_
      refine rl_end rfl ?_
      refine al_k ?_
      refine cl_ret rfl ?_
      refine fin1 rfl rfl ?_
      have e : k = l.length := by omega
      subst e
      rw [List.take_length] at HO
      exact ⟨HO, F⟩

end Go.Proofs.YtnnhpbjibhnhnabDoor.Ls
