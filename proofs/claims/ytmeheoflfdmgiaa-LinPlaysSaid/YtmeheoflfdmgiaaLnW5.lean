/- Deeds: the walks of what package slices does for places. -/
import Derived.Test.YtmeheoflfdmgiaaLnW4
import Derived.Test.YtmeheoflfdmgiaaLnH
set_option linter.unusedVariables false
namespace Go.Proofs.Ytmeheoflfdmgiaa.Lin
open Go Go.RowKit Go.Proofs.Ytmeheoflfdmgiaa.Sx Go.Proofs.Ytmeheoflfdmgiaa
set_option maxRecDepth 100000

theorem cloneP_c (w : World) (A : Option Addr) (c : Nat) (l : List Int) (HL : RowG encI 1 w A l) (hl : l.length ≤ 1000) : Cl Try.prog 39 [.slice A l.length c] w (fun v w' => w'.ownsRow w.heap.size 3 1 v l.length (flat encI l) ∧ Fr [] w w') := by
  have F := Fr.refl [] w
  refine enter Try.func39 rfl Try.ntmps39 rfl ?_
  refine cl_seq rfl ?_
  refine cl_reg rfl ?_
  refine st rfl rfl rfl rfl (x_asg rfl) ?_
  refine rl_end rfl ?_
  refine al_k ?_
  refine cl_seq rfl ?_
  refine cl_seq rfl ?_
  refine cl_reg rfl ?_
  refine st rfl rfl rfl rfl (x_move rfl) ?_
  refine st rfl rfl rfl rfl (x_eqsn rfl rfl Try.underlying56) ?_
  cases hf1_1 : (A.isNone)
  · skip
    refine rl_end rfl ?_
    refine al_k ?_
    refine cl_if0 rfl rfl ?_
    refine cl_skip rfl ?_
    refine al_k ?_
    refine cl_seq rfl ?_
    refine cl_reg rfl ?_
    refine se rfl rfl rfl rfl (e_new (x_bsl rfl (bsl0 Try.underlying56 Try.sizeOf3))) ?_
    rintro _ wn ⟨rfl, b5, fr, _⟩
    have HO := own_lit (base := (World.heap w).size) (n := 0) (size := 1) b5 F.size rfl (by decide)
    have l5 := b5.lt
    clear b5
    replace F := F.trans fr
    clear fr
    refine st rfl rfl rfl rfl (x_move rfl) ?_
    refine se rfl rfl rfl rfl (e_appv 1 8 (.int .i64 0) (flat encI l) rfl rfl Try.underlying56 (by kernel_rfl) rfl (by decide) HO (by rw [flat_length lenI]; (try rfl); (try simp)) (fun e => RowG.none HL e) (fun ad e j u hu => F.cell (RowG.all (by decide) lenI HL ad e j u hu) (by simp)) (flat_mem1 oneIn _) (by omega) (by omega) F.size) ?_
    rintro va wa ⟨HOa, hg, hat⟩
    have fg1 := (Fr.of_grown hg).size
    have hge := own_ge HO
    replace F := F.grown hg hge
    clear hge
    clear HO
    refine st rfl rfl rfl rfl (x_asg rfl) ?_
    refine rl_end rfl ?_
    refine al_k ?_
    refine cl_ret rfl ?_
    refine fin1 rfl rfl ?_
    exact ⟨own_cast HOa (by simp) (by simp), F⟩
  · skip
    refine rl_end rfl ?_
    refine al_k ?_
    refine cl_if1 rfl rfl ?_
    refine cl_seq rfl ?_
    refine cl_reg rfl ?_
    refine st rfl rfl rfl rfl (x_asg rfl) ?_
    refine rl_end rfl ?_
    refine al_k ?_
    refine cl_ret rfl ?_
    refine fin1 rfl rfl ?_
    obtain rfl := List.eq_nil_of_length_eq_zero (RowG.none HL (by cases A with | none => rfl | some a => cases hf1_1))
    exact ⟨own_nil _ _ _, F⟩

theorem indexP_c (w : World) (A : Option Addr) (c : Nat) (l : List Int) (HL : RowG encI 1 w A l) (wc : World) (p : Int → Bool) (fc : FuncId) (caps : List Value) (hf : ∀ a w, (callFunc fc a).run Try.prog w = .ok (.enter fc a) w) (hp : ∀ w1, Fr [] wc w1 → ∀ x ∈ l, Cl Try.prog fc ([.int .i64 x] ++ caps) w1 (fun v w2 => v = .bool (p x) ∧ Fr [] w1 w2)) (FC : Fr [] wc w) (hl : l.length ≤ 1000) : Cl Try.prog 46 [.slice A l.length c, .func (.func fc) #[] caps.toArray] w (fun v w' => v = .int .i64 (idxI p l) ∧ Fr [] w w') := by
  have F := Fr.refl [] w
  refine enter Try.func46 rfl Try.ntmps46 rfl ?_
  refine cl_seq rfl ?_
  refine cl_reg rfl ?_
  refine st rfl rfl rfl rfl (x_asg rfl) ?_
  refine rl_end rfl ?_
  refine al_k ?_
  refine cl_seq rfl ?_
  refine cl_seq rfl ?_
  refine cl_reg rfl ?_
  refine st rfl rfl rfl rfl (x_move rfl) ?_
  refine st rfl rfl rfl rfl (x_len rfl Try.underlying56) ?_
  refine st rfl rfl rfl rfl (x_move rfl) ?_
  refine rl_end rfl ?_
  refine al_k ?_
  refine cl_block rfl ?_
  refine cl_loop (fun i : Nat => [(8, .int .i64 i), (7, .int .i64 l.length), (0, .slice A l.length c), (1, .func (.func fc) #[] caps.toArray)]) (fun i w' => (i ≤ l.length ∧ ∀ (j : Nat) y, j < i → l[j]? = some y → p y = false) ∧ Fr [] w w') (fun i => l.length - i) 0 rfl ⟨rfl, rfl, rfl, rfl, trivial⟩ ?_ ?_
  · exact ⟨⟨Nat.zero_le _, fun j y h => absurd h (by omega)⟩, F⟩
  · skip
    rintro i wr ⟨⟨hi, hno⟩, F⟩
    refine cl_seq rfl ?_
    refine cl_reg rfl ?_
    refine sf rfl rfl rfl rfl (x_lss rfl rfl) (fun c2_0 => ?_) (fun c2_0 => ?_)
    · skip
      refine rl_end rfl ?_
      refine al_k ?_
      refine cl_seq rfl ?_
      refine cl_if1 rfl rfl ?_
      refine cl_skip rfl ?_
      refine al_k ?_
      refine cl_seq rfl ?_
      refine cl_block rfl ?_
      refine cl_seq rfl ?_
      refine cl_reg rfl ?_
      refine st rfl rfl rfl rfl (x_move rfl) ?_
      refine st rfl rfl rfl rfl (x_asg rfl) ?_
      refine rl_end rfl ?_
      refine al_k ?_
      refine cl_seq rfl ?_
      obtain ⟨x, hx⟩ : ∃ x, l[i]? = some x := ⟨_, List.getElem?_eq_getElem (by omega)⟩
      obtain ⟨a, rfl, hcx⟩ := RowI.at_ HL hx
      refine cl_reg rfl ?_
      refine st rfl rfl rfl rfl (x_move rfl) ?_
      refine st rfl rfl rfl rfl (x_move rfl) ?_
      refine st rfl rfl rfl rfl (x_move rfl) ?_
      refine st rfl rfl rfl rfl (x_iag rfl rfl Try.underlying56 Try.sizeOf3 (by omega)) ?_
      refine st rfl rfl rfl rfl (x_ld rfl Try.isAgg3 (F.cell hcx (by simp))) ?_
      refine sc rfl rfl rfl rfl (c_fv rfl rfl hf (hp _ (FC.trans F) x (List.mem_of_getElem? hx))) ?_
      rintro _ w4 ⟨rfl, fr⟩
      replace F := F.trans fr
      clear fr
      cases hf4_5 : (p x)
      · skip
        refine rl_end rfl ?_
        refine al_k ?_
        refine cl_if0 rfl rfl ?_
        refine cl_skip rfl ?_
        refine al_k ?_
        refine cl_reg rfl ?_
        refine st rfl rfl rfl rfl (x_add rfl rfl (by omega)) ?_
        refine st rfl rfl rfl rfl (x_move rfl) ?_
        refine rl_end rfl ?_
        refine again (i + 1) (by omega) ⟨rfl, rfl, rfl, rfl, trivial⟩ ⟨⟨by omega, ?_⟩, F⟩
        intro j y hj hy
        rcases Nat.lt_or_ge j i with h | h
        · exact hno j y h hy
        · obtain rfl : j = i := by omega
          rw [hx] at hy
          obtain rfl := Option.some.inj hy
          exact hf4_5
      · skip
        refine rl_end rfl ?_
        refine al_k ?_
        refine cl_if1 rfl rfl ?_
        refine cl_seq rfl ?_
        refine cl_reg rfl ?_
        refine st rfl rfl rfl rfl (x_move rfl) ?_
        refine st rfl rfl rfl rfl (x_asg rfl) ?_
        refine rl_end rfl ?_
        refine al_k ?_
        refine cl_ret rfl ?_
        refine fin1 rfl rfl ?_
        rw [idxI_at hno hx hf4_5]
        exact ⟨rfl, F⟩
    · skip
      refine rl_end rfl ?_
      refine al_k ?_
      refine cl_seq rfl ?_
      refine cl_if0 rfl rfl ?_
      refine cl_exit rfl ?_
      refine upd_self ?_
      refine al_k ?_
      refine cl_seq rfl ?_
      refine cl_reg rfl ?_
      refine st rfl rfl rfl rfl (x_asg rfl) ?_
      refine rl_end rfl ?_
      refine al_k ?_
      refine cl_ret rfl ?_
      refine fin1 rfl rfl ?_
      rw [idxI_none (fun y hy => by obtain ⟨j, hj⟩ := List.getElem?_of_mem hy; exact hno j y (by have := (List.getElem?_eq_some_iff.1 hj).1; omega) hj)]
      exact ⟨rfl, F⟩

theorem deleteP_c (w : World) (A : Option Addr) (c : Nat) (l : List Int) (wc : World) (p : Int → Bool) (fc : FuncId) (caps : List Value) (hf : ∀ a w, (callFunc fc a).run Try.prog w = .ok (.enter fc a) w) (hp : ∀ w1, Fr [] wc w1 → ∀ x ∈ l, Cl Try.prog fc ([.int .i64 x] ++ caps) w1 (fun v w2 => v = .bool (p x) ∧ Fr [] w1 w2)) (FC : Fr [] wc w) (HO : w.ownsRow wc.heap.size 3 1 (.slice A l.length c) l.length (flat encI l)) (HL : RowG encI 1 w A l) (hl : l.length ≤ 1000) : Cl Try.prog 41 [.slice A l.length c, .func (.func fc) #[] caps.toArray] w (fun r w' => SlG encI 1 w' r (l.filter (fun x => !p x)) ∧ Fr [] wc w') := by
  have F := Fr.refl [] w
  refine enter Try.func41 rfl Try.ntmps41 rfl ?_
  refine cl_seq rfl ?_
  refine cl_reg rfl ?_
  refine st rfl rfl rfl rfl (x_asg rfl) ?_
  refine rl_end rfl ?_
  refine al_k ?_
  refine cl_seq rfl ?_
  refine cl_reg rfl ?_
  refine st rfl rfl rfl rfl (x_move rfl) ?_
  refine st rfl rfl rfl rfl (x_move rfl) ?_
  refine sc rfl rfl rfl rfl (c_fn rfl Try.call46 (indexP_c _ A c l HL wc p fc caps hf hp FC hl)) ?_
  rintro _ w1 ⟨rfl, fr⟩
  replace F := F.trans fr
  clear fr
  refine st rfl rfl rfl rfl (x_asg rfl) ?_
  refine rl_end rfl ?_
  refine al_k ?_
  refine cl_seq rfl ?_
  refine cl_seq rfl ?_
  refine cl_reg rfl ?_
  refine st rfl rfl rfl rfl (x_move rfl) ?_
  refine sf rfl rfl rfl rfl (x_eql rfl rfl) (fun c2_1 => ?_) (fun c2_1 => ?_)
  · skip
    refine rl_end rfl ?_
    refine al_k ?_
    refine cl_if1 rfl rfl ?_
    refine cl_seq rfl ?_
    refine cl_reg rfl ?_
    refine st rfl rfl rfl rfl (x_move rfl) ?_
    refine st rfl rfl rfl rfl (x_asg rfl) ?_
    refine rl_end rfl ?_
    refine al_k ?_
    refine cl_ret rfl ?_
    refine fin1 rfl rfl ?_
    rw [idxI_neg c2_1]
    obtain ⟨A9, c9, e9, h9⟩ := own_slice HO
    exact ⟨SlG.own (by decide) lenI (own_fr0 HO F) rfl rfl, FC.trans F⟩
  · skip
    refine rl_end rfl ?_
    refine al_k ?_
    refine cl_if0 rfl rfl ?_
    refine cl_skip rfl ?_
    refine al_k ?_
    refine cl_seq rfl ?_
    refine cl_seq rfl ?_
    obtain ⟨i0, x0, ei0, hx0, hpx0, htk⟩ := idxI_pos c2_1
    have hi0 := (List.getElem?_eq_some_iff.1 hx0).1
    obtain ⟨b, rest, rfl, hbB, hb, _, hncap⟩ := own_blk (by exact lenI) (own_fr0 HO F) (by intro e; subst e; simp at hi0) (by decide)
    replace hb : Blk _ b 3 (flat encI l ++ rest) := hb
    replace F := FC.trans F
    rw [ei0]
    refine cl_reg rfl ?_
    refine st rfl rfl rfl rfl (x_move rfl) ?_
    refine st rfl rfl rfl rfl (x_add rfl rfl (by omega)) ?_
    refine st rfl rfl rfl rfl (x_asg rfl) ?_
    refine rl_end rfl ?_
    refine al_k ?_
    refine cl_block rfl ?_
    refine cl_loop (fun s : Nat × Nat × List Int => [(6, .int .i64 s.2.1), (5, .int .i64 s.1), (0, .slice (some ⟨b, 0, none⟩) l.length c), (1, .func (.func fc) #[] caps.toArray)]) (fun s w' => (s.1 < s.2.1 ∧ s.2.1 ≤ l.length ∧ s.2.2.length = l.length ∧ s.2.2.take s.1 = (l.take s.2.1).filter (fun x => !p x) ∧ s.2.2.drop s.2.1 = l.drop s.2.1) ∧ Blk w' b 3 (flat encI s.2.2 ++ rest) ∧ Fr [] wc w') (fun s => l.length - s.2.1) (i0, i0 + 1, l) rfl ⟨rfl, rfl, rfl, rfl, trivial⟩ ?_ ?_
    · exact ⟨⟨by dsimp only; omega, by dsimp only; omega, rfl, htk.symm, rfl⟩, hb, F⟩
    · skip
      rintro ⟨i, j, M⟩ wr ⟨⟨hij, hj, hM, hMt, hMd⟩, hb, F⟩
      dsimp only at hij hj hM hMt hMd hb ⊢
      refine cl_seq rfl ?_
      refine cl_seq rfl ?_
      refine cl_reg rfl ?_
      refine st rfl rfl rfl rfl (x_move rfl) ?_
      refine st rfl rfl rfl rfl (x_move rfl) ?_
      refine st rfl rfl rfl rfl (x_len rfl Try.underlying56) ?_
      refine sf rfl rfl rfl rfl (x_lss rfl rfl) (fun c5_3 => ?_) (fun c5_3 => ?_)
      · skip
        refine rl_end rfl ?_
        refine al_k ?_
        refine cl_if1 rfl rfl ?_
        refine cl_skip rfl ?_
        refine al_k ?_
        refine cl_seq rfl ?_
        refine cl_block rfl ?_
        refine cl_seq rfl ?_
        obtain ⟨x, hx⟩ : ∃ x, l[j]? = some x := ⟨_, List.getElem?_eq_getElem (by omega)⟩
        have hMx := (drop_get hMd).trans hx
        refine cl_reg rfl ?_
        refine st rfl rfl rfl rfl (x_move rfl) ?_
        refine st rfl rfl rfl rfl (x_move rfl) ?_
        refine st rfl rfl rfl rfl (x_ia0 rfl rfl Try.underlying56 Try.sizeOf3 (by omega)) ?_
        refine st rfl rfl rfl rfl (x_ld rfl Try.isAgg3 (cellR lenI hb hMx 0 _ rfl)) ?_
        refine st rfl rfl rfl rfl (x_asg rfl) ?_
        refine rl_end rfl ?_
        refine al_k ?_
        refine cl_seq rfl ?_
        refine cl_reg rfl ?_
        refine st rfl rfl rfl rfl (x_move rfl) ?_
        refine st rfl rfl rfl rfl (x_move rfl) ?_
        refine sc rfl rfl rfl rfl (c_fv rfl rfl hf (hp _ F x (List.mem_of_getElem? hx))) ?_
        rintro _ w8 ⟨rfl, fr⟩
        replace F := F.trans fr
        replace hb := hb.fr0 fr
        clear fr
        cases hf8_2 : (p x)
        · skip
          refine st rfl rfl rfl rfl (x_not0 rfl) ?_
          refine rl_end rfl ?_
          refine al_k ?_
          refine cl_if1 rfl rfl ?_
          refine cl_seq rfl ?_
          refine cl_reg rfl ?_
          refine st rfl rfl rfl rfl (x_move rfl) ?_
          refine st rfl rfl rfl rfl (x_move rfl) ?_
          refine st rfl rfl rfl rfl (x_move rfl) ?_
          refine st rfl rfl rfl rfl (x_ia0 rfl rfl Try.underlying56 Try.sizeOf3 (by omega)) ?_
          refine sv rfl rfl rfl (v_r1 (M := M) x lenI rfl rfl rfl rfl rfl Try.sizeOf3 hb (by omega)) ?_
          rintro w9 ⟨hb2, fr⟩
          replace hb : Blk w9 b 3 (flat encI (M.set i x) ++ rest) := hb2
          replace F := F.trans_new fr (by intro q hq; simp at hq; subst hq; exact .inr hbB)
          clear fr hb2
          refine rl_end rfl ?_
          refine al_k ?_
          refine cl_reg rfl ?_
          refine st rfl rfl rfl rfl (x_move rfl) ?_
          refine st rfl rfl rfl rfl (x_add rfl rfl (by omega)) ?_
          refine st rfl rfl rfl rfl (x_asg rfl) ?_
          refine rl_end rfl ?_
          refine al_k ?_
          refine cl_reg rfl ?_
          refine st rfl rfl rfl rfl (x_move rfl) ?_
          refine st rfl rfl rfl rfl (x_add rfl rfl (by omega)) ?_
          refine st rfl rfl rfl rfl (x_asg rfl) ?_
          refine rl_end rfl ?_
          refine again (i + 1, j + 1, M.set i x) (show l.length - (j + 1) < l.length - j by omega) ⟨rfl, rfl, rfl, rfl, trivial⟩ ⟨⟨by dsimp only; omega, by dsimp only; omega, by dsimp only; rw [List.length_set]; exact hM, ?_, ?_⟩, hb, F⟩
          · dsimp only
            rw [take_snoc hx, List.filter_append, ← hMt, List.take_add_one, List.take_set_of_le (Nat.le_refl _), List.getElem?_set_self (by omega)]
            simp [hf8_2]
          · dsimp only
            rw [List.drop_set_of_lt (by omega), ← Nat.add_comm 1 j, Nat.add_comm 1 j, ← List.drop_drop, ← List.drop_drop, hMd]
        · skip
          refine st rfl rfl rfl rfl (x_not1 rfl) ?_
          refine rl_end rfl ?_
          refine al_k ?_
          refine cl_if0 rfl rfl ?_
          refine cl_skip rfl ?_
          refine al_k ?_
          refine cl_reg rfl ?_
          refine st rfl rfl rfl rfl (x_move rfl) ?_
          refine st rfl rfl rfl rfl (x_add rfl rfl (by omega)) ?_
          refine st rfl rfl rfl rfl (x_asg rfl) ?_
          refine rl_end rfl ?_
          refine again (i, j + 1, M) (show l.length - (j + 1) < l.length - j by omega) ⟨rfl, rfl, rfl, rfl, trivial⟩ ⟨⟨by dsimp only; omega, by dsimp only; omega, hM, ?_, ?_⟩, hb, F⟩
          · dsimp only
            rw [take_snoc hx, List.filter_append, ← hMt]
            simp [hf8_2]
          · dsimp only
            rw [← List.drop_drop, ← List.drop_drop, hMd]
      · skip
        refine rl_end rfl ?_
        refine al_k ?_
        refine cl_if0 rfl rfl ?_
        refine cl_exit rfl ?_
        refine upd_self ?_
        refine al_k ?_
        refine cl_seq rfl ?_
        refine cl_reg rfl ?_
        refine st rfl rfl rfl rfl (x_move rfl) ?_
        refine st rfl rfl rfl rfl (x_move rfl) ?_
        refine st rfl rfl rfl rfl (x_sll rfl rfl Try.underlying56 Try.sizeOf3 (by omega)) ?_
        refine sen rfl rfl rfl (e_clear (m := l.length) (c := c) (j := i) (sz := 1) rfl Try.underlying56 Try.zeroValue3 rfl (by decide) (by intro v hv; simp [Value.cells] at hv; first | (subst hv; rfl) | (rcases hv with rfl | rfl | rfl | rfl | rfl | rfl <;> rfl)) hb (by omega) (by omega) (by rw [List.length_append, flat_length lenI, hM]; omega)) ?_
        rintro _ w11 ⟨⟨cs2, hb2, hcl, hct⟩, fr⟩
        replace F := F.trans_new fr (by intro q hq; simp at hq; subst hq; exact .inr hbB)
        refine rl_end rfl ?_
        refine al_k ?_
        refine cl_seq rfl ?_
        refine cl_reg rfl ?_
        refine st rfl rfl rfl rfl (x_move rfl) ?_
        refine st rfl rfl rfl rfl (x_move rfl) ?_
        refine st rfl rfl rfl rfl (x_slh rfl rfl Try.underlying56 Try.sizeOf3 (by omega)) ?_
        refine st rfl rfl rfl rfl (x_asg rfl) ?_
        refine rl_end rfl ?_
        refine al_k ?_
        refine cl_ret rfl ?_
        refine fin1 rfl rfl ?_
        obtain rfl : j = l.length := by omega
        rw [List.take_length] at hMt
        rw [take_flat lenI M rest (by omega), hMt] at hct
        have hlen : (l.filter (fun x => !p x)).length = i := by rw [← hMt, List.length_take]; omega
        refine ⟨⟨some ⟨b, 0, none⟩, c, by rw [hlen]; rfl, RowG.blk (rest := cs2.drop (i * 1)) (T := 3) lenI ?_, by omega⟩, F⟩
        rw [← hct, List.take_append_drop]
        exact hb2

theorem cloneQ_c (w : World) (A : Option Addr) (c : Nat) (l : List D) (HL : RowG encD 6 w A l) (hl : l.length ≤ 1000) : Cl Try.prog 47 [.slice A l.length c] w (fun v w' => w'.ownsRow w.heap.size 40 6 v l.length (flat encD l) ∧ Fr [] w w') := by
  have F := Fr.refl [] w
  refine enter Try.func47 rfl Try.ntmps47 rfl ?_
  refine cl_seq rfl ?_
  refine cl_reg rfl ?_
  refine st rfl rfl rfl rfl (x_asg rfl) ?_
  refine rl_end rfl ?_
  refine al_k ?_
  refine cl_seq rfl ?_
  refine cl_seq rfl ?_
  refine cl_reg rfl ?_
  refine st rfl rfl rfl rfl (x_move rfl) ?_
  refine st rfl rfl rfl rfl (x_eqsn rfl rfl Try.underlying74) ?_
  cases hf1_1 : (A.isNone)
  · skip
    refine rl_end rfl ?_
    refine al_k ?_
    refine cl_if0 rfl rfl ?_
    refine cl_skip rfl ?_
    refine al_k ?_
    refine cl_seq rfl ?_
    refine cl_reg rfl ?_
    refine se rfl rfl rfl rfl (e_new (x_bsl rfl (bsl0 Try.underlying74 Try.sizeOf40))) ?_
    rintro _ wn ⟨rfl, b5, fr, _⟩
    have HO := own_lit (base := (World.heap w).size) (n := 0) (size := 6) b5 F.size rfl (by decide)
    have l5 := b5.lt
    clear b5
    replace F := F.trans fr
    clear fr
    refine st rfl rfl rfl rfl (x_move rfl) ?_
    refine se rfl rfl rfl rfl (e_appv 6 48 (.agg #[.int .i64 0, .int .i64 0, .int .u64 0, .int .i64 0, .int .i64 0, .bool false]) (flat encD l) rfl rfl Try.underlying74 (by kernel_rfl) rfl (by decide) HO (by rw [flat_length lenD]; (try rfl); (try simp)) (fun e => RowG.none HL e) (fun ad e j u hu => F.cell (RowG.all (by decide) lenD HL ad e j u hu) (by simp)) (flat_mem1 oneD _) (by omega) (by omega) F.size) ?_
    rintro va wa ⟨HOa, hg, hat⟩
    have fg1 := (Fr.of_grown hg).size
    have hge := own_ge HO
    replace F := F.grown hg hge
    clear hge
    clear HO
    refine st rfl rfl rfl rfl (x_asg rfl) ?_
    refine rl_end rfl ?_
    refine al_k ?_
    refine cl_ret rfl ?_
    refine fin1 rfl rfl ?_
    exact ⟨own_cast HOa (by simp) (by simp), F⟩
  · skip
    refine rl_end rfl ?_
    refine al_k ?_
    refine cl_if1 rfl rfl ?_
    refine cl_seq rfl ?_
    refine cl_reg rfl ?_
    refine st rfl rfl rfl rfl (x_asg rfl) ?_
    refine rl_end rfl ?_
    refine al_k ?_
    refine cl_ret rfl ?_
    refine fin1 rfl rfl ?_
    obtain rfl := List.eq_nil_of_length_eq_zero (RowG.none HL (by cases A with | none => rfl | some a => cases hf1_1))
    exact ⟨own_nil _ _ _, F⟩

theorem indexQ_c (w : World) (A : Option Addr) (c : Nat) (l : List D) (HL : RowG encD 6 w A l) (wc : World) (p : D → Bool) (fc : FuncId) (caps : List Value) (hf : ∀ a w, (callFunc fc a).run Try.prog w = .ok (.enter fc a) w) (hp : ∀ w1, Fr [] wc w1 → ∀ x ∈ l, Cl Try.prog fc ([.agg (encD x).toArray] ++ caps) w1 (fun v w2 => v = .bool (p x) ∧ Fr [] w1 w2)) (FC : Fr [] wc w) (hl : l.length ≤ 1000) : Cl Try.prog 50 [.slice A l.length c, .func (.func fc) #[] caps.toArray] w (fun v w' => v = .int .i64 (idxI p l) ∧ Fr [] w w') := by
  have F := Fr.refl [] w
  refine enter Try.func50 rfl Try.ntmps50 rfl ?_
  refine cl_seq rfl ?_
  refine cl_reg rfl ?_
  refine st rfl rfl rfl rfl (x_asg rfl) ?_
  refine rl_end rfl ?_
  refine al_k ?_
  refine cl_seq rfl ?_
  refine cl_seq rfl ?_
  refine cl_reg rfl ?_
  refine st rfl rfl rfl rfl (x_move rfl) ?_
  refine st rfl rfl rfl rfl (x_len rfl Try.underlying74) ?_
  refine st rfl rfl rfl rfl (x_move rfl) ?_
  refine rl_end rfl ?_
  refine al_k ?_
  refine cl_block rfl ?_
  refine cl_loop (fun i : Nat => [(8, .int .i64 i), (7, .int .i64 l.length), (0, .slice A l.length c), (1, .func (.func fc) #[] caps.toArray)]) (fun i w' => (i ≤ l.length ∧ ∀ (j : Nat) y, j < i → l[j]? = some y → p y = false) ∧ Fr [] w w') (fun i => l.length - i) 0 rfl ⟨rfl, rfl, rfl, rfl, trivial⟩ ?_ ?_
  · exact ⟨⟨Nat.zero_le _, fun j y h => absurd h (by omega)⟩, F⟩
  · skip
    rintro i wr ⟨⟨hi, hno⟩, F⟩
    refine cl_seq rfl ?_
    refine cl_reg rfl ?_
    refine sf rfl rfl rfl rfl (x_lss rfl rfl) (fun c2_0 => ?_) (fun c2_0 => ?_)
    · skip
      refine rl_end rfl ?_
      refine al_k ?_
      refine cl_seq rfl ?_
      refine cl_if1 rfl rfl ?_
      refine cl_skip rfl ?_
      refine al_k ?_
      refine cl_seq rfl ?_
      refine cl_block rfl ?_
      refine cl_seq rfl ?_
      refine cl_reg rfl ?_
      refine st rfl rfl rfl rfl (x_move rfl) ?_
      refine st rfl rfl rfl rfl (x_asg rfl) ?_
      refine rl_end rfl ?_
      refine al_k ?_
      refine cl_seq rfl ?_
      obtain ⟨x, hx⟩ : ∃ x, l[i]? = some x := ⟨_, List.getElem?_eq_getElem (by omega)⟩
      obtain ⟨a, rfl, hcx⟩ := HL i x hx
      refine cl_reg rfl ?_
      refine st rfl rfl rfl rfl (x_move rfl) ?_
      refine st rfl rfl rfl rfl (x_move rfl) ?_
      refine st rfl rfl rfl rfl (x_move rfl) ?_
      refine st rfl rfl rfl rfl (x_iag rfl rfl Try.underlying74 Try.sizeOf40 (by omega)) ?_
      refine st rfl rfl rfl rfl (x_ldg (cs := encD x) rfl Try.isAgg40 Try.sizeOf40 rfl (fun j v h => F.cell (hcx j v h) (by simp))) ?_
      refine sc rfl rfl rfl rfl (c_fv rfl rfl hf (hp _ (FC.trans F) x (List.mem_of_getElem? hx))) ?_
      rintro _ w4 ⟨rfl, fr⟩
      replace F := F.trans fr
      clear fr
      cases hf4_5 : (p x)
      · skip
        refine rl_end rfl ?_
        refine al_k ?_
        refine cl_if0 rfl rfl ?_
        refine cl_skip rfl ?_
        refine al_k ?_
        refine cl_reg rfl ?_
        refine st rfl rfl rfl rfl (x_add rfl rfl (by omega)) ?_
        refine st rfl rfl rfl rfl (x_move rfl) ?_
        refine rl_end rfl ?_
        refine again (i + 1) (by omega) ⟨rfl, rfl, rfl, rfl, trivial⟩ ⟨⟨by omega, ?_⟩, F⟩
        intro j y hj hy
        rcases Nat.lt_or_ge j i with h | h
        · exact hno j y h hy
        · obtain rfl : j = i := by omega
          rw [hx] at hy
          obtain rfl := Option.some.inj hy
          exact hf4_5
      · skip
        refine rl_end rfl ?_
        refine al_k ?_
        refine cl_if1 rfl rfl ?_
        refine cl_seq rfl ?_
        refine cl_reg rfl ?_
        refine st rfl rfl rfl rfl (x_move rfl) ?_
        refine st rfl rfl rfl rfl (x_asg rfl) ?_
        refine rl_end rfl ?_
        refine al_k ?_
        refine cl_ret rfl ?_
        refine fin1 rfl rfl ?_
        rw [idxI_at hno hx hf4_5]
        exact ⟨rfl, F⟩
    · skip
      refine rl_end rfl ?_
      refine al_k ?_
      refine cl_seq rfl ?_
      refine cl_if0 rfl rfl ?_
      refine cl_exit rfl ?_
      refine upd_self ?_
      refine al_k ?_
      refine cl_seq rfl ?_
      refine cl_reg rfl ?_
      refine st rfl rfl rfl rfl (x_asg rfl) ?_
      refine rl_end rfl ?_
      refine al_k ?_
      refine cl_ret rfl ?_
      refine fin1 rfl rfl ?_
      rw [idxI_none (fun y hy => by obtain ⟨j, hj⟩ := List.getElem?_of_mem hy; exact hno j y (by have := (List.getElem?_eq_some_iff.1 hj).1; omega) hj)]
      exact ⟨rfl, F⟩

theorem deleteQ_c (w : World) (A : Option Addr) (c : Nat) (l : List D) (wc : World) (p : D → Bool) (fc : FuncId) (caps : List Value) (hf : ∀ a w, (callFunc fc a).run Try.prog w = .ok (.enter fc a) w) (hp : ∀ w1, Fr [] wc w1 → ∀ x ∈ l, Cl Try.prog fc ([.agg (encD x).toArray] ++ caps) w1 (fun v w2 => v = .bool (p x) ∧ Fr [] w1 w2)) (FC : Fr [] wc w) (HO : w.ownsRow wc.heap.size 40 6 (.slice A l.length c) l.length (flat encD l)) (HL : RowG encD 6 w A l) (hl : l.length ≤ 1000) : Cl Try.prog 49 [.slice A l.length c, .func (.func fc) #[] caps.toArray] w (fun r w' => SlG encD 6 w' r (l.filter (fun x => !p x)) ∧ Fr [] wc w') := by
  have F := Fr.refl [] w
  refine enter Try.func49 rfl Try.ntmps49 rfl ?_
  refine cl_seq rfl ?_
  refine cl_reg rfl ?_
  refine st rfl rfl rfl rfl (x_asg rfl) ?_
  refine rl_end rfl ?_
  refine al_k ?_
  refine cl_seq rfl ?_
  refine cl_reg rfl ?_
  refine st rfl rfl rfl rfl (x_move rfl) ?_
  refine st rfl rfl rfl rfl (x_move rfl) ?_
  refine sc rfl rfl rfl rfl (c_fn rfl Try.call50 (indexQ_c _ A c l HL wc p fc caps hf hp FC hl)) ?_
  rintro _ w1 ⟨rfl, fr⟩
  replace F := F.trans fr
  clear fr
  refine st rfl rfl rfl rfl (x_asg rfl) ?_
  refine rl_end rfl ?_
  refine al_k ?_
  refine cl_seq rfl ?_
  refine cl_seq rfl ?_
  refine cl_reg rfl ?_
  refine st rfl rfl rfl rfl (x_move rfl) ?_
  refine sf rfl rfl rfl rfl (x_eql rfl rfl) (fun c2_1 => ?_) (fun c2_1 => ?_)
  · skip
    refine rl_end rfl ?_
    refine al_k ?_
    refine cl_if1 rfl rfl ?_
    refine cl_seq rfl ?_
    refine cl_reg rfl ?_
    refine st rfl rfl rfl rfl (x_move rfl) ?_
    refine st rfl rfl rfl rfl (x_asg rfl) ?_
    refine rl_end rfl ?_
    refine al_k ?_
    refine cl_ret rfl ?_
    refine fin1 rfl rfl ?_
    rw [idxI_neg c2_1]
    obtain ⟨A9, c9, e9, h9⟩ := own_slice HO
    exact ⟨SlG.own (by decide) lenD (own_fr0 HO F) rfl rfl, FC.trans F⟩
  · skip
    refine rl_end rfl ?_
    refine al_k ?_
    refine cl_if0 rfl rfl ?_
    refine cl_skip rfl ?_
    refine al_k ?_
    refine cl_seq rfl ?_
    refine cl_seq rfl ?_
    obtain ⟨i0, x0, ei0, hx0, hpx0, htk⟩ := idxI_pos c2_1
    have hi0 := (List.getElem?_eq_some_iff.1 hx0).1
    obtain ⟨b, rest, rfl, hbB, hb, _, hncap⟩ := own_blk (by exact lenD) (own_fr0 HO F) (by intro e; subst e; simp at hi0) (by decide)
    replace hb : Blk _ b 40 (flat encD l ++ rest) := hb
    replace F := FC.trans F
    rw [ei0]
    refine cl_reg rfl ?_
    refine st rfl rfl rfl rfl (x_move rfl) ?_
    refine st rfl rfl rfl rfl (x_add rfl rfl (by omega)) ?_
    refine st rfl rfl rfl rfl (x_asg rfl) ?_
    refine rl_end rfl ?_
    refine al_k ?_
    refine cl_block rfl ?_
    refine cl_loop (fun s : Nat × Nat × List D => [(6, .int .i64 s.2.1), (5, .int .i64 s.1), (0, .slice (some ⟨b, 0, none⟩) l.length c), (1, .func (.func fc) #[] caps.toArray)]) (fun s w' => (s.1 < s.2.1 ∧ s.2.1 ≤ l.length ∧ s.2.2.length = l.length ∧ s.2.2.take s.1 = (l.take s.2.1).filter (fun x => !p x) ∧ s.2.2.drop s.2.1 = l.drop s.2.1) ∧ Blk w' b 40 (flat encD s.2.2 ++ rest) ∧ Fr [] wc w') (fun s => l.length - s.2.1) (i0, i0 + 1, l) rfl ⟨rfl, rfl, rfl, rfl, trivial⟩ ?_ ?_
    · exact ⟨⟨by dsimp only; omega, by dsimp only; omega, rfl, htk.symm, rfl⟩, hb, F⟩
    · skip
      rintro ⟨i, j, M⟩ wr ⟨⟨hij, hj, hM, hMt, hMd⟩, hb, F⟩
      dsimp only at hij hj hM hMt hMd hb ⊢
      refine cl_seq rfl ?_
      refine cl_seq rfl ?_
      refine cl_reg rfl ?_
      refine st rfl rfl rfl rfl (x_move rfl) ?_
      refine st rfl rfl rfl rfl (x_move rfl) ?_
      refine st rfl rfl rfl rfl (x_len rfl Try.underlying74) ?_
      refine sf rfl rfl rfl rfl (x_lss rfl rfl) (fun c5_3 => ?_) (fun c5_3 => ?_)
      · skip
        refine rl_end rfl ?_
        refine al_k ?_
        refine cl_if1 rfl rfl ?_
        refine cl_skip rfl ?_
        refine al_k ?_
        refine cl_seq rfl ?_
        refine cl_block rfl ?_
        refine cl_seq rfl ?_
        obtain ⟨x, hx⟩ : ∃ x, l[j]? = some x := ⟨_, List.getElem?_eq_getElem (by omega)⟩
        have hMx := (drop_get hMd).trans hx
        refine cl_reg rfl ?_
        refine st rfl rfl rfl rfl (x_move rfl) ?_
        refine st rfl rfl rfl rfl (x_move rfl) ?_
        refine st rfl rfl rfl rfl (x_ia0 rfl rfl Try.underlying74 Try.sizeOf40 (by omega)) ?_
        refine st rfl rfl rfl rfl (x_ldn rfl Try.isAgg40 Try.sizeOf40 rfl (cellR lenD hb hMx)) ?_
        refine se rfl rfl rfl rfl (e_new (x_alloc Try.zeroValue40 rfl)) ?_
        rintro _ wbx ⟨rfl, bx, fA, _⟩
        refine sv rfl rfl rfl (v_n (vs := encD x) rfl rfl (oneD _) Try.sizeOf40 rfl bx (by decide)) ?_
        rintro wbxb ⟨bb2, fr⟩
        replace bx : Blk wbxb _ 40 (encD x) := bb2
        have FF := fA.trans_new fr (by intro q hq; simp at hq; subst hq; exact .inr (Nat.le_refl _))
        clear fr fA bb2
        replace F := F.trans FF
        replace hb := hb.fr0 FF
        clear FF
        refine rl_end rfl ?_
        refine al_k ?_
        refine cl_seq rfl ?_
        refine cl_reg rfl ?_
        refine st rfl rfl rfl rfl (x_move rfl) ?_
        refine st rfl rfl rfl rfl (x_ldn rfl Try.isAgg40 Try.sizeOf40 rfl (by intro j v hv; rw [Nat.zero_add]; exact bx.cell hv)) ?_
        refine sc rfl rfl rfl rfl (c_fv rfl rfl hf (hp _ F x (List.mem_of_getElem? hx))) ?_
        rintro _ w8 ⟨rfl, fr⟩
        replace F := F.trans fr
        replace hb := hb.fr0 fr
        replace bx := bx.fr0 fr
        clear fr
        cases hf8_2 : (p x)
        · skip
          refine st rfl rfl rfl rfl (x_not0 rfl) ?_
          refine rl_end rfl ?_
          refine al_k ?_
          refine cl_if1 rfl rfl ?_
          refine cl_seq rfl ?_
          refine cl_reg rfl ?_
          refine st rfl rfl rfl rfl (x_move rfl) ?_
          refine st rfl rfl rfl rfl (x_move rfl) ?_
          refine st rfl rfl rfl rfl (x_ldn rfl Try.isAgg40 Try.sizeOf40 rfl (by intro j v hv; rw [Nat.zero_add]; exact bx.cell hv)) ?_
          refine st rfl rfl rfl rfl (x_ia0 rfl rfl Try.underlying74 Try.sizeOf40 (by omega)) ?_
          refine sv rfl rfl rfl (v_rn (M := M) lenD x rfl rfl (oneD _) Try.sizeOf40 hb (by omega)) ?_
          rintro w9 ⟨hb2, fr⟩
          replace hb : Blk w9 b 40 (flat encD (M.set i x) ++ rest) := hb2
          replace F := F.trans_new fr (by intro q hq; simp at hq; subst hq; exact .inr hbB)
          clear fr hb2
          refine rl_end rfl ?_
          refine al_k ?_
          refine cl_reg rfl ?_
          refine st rfl rfl rfl rfl (x_move rfl) ?_
          refine st rfl rfl rfl rfl (x_add rfl rfl (by omega)) ?_
          refine st rfl rfl rfl rfl (x_asg rfl) ?_
          refine rl_end rfl ?_
          refine al_k ?_
          refine cl_reg rfl ?_
          refine st rfl rfl rfl rfl (x_move rfl) ?_
          refine st rfl rfl rfl rfl (x_add rfl rfl (by omega)) ?_
          refine st rfl rfl rfl rfl (x_asg rfl) ?_
          refine rl_end rfl ?_
          refine again (i + 1, j + 1, M.set i x) (show l.length - (j + 1) < l.length - j by omega) ⟨rfl, rfl, rfl, rfl, trivial⟩ ⟨⟨by dsimp only; omega, by dsimp only; omega, by dsimp only; rw [List.length_set]; exact hM, ?_, ?_⟩, hb, F⟩
          · dsimp only
            rw [take_snoc hx, List.filter_append, ← hMt, List.take_add_one, List.take_set_of_le (Nat.le_refl _), List.getElem?_set_self (by omega)]
            simp [hf8_2]
          · dsimp only
            rw [List.drop_set_of_lt (by omega), ← Nat.add_comm 1 j, Nat.add_comm 1 j, ← List.drop_drop, ← List.drop_drop, hMd]
        · skip
          refine st rfl rfl rfl rfl (x_not1 rfl) ?_
          refine rl_end rfl ?_
          refine al_k ?_
          refine cl_if0 rfl rfl ?_
          refine cl_skip rfl ?_
          refine al_k ?_
          refine cl_reg rfl ?_
          refine st rfl rfl rfl rfl (x_move rfl) ?_
          refine st rfl rfl rfl rfl (x_add rfl rfl (by omega)) ?_
          refine st rfl rfl rfl rfl (x_asg rfl) ?_
          refine rl_end rfl ?_
          refine again (i, j + 1, M) (show l.length - (j + 1) < l.length - j by omega) ⟨rfl, rfl, rfl, rfl, trivial⟩ ⟨⟨by dsimp only; omega, by dsimp only; omega, hM, ?_, ?_⟩, hb, F⟩
          · dsimp only
            rw [take_snoc hx, List.filter_append, ← hMt]
            simp [hf8_2]
          · dsimp only
            rw [← List.drop_drop, ← List.drop_drop, hMd]
      · skip
        refine rl_end rfl ?_
        refine al_k ?_
        refine cl_if0 rfl rfl ?_
        refine cl_exit rfl ?_
        refine upd_self ?_
        refine al_k ?_
        refine cl_seq rfl ?_
        refine cl_reg rfl ?_
        refine st rfl rfl rfl rfl (x_move rfl) ?_
        refine st rfl rfl rfl rfl (x_move rfl) ?_
        refine st rfl rfl rfl rfl (x_sll rfl rfl Try.underlying74 Try.sizeOf40 (by omega)) ?_
        refine sen rfl rfl rfl (e_clear (m := l.length) (c := c) (j := i) (sz := 6) rfl Try.underlying74 Try.zeroValue40 rfl (by decide) (by intro v hv; simp [Value.cells] at hv; first | (subst hv; rfl) | (rcases hv with rfl | rfl | rfl | rfl | rfl | rfl <;> rfl)) hb (by omega) (by omega) (by rw [List.length_append, flat_length lenD, hM]; omega)) ?_
        rintro _ w11 ⟨⟨cs2, hb2, hcl, hct⟩, fr⟩
        replace F := F.trans_new fr (by intro q hq; simp at hq; subst hq; exact .inr hbB)
        refine rl_end rfl ?_
        refine al_k ?_
        refine cl_seq rfl ?_
        refine cl_reg rfl ?_
        refine st rfl rfl rfl rfl (x_move rfl) ?_
        refine st rfl rfl rfl rfl (x_move rfl) ?_
        refine st rfl rfl rfl rfl (x_slh rfl rfl Try.underlying74 Try.sizeOf40 (by omega)) ?_
        refine st rfl rfl rfl rfl (x_asg rfl) ?_
        refine rl_end rfl ?_
        refine al_k ?_
        refine cl_ret rfl ?_
        refine fin1 rfl rfl ?_
        obtain rfl : j = l.length := by omega
        rw [List.take_length] at hMt
        rw [take_flat lenD M rest (by omega), hMt] at hct
        have hlen : (l.filter (fun x => !p x)).length = i := by rw [← hMt, List.length_take]; omega
        refine ⟨⟨some ⟨b, 0, none⟩, c, by rw [hlen]; rfl, RowG.blk (rest := cs2.drop (i * 6)) (T := 40) lenD ?_, by omega⟩, F⟩
        rw [← hct, List.take_append_drop]
        exact hb2

theorem cloneD_c (w : World) (A : Option Addr) (c : Nat) (l : List D) (HL : RowG encD 6 w A l) (hl : l.length ≤ 1000) : Cl Try.prog 37 [.slice A l.length c] w (fun v w' => w'.ownsRow w.heap.size 40 6 v l.length (flat encD l) ∧ Fr [] w w') := by
  have F := Fr.refl [] w
  refine enter Try.func37 rfl Try.ntmps37 rfl ?_
  refine cl_seq rfl ?_
  refine cl_reg rfl ?_
  refine st rfl rfl rfl rfl (x_asg rfl) ?_
  refine rl_end rfl ?_
  refine al_k ?_
  refine cl_seq rfl ?_
  refine cl_seq rfl ?_
  refine cl_reg rfl ?_
  refine st rfl rfl rfl rfl (x_move rfl) ?_
  refine st rfl rfl rfl rfl (x_eqsn rfl rfl Try.underlying22) ?_
  cases hf1_1 : (A.isNone)
  · skip
    refine rl_end rfl ?_
    refine al_k ?_
    refine cl_if0 rfl rfl ?_
    refine cl_skip rfl ?_
    refine al_k ?_
    refine cl_seq rfl ?_
    refine cl_reg rfl ?_
    refine se rfl rfl rfl rfl (e_new (x_bsl rfl (bsl0 Try.underlying22 Try.sizeOf40))) ?_
    rintro _ wn ⟨rfl, b5, fr, _⟩
    have HO := own_lit (base := (World.heap w).size) (n := 0) (size := 6) b5 F.size rfl (by decide)
    have l5 := b5.lt
    clear b5
    replace F := F.trans fr
    clear fr
    refine st rfl rfl rfl rfl (x_move rfl) ?_
    refine se rfl rfl rfl rfl (e_appv 6 48 (.agg #[.int .i64 0, .int .i64 0, .int .u64 0, .int .i64 0, .int .i64 0, .bool false]) (flat encD l) rfl rfl Try.underlying22 (by kernel_rfl) rfl (by decide) HO (by rw [flat_length lenD]; (try rfl); (try simp)) (fun e => RowG.none HL e) (fun ad e j u hu => F.cell (RowG.all (by decide) lenD HL ad e j u hu) (by simp)) (flat_mem1 oneD _) (by omega) (by omega) F.size) ?_
    rintro va wa ⟨HOa, hg, hat⟩
    have fg1 := (Fr.of_grown hg).size
    have hge := own_ge HO
    replace F := F.grown hg hge
    clear hge
    clear HO
    refine st rfl rfl rfl rfl (x_asg rfl) ?_
    refine rl_end rfl ?_
    refine al_k ?_
    refine cl_ret rfl ?_
    refine fin1 rfl rfl ?_
    exact ⟨own_cast HOa (by simp) (by simp), F⟩
  · skip
    refine rl_end rfl ?_
    refine al_k ?_
    refine cl_if1 rfl rfl ?_
    refine cl_seq rfl ?_
    refine cl_reg rfl ?_
    refine st rfl rfl rfl rfl (x_asg rfl) ?_
    refine rl_end rfl ?_
    refine al_k ?_
    refine cl_ret rfl ?_
    refine fin1 rfl rfl ?_
    obtain rfl := List.eq_nil_of_length_eq_zero (RowG.none HL (by cases A with | none => rfl | some a => cases hf1_1))
    exact ⟨own_nil _ _ _, F⟩

end Go.Proofs.Ytmeheoflfdmgiaa.Lin
