/- Deeds: the walks of plays and of what is right. -/
import Derived.Test.YtmeheoflfdmgiaaLnW6
set_option linter.unusedVariables false
namespace Go.Proofs.Ytmeheoflfdmgiaa.Lin
open Go Go.RowKit Go.Proofs.Ytmeheoflfdmgiaa.Sx Go.Proofs.Ytmeheoflfdmgiaa
set_option maxRecDepth 100000

theorem play_c (w : World) (A : Option Addr) (c : Nat) (l : List D) (HR : RowG encD 6 w A l) (A2 : Option Addr) (c2 : Nat) (row : List Int) (HI : RowG encI 1 w A2 row) (hl : l.length ≤ 1000) (hr : row.length ≤ 1000) (hO : okRow l row) : Cl Try.prog 36 [.slice A l.length c, .slice A2 row.length c2] w (fun r w' => GR w' r (qplay [] (prow l row)) ∧ Fr [] w w') := by
  have F := Fr.refl [] w
  refine enter Try.func36 rfl Try.ntmps36 rfl ?_
  refine cl_seq rfl ?_
  refine cl_reg rfl ?_
  refine st rfl rfl rfl rfl (x_asg rfl) ?_
  refine st rfl rfl rfl rfl (x_asg rfl) ?_
  refine rl_end rfl ?_
  refine al_k ?_
  refine cl_seq rfl ?_
  refine cl_reg rfl ?_
  refine st rfl rfl rfl rfl (x_asg rfl) ?_
  refine rl_end rfl ?_
  refine al_k ?_
  refine cl_seq rfl ?_
  refine cl_seq rfl ?_
  refine cl_reg rfl ?_
  refine st rfl rfl rfl rfl (x_move rfl) ?_
  refine st rfl rfl rfl rfl (x_len rfl Try.underlying24) ?_
  refine st rfl rfl rfl rfl (x_move rfl) ?_
  refine rl_end rfl ?_
  refine al_k ?_
  refine cl_block rfl ?_
  refine cl_loop (fun s : Nat × Value × List D => [(13, .int .i64 s.1), (12, .int .i64 row.length), (11, .slice A2 row.length c2), (6, s.2.1), (0, .slice A l.length c)]) (fun s w' => (s.1 ≤ row.length ∧ qplay [] (prow l (row.take s.1)) = some s.2.2) ∧ SlG encD 6 w' s.2.1 s.2.2 ∧ Fr [] w w') (fun s => row.length - s.1) (0, .slice none 0 0, []) rfl ⟨rfl, rfl, rfl, rfl, rfl, trivial⟩ ?_ ?_
  · exact ⟨⟨Nat.zero_le _, rfl⟩, SlG.nil _, F⟩
  · skip
    rintro ⟨i, v8, q⟩ wr ⟨⟨hi, hq⟩, hs, F⟩
    dsimp only at hi hq hs ⊢
    obtain ⟨A3, c3, rfl, HQ, hcq⟩ := hs
    have hql := qplay_len _ hq
    simp only [prow, List.length_map, List.length_take, List.length_nil] at hql
    refine cl_seq rfl ?_
    refine cl_reg rfl ?_
    refine sf rfl rfl rfl rfl (x_lss rfl rfl) (fun c3_0 => ?_) (fun c3_0 => ?_)
    · skip
      refine rl_end rfl ?_
      refine al_k ?_
      refine cl_seq rfl ?_
      refine cl_if1 rfl rfl ?_
      refine cl_skip rfl ?_
      refine al_k ?_
      refine cl_seq rfl ?_
      refine cl_block rfl ?_
      refine cl_seq rfl ?_
      obtain ⟨z, hz⟩ : ∃ z, row[i]? = some z := ⟨_, List.getElem?_eq_getElem (by omega)⟩
      obtain ⟨a2, rfl, hcz⟩ := RowI.at_ HI hz
      obtain ⟨hz0, hz1⟩ := hO z (List.mem_of_getElem? hz)
      obtain ⟨d, hd⟩ : ∃ d, l[z.toNat]? = some d := ⟨_, List.getElem?_eq_getElem (by omega)⟩
      obtain ⟨a_, rfl, hcd⟩ := HR _ d hd
      refine cl_reg rfl ?_
      refine st rfl rfl rfl rfl (x_iag rfl rfl Try.underlying24 Try.sizeOf3 (by omega)) ?_
      refine st rfl rfl rfl rfl (x_ld rfl Try.isAgg3 (F.cell hcz (by simp))) ?_
      refine st rfl rfl rfl rfl (x_asg rfl) ?_
      refine rl_end rfl ?_
      refine al_k ?_
      refine cl_seq rfl ?_
      refine cl_reg rfl ?_
      refine st rfl rfl rfl rfl (x_move rfl) ?_
      refine st rfl rfl rfl rfl (x_move rfl) ?_
      refine st rfl rfl rfl rfl (x_move rfl) ?_
      refine st rfl rfl rfl rfl (x_iag rfl rfl Try.underlying22 Try.sizeOf40 (by omega)) ?_
      refine st rfl rfl rfl rfl (x_ldg (cs := encD d) rfl Try.isAgg40 Try.sizeOf40 rfl (fun j v h => F.cell (hcd j v h) (by simp))) ?_
      refine sc rfl rfl rfl rfl (c_fn rfl Try.call45 (qthen_c _ A3 c3 q HQ hcq (by omega) d)) ?_
      rintro _ w8 ⟨⟨vn, rfl, hv⟩, fr⟩
      replace F := F.trans fr
      clear fr
      refine st rfl rfl rfl rfl (x_move rfl) ?_
      refine st rfl rfl rfl rfl (x_ext rfl rfl) ?_
      refine st rfl rfl rfl rfl (x_ext rfl rfl) ?_
      cases hf5_8 : ((qstep q d).isSome)
      · skip
        refine st rfl rfl rfl rfl (x_asg rfl) ?_
        refine st rfl rfl rfl rfl (x_asg rfl) ?_
        refine rl_end rfl ?_
        refine al_k ?_
        refine cl_seq rfl ?_
        refine cl_seq rfl ?_
        refine cl_reg rfl ?_
        refine st rfl rfl rfl rfl (x_move rfl) ?_
        refine st rfl rfl rfl rfl (x_not0 rfl) ?_
        refine rl_end rfl ?_
        refine al_k ?_
        refine cl_if1 rfl rfl ?_
        refine cl_seq rfl ?_
        refine cl_reg rfl ?_
        refine st rfl rfl rfl rfl (x_asg rfl) ?_
        refine st rfl rfl rfl rfl (x_asg rfl) ?_
        refine rl_end rfl ?_
        refine al_k ?_
        refine cl_ret rfl ?_
        refine fin2 rfl rfl rfl ?_
        exact ⟨.no (qplay_stuck hq hz (by rw [atI_some hd]; exact none_of hf5_8)), F⟩
      · skip
        refine st rfl rfl rfl rfl (x_asg rfl) ?_
        refine st rfl rfl rfl rfl (x_asg rfl) ?_
        refine rl_end rfl ?_
        refine al_k ?_
        refine cl_seq rfl ?_
        refine cl_seq rfl ?_
        refine cl_reg rfl ?_
        refine st rfl rfl rfl rfl (x_move rfl) ?_
        refine st rfl rfl rfl rfl (x_not1 rfl) ?_
        refine rl_end rfl ?_
        refine al_k ?_
        refine cl_if0 rfl rfl ?_
        refine cl_skip rfl ?_
        refine al_k ?_
        refine cl_reg rfl ?_
        refine st rfl rfl rfl rfl (x_move rfl) ?_
        refine st rfl rfl rfl rfl (x_asg rfl) ?_
        refine rl_end rfl ?_
        refine al_k ?_
        refine cl_reg rfl ?_
        refine st rfl rfl rfl rfl (x_add rfl rfl (by omega)) ?_
        refine st rfl rfl rfl rfl (x_move rfl) ?_
        refine rl_end rfl ?_
        obtain ⟨q2, hq2⟩ := some_of hf5_8
        refine again (i + 1, vn, q2) (show row.length - (i + 1) < row.length - i by omega) ⟨rfl, rfl, rfl, rfl, rfl, trivial⟩ ⟨⟨by dsimp only; omega, by dsimp only; rw [qplay_snoc hq hz, atI_some hd]; exact hq2⟩, hv q2 hq2, F⟩
    · skip
      refine rl_end rfl ?_
      refine al_k ?_
      refine cl_seq rfl ?_
      refine cl_if0 rfl rfl ?_
      refine cl_exit rfl ?_
      refine upd_self ?_
      refine al_k ?_
      refine cl_seq rfl ?_
      refine cl_reg rfl ?_
      refine st rfl rfl rfl rfl (x_move rfl) ?_
      refine st rfl rfl rfl rfl (x_asg rfl) ?_
      refine st rfl rfl rfl rfl (x_asg rfl) ?_
      refine rl_end rfl ?_
      refine al_k ?_
      refine cl_ret rfl ?_
      refine fin2 rfl rfl rfl ?_
      have e : i = row.length := by omega
      subst e
      rw [List.take_length] at hq
      exact ⟨.yes hq ⟨A3, c3, rfl, HQ, hcq⟩, F⟩

theorem Play_c (w : World) (A : Option Addr) (c : Nat) (l : List D) (HR : RowG encD 6 w A l) (A2 : Option Addr) (c2 : Nat) (row : List Int) (HI : RowG encI 1 w A2 row) (hl : l.length ≤ 1000) (hr : row.length ≤ 1000) : Cl Try.prog 18 [.slice A l.length c, .slice A2 row.length c2] w (fun r w' => PR w' r (playR l row) ∧ Fr [] w w') := by
  have F := Fr.refl [] w
  refine enter Try.func18 rfl Try.ntmps18 rfl ?_
  refine cl_seq rfl ?_
  refine cl_reg rfl ?_
  refine st rfl rfl rfl rfl (x_asg rfl) ?_
  refine st rfl rfl rfl rfl (x_asg rfl) ?_
  refine st rfl rfl rfl rfl (x_asg rfl) ?_
  refine rl_end rfl ?_
  refine al_k ?_
  refine cl_seq rfl ?_
  refine cl_seq rfl ?_
  refine cl_reg rfl ?_
  refine st rfl rfl rfl rfl (x_move rfl) ?_
  refine st rfl rfl rfl rfl (x_move rfl) ?_
  refine sc rfl rfl rfl rfl (c_fn rfl Try.call34 (asked_c _ A c l HR A2 c2 row HI hl (by omega))) ?_
  rintro _ w1 ⟨rfl, fr⟩
  replace F := F.trans fr
  clear fr
  refine st rfl rfl rfl rfl (x_asg rfl) ?_
  refine rl_end rfl ?_
  refine al_k ?_
  refine cl_seq rfl ?_
  refine cl_reg rfl ?_
  refine st rfl rfl rfl rfl (x_move rfl) ?_
  refine sf rfl rfl rfl rfl (x_neq rfl rfl) (fun c2_1 => ?_) (fun c2_1 => ?_)
  · skip
    refine rl_end rfl ?_
    refine al_k ?_
    refine cl_if1 rfl rfl ?_
    refine cl_seq rfl ?_
    refine cl_reg rfl ?_
    refine st rfl rfl rfl rfl (x_move rfl) ?_
    refine st rfl rfl rfl rfl (x_asg rfl) ?_
    refine st rfl rfl rfl rfl (x_asg rfl) ?_
    refine st rfl rfl rfl rfl (x_asg rfl) ?_
    refine rl_end rfl ?_
    refine al_k ?_
    refine cl_ret rfl ?_
    refine fin3 rfl rfl rfl rfl ?_
    exact ⟨.no (ask_n c2_1).1, F⟩
  · skip
    refine rl_end rfl ?_
    refine al_k ?_
    refine cl_if0 rfl rfl ?_
    refine cl_skip rfl ?_
    refine al_k ?_
    refine cl_seq rfl ?_
    obtain ⟨hH, hO⟩ := ask_0 (Decidable.not_not.1 c2_1)
    refine cl_reg rfl ?_
    refine st rfl rfl rfl rfl (x_move rfl) ?_
    refine st rfl rfl rfl rfl (x_move rfl) ?_
    refine sc rfl rfl rfl rfl (c_fn rfl Try.call36 (play_c _ A c l (HR.fr0 F) A2 c2 row (HI.fr0 F) hl hr hO)) ?_
    rintro _ w4 ⟨⟨v4, rfl, hs4⟩, fr⟩
    obtain ⟨A4, c4, rfl, HQ4, hc4⟩ := hs4
    replace F := F.trans fr
    clear fr
    refine st rfl rfl rfl rfl (x_move rfl) ?_
    refine st rfl rfl rfl rfl (x_ext rfl rfl) ?_
    refine st rfl rfl rfl rfl (x_ext rfl rfl) ?_
    refine st rfl rfl rfl rfl (x_asg rfl) ?_
    refine st rfl rfl rfl rfl (x_asg rfl) ?_
    refine rl_end rfl ?_
    refine al_k ?_
    refine cl_seq rfl ?_
    have hq4 : ((qplay [] (prow l row)).getD []).length ≤ 1000 := by
      cases hp : qplay [] (prow l row) with
      | none => simp
      | some q => have := qplay_len _ hp; simp only [prow, List.length_map, List.length_nil] at this; show q.length ≤ 1000; omega
    refine cl_reg rfl ?_
    refine st rfl rfl rfl rfl (x_move rfl) ?_
    refine sc rfl rfl rfl rfl (c_fn rfl Try.call37 (cloneD_c _ A4 c4 _ HQ4 hq4)) ?_
    rintro v5 w5 ⟨HO, fr⟩
    replace F := F.trans fr
    clear fr
    refine st rfl rfl rfl rfl (x_move rfl) ?_
    refine st rfl rfl rfl rfl (x_asg rfl) ?_
    refine st rfl rfl rfl rfl (x_asg rfl) ?_
    refine st rfl rfl rfl rfl (x_asg rfl) ?_
    refine rl_end rfl ?_
    refine al_k ?_
    refine cl_ret rfl ?_
    refine fin3 rfl rfl rfl rfl ?_
    refine ⟨⟨v5, ?_, ?_⟩, F⟩
    · rw [playR_ok hH hO]; rfl
    · rw [playR_ok hH hO]
      exact SlG.own (by decide) lenD HO rfl rfl

theorem x_cvu {P : Program} {l : Env} {w : World} {d : Option Tmp} {ty : TypeId} {pos : String} {af : Array Edge} {g : Option (Nat × Bool)} {x : Operand} {z : Int} {i : Nat} {s t : TypeId} {ud : TypeDesc} (hx : ev l x = some (.int .i64 z)) (hs : P.underlying s = some ud) (hu : P.underlying t = some (.int .u64)) (hz : z = i ∧ i < 64) : Ex P ⟨d, .convert s t x, ty, pos, af, g⟩ l w (.int .u64 (i : Nat)) w := by
  have h := x_cvi (w := w) (d := d) (ty := ty) (pos := pos) (af := af) (g := g) hx hs hu
  have e : IntKind.u64.wrap z = (i : Nat) := by
    obtain ⟨rfl, hi⟩ := hz
    have e : ∀ z : Int, IntKind.u64.wrap z = z % 18446744073709551616 := fun z => by simp [IntKind.wrap, IntKind.bits, IntKind.signed]
    rw [e]
    omega
  rw [e] at h
  exact h

theorem one_c (w : World) (i : Nat) (hi : i < 64) : Cl Try.prog 44 [.int .i64 i] w (fun v w' => v = .int .u64 (((1#64) <<< i).toNat : Nat) ∧ w' = w) := by
  refine enter Try.func44 rfl Try.ntmps44 rfl ?_
  refine cl_seq rfl ?_
  refine cl_reg rfl ?_
  refine st rfl rfl rfl rfl (x_asg rfl) ?_
  refine rl_end rfl ?_
  refine al_k ?_
  refine cl_seq rfl ?_
  refine cl_reg rfl ?_
  refine st rfl rfl rfl rfl (x_move rfl) ?_
  refine st rfl rfl rfl rfl (x_cvu (i := i) rfl Try.underlying3 Try.underlying65 (by omega)) ?_
  refine st rfl rfl rfl rfl (x_shl1 (i := i) rfl rfl hi) ?_
  refine st rfl rfl rfl rfl (x_asg rfl) ?_
  refine rl_end rfl ?_
  refine al_k ?_
  refine cl_ret rfl ?_
  refine fin1 rfl rfl ?_
  exact ⟨rfl, rfl⟩

theorem Has_c (w : World) (s : BitVec 64) (i : Nat) (hi : i < 64) : Cl Try.prog 35 [.int .u64 ((s).toNat : Nat), .int .i64 i] w (fun v w' => v = .bool (s.getLsbD i) ∧ w' = w) := by
  refine enter Try.func35 rfl Try.ntmps35 rfl ?_
  refine cl_seq rfl ?_
  refine cl_reg rfl ?_
  refine st rfl rfl rfl rfl (x_asg rfl) ?_
  refine rl_end rfl ?_
  refine al_k ?_
  refine cl_seq rfl ?_
  refine cl_reg rfl ?_
  refine st rfl rfl rfl rfl (x_move rfl) ?_
  refine st rfl rfl rfl rfl ((x_geq rfl rfl).b1 (by omega)) ?_
  refine st rfl rfl rfl rfl (x_move rfl) ?_
  refine st rfl rfl rfl rfl (x_move rfl) ?_
  refine st rfl rfl rfl rfl ((x_lss rfl rfl).b1 (by omega)) ?_
  refine st rfl rfl rfl rfl (x_pick1 rfl rfl) ?_
  refine st rfl rfl rfl rfl (x_move rfl) ?_
  refine st rfl rfl rfl rfl (x_move rfl) ?_
  refine st rfl rfl rfl rfl (x_move rfl) ?_
  refine sc rfl rfl rfl rfl (c_fn rfl Try.call44 (one_c _ i hi)) ?_
  rintro _ wk ⟨rfl, hwk⟩
  obtain rfl := hwk.symm
  refine st rfl rfl rfl rfl (x_and (a := s) (b := (1#64) <<< i) rfl rfl) ?_
  refine st rfl rfl rfl rfl (x_neq rfl rfl) ?_
  refine st rfl rfl rfl rfl (x_pick1 rfl rfl) ?_
  refine st rfl rfl rfl rfl (x_asg rfl) ?_
  refine rl_end rfl ?_
  refine al_k ?_
  refine cl_ret rfl ?_
  refine fin1 rfl rfl ?_
  exact ⟨congrArg Value.bool (bit_has s hi), rfl⟩

theorem must_c (w : World) (A : Option Addr) (c : Nat) (l : List D) (HR : RowG encD 6 w A l) (hl : l.length ≤ 64) : Cl Try.prog 23 [.slice A l.length c] w (fun v w' => v = .int .u64 ((mustF l l.length).toNat : Nat) ∧ Fr [] w w') := by
  have F := Fr.refl [] w
  refine enter Try.func23 rfl Try.ntmps23 rfl ?_
  refine cl_seq rfl ?_
  refine cl_reg rfl ?_
  refine st rfl rfl rfl rfl (x_asg rfl) ?_
  refine rl_end rfl ?_
  refine al_k ?_
  refine cl_seq rfl ?_
  refine cl_reg rfl ?_
  refine st rfl rfl rfl rfl (x_asg rfl) ?_
  refine rl_end rfl ?_
  refine al_k ?_
  refine cl_seq rfl ?_
  refine cl_seq rfl ?_
  refine cl_reg rfl ?_
  refine st rfl rfl rfl rfl (x_move rfl) ?_
  refine st rfl rfl rfl rfl (x_len rfl Try.underlying22) ?_
  refine st rfl rfl rfl rfl (x_move rfl) ?_
  refine rl_end rfl ?_
  refine al_k ?_
  refine cl_block rfl ?_
  refine cl_loop (fun i : Nat => [(8, .int .i64 i), (7, .int .i64 l.length), (6, .slice A l.length c), (3, .int .u64 ((mustF l i).toNat : Nat))]) (fun i w' => i ≤ l.length ∧ Fr [] w w') (fun i => l.length - i) 0 rfl ⟨rfl, rfl, rfl, rfl, trivial⟩ ?_ ?_
  · exact ⟨Nat.zero_le _, F⟩
  · skip
    rintro i wr ⟨hi, F⟩
    refine cl_seq rfl ?_
    refine cl_reg rfl ?_
    refine sf rfl rfl rfl rfl (x_lss rfl rfl) (fun c3_0 => ?_) (fun c3_0 => ?_)
    · skip
      refine rl_end rfl ?_
      refine al_k ?_
      refine cl_seq rfl ?_
      refine cl_if1 rfl rfl ?_
      refine cl_skip rfl ?_
      refine al_k ?_
      refine cl_seq rfl ?_
      refine cl_block rfl ?_
      refine cl_seq rfl ?_
      obtain ⟨d, hd⟩ : ∃ d, l[i]? = some d := ⟨_, List.getElem?_eq_getElem (by omega)⟩
      obtain ⟨a, rfl, hc⟩ := HR i d hd
      refine cl_reg rfl ?_
      refine st rfl rfl rfl rfl (x_move rfl) ?_
      refine st rfl rfl rfl rfl (x_iag rfl rfl Try.underlying22 Try.sizeOf40 (by omega)) ?_
      refine st rfl rfl rfl rfl (x_ldg (cs := encD d) rfl Try.isAgg40 Try.sizeOf40 rfl (fun j v h => F.cell (hc j v h) (by simp))) ?_
      refine se rfl rfl rfl rfl (e_new (x_alloc Try.zeroValue40 rfl)) ?_
      rintro _ wbd ⟨rfl, bd, fA, _⟩
      refine st rfl rfl rfl rfl (x_asg rfl) ?_
      refine sv rfl rfl rfl (v_n (vs := encD d) rfl rfl (oneD _) Try.sizeOf40 rfl bd (by decide)) ?_
      rintro wbdb ⟨bb2, fr⟩
      replace bd : Blk wbdb _ 40 (encD d) := bb2
      have FF := fA.trans_new fr (by intro q hq; simp at hq; subst hq; exact .inr (Nat.le_refl _))
      clear fr fA bb2
      replace F := F.trans FF
      clear FF
      refine rl_end rfl ?_
      refine al_k ?_
      refine cl_seq rfl ?_
      refine cl_reg rfl ?_
      refine st rfl rfl rfl rfl (x_fa rfl Try.underlying40 rfl Try.sizeOf4 5 rfl) ?_
      refine st rfl rfl rfl rfl (x_ld rfl Try.isAgg4 (bd.cell rfl)) ?_
      cases hf5_1 : (d.opn)
      · skip
        refine st rfl rfl rfl rfl (x_not0 rfl) ?_
        refine rl_end rfl ?_
        refine al_k ?_
        refine cl_if1 rfl rfl ?_
        refine cl_reg rfl ?_
        refine st rfl rfl rfl rfl (x_move rfl) ?_
        refine st rfl rfl rfl rfl (x_move rfl) ?_
        refine st rfl rfl rfl rfl (x_cvu (i := i) rfl Try.underlying3 Try.underlying65 (by omega)) ?_
        refine st rfl rfl rfl rfl (x_shl1 (i := i) rfl rfl (by omega)) ?_
        refine st rfl rfl rfl rfl (x_or (a := mustF l i) (b := (1#64) <<< i) rfl rfl) ?_
        refine st rfl rfl rfl rfl (x_asg rfl) ?_
        refine rl_end rfl ?_
        refine al_k ?_
        refine cl_reg rfl ?_
        refine st rfl rfl rfl rfl (x_add rfl rfl (by omega)) ?_
        refine st rfl rfl rfl rfl (x_move rfl) ?_
        refine rl_end rfl ?_
        rw [mustF_shut hd hf5_1]
        refine again (i + 1) (by omega) ⟨rfl, rfl, rfl, rfl, trivial⟩ ⟨by omega, F⟩
      · skip
        refine st rfl rfl rfl rfl (x_not1 rfl) ?_
        refine rl_end rfl ?_
        refine al_k ?_
        refine cl_if0 rfl rfl ?_
        refine cl_skip rfl ?_
        refine al_k ?_
        refine cl_reg rfl ?_
        refine st rfl rfl rfl rfl (x_add rfl rfl (by omega)) ?_
        refine st rfl rfl rfl rfl (x_move rfl) ?_
        refine rl_end rfl ?_
        rw [mustF_open hd hf5_1]
        refine again (i + 1) (by omega) ⟨rfl, rfl, rfl, rfl, trivial⟩ ⟨by omega, F⟩
    · skip
      refine rl_end rfl ?_
      refine al_k ?_
      refine cl_seq rfl ?_
      refine cl_if0 rfl rfl ?_
      refine cl_exit rfl ?_
      refine upd_self ?_
      refine al_k ?_
      refine cl_seq rfl ?_
      refine cl_reg rfl ?_
      refine st rfl rfl rfl rfl (x_move rfl) ?_
      refine st rfl rfl rfl rfl (x_asg rfl) ?_
      refine rl_end rfl ?_
      refine al_k ?_
      refine cl_ret rfl ?_
      refine fin1 rfl rfl ?_
      obtain rfl : i = l.length := by omega
      exact ⟨rfl, F⟩

theorem Right_c (w : World) (A : Option Addr) (c : Nat) (l : List D) (HR : RowG encD 6 w A l) (A2 : Option Addr) (c2 : Nat) (row : List Int) (HI : RowG encI 1 w A2 row) (hl : l.length ≤ 1000) (hr : row.length ≤ 1000) (hcr : row.length ≤ c2) : Cl Try.prog 17 [.slice A l.length c, .slice A2 row.length c2] w (fun r w' => r = .tuple #[.bool (rightR l row).1, .int .i64 (rightR l row).2] ∧ Fr [] w w') := by
  have F := Fr.refl [] w
  refine enter Try.func17 rfl Try.ntmps17 rfl ?_
  refine cl_seq rfl ?_
  refine cl_reg rfl ?_
  refine st rfl rfl rfl rfl (x_asg rfl) ?_
  refine st rfl rfl rfl rfl (x_asg rfl) ?_
  refine rl_end rfl ?_
  refine al_k ?_
  refine cl_seq rfl ?_
  refine cl_seq rfl ?_
  refine cl_reg rfl ?_
  refine st rfl rfl rfl rfl (x_move rfl) ?_
  refine st rfl rfl rfl rfl (x_move rfl) ?_
  refine sc rfl rfl rfl rfl (c_fn rfl Try.call34 (asked_c _ A c l HR A2 c2 row HI (by omega) (by omega))) ?_
  rintro _ w1 ⟨rfl, fr⟩
  replace F := F.trans fr
  clear fr
  refine st rfl rfl rfl rfl (x_asg rfl) ?_
  refine rl_end rfl ?_
  refine al_k ?_
  refine cl_seq rfl ?_
  refine cl_reg rfl ?_
  refine st rfl rfl rfl rfl (x_move rfl) ?_
  refine sf rfl rfl rfl rfl (x_neq rfl rfl) (fun c2_1 => ?_) (fun c2_1 => ?_)
  · skip
    refine rl_end rfl ?_
    refine al_k ?_
    refine cl_if1 rfl rfl ?_
    refine cl_seq rfl ?_
    refine cl_reg rfl ?_
    refine st rfl rfl rfl rfl (x_move rfl) ?_
    refine st rfl rfl rfl rfl (x_asg rfl) ?_
    refine st rfl rfl rfl rfl (x_asg rfl) ?_
    refine rl_end rfl ?_
    refine al_k ?_
    refine cl_ret rfl ?_
    refine fin2 rfl rfl rfl ?_
    rw [(ask_n c2_1).2]
    exact ⟨rfl, F⟩
  · skip
    refine rl_end rfl ?_
    refine al_k ?_
    refine cl_if0 rfl rfl ?_
    refine cl_skip rfl ?_
    refine al_k ?_
    refine cl_seq rfl ?_
    obtain ⟨hH, hO⟩ := ask_0 (Decidable.not_not.1 c2_1)
    have hl24 := hH.1
    refine cl_reg rfl ?_
    refine st rfl rfl rfl rfl (x_asg rfl) ?_
    refine rl_end rfl ?_
    refine al_k ?_
    refine cl_seq rfl ?_
    refine cl_seq rfl ?_
    refine cl_reg rfl ?_
    refine st rfl rfl rfl rfl (x_move rfl) ?_
    refine st rfl rfl rfl rfl (x_len rfl Try.underlying24) ?_
    refine st rfl rfl rfl rfl (x_move rfl) ?_
    refine rl_end rfl ?_
    refine al_k ?_
    refine cl_block rfl ?_
    refine cl_loop (fun s : Nat × BitVec 64 => [(22, .int .i64 s.1), (21, .int .i64 row.length), (20, .slice A2 row.length c2), (7, .int .u64 ((s.2).toNat : Nat)), (0, .slice A l.length c), (1, .slice A2 row.length c2)]) (fun s w' => (s.1 ≤ row.length ∧ BitsOf s.2 (row.take s.1) ∧ ∀ (j : Nat) z, j < s.1 → row[j]? = some z → fitsI l (row.take j) z) ∧ Fr [] w w') (fun s => row.length - s.1) (0, 0#64) rfl ⟨rfl, rfl, rfl, rfl, rfl, rfl, trivial⟩ ?_ ?_
    · exact ⟨⟨Nat.zero_le _, BitsOf.nil, fun j z h => absurd h (by dsimp only; omega)⟩, F⟩
    · skip
      rintro ⟨i, s⟩ wr ⟨⟨hi, hbits, hfit⟩, F⟩
      dsimp only at hi hbits hfit ⊢
      refine cl_seq rfl ?_
      refine cl_reg rfl ?_
      refine sf rfl rfl rfl rfl (x_lss rfl rfl) (fun c6_0 => ?_) (fun c6_0 => ?_)
      · skip
        refine rl_end rfl ?_
        refine al_k ?_
        refine cl_seq rfl ?_
        refine cl_if1 rfl rfl ?_
        refine cl_skip rfl ?_
        refine al_k ?_
        refine cl_seq rfl ?_
        refine cl_block rfl ?_
        refine cl_seq rfl ?_
        obtain ⟨z, hz⟩ : ∃ z, row[i]? = some z := ⟨_, List.getElem?_eq_getElem (by omega)⟩
        obtain ⟨a2, rfl, hcz⟩ := RowI.at_ HI hz
        obtain ⟨hz0, hz1⟩ := hO z (List.mem_of_getElem? hz)
        obtain ⟨dz, hdz⟩ : ∃ d, l[z.toNat]? = some d := ⟨_, List.getElem?_eq_getElem (by omega)⟩
        obtain ⟨a_, rfl, hcdz⟩ := HR _ dz hdz
        obtain ⟨zn, rfl⟩ : ∃ n : Nat, z = n := ⟨z.toNat, by omega⟩
        refine cl_reg rfl ?_
        refine st rfl rfl rfl rfl (x_move rfl) ?_
        refine st rfl rfl rfl rfl (x_iag rfl rfl Try.underlying24 Try.sizeOf3 (by omega)) ?_
        refine st rfl rfl rfl rfl (x_ld rfl Try.isAgg3 (F.cell hcz (by simp))) ?_
        refine st rfl rfl rfl rfl (x_asg rfl) ?_
        refine st rfl rfl rfl rfl (x_asg rfl) ?_
        refine rl_end rfl ?_
        refine al_k ?_
        refine cl_seq rfl ?_
        refine cl_seq rfl ?_
        refine cl_reg rfl ?_
        refine st rfl rfl rfl rfl (x_move rfl) ?_
        refine st rfl rfl rfl rfl (x_move rfl) ?_
        refine sc rfl rfl rfl rfl (c_fn rfl Try.call35 (Has_c _ s zn (by omega))) ?_
        rintro _ wk ⟨rfl, hwk⟩
        obtain rfl := hwk.symm
        cases hf8_2 : (s.getLsbD zn)
        · skip
          refine rl_end rfl ?_
          refine al_k ?_
          refine cl_if0 rfl rfl ?_
          refine cl_skip rfl ?_
          refine al_k ?_
          refine cl_seq rfl ?_
          refine cl_reg rfl ?_
          refine st rfl rfl rfl rfl (x_move rfl) ?_
          refine st rfl rfl rfl rfl (x_move rfl) ?_
          refine st rfl rfl rfl rfl (x_cvu (i := zn) rfl Try.underlying3 Try.underlying65 (by omega)) ?_
          refine st rfl rfl rfl rfl (x_shl1 (i := zn) rfl rfl (by omega)) ?_
          refine st rfl rfl rfl rfl (x_or (a := s) (b := (1#64) <<< zn) rfl rfl) ?_
          refine st rfl rfl rfl rfl (x_asg rfl) ?_
          refine rl_end rfl ?_
          refine al_k ?_
          refine cl_seq rfl ?_
          refine cl_reg rfl ?_
          refine st rfl rfl rfl rfl (x_move rfl) ?_
          refine st rfl rfl rfl rfl (x_move rfl) ?_
          refine st rfl rfl rfl rfl (x_slt (m := i) rfl rfl Try.underlying24 Try.sizeOf3 (by omega) rfl) ?_
          refine st rfl rfl rfl rfl (x_len rfl Try.underlying24) ?_
          refine st rfl rfl rfl rfl (x_move rfl) ?_
          refine rl_end rfl ?_
          refine al_k ?_
          refine cl_block rfl ?_
          refine cl_loop (fun m : Nat => [(39, .int .i64 m), (38, .int .i64 i), (37, .slice (some a2) i c2), (9, .int .i64 (zn : Int)), (22, .int .i64 i), (21, .int .i64 row.length), (20, .slice (some a2) row.length c2), (7, .int .u64 ((s ||| ((1#64) <<< zn)).toNat : Nat)), (0, .slice (some a_) l.length c), (1, .slice (some a2) row.length c2)]) (fun m w' => (m ≤ i ∧ ∀ (j : Nat) y, j < m → row[j]? = some y → ¬ ahead (atI l (zn : Int)) (atI l y)) ∧ Fr [] w w') (fun m => i - m) 0 rfl ⟨rfl, rfl, rfl, rfl, rfl, rfl, rfl, rfl, rfl, rfl, trivial⟩ ?_ ?_
          · exact ⟨⟨Nat.zero_le _, fun j z h => absurd h (by omega)⟩, F⟩
          · skip
            rintro m wq ⟨⟨hmi, hah⟩, F⟩
            refine cl_seq rfl ?_
            refine cl_reg rfl ?_
            refine sf rfl rfl rfl rfl (x_lss rfl rfl) (fun c12_0 => ?_) (fun c12_0 => ?_)
            · skip
              refine rl_end rfl ?_
              refine al_k ?_
              refine cl_seq rfl ?_
              refine cl_if1 rfl rfl ?_
              refine cl_skip rfl ?_
              refine al_k ?_
              refine cl_seq rfl ?_
              refine cl_block rfl ?_
              refine cl_seq rfl ?_
              obtain ⟨y, hy⟩ : ∃ y, row[m]? = some y := ⟨_, List.getElem?_eq_getElem (by omega)⟩
              obtain ⟨a3, ea, hcy⟩ := RowI.at_ HI hy
              obtain rfl := Option.some.inj ea
              obtain ⟨hy0, hy1⟩ := hO y (List.mem_of_getElem? hy)
              obtain ⟨dy, hdy⟩ : ∃ d, l[y.toNat]? = some d := ⟨_, List.getElem?_eq_getElem (by omega)⟩
              obtain ⟨a4, ea, hcdy⟩ := HR _ dy hdy
              obtain rfl := Option.some.inj ea
              refine cl_reg rfl ?_
              refine st rfl rfl rfl rfl (x_iag rfl rfl Try.underlying24 Try.sizeOf3 (by omega)) ?_
              refine st rfl rfl rfl rfl (x_ld rfl Try.isAgg3 (F.cell hcy (by simp))) ?_
              refine st rfl rfl rfl rfl (x_asg rfl) ?_
              refine rl_end rfl ?_
              refine al_k ?_
              refine cl_seq rfl ?_
              refine cl_draw (by kernel_rfl) rfl [8] (fun w' => w'.heap = wq.heap) ?_
              rintro wd14 frd14 hpd14
              refine ⟨hpd14, ?_⟩
              refine dt (i := 0) rfl rfl rfl rfl (by kernel_rfl) (fun _ => x_move rfl) ?_
              refine dt (i := 1) rfl rfl rfl rfl (by kernel_rfl) (fun _ => x_move rfl) ?_
              refine dt (i := 2) rfl rfl rfl rfl (by kernel_rfl) (fun _ => x_iag rfl rfl Try.underlying22 Try.sizeOf40 (by omega)) ?_
              refine dlt (i := 3) rfl rfl rfl rfl (by kernel_rfl) (by kernel_rfl) (fun w' hU => x_ldg (cs := encD dz) rfl Try.isAgg40 Try.sizeOf40 rfl (fun j v h => heq hU (F.cell (hcdz j v h) (by simp)))) ?_
              refine dt (i := 4) rfl rfl rfl rfl (by kernel_rfl) (fun _ => x_move rfl) ?_
              refine dt (i := 5) rfl rfl rfl rfl (by kernel_rfl) (fun _ => x_move rfl) ?_
              refine dt (i := 6) rfl rfl rfl rfl (by kernel_rfl) (fun _ => x_iag rfl rfl Try.underlying22 Try.sizeOf40 (by omega)) ?_
              refine dlt (i := 7) rfl rfl rfl rfl (by kernel_rfl) (by kernel_rfl) (fun w' hU => x_ldg (cs := encD dy) rfl Try.isAgg40 Try.sizeOf40 rfl (fun j v h => heq hU (F.cell (hcdy j v h) (by simp)))) ?_
              replace F := F.trans frd14
              refine d1 (i := 8) (by kernel_rfl) ?_
              refine oc rfl rfl rfl rfl (c_fn rfl Try.call20 (ahead_c _ dz dy)) ?_
              rintro _ w14 ⟨rfl, fr⟩
              replace F := F.trans fr
              clear fr
              refine ⟨.inl (by kernel_rfl), ?_⟩
              cases hf14_8 : (decide (ahead dz dy))
              · skip
                refine dn (by kernel_rfl) ?_
                refine al_k ?_
                refine cl_if0 rfl rfl ?_
                refine cl_skip rfl ?_
                refine al_k ?_
                refine cl_reg rfl ?_
                refine st rfl rfl rfl rfl (x_add rfl rfl (by omega)) ?_
                refine st rfl rfl rfl rfl (x_move rfl) ?_
                refine rl_end rfl ?_
                refine again (m + 1) (by omega) ⟨rfl, rfl, rfl, rfl, rfl, rfl, rfl, rfl, rfl, rfl, trivial⟩ ⟨⟨by omega, ?_⟩, F⟩
                intro j y2 hj hy2
                rcases Nat.lt_or_ge j m with h | h
                · exact hah j y2 h hy2
                · obtain rfl : j = m := by omega
                  rw [hy] at hy2
                  obtain rfl := Option.some.inj hy2
                  rw [atI_some hdz, atI_some hdy]
                  exact of_decide_eq_false hf14_8
              · skip
                refine dn (by kernel_rfl) ?_
                refine al_k ?_
                refine cl_if1 rfl rfl ?_
                refine cl_seq rfl ?_
                refine cl_reg rfl ?_
                refine st rfl rfl rfl rfl (x_asg rfl) ?_
                refine st rfl rfl rfl rfl (x_asg rfl) ?_
                refine rl_end rfl ?_
                refine al_k ?_
                refine cl_ret rfl ?_
                refine fin2 rfl rfl rfl ?_
                rw [rightR_ok hH hO, dc_false (P := rightI l row) (fun h => (h.1 i _ hz).2 y (List.mem_of_getElem? (i := m) (by rw [List.getElem?_take, if_pos (by omega)]; exact hy)) (by rw [atI_some hdz, atI_some hdy]; exact of_decide_eq_true hf14_8))]
                exact ⟨rfl, F⟩
            · skip
              refine rl_end rfl ?_
              refine al_k ?_
              refine cl_seq rfl ?_
              refine cl_if0 rfl rfl ?_
              refine cl_exit rfl ?_
              refine upd_self ?_
              refine al_k ?_
              refine cl_reg rfl ?_
              refine st rfl rfl rfl rfl (x_add rfl rfl (by omega)) ?_
              refine st rfl rfl rfl rfl (x_move rfl) ?_
              refine rl_end rfl ?_
              refine again (i + 1, s ||| ((1#64) <<< zn)) (show row.length - (i + 1) < row.length - i by omega) ⟨rfl, rfl, rfl, rfl, rfl, rfl, trivial⟩ ⟨⟨by dsimp only; omega, ?_, ?_⟩, F⟩
              · dsimp only
                rw [take_snoc hz]
                exact hbits.snoc (z := (zn : Int)) (by omega)
              · dsimp only
                intro j y hj hy
                rcases Nat.lt_or_ge j i with h | h
                · exact hfit j y h hy
                · obtain rfl : j = i := by omega
                  rw [hz] at hy
                  obtain rfl := Option.some.inj hy
                  refine ⟨?_, fun y hy => ?_⟩
                  · have := hbits zn (by omega)
                    rw [hf8_2] at this
                    exact of_decide_eq_false this.symm
                  · obtain ⟨q, hq⟩ := List.getElem?_of_mem hy
                    rw [List.getElem?_take] at hq
                    split at hq
                    · exact hah q y (by omega) hq
                    · cases hq
        · skip
          refine rl_end rfl ?_
          refine al_k ?_
          refine cl_if1 rfl rfl ?_
          refine cl_seq rfl ?_
          refine cl_reg rfl ?_
          refine st rfl rfl rfl rfl (x_asg rfl) ?_
          refine st rfl rfl rfl rfl (x_asg rfl) ?_
          refine rl_end rfl ?_
          refine al_k ?_
          refine cl_ret rfl ?_
          refine fin2 rfl rfl rfl ?_
          rw [rightR_ok hH hO, dc_false (P := rightI l row) (fun h => by have := hbits zn (by omega); rw [hf8_2] at this; exact (h.1 i _ hz).1 (of_decide_eq_true this.symm))]
          exact ⟨rfl, F⟩
      · skip
        refine rl_end rfl ?_
        refine al_k ?_
        refine cl_seq rfl ?_
        refine cl_if0 rfl rfl ?_
        refine cl_exit rfl ?_
        refine upd_self ?_
        refine al_k ?_
        refine cl_seq rfl ?_
        refine cl_reg rfl ?_
        refine st rfl rfl rfl rfl (x_move rfl) ?_
        refine st rfl rfl rfl rfl (x_move rfl) ?_
        refine sc rfl rfl rfl rfl (c_fn rfl Try.call36 (play_c _ A c l (HR.fr0 F) A2 c2 row (HI.fr0 F) (by omega) hr hO)) ?_
        rintro _ w18 ⟨⟨v18, rfl, hs18⟩, fr⟩
        replace F := F.trans fr
        clear fr
        refine st rfl rfl rfl rfl (x_move rfl) ?_
        refine st rfl rfl rfl rfl (x_ext rfl rfl) ?_
        refine st rfl rfl rfl rfl (x_ext rfl rfl) ?_
        cases hf18_5 : ((qplay [] (prow l row)).isSome)
        · skip
          refine st rfl rfl rfl rfl (x_asg rfl) ?_
          refine st rfl rfl rfl rfl (x_asg rfl) ?_
          refine rl_end rfl ?_
          refine al_k ?_
          refine cl_seq rfl ?_
          refine cl_reg rfl ?_
          refine st rfl rfl rfl rfl (x_move rfl) ?_
          refine st rfl rfl rfl rfl (x_move rfl) ?_
          refine so rfl rfl rfl rfl ?_
          refine so rfl rfl rfl rfl ?_
          refine so rfl rfl rfl rfl ?_
          refine so rfl rfl rfl rfl ?_
          refine so rfl rfl rfl rfl ?_
          refine st rfl rfl rfl rfl (x_pick0 rfl rfl) ?_
          refine st rfl rfl rfl rfl (x_asg rfl) ?_
          refine st rfl rfl rfl rfl (x_asg rfl) ?_
          refine rl_end rfl ?_
          refine al_k ?_
          refine cl_ret rfl ?_
          refine fin2 rfl rfl rfl ?_
          obtain rfl : i = row.length := by omega
          rw [rightR_ok hH hO, dc_false (P := rightI l row) (fun h => by rw [h.2.1] at hf18_5; cases hf18_5)]
          exact ⟨rfl, F⟩
        · skip
          refine st rfl rfl rfl rfl (x_asg rfl) ?_
          refine st rfl rfl rfl rfl (x_asg rfl) ?_
          refine rl_end rfl ?_
          refine al_k ?_
          refine cl_seq rfl ?_
          refine cl_reg rfl ?_
          refine st rfl rfl rfl rfl (x_move rfl) ?_
          refine st rfl rfl rfl rfl (x_move rfl) ?_
          refine st rfl rfl rfl rfl (x_move rfl) ?_
          refine sc rfl rfl rfl rfl (c_fn rfl Try.call23 (must_c _ A c l (HR.fr0 F) (by omega))) ?_
          rintro _ w19 ⟨rfl, fr⟩
          replace F := F.trans fr
          clear fr
          refine st rfl rfl rfl rfl (x_move rfl) ?_
          refine st rfl rfl rfl rfl (x_andn (a := mustF l l.length) (b := s) rfl rfl) ?_
          refine st rfl rfl rfl rfl (x_eql rfl rfl) ?_
          refine st rfl rfl rfl rfl (x_pick1 rfl rfl) ?_
          refine st rfl rfl rfl rfl (x_asg rfl) ?_
          refine st rfl rfl rfl rfl (x_asg rfl) ?_
          refine rl_end rfl ?_
          refine al_k ?_
          refine cl_ret rfl ?_
          refine fin2 rfl rfl rfl ?_
          obtain rfl : i = row.length := by omega
          rw [List.take_length] at hbits
          rw [rightR_ok hH hO, dc_congr (P := rightI l row) (Q := allI l row) ⟨fun h => h.2.2, fun h => ⟨fun j y hy => hfit j y (List.getElem?_eq_some_iff.1 hy).1 hy, hf18_5, h⟩⟩, ← dc_congr (all_bits (by omega) hbits)]
          exact ⟨by rw [dc_dec], F⟩

end Go.Proofs.Ytmeheoflfdmgiaa.Lin
