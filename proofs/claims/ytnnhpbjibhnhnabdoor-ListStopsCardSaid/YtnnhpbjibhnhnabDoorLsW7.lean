/- Lists by links: lists that nobody made, and the walk of the law ListNobody. -/
import Derived.Test.YtnnhpbjibhnhnabDoorLsQ
import Derived.Test.YtnnhpbjibhnhnabDoorLsW5
set_option linter.unusedVariables false
namespace Go.Proofs.YtnnhpbjibhnhnabDoor.Ls
open Go Go.RowKit Go.Proofs.YtnnhpbjibhnhnabDoor.Sx Go.Proofs.YtnnhpbjibhnhnabDoor
set_option maxRecDepth 100000

def NoQ (w : World) (q : Option Addr) : Prop := q = none ∨ ∃ p x y, q = some ⟨p, 0, none⟩ ∧ Blk w p 55 [x, y, .bool false]
theorem NoQ.fr {S : List Nat} {w w' : World} {q : Option Addr} (h : NoQ w q) (k : Fr [] w w') : NoQ w' q := by
  rcases h with rfl | ⟨p, x, y, rfl, hb⟩
  · exact .inl rfl
  · exact .inr ⟨p, x, y, rfl, hb.fr0 k⟩
theorem NoQ.fr0 {w w' : World} {q : Option Addr} (h : NoQ w q) (k : Fr [] w w') : NoQ w' q := NoQ.fr (S := []) h k

theorem is_nil (w : World) : Cl Tryd.prog 42 [.pointer none] w (fun v w' => v = .bool false ∧ w' = w) := by
  refine enter Tryd.func42 rfl Tryd.ntmps42 rfl ?_
  refine cl_seq rfl ?_
  refine cl_reg rfl ?_
  refine st rfl rfl rfl rfl (x_asg rfl) ?_
  refine rl_end rfl ?_
  refine al_k ?_
  refine cl_seq rfl ?_
  refine cl_reg rfl ?_
  refine st rfl rfl rfl rfl (x_move rfl) ?_
  refine st rfl rfl rfl rfl (x_neqp rfl rfl Tryd.underlying23) ?_
  refine st rfl rfl rfl rfl (x_move rfl) ?_
  refine so rfl rfl rfl rfl ?_
  refine so rfl rfl rfl rfl ?_
  refine so rfl rfl rfl rfl ?_
  refine so rfl rfl rfl rfl ?_
  refine st rfl rfl rfl rfl (x_pick0 rfl rfl) ?_
  refine st rfl rfl rfl rfl (x_asg rfl) ?_
  refine rl_end rfl ?_
  refine al_k ?_
  refine cl_ret rfl ?_
  refine fin1 rfl rfl ?_
  exact ⟨rfl, rfl⟩

theorem is_zero (w : World) (p : Nat) (x y : Value) (hT : Blk w p 55 [x, y, .bool false]) : Cl Tryd.prog 42 [.pointer (some ⟨p, 0, none⟩)] w (fun v w' => v = .bool false ∧ w' = w) := by
  refine enter Tryd.func42 rfl Tryd.ntmps42 rfl ?_
  refine cl_seq rfl ?_
  refine cl_reg rfl ?_
  refine st rfl rfl rfl rfl (x_asg rfl) ?_
  refine rl_end rfl ?_
  refine al_k ?_
  refine cl_seq rfl ?_
  refine cl_reg rfl ?_
  refine st rfl rfl rfl rfl (x_move rfl) ?_
  refine st rfl rfl rfl rfl (x_neqp rfl rfl Tryd.underlying23) ?_
  refine st rfl rfl rfl rfl (x_move rfl) ?_
  refine st rfl rfl rfl rfl (x_move rfl) ?_
  refine st rfl rfl rfl rfl (x_nil rfl) ?_
  refine st rfl rfl rfl rfl (x_fa rfl Tryd.underlying55 rfl Tryd.sizeOf4 2 rfl) ?_
  refine st rfl rfl rfl rfl (x_ld rfl Tryd.isAgg4 (hT.cell rfl)) ?_
  refine st rfl rfl rfl rfl (x_pick1 rfl rfl) ?_
  refine st rfl rfl rfl rfl (x_asg rfl) ?_
  refine rl_end rfl ?_
  refine al_k ?_
  refine cl_ret rfl ?_
  refine fin1 rfl rfl ?_
  exact ⟨rfl, rfl⟩

theorem is_no (w : World) (q : Option Addr) (h : NoQ w q) : Cl Tryd.prog 42 [.pointer q] w (fun v w' => v = .bool false ∧ w' = w) := by
  rcases h with rfl | ⟨p, x, y, rfl, hb⟩
  · exact is_nil w
  · exact is_zero w p x y hb

theorem asked_no (w : World) (q : Option Addr) (h : NoQ w q) (v1 v2 : Value) : Cl Tryd.prog 28 [.pointer q, v1, v2] w (fun v w' => v = .int .i64 4 ∧ w' = w) := by
  refine enter Tryd.func28 rfl Tryd.ntmps28 rfl ?_
  refine cl_seq rfl ?_
  refine cl_reg rfl ?_
  refine st rfl rfl rfl rfl (x_asg rfl) ?_
  refine rl_end rfl ?_
  refine al_k ?_
  refine cl_seq rfl ?_
  refine cl_seq rfl ?_
  refine cl_reg rfl ?_
  refine st rfl rfl rfl rfl (x_move rfl) ?_
  refine sc rfl rfl rfl rfl (c_fn rfl Tryd.call42 (is_no _ q h)) ?_
  rintro _ wk ⟨rfl, hwk⟩
  obtain rfl := hwk.symm
  refine st rfl rfl rfl rfl (x_not0 rfl) ?_
  refine rl_end rfl ?_
  refine al_k ?_
  refine cl_if1 rfl rfl ?_
  refine cl_seq rfl ?_
  refine cl_reg rfl ?_
  refine st rfl rfl rfl rfl (x_asg rfl) ?_
  refine rl_end rfl ?_
  refine al_k ?_
  refine cl_ret rfl ?_
  refine fin1 rfl rfl ?_
  exact ⟨rfl, rfl⟩

theorem add_no (w : World) (q : Option Addr) (h : NoQ w q) (li nd : Int) (b : Bool) : Cl Tryd.prog 30 [.pointer q, .int .i64 li, .int .i64 nd, .bool b] w (fun v w' => v = .int .i64 4 ∧ Fr [] w w') := by
  have F := Fr.refl [] w
  refine enter Tryd.func30 rfl Tryd.ntmps30 rfl ?_
  refine cl_seq rfl ?_
  refine cl_reg rfl ?_
  refine st rfl rfl rfl rfl (x_asg rfl) ?_
  refine rl_end rfl ?_
  refine al_k ?_
  refine cl_seq rfl ?_
  refine cl_seq rfl ?_
  refine cl_reg rfl ?_
  refine st rfl rfl rfl rfl (x_move rfl) ?_
  refine st rfl rfl rfl rfl (x_move rfl) ?_
  refine se rfl rfl rfl rfl (e_new (x_bsl rfl (bsl1 Tryd.underlying40 Tryd.sizeOf3 Tryd.zeroValue3 rfl rfl))) ?_
  rintro _ w1_2 ⟨rfl, b1_2, fr1_2, sz1_2⟩
  replace F := F.trans fr1_2
  replace h := h.fr0 fr1_2
  refine st rfl rfl rfl rfl (x_move rfl) ?_
  refine se rfl rfl rfl rfl (e_new (x_bsl rfl (bsl1 Tryd.underlying40 Tryd.sizeOf3 Tryd.zeroValue3 rfl rfl))) ?_
  rintro _ w1_4 ⟨rfl, b1_4, fr1_4, sz1_4⟩
  replace F := F.trans fr1_4
  replace h := h.fr0 fr1_4
  replace b1_2 := b1_2.fr0 fr1_4
  refine sc rfl rfl rfl rfl (c_fn rfl Tryd.call28 (asked_no _ q h _ _)) ?_
  rintro _ wk ⟨rfl, hwk⟩
  obtain rfl := hwk.symm
  refine st rfl rfl rfl rfl (x_asg rfl) ?_
  refine rl_end rfl ?_
  refine al_k ?_
  refine cl_seq rfl ?_
  refine cl_reg rfl ?_
  refine st rfl rfl rfl rfl (x_move rfl) ?_
  refine st rfl rfl rfl rfl ((x_neq rfl rfl).b1 (by omega)) ?_
  refine rl_end rfl ?_
  refine al_k ?_
  refine cl_if1 rfl rfl ?_
  refine cl_seq rfl ?_
  refine cl_reg rfl ?_
  refine st rfl rfl rfl rfl (x_move rfl) ?_
  refine st rfl rfl rfl rfl (x_asg rfl) ?_
  refine rl_end rfl ?_
  refine al_k ?_
  refine cl_ret rfl ?_
  refine fin1 rfl rfl ?_
  exact ⟨rfl, F⟩

theorem Push_no (w : World) (q : Option Addr) (h : NoQ w q) (li nd : Int) : Cl Tryd.prog 10 [.pointer q, .int .i64 li, .int .i64 nd] w (fun v w' => v = .int .i64 4 ∧ Fr [] w w') := by
  refine enter Tryd.func10 rfl Tryd.ntmps10 rfl ?_
  refine cl_seq rfl ?_
  refine cl_reg rfl ?_
  refine st rfl rfl rfl rfl (x_asg rfl) ?_
  refine rl_end rfl ?_
  refine al_k ?_
  refine cl_seq rfl ?_
  refine cl_reg rfl ?_
  refine st rfl rfl rfl rfl (x_move rfl) ?_
  refine st rfl rfl rfl rfl (x_move rfl) ?_
  refine st rfl rfl rfl rfl (x_move rfl) ?_
  refine sc rfl rfl rfl rfl (c_fn rfl Tryd.call30 (add_no _ q h li nd _)) ?_
  rintro _ w1 ⟨rfl, F⟩
  refine st rfl rfl rfl rfl (x_asg rfl) ?_
  refine rl_end rfl ?_
  refine al_k ?_
  refine cl_ret rfl ?_
  refine fin1 rfl rfl ?_
  exact ⟨rfl, F⟩

theorem PushFront_no (w : World) (q : Option Addr) (h : NoQ w q) (li nd : Int) : Cl Tryd.prog 23 [.pointer q, .int .i64 li, .int .i64 nd] w (fun v w' => v = .int .i64 4 ∧ Fr [] w w') := by
  refine enter Tryd.func23 rfl Tryd.ntmps23 rfl ?_
  refine cl_seq rfl ?_
  refine cl_reg rfl ?_
  refine st rfl rfl rfl rfl (x_asg rfl) ?_
  refine rl_end rfl ?_
  refine al_k ?_
  refine cl_seq rfl ?_
  refine cl_reg rfl ?_
  refine st rfl rfl rfl rfl (x_move rfl) ?_
  refine st rfl rfl rfl rfl (x_move rfl) ?_
  refine st rfl rfl rfl rfl (x_move rfl) ?_
  refine sc rfl rfl rfl rfl (c_fn rfl Tryd.call30 (add_no _ q h li nd _)) ?_
  rintro _ w1 ⟨rfl, F⟩
  refine st rfl rfl rfl rfl (x_asg rfl) ?_
  refine rl_end rfl ?_
  refine al_k ?_
  refine cl_ret rfl ?_
  refine fin1 rfl rfl ?_
  exact ⟨rfl, F⟩

theorem pop_no (w : World) (q : Option Addr) (h : NoQ w q) (li : Int) : Cl Tryd.prog 9 [.pointer q, .int .i64 li] w (fun v w' => v = .tuple #[.int .i64 0, .bool false] ∧ Fr [] w w') := by
  have F := Fr.refl [] w
  refine enter Tryd.func9 rfl Tryd.ntmps9 rfl ?_
  refine cl_seq rfl ?_
  refine cl_reg rfl ?_
  refine st rfl rfl rfl rfl (x_asg rfl) ?_
  refine st rfl rfl rfl rfl (x_asg rfl) ?_
  refine rl_end rfl ?_
  refine al_k ?_
  refine cl_seq rfl ?_
  refine cl_seq rfl ?_
  refine cl_reg rfl ?_
  refine st rfl rfl rfl rfl (x_move rfl) ?_
  refine st rfl rfl rfl rfl (x_move rfl) ?_
  refine se rfl rfl rfl rfl (e_new (x_bsl rfl (bsl1 Tryd.underlying40 Tryd.sizeOf3 Tryd.zeroValue3 rfl rfl))) ?_
  rintro _ w1_2 ⟨rfl, b1_2, fr1_2, sz1_2⟩
  replace F := F.trans fr1_2
  replace h := h.fr0 fr1_2
  refine sc rfl rfl rfl rfl (c_fn rfl Tryd.call28 (asked_no _ q h _ _)) ?_
  rintro _ wk ⟨rfl, hwk⟩
  obtain rfl := hwk.symm
  refine st rfl rfl rfl rfl ((x_neq rfl rfl).b1 (by omega)) ?_
  refine st rfl rfl rfl rfl (x_move rfl) ?_
  refine so rfl rfl rfl rfl ?_
  refine so rfl rfl rfl rfl ?_
  refine so rfl rfl rfl rfl ?_
  refine so rfl rfl rfl rfl ?_
  refine so rfl rfl rfl rfl ?_
  refine so rfl rfl rfl rfl ?_
  refine so rfl rfl rfl rfl ?_
  refine so rfl rfl rfl rfl ?_
  refine so rfl rfl rfl rfl ?_
  refine st rfl rfl rfl rfl (x_pick1 rfl rfl) ?_
  refine rl_end rfl ?_
  refine al_k ?_
  refine cl_if1 rfl rfl ?_
  refine cl_seq rfl ?_
  refine cl_reg rfl ?_
  refine st rfl rfl rfl rfl (x_asg rfl) ?_
  refine st rfl rfl rfl rfl (x_asg rfl) ?_
  refine rl_end rfl ?_
  refine al_k ?_
  refine cl_ret rfl ?_
  refine fin2 rfl rfl rfl ?_
  exact ⟨rfl, F⟩

theorem drop_no (w : World) (q : Option Addr) (h : NoQ w q) (nd : Int) : Cl Tryd.prog 18 [.pointer q, .int .i64 nd] w (fun v w' => v = .int .i64 4 ∧ Fr [] w w') := by
  have F := Fr.refl [] w
  refine enter Tryd.func18 rfl Tryd.ntmps18 rfl ?_
  refine cl_seq rfl ?_
  refine cl_reg rfl ?_
  refine st rfl rfl rfl rfl (x_asg rfl) ?_
  refine rl_end rfl ?_
  refine al_k ?_
  refine cl_seq rfl ?_
  refine cl_seq rfl ?_
  refine cl_reg rfl ?_
  refine st rfl rfl rfl rfl (x_move rfl) ?_
  refine st rfl rfl rfl rfl (x_move rfl) ?_
  refine se rfl rfl rfl rfl (e_new (x_bsl rfl (bsl1 Tryd.underlying40 Tryd.sizeOf3 Tryd.zeroValue3 rfl rfl))) ?_
  rintro _ w1_2 ⟨rfl, b1_2, fr1_2, sz1_2⟩
  replace F := F.trans fr1_2
  replace h := h.fr0 fr1_2
  refine sc rfl rfl rfl rfl (c_fn rfl Tryd.call28 (asked_no _ q h _ _)) ?_
  rintro _ wk ⟨rfl, hwk⟩
  obtain rfl := hwk.symm
  refine st rfl rfl rfl rfl (x_asg rfl) ?_
  refine rl_end rfl ?_
  refine al_k ?_
  refine cl_seq rfl ?_
  refine cl_reg rfl ?_
  refine st rfl rfl rfl rfl (x_move rfl) ?_
  refine st rfl rfl rfl rfl ((x_neq rfl rfl).b1 (by omega)) ?_
  refine rl_end rfl ?_
  refine al_k ?_
  refine cl_if1 rfl rfl ?_
  refine cl_seq rfl ?_
  refine cl_reg rfl ?_
  refine st rfl rfl rfl rfl (x_move rfl) ?_
  refine st rfl rfl rfl rfl (x_asg rfl) ?_
  refine rl_end rfl ?_
  refine al_k ?_
  refine cl_ret rfl ?_
  refine fin1 rfl rfl ?_
  exact ⟨rfl, F⟩

theorem move_no (w : World) (q : Option Addr) (h : NoQ w q) (li nd : Int) : Cl Tryd.prog 24 [.pointer q, .int .i64 li, .int .i64 nd] w (fun v w' => v = .int .i64 4 ∧ Fr [] w w') := by
  have F := Fr.refl [] w
  refine enter Tryd.func24 rfl Tryd.ntmps24 rfl ?_
  refine cl_seq rfl ?_
  refine cl_reg rfl ?_
  refine st rfl rfl rfl rfl (x_asg rfl) ?_
  refine rl_end rfl ?_
  refine al_k ?_
  refine cl_seq rfl ?_
  refine cl_seq rfl ?_
  refine cl_reg rfl ?_
  refine st rfl rfl rfl rfl (x_move rfl) ?_
  refine st rfl rfl rfl rfl (x_move rfl) ?_
  refine se rfl rfl rfl rfl (e_new (x_bsl rfl (bsl1 Tryd.underlying40 Tryd.sizeOf3 Tryd.zeroValue3 rfl rfl))) ?_
  rintro _ w1_2 ⟨rfl, b1_2, fr1_2, sz1_2⟩
  replace F := F.trans fr1_2
  replace h := h.fr0 fr1_2
  refine st rfl rfl rfl rfl (x_move rfl) ?_
  refine se rfl rfl rfl rfl (e_new (x_bsl rfl (bsl1 Tryd.underlying40 Tryd.sizeOf3 Tryd.zeroValue3 rfl rfl))) ?_
  rintro _ w1_4 ⟨rfl, b1_4, fr1_4, sz1_4⟩
  replace F := F.trans fr1_4
  replace h := h.fr0 fr1_4
  replace b1_2 := b1_2.fr0 fr1_4
  refine sc rfl rfl rfl rfl (c_fn rfl Tryd.call28 (asked_no _ q h _ _)) ?_
  rintro _ wk ⟨rfl, hwk⟩
  obtain rfl := hwk.symm
  refine st rfl rfl rfl rfl (x_asg rfl) ?_
  refine rl_end rfl ?_
  refine al_k ?_
  refine cl_seq rfl ?_
  refine cl_reg rfl ?_
  refine st rfl rfl rfl rfl (x_move rfl) ?_
  refine st rfl rfl rfl rfl ((x_neq rfl rfl).b1 (by omega)) ?_
  refine rl_end rfl ?_
  refine al_k ?_
  refine cl_if1 rfl rfl ?_
  refine cl_seq rfl ?_
  refine cl_reg rfl ?_
  refine st rfl rfl rfl rfl (x_move rfl) ?_
  refine st rfl rfl rfl rfl (x_asg rfl) ?_
  refine rl_end rfl ?_
  refine al_k ?_
  refine cl_ret rfl ?_
  refine fin1 rfl rfl ?_
  exact ⟨rfl, F⟩

theorem bsl2I (w : World) (a b : Int) : (Instr.buildSlice 40 2 [(0, .int .i64 a), (1, .int .i64 b)].toArray).run Tryd.prog w = .ok (.slice (some ⟨w.heap.size, 0, none⟩) 2 2) (w.alloc (.cells [.int .i64 a, .int .i64 b].toArray 3)) := by kernel_rfl

theorem take_no (w : World) (q : Option Addr) (h : NoQ w q) (to fr : Int) : Cl Tryd.prog 25 [.pointer q, .int .i64 to, .int .i64 fr] w (fun v w' => v = .int .i64 4 ∧ Fr [] w w') := by
  have F := Fr.refl [] w
  refine enter Tryd.func25 rfl Tryd.ntmps25 rfl ?_
  refine cl_seq rfl ?_
  refine cl_reg rfl ?_
  refine st rfl rfl rfl rfl (x_asg rfl) ?_
  refine rl_end rfl ?_
  refine al_k ?_
  refine cl_seq rfl ?_
  refine cl_seq rfl ?_
  refine cl_reg rfl ?_
  refine st rfl rfl rfl rfl (x_move rfl) ?_
  refine st rfl rfl rfl rfl (x_move rfl) ?_
  refine st rfl rfl rfl rfl (x_move rfl) ?_
  refine se rfl rfl rfl rfl (e_new (x_bsl rfl (bsl2I _ _ _))) ?_
  rintro _ w1_3 ⟨rfl, b1_3, fr1_3, sz1_3⟩
  replace F := F.trans fr1_3
  replace h := h.fr0 fr1_3
  refine sc rfl rfl rfl rfl (c_fn rfl Tryd.call28 (asked_no _ q h _ _)) ?_
  rintro _ wk ⟨rfl, hwk⟩
  obtain rfl := hwk.symm
  refine st rfl rfl rfl rfl (x_asg rfl) ?_
  refine rl_end rfl ?_
  refine al_k ?_
  refine cl_seq rfl ?_
  refine cl_reg rfl ?_
  refine st rfl rfl rfl rfl (x_move rfl) ?_
  refine st rfl rfl rfl rfl ((x_neq rfl rfl).b1 (by omega)) ?_
  refine rl_end rfl ?_
  refine al_k ?_
  refine cl_if1 rfl rfl ?_
  refine cl_seq rfl ?_
  refine cl_reg rfl ?_
  refine st rfl rfl rfl rfl (x_move rfl) ?_
  refine st rfl rfl rfl rfl (x_asg rfl) ?_
  refine rl_end rfl ?_
  refine al_k ?_
  refine cl_ret rfl ?_
  refine fin1 rfl rfl ?_
  exact ⟨rfl, F⟩

theorem len_no (w : World) (q : Option Addr) (h : NoQ w q) (li : Int) : Cl Tryd.prog 11 [.pointer q, .int .i64 li] w (fun v w' => v = .int .i64 0 ∧ Fr [] w w') := by
  have F := Fr.refl [] w
  refine enter Tryd.func11 rfl Tryd.ntmps11 rfl ?_
  refine cl_seq rfl ?_
  refine cl_reg rfl ?_
  refine st rfl rfl rfl rfl (x_asg rfl) ?_
  refine rl_end rfl ?_
  refine al_k ?_
  refine cl_seq rfl ?_
  refine cl_seq rfl ?_
  refine cl_reg rfl ?_
  refine st rfl rfl rfl rfl (x_move rfl) ?_
  refine st rfl rfl rfl rfl (x_move rfl) ?_
  refine se rfl rfl rfl rfl (e_new (x_bsl rfl (bsl1 Tryd.underlying40 Tryd.sizeOf3 Tryd.zeroValue3 rfl rfl))) ?_
  rintro _ w1_2 ⟨rfl, b1_2, fr1_2, sz1_2⟩
  replace F := F.trans fr1_2
  replace h := h.fr0 fr1_2
  refine sc rfl rfl rfl rfl (c_fn rfl Tryd.call28 (asked_no _ q h _ _)) ?_
  rintro _ wk ⟨rfl, hwk⟩
  obtain rfl := hwk.symm
  refine st rfl rfl rfl rfl ((x_neq rfl rfl).b1 (by omega)) ?_
  refine rl_end rfl ?_
  refine al_k ?_
  refine cl_if1 rfl rfl ?_
  refine cl_seq rfl ?_
  refine cl_reg rfl ?_
  refine st rfl rfl rfl rfl (x_asg rfl) ?_
  refine rl_end rfl ?_
  refine al_k ?_
  refine cl_ret rfl ?_
  refine fin1 rfl rfl ?_
  exact ⟨rfl, F⟩

theorem of_no (w : World) (q : Option Addr) (h : NoQ w q) (nd : Int) : Cl Tryd.prog 21 [.pointer q, .int .i64 nd] w (fun v w' => v = .tuple #[.int .i64 0, .bool false] ∧ Fr [] w w') := by
  have F := Fr.refl [] w
  refine enter Tryd.func21 rfl Tryd.ntmps21 rfl ?_
  refine cl_seq rfl ?_
  refine cl_reg rfl ?_
  refine st rfl rfl rfl rfl (x_asg rfl) ?_
  refine st rfl rfl rfl rfl (x_asg rfl) ?_
  refine rl_end rfl ?_
  refine al_k ?_
  refine cl_seq rfl ?_
  refine cl_seq rfl ?_
  refine cl_draw (by kernel_rfl) rfl [2, 3] (fun w' => w'.heap = w.heap) ?_
  rintro wd1 frd1 hpd1
  refine ⟨hpd1, ?_⟩
  refine dt (i := 0) rfl rfl rfl rfl (by kernel_rfl) (fun _ => x_move rfl) ?_
  refine dt (i := 1) rfl rfl rfl rfl (by kernel_rfl) (fun _ => x_move rfl) ?_
  replace F := F.trans frd1
  replace h := h.fr0 frd1
  refine d1 (i := 2) (by kernel_rfl) ?_
  refine oe rfl rfl rfl rfl (e_new (x_bsl rfl (bsl1 Tryd.underlying40 Tryd.sizeOf3 Tryd.zeroValue3 rfl rfl))) ?_
  rintro _ w1_2 ⟨rfl, b1_2, fr1_2, sz1_2⟩
  replace F := F.trans fr1_2
  replace h := h.fr0 fr1_2
  refine ⟨.inl (by kernel_rfl), ?_⟩
  refine d1 (i := 3) (by kernel_rfl) ?_
  refine oc rfl rfl rfl rfl (c_fn rfl Tryd.call28 (asked_no _ q h _ _)) ?_
  rintro _ wk ⟨rfl, hwk⟩
  obtain rfl := hwk.symm
  refine ⟨.inl (by kernel_rfl), ?_⟩
  refine dt (i := 4) rfl rfl rfl rfl (by kernel_rfl) (fun _ => (x_neq rfl rfl).b1 (by omega)) ?_
  refine dt (i := 5) rfl rfl rfl rfl (by kernel_rfl) (fun _ => x_move rfl) ?_
  refine dz (i := 6) rfl rfl rfl rfl (by kernel_rfl) ?_
  refine dz (i := 7) rfl rfl rfl rfl (by kernel_rfl) ?_
  refine dz (i := 8) rfl rfl rfl rfl (by kernel_rfl) ?_
  refine dz (i := 9) rfl rfl rfl rfl (by kernel_rfl) ?_
  refine dz (i := 10) rfl rfl rfl rfl (by kernel_rfl) ?_
  refine dz (i := 11) rfl rfl rfl rfl (by kernel_rfl) ?_
  refine dz (i := 12) rfl rfl rfl rfl (by kernel_rfl) ?_
  refine dz (i := 13) rfl rfl rfl rfl (by kernel_rfl) ?_
  refine dz (i := 14) rfl rfl rfl rfl (by kernel_rfl) ?_
  refine dt (i := 15) rfl rfl rfl rfl (by kernel_rfl) (fun _ => x_pick1 rfl rfl) ?_
  refine dn (by kernel_rfl) ?_
  refine al_k ?_
  refine cl_if1 rfl rfl ?_
  refine cl_seq rfl ?_
  refine cl_reg rfl ?_
  refine st rfl rfl rfl rfl (x_asg rfl) ?_
  refine st rfl rfl rfl rfl (x_asg rfl) ?_
  refine rl_end rfl ?_
  refine al_k ?_
  refine cl_ret rfl ?_
  refine fin2 rfl rfl rfl ?_
  exact ⟨rfl, F⟩

theorem row_no (w : World) (q : Option Addr) (h : NoQ w q) (li : Int) (bk : Bool) : Cl Tryd.prog 50 [.pointer q, .int .i64 li, .bool bk] w (fun v w' => w'.ownsRow w.heap.size 3 1 v ([] : List Int).length (ints []) ∧ Fr [] w w') := by
  have F := Fr.refl [] w
  refine enter Tryd.func50 rfl Tryd.ntmps50 rfl ?_
  refine cl_seq rfl ?_
  refine cl_reg rfl ?_
  refine st rfl rfl rfl rfl (x_asg rfl) ?_
  refine rl_end rfl ?_
  refine al_k ?_
  refine cl_seq rfl ?_
  refine cl_seq rfl ?_
  refine cl_reg rfl ?_
  refine st rfl rfl rfl rfl (x_move rfl) ?_
  refine st rfl rfl rfl rfl (x_move rfl) ?_
  refine se rfl rfl rfl rfl (e_new (x_bsl rfl (bsl1 Tryd.underlying40 Tryd.sizeOf3 Tryd.zeroValue3 rfl rfl))) ?_
  rintro _ w1_2 ⟨rfl, b1_2, fr1_2, sz1_2⟩
  replace F := F.trans fr1_2
  replace h := h.fr0 fr1_2
  refine sc rfl rfl rfl rfl (c_fn rfl Tryd.call28 (asked_no _ q h _ _)) ?_
  rintro _ wk ⟨rfl, hwk⟩
  obtain rfl := hwk.symm
  refine st rfl rfl rfl rfl ((x_neq rfl rfl).b1 (by omega)) ?_
  refine rl_end rfl ?_
  refine al_k ?_
  refine cl_if1 rfl rfl ?_
  refine cl_seq rfl ?_
  refine cl_reg rfl ?_
  refine st rfl rfl rfl rfl (x_asg rfl) ?_
  refine rl_end rfl ?_
  refine al_k ?_
  refine cl_ret rfl ?_
  refine fin1 rfl rfl ?_
  exact ⟨own_nil _ _ _, F⟩

theorem bldZ (w : World) : (Instr.build 55 [].toArray).run Tryd.prog w = .ok (.agg [.slice none 0 0, .slice none 0 0, .bool false].toArray) w := by kernel_rfl
theorem bslP2 (w : World) (a b : Option Addr) : (Instr.buildSlice 56 2 [(0, .pointer a), (1, .pointer b)].toArray).run Tryd.prog w = .ok (.slice (some ⟨w.heap.size, 0, none⟩) 2 2) (w.alloc (.cells [.pointer a, .pointer b].toArray 23)) := by kernel_rfl
theorem bslE5 (w : World) (a b c d e : Int) : (Instr.buildSlice 57 5 [(0, .int .i64 a), (1, .int .i64 b), (2, .int .i64 c), (3, .int .i64 d), (4, .int .i64 e)].toArray).run Tryd.prog w = .ok (.slice (some ⟨w.heap.size, 0, none⟩) 5 5) (w.alloc (.cells [.int .i64 a, .int .i64 b, .int .i64 c, .int .i64 d, .int .i64 e].toArray 24)) := by kernel_rfl

theorem nobody_c (w : World) (hG : Glb w) (kd li nd : Int) : Cl Tryd.prog 7 [.agg #[.int .i64 kd, .int .i64 li, .int .i64 nd]] w (fun v w' => v = .bool true ∧ Fr [] w w') := by
  have F := Fr.refl [] w
  refine enter Tryd.func7 rfl Tryd.ntmps7 rfl ?_
  refine cl_seq rfl ?_
  refine cl_reg rfl ?_
  refine se rfl rfl rfl rfl (e_new (x_box (cs := [.int .i64 kd, .int .i64 li, .int .i64 nd]) rfl rfl)) ?_
  rintro _ w0 ⟨rfl, b0, fr, _⟩
  replace F := F.trans fr
  generalize hb1 : w.heap.size = b1 at b0 ⊢
  refine st rfl rfl rfl rfl (x_asg rfl) ?_
  refine rl_end rfl ?_
  refine al_k ?_
  refine cl_seq rfl ?_
  refine cl_reg rfl ?_
  refine st rfl rfl rfl rfl (x_asg rfl) ?_
  refine rl_end rfl ?_
  refine al_k ?_
  refine cl_seq rfl ?_
  refine cl_seq rfl ?_
  refine cl_reg rfl ?_
  refine st rfl rfl rfl rfl (x_move rfl) ?_
  refine st rfl rfl rfl rfl (x_build rfl (bldZ _)) ?_
  refine se rfl rfl rfl rfl (e_new (x_box rfl rfl)) ?_
  rintro _ w2 ⟨rfl, bP, fr, _⟩
  replace F := F.trans fr
  replace b0 := b0.fr0 fr
  generalize hbz : w0.heap.size = bz at bP ⊢
  refine se rfl rfl rfl rfl (e_new (x_bsl rfl (bslP2 _ _ _))) ?_
  rintro _ w3 ⟨rfl, bA, fr, _⟩
  replace F := F.trans fr
  replace b0 := b0.fr0 fr
  replace bP := bP.fr0 fr
  generalize hbq : w2.heap.size = bq at bA ⊢
  refine st rfl rfl rfl rfl (x_len rfl Tryd.underlying56) ?_
  refine st rfl rfl rfl rfl (x_move rfl) ?_
  refine rl_end rfl ?_
  refine al_k ?_
  refine cl_block rfl ?_
  refine cl_loop (fun k : Nat => [(17, .int .i64 k), (16, .int .i64 2), (15, .slice (some ⟨bq, 0, none⟩) 2 2), (1, .pointer (some ⟨b1, 0, none⟩))]) (fun k wr => k ≤ 2 ∧ Fr [] w wr ∧ Blk wr b1 39 [.int .i64 kd, .int .i64 li, .int .i64 nd] ∧ Blk wr bq 23 [.pointer none, .pointer (some ⟨bz, 0, none⟩)] ∧ Blk wr bz 55 [.slice none 0 0, .slice none 0 0, .bool false]) (fun k => 2 - k) 0 rfl ⟨rfl, rfl, rfl, rfl, trivial⟩ ?_ ?_
  · exact ⟨by omega, F, b0, bA, bP⟩
  · skip
    rintro k wr ⟨hk, F, b0, bA, bP⟩
    refine cl_seq rfl ?_
    refine cl_reg rfl ?_
    refine sf rfl rfl rfl rfl (x_lss rfl rfl) (fun c3_0 => ?_) (fun c3_0 => ?_)
    · skip
      refine rl_end rfl ?_
      refine al_k ?_
      refine cl_seq rfl ?_
      refine cl_if1 rfl rfl ?_
      refine cl_skip rfl ?_
      refine al_k ?_
      refine cl_seq rfl ?_
      refine cl_block rfl ?_
      refine cl_seq rfl ?_
      obtain ⟨q, hq, h⟩ : ∃ q, [Value.pointer none, .pointer (some ⟨bz, 0, none⟩)][k]? = some (.pointer q) ∧ NoQ wr q := by
        match k, (show k < 2 by omega) with
        | 0, _ => exact ⟨none, rfl, .inl rfl⟩
        | 1, _ => exact ⟨some ⟨bz, 0, none⟩, rfl, .inr ⟨bz, _, _, rfl, bP⟩⟩
      refine cl_reg rfl ?_
      refine st rfl rfl rfl rfl (x_ia0 rfl rfl Tryd.underlying56 Tryd.sizeOf23 (by omega)) ?_
      refine st rfl rfl rfl rfl (x_ld rfl Tryd.isAgg23 (by simpa using bA.cell hq)) ?_
      refine st rfl rfl rfl rfl (x_asg rfl) ?_
      refine rl_end rfl ?_
      refine al_k ?_
      refine cl_seq rfl ?_
      refine cl_reg rfl ?_
      refine st rfl rfl rfl rfl (x_move rfl) ?_
      refine st rfl rfl rfl rfl (x_fa rfl Tryd.underlying39 rfl Tryd.sizeOf3 1 rfl) ?_
      refine st rfl rfl rfl rfl (x_ld rfl Tryd.isAgg3 (b0.cell rfl)) ?_
      refine sc rfl rfl rfl rfl (c_fn rfl Tryd.call9 (pop_no _ q h li)) ?_
      rintro _ w5 ⟨rfl, fr⟩
      replace F := F.trans fr
      replace h := h.fr0 fr
      replace b0 := b0.fr0 fr
      replace bA := bA.fr0 fr
      replace bP := bP.fr0 fr
      refine st rfl rfl rfl rfl (x_move rfl) ?_
      refine st rfl rfl rfl rfl (x_ext rfl rfl) ?_
      refine st rfl rfl rfl rfl (x_ext rfl rfl) ?_
      refine st rfl rfl rfl rfl (x_asg rfl) ?_
      refine st rfl rfl rfl rfl (x_asg rfl) ?_
      refine rl_end rfl ?_
      refine al_k ?_
      refine cl_seq rfl ?_
      refine cl_reg rfl ?_
      refine st rfl rfl rfl rfl (x_move rfl) ?_
      refine st rfl rfl rfl rfl (x_fa rfl Tryd.underlying39 rfl Tryd.sizeOf3 2 rfl) ?_
      refine st rfl rfl rfl rfl (x_ld rfl Tryd.isAgg3 (b0.cell rfl)) ?_
      refine sc rfl rfl rfl rfl (c_fn rfl Tryd.call21 (of_no _ q h nd)) ?_
      rintro _ w6 ⟨rfl, fr⟩
      replace F := F.trans fr
      replace h := h.fr0 fr
      replace b0 := b0.fr0 fr
      replace bA := bA.fr0 fr
      replace bP := bP.fr0 fr
      refine st rfl rfl rfl rfl (x_move rfl) ?_
      refine st rfl rfl rfl rfl (x_ext rfl rfl) ?_
      refine st rfl rfl rfl rfl (x_ext rfl rfl) ?_
      refine st rfl rfl rfl rfl (x_asg rfl) ?_
      refine st rfl rfl rfl rfl (x_asg rfl) ?_
      refine rl_end rfl ?_
      refine al_k ?_
      refine cl_seq rfl ?_
      refine cl_seq rfl ?_
      refine cl_draw (by kernel_rfl) rfl [] (fun w' => Blk w' b1 39 [.int .i64 kd, .int .i64 li, .int .i64 nd]) ?_
      rintro wd7 fr hpd7
      replace F := F.trans fr
      replace h := h.fr0 fr
      replace b0 := b0.fr0 fr
      replace bA := bA.fr0 fr
      replace bP := bP.fr0 fr
      refine ⟨b0, ?_⟩
      refine dt (i := 0) rfl rfl rfl rfl (by kernel_rfl) (fun _ => x_move rfl) ?_
      refine dt (i := 1) rfl rfl rfl rfl (by kernel_rfl) (fun _ => x_fa rfl Tryd.underlying39 rfl Tryd.sizeOf3 1 rfl) ?_
      refine dl (i := 2) rfl rfl rfl rfl (by kernel_rfl) (by kernel_rfl) (fun w' hU => x_ld rfl Tryd.isAgg3 (hU.cell rfl)) ?_
      refine dt (i := 3) rfl rfl rfl rfl (by kernel_rfl) (fun _ => x_fa rfl Tryd.underlying39 rfl Tryd.sizeOf3 2 rfl) ?_
      refine dl (i := 4) rfl rfl rfl rfl (by kernel_rfl) (by kernel_rfl) (fun w' hU => x_ld rfl Tryd.isAgg3 (hU.cell rfl)) ?_
      refine dt (i := 6) rfl rfl rfl rfl (by kernel_rfl) (fun _ => x_move rfl) ?_
      refine dt (i := 7) rfl rfl rfl rfl (by kernel_rfl) (fun _ => x_fa rfl Tryd.underlying39 rfl Tryd.sizeOf3 1 rfl) ?_
      refine dl (i := 8) rfl rfl rfl rfl (by kernel_rfl) (by kernel_rfl) (fun w' hU => x_ld rfl Tryd.isAgg3 (hU.cell rfl)) ?_
      refine dt (i := 9) rfl rfl rfl rfl (by kernel_rfl) (fun _ => x_fa rfl Tryd.underlying39 rfl Tryd.sizeOf3 2 rfl) ?_
      refine dl (i := 10) rfl rfl rfl rfl (by kernel_rfl) (by kernel_rfl) (fun w' hU => x_ld rfl Tryd.isAgg3 (hU.cell rfl)) ?_
      refine dt (i := 12) rfl rfl rfl rfl (by kernel_rfl) (fun _ => x_move rfl) ?_
      refine dt (i := 13) rfl rfl rfl rfl (by kernel_rfl) (fun _ => x_fa rfl Tryd.underlying39 rfl Tryd.sizeOf3 2 rfl) ?_
      refine dl (i := 14) rfl rfl rfl rfl (by kernel_rfl) (by kernel_rfl) (fun w' hU => x_ld rfl Tryd.isAgg3 (hU.cell rfl)) ?_
      refine dt (i := 16) rfl rfl rfl rfl (by kernel_rfl) (fun _ => x_move rfl) ?_
      refine dt (i := 17) rfl rfl rfl rfl (by kernel_rfl) (fun _ => x_fa rfl Tryd.underlying39 rfl Tryd.sizeOf3 1 rfl) ?_
      refine dl (i := 18) rfl rfl rfl rfl (by kernel_rfl) (by kernel_rfl) (fun w' hU => x_ld rfl Tryd.isAgg3 (hU.cell rfl)) ?_
      refine dt (i := 19) rfl rfl rfl rfl (by kernel_rfl) (fun _ => x_fa rfl Tryd.underlying39 rfl Tryd.sizeOf3 2 rfl) ?_
      refine dl (i := 20) rfl rfl rfl rfl (by kernel_rfl) (by kernel_rfl) (fun w' hU => x_ld rfl Tryd.isAgg3 (hU.cell rfl)) ?_
      refine dt (i := 22) rfl rfl rfl rfl (by kernel_rfl) (fun _ => x_move rfl) ?_
      refine dt (i := 23) rfl rfl rfl rfl (by kernel_rfl) (fun _ => x_fa rfl Tryd.underlying39 rfl Tryd.sizeOf3 1 rfl) ?_
      refine dl (i := 24) rfl rfl rfl rfl (by kernel_rfl) (by kernel_rfl) (fun w' hU => x_ld rfl Tryd.isAgg3 (hU.cell rfl)) ?_
      refine dt (i := 25) rfl rfl rfl rfl (by kernel_rfl) (fun _ => x_fa rfl Tryd.underlying39 rfl Tryd.sizeOf3 2 rfl) ?_
      refine dl (i := 26) rfl rfl rfl rfl (by kernel_rfl) (by kernel_rfl) (fun w' hU => x_ld rfl Tryd.isAgg3 (hU.cell rfl)) ?_
      refine dt (i := 30) rfl rfl rfl rfl (by kernel_rfl) (fun _ => x_move rfl) ?_
      refine d1 (i := 5) (by kernel_rfl) ?_
      refine oc rfl rfl rfl rfl (c_fn rfl Tryd.call10 (Push_no _ q h li nd)) ?_
      rintro _ w23 ⟨rfl, fr⟩
      replace F := F.trans fr
      replace h := h.fr0 fr
      replace b0 := b0.fr0 fr
      replace bA := bA.fr0 fr
      replace bP := bP.fr0 fr
      refine ⟨.inr b0, ?_⟩
      refine d1 (i := 11) (by kernel_rfl) ?_
      refine oc rfl rfl rfl rfl (c_fn rfl Tryd.call23 (PushFront_no _ q h li nd)) ?_
      rintro _ w24 ⟨rfl, fr⟩
      replace F := F.trans fr
      replace h := h.fr0 fr
      replace b0 := b0.fr0 fr
      replace bA := bA.fr0 fr
      replace bP := bP.fr0 fr
      refine ⟨.inr b0, ?_⟩
      refine d1 (i := 15) (by kernel_rfl) ?_
      refine oc rfl rfl rfl rfl (c_fn rfl Tryd.call18 (drop_no _ q h nd)) ?_
      rintro _ w25 ⟨rfl, fr⟩
      replace F := F.trans fr
      replace h := h.fr0 fr
      replace b0 := b0.fr0 fr
      replace bA := bA.fr0 fr
      replace bP := bP.fr0 fr
      refine ⟨.inr b0, ?_⟩
      refine d1 (i := 21) (by kernel_rfl) ?_
      refine oc rfl rfl rfl rfl (c_fn rfl Tryd.call24 (move_no _ q h li nd)) ?_
      rintro _ w26 ⟨rfl, fr⟩
      replace F := F.trans fr
      replace h := h.fr0 fr
      replace b0 := b0.fr0 fr
      replace bA := bA.fr0 fr
      replace bP := bP.fr0 fr
      refine ⟨.inr b0, ?_⟩
      refine d1 (i := 27) (by kernel_rfl) ?_
      refine oc rfl rfl rfl rfl (c_fn rfl Tryd.call25 (take_no _ q h li nd)) ?_
      rintro _ w27 ⟨rfl, fr⟩
      replace F := F.trans fr
      replace h := h.fr0 fr
      replace b0 := b0.fr0 fr
      replace bA := bA.fr0 fr
      replace bP := bP.fr0 fr
      refine ⟨.inr b0, ?_⟩
      refine d1 (i := 28) (by kernel_rfl) ?_
      refine oe rfl rfl rfl rfl (e_new (x_bsl rfl (bslE5 _ _ _ _ _ _))) ?_
      rintro _ w28 ⟨rfl, bE, fr, _⟩
      replace F := F.trans fr
      replace h := h.fr0 fr
      replace b0 := b0.fr0 fr
      replace bA := bA.fr0 fr
      replace bP := bP.fr0 fr
      generalize hbe : w27.heap.size = be at bE ⊢
      refine ⟨.inr b0, ?_⟩
      refine dt (i := 29) rfl rfl rfl rfl (by kernel_rfl) (fun _ => x_len rfl Tryd.underlying57) ?_
      refine dn (by kernel_rfl) ?_
      refine al_k ?_
      refine cl_block rfl ?_
      refine cl_loop (fun j : Nat => [(65, .int .i64 j), (64, .int .i64 5), (63, .slice (some ⟨be, 0, none⟩) 5 5), (9, .bool false), (8, .int .i64 0), (7, .bool false), (6, .int .i64 0), (5, .pointer q), (17, .int .i64 k), (16, .int .i64 2), (15, .slice (some ⟨bq, 0, none⟩) 2 2), (1, .pointer (some ⟨b1, 0, none⟩))]) (fun j wr => j ≤ 5 ∧ Fr [] w wr ∧ NoQ wr q ∧ Blk wr b1 39 [.int .i64 kd, .int .i64 li, .int .i64 nd] ∧ Blk wr bq 23 [.pointer none, .pointer (some ⟨bz, 0, none⟩)] ∧ Blk wr bz 55 [.slice none 0 0, .slice none 0 0, .bool false] ∧ Blk wr be 24 [.int .i64 4, .int .i64 4, .int .i64 4, .int .i64 4, .int .i64 4]) (fun j => 5 - j) 0 rfl ⟨rfl, rfl, rfl, rfl, rfl, rfl, rfl, rfl, rfl, rfl, rfl, rfl, trivial⟩ ?_ ?_
      · exact ⟨by omega, F, h, b0, bA, bP, bE⟩
      · skip
        rintro j wr2 ⟨hj, F, h, b0, bA, bP, bE⟩
        refine cl_seq rfl ?_
        refine cl_reg rfl ?_
        refine sf rfl rfl rfl rfl (x_lss rfl rfl) (fun c8_0 => ?_) (fun c8_0 => ?_)
        · skip
          refine rl_end rfl ?_
          refine al_k ?_
          refine cl_seq rfl ?_
          refine cl_if1 rfl rfl ?_
          refine cl_skip rfl ?_
          refine al_k ?_
          refine cl_seq rfl ?_
          refine cl_block rfl ?_
          refine cl_seq rfl ?_
          have hje : [Value.int .i64 4, .int .i64 4, .int .i64 4, .int .i64 4, .int .i64 4][j]? = some (.int .i64 4) := by
            match j, (show j < 5 by omega) with
            | 0, _ | 1, _ | 2, _ | 3, _ | 4, _ => rfl
          refine cl_reg rfl ?_
          refine st rfl rfl rfl rfl (x_ia0 rfl rfl Tryd.underlying57 Tryd.sizeOf24 (by omega)) ?_
          refine st rfl rfl rfl rfl (x_ld rfl Tryd.isAgg24 (by simpa using bE.cell hje)) ?_
          refine st rfl rfl rfl rfl (x_asg rfl) ?_
          refine rl_end rfl ?_
          refine al_k ?_
          refine cl_seq rfl ?_
          refine cl_reg rfl ?_
          refine st rfl rfl rfl rfl (x_move rfl) ?_
          refine st rfl rfl rfl rfl ((x_neq rfl rfl).b0 (fun h => h rfl)) ?_
          refine rl_end rfl ?_
          refine al_k ?_
          refine cl_if0 rfl rfl ?_
          refine cl_skip rfl ?_
          refine al_k ?_
          refine cl_reg rfl ?_
          refine st rfl rfl rfl rfl (x_add rfl rfl (by omega)) ?_
          refine st rfl rfl rfl rfl (x_move rfl) ?_
          refine rl_end rfl ?_
          refine again (j + 1) (by omega) ⟨rfl, rfl, rfl, rfl, rfl, rfl, rfl, rfl, rfl, rfl, rfl, rfl, trivial⟩ ⟨by omega, F, h, b0, bA, bP, bE⟩
        · skip
          refine rl_end rfl ?_
          refine al_k ?_
          refine cl_seq rfl ?_
          refine cl_if0 rfl rfl ?_
          refine cl_exit rfl ?_
          refine upd_self ?_
          refine al_k ?_
          refine cl_seq rfl ?_
          refine cl_reg rfl ?_
          refine st rfl rfl rfl rfl (x_move rfl) ?_
          refine st rfl rfl rfl rfl (x_move rfl) ?_
          refine st rfl rfl rfl rfl (x_add rfl rfl (by omega)) ?_
          refine st rfl rfl rfl rfl (x_move rfl) ?_
          refine st rfl rfl rfl rfl (x_fa rfl Tryd.underlying39 rfl Tryd.sizeOf3 1 rfl) ?_
          refine st rfl rfl rfl rfl (x_ld rfl Tryd.isAgg3 (b0.cell rfl)) ?_
          refine sc rfl rfl rfl rfl (c_fn rfl Tryd.call11 (len_no _ q h li)) ?_
          rintro _ w33 ⟨rfl, fr⟩
          replace F := F.trans fr
          replace h := h.fr0 fr
          replace b0 := b0.fr0 fr
          replace bA := bA.fr0 fr
          replace bP := bP.fr0 fr
          refine st rfl rfl rfl rfl (x_add rfl rfl (by omega)) ?_
          refine st rfl rfl rfl rfl ((x_neq rfl rfl).b0 (fun h => h rfl)) ?_
          refine st rfl rfl rfl rfl (x_move rfl) ?_
          refine st rfl rfl rfl rfl (x_move rfl) ?_
          refine st rfl rfl rfl rfl (x_pick0 rfl rfl) ?_
          refine st rfl rfl rfl rfl (x_move rfl) ?_
          refine st rfl rfl rfl rfl (x_move rfl) ?_
          refine st rfl rfl rfl rfl (x_pick0 rfl rfl) ?_
          refine st rfl rfl rfl rfl (x_move rfl) ?_
          refine st rfl rfl rfl rfl (x_move rfl) ?_
          refine st rfl rfl rfl rfl (x_fa rfl Tryd.underlying39 rfl Tryd.sizeOf3 1 rfl) ?_
          refine st rfl rfl rfl rfl (x_ld rfl Tryd.isAgg3 (b0.cell rfl)) ?_
          refine sc rfl rfl rfl rfl (c_fn rfl Tryd.call20 (ltold_c _ q li [] (by simp) (fun w1 fr => row_no w1 q (h.fr0 fr) li false))) ?_
          rintro v w34 ⟨HO, fr⟩
          obtain ⟨A1, c1, rfl, _⟩ := own_slice HO
          replace F := F.trans fr
          replace h := h.fr0 fr
          replace b0 := b0.fr0 fr
          replace bA := bA.fr0 fr
          replace bP := bP.fr0 fr
          refine st rfl rfl rfl rfl (x_len rfl Tryd.underlying40) ?_
          refine st rfl rfl rfl rfl ((x_neq rfl rfl).b0 (fun h => h rfl)) ?_
          refine st rfl rfl rfl rfl (x_pick0 rfl rfl) ?_
          refine st rfl rfl rfl rfl (x_move rfl) ?_
          refine st rfl rfl rfl rfl (x_move rfl) ?_
          refine st rfl rfl rfl rfl (x_fa rfl Tryd.underlying39 rfl Tryd.sizeOf3 1 rfl) ?_
          refine st rfl rfl rfl rfl (x_ld rfl Tryd.isAgg3 (b0.cell rfl)) ?_
          refine sc rfl rfl rfl rfl (c_fn rfl Tryd.call27 (Back_c _ q li)) ?_
          rintro _ w35 ⟨c1_, c2, c3, rfl, hc1, hc2, hc3, _, _, _, fr⟩
          replace F := F.trans fr
          replace h := h.fr0 fr
          replace b0 := b0.fr0 fr
          replace bA := bA.fr0 fr
          replace bP := bP.fr0 fr
          refine sc rfl rfl rfl rfl (c_fn rfl Tryd.call26 (rest_c _ q li true c1_ c2 c3 hc1 hc2 hc3 [] (by simp) (fun w1 fr => row_no w1 q (h.fr0 fr) li true))) ?_
          rintro v w36 ⟨HO2, fr⟩
          obtain ⟨A2, c2_, rfl, _⟩ := own_slice HO2
          replace F := F.trans fr
          replace h := h.fr0 fr
          replace b0 := b0.fr0 fr
          replace bA := bA.fr0 fr
          replace bP := bP.fr0 fr
          refine st rfl rfl rfl rfl (x_len rfl Tryd.underlying40) ?_
          refine st rfl rfl rfl rfl ((x_neq rfl rfl).b0 (fun h => h rfl)) ?_
          refine st rfl rfl rfl rfl (x_pick0 rfl rfl) ?_
          refine rl_end rfl ?_
          refine al_k ?_
          refine cl_if0 rfl rfl ?_
          refine cl_skip rfl ?_
          refine al_k ?_
          refine cl_reg rfl ?_
          refine st rfl rfl rfl rfl (x_add rfl rfl (by omega)) ?_
          refine st rfl rfl rfl rfl (x_move rfl) ?_
          refine rl_end rfl ?_
          refine again (k + 1) (by omega) ⟨rfl, rfl, rfl, rfl, trivial⟩ ⟨by omega, F, b0, bA, bP⟩
    · skip
      refine rl_end rfl ?_
      refine al_k ?_
      refine cl_seq rfl ?_
      refine cl_if0 rfl rfl ?_
      refine cl_exit rfl ?_
      refine upd_self ?_
      refine al_k ?_
      refine cl_seq rfl ?_
      refine cl_reg rfl ?_
      refine sc rfl rfl rfl rfl (c_fn rfl Tryd.call12 (alive_c _ (hG.fr F (by simp)))) ?_
      rintro _ w40 ⟨rfl, fr⟩
      replace F := F.trans fr
      refine st rfl rfl rfl rfl (x_asg rfl) ?_
      refine rl_end rfl ?_
      refine al_k ?_
      refine cl_ret rfl ?_
      refine fin1 rfl rfl ?_
      exact ⟨rfl, F⟩

end Go.Proofs.YtnnhpbjibhnhnabDoor.Ls
