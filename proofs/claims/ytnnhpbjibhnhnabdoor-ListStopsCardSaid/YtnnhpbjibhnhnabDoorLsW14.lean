/- Lists by links: the walk of the law ListStops. -/
import Derived.Test.YtnnhpbjibhnhnabDoorLsW11
import Derived.Test.YtnnhpbjibhnhnabDoorLsO
set_option linter.unusedVariables false
namespace Go.Proofs.YtnnhpbjibhnhnabDoor.Ls
open Go Go.RowKit Go.Proofs.YtnnhpbjibhnhnabDoor.Sx Go.Proofs.YtnnhpbjibhnhnabDoor
set_option maxRecDepth 100000

theorem stop1_true (ws w : World) (gb db pb mb p nb hb : Nat) (ls : Rows) (most z : Int) (done : List Int) (v : Value) (hv : Blk w gb 40 [v]) (HO : w.ownsRow ws.heap.size 3 1 v done.length (ints done)) (Q : LsR w p nb hb 10 2 (dropAll 10 ls done)) (hpb : Blk w pb 23 [.pointer (some ⟨p, 0, none⟩)]) (hdb : Blk w db 4 [.bool true]) (hmb : Blk w mb 3 [.int .i64 most]) (F : Fr [gb, nb, hb] ws w) (hl : done.length ≤ 100000) (zg : gb < ws.heap.size ∧ db < ws.heap.size ∧ pb < ws.heap.size ∧ mb < ws.heap.size ∧ p < ws.heap.size ∧ nb < ws.heap.size ∧ hb < ws.heap.size) (z0 : p < gb ∧ nb < gb ∧ hb < gb) (zn : nb ≠ db ∧ nb ≠ pb ∧ nb ≠ mb ∧ hb ≠ db ∧ hb ≠ pb ∧ hb ≠ mb) :
    Cl Tryd.prog 17 [.int .i64 z, .pointer (some ⟨gb, 0, none⟩), .pointer (some ⟨db, 0, none⟩), .pointer (some ⟨pb, 0, none⟩), .pointer (some ⟨mb, 0, none⟩)] w (fun r w' => ∃ v', r = .bool (decide (((done ++ [z]).length : Int) < most)) ∧ Blk w' gb 40 [v'] ∧ w'.ownsRow ws.heap.size 3 1 v' (done ++ [z]).length (ints (done ++ [z])) ∧ LsR w' p nb hb 10 2 (dropAll 10 ls (done ++ [z])) ∧ Blk w' pb 23 [.pointer (some ⟨p, 0, none⟩)] ∧ Blk w' db 4 [.bool true] ∧ Blk w' mb 3 [.int .i64 most] ∧ Fr [gb, nb, hb] ws w') := by
  have npg : p ≠ gb := by omega
  have nng : nb ≠ gb := by omega
  have nhg : hb ≠ gb := by omega
  refine enter Tryd.func17 rfl Tryd.ntmps17 rfl ?_
  refine cl_seq rfl ?_
  refine cl_reg rfl ?_
  refine st rfl rfl rfl rfl (x_asg rfl) ?_
  refine rl_end rfl ?_
  refine al_k ?_
  refine cl_seq rfl ?_
  refine cl_reg rfl ?_
  refine st rfl rfl rfl rfl (x_ld rfl Tryd.isAgg40 (hv.cell rfl)) ?_
  refine st rfl rfl rfl rfl (x_move rfl) ?_
  refine se rfl rfl rfl rfl (e_new (x_bsl rfl (bsl1 Tryd.underlying40 Tryd.sizeOf3 Tryd.zeroValue3 rfl rfl))) ?_
  rintro _ w1_2 ⟨rfl, b1_2, fr1_2, sz1_2⟩
  replace F := F.trans fr1_2.of0
  replace hv := hv.fr0 fr1_2
  replace HO := own_fr0 HO fr1_2
  replace hpb := hpb.fr0 fr1_2
  replace hdb := hdb.fr0 fr1_2
  replace hmb := hmb.fr0 fr1_2
  replace Q := Q.fr0 fr1_2
  have hsz := F.size
  refine se rfl rfl rfl rfl (e_app 1 8 (.int .i64 0) [.int .i64 z] rfl rfl Tryd.underlying40 (by kernel_rfl) rfl (by decide) HO rfl b1_2.news (by simp; rfl) (by omega) (by omega) hsz) ?_
  rintro v1 w1 ⟨HO1, hg, hat⟩
  have hge := own_ge HO
  have hrow : ∀ q, q < ws.heap.size → q ∉ (v.ownBlock).toList := by
    intro q hq hm
    cases hq2 : v.ownBlock with
    | none => simp [hq2] at hm
    | some r => simp [hq2] at hm; subst hm; have := hge _ hq2; omega
  replace hv := hv.fr (Fr.of_grown hg) (hrow _ (by omega))
  replace hpb := hpb.fr (Fr.of_grown hg) (hrow _ (by omega))
  replace hdb := hdb.fr (Fr.of_grown hg) (hrow _ (by omega))
  replace hmb := hmb.fr (Fr.of_grown hg) (hrow _ (by omega))
  replace Q := Q.fr (Fr.of_grown hg) (hrow _ (by omega)) (hrow _ (by omega)) (hrow _ (by omega)) (hrow _ (by omega))
  replace F := F.grown hg hge
  rw [ints2] at HO1
  replace HO : World.ownsRow w1 ws.heap.size 3 1 v1 (done ++ [z]).length (ints (done ++ [z])) := by rw [List.length_append]; exact HO1
  clear HO1
  obtain ⟨A1, c1, rfl, _⟩ := own_slice HO
  have np := hpb.ne hv (by decide)
  have nd_ := hdb.ne hv (by decide)
  have nm := hmb.ne hv (by decide)
  refine sv rfl rfl rfl (v_1 rfl rfl rfl rfl Tryd.sizeOf40 hv (by simp)) ?_
  rintro w2 ⟨hv2, fr2⟩
  replace F := F.trans (fr2.mono (by simp))
  replace HO := own_fr HO fr2 (by intro q hq; simp at hq; omega)
  replace hpb := hpb.fr fr2 (by simpa using np)
  replace hdb := hdb.fr fr2 (by simpa using nd_)
  replace hmb := hmb.fr fr2 (by simpa using nm)
  replace Q := Q.fr fr2 (by simpa using npg) (by simpa using nng) (by simpa using nhg) (by simp; omega)
  replace hv := hv2
  dsimp only [List.set_cons_zero] at hv
  refine rl_end rfl ?_
  refine al_k ?_
  refine cl_seq rfl ?_
  refine cl_seq rfl ?_
  refine cl_reg rfl ?_
  refine st rfl rfl rfl rfl (x_ld rfl Tryd.isAgg4 (hdb.cell rfl)) ?_
  refine rl_end rfl ?_
  refine al_k ?_
  refine cl_if1 rfl rfl ?_
  refine cl_reg rfl ?_
  refine st rfl rfl rfl rfl (x_ld rfl Tryd.isAgg23 (hpb.cell rfl)) ?_
  refine st rfl rfl rfl rfl (x_move rfl) ?_
  refine sc rfl rfl rfl rfl (c_fn rfl Tryd.call18 (drop_r Q z)) ?_
  rintro _ w3 ⟨rfl, Q2, fr3⟩
  replace F := F.trans (fr3.mono (by simp))
  replace HO := own_fr HO fr3 (by intro q hq; simp at hq; omega)
  replace hpb := hpb.fr fr3 (by simp; omega)
  replace hdb := hdb.fr fr3 (by simp; omega)
  replace hmb := hmb.fr fr3 (by simp; omega)
  replace hv := hv.fr fr3 (by simp; omega)
  replace Q := Q2
  clear Q2
  refine rl_end rfl ?_
  refine al_k ?_
  refine cl_seq rfl ?_
  refine cl_reg rfl ?_
  refine st rfl rfl rfl rfl (x_ld rfl Tryd.isAgg40 (hv.cell rfl)) ?_
  refine st rfl rfl rfl rfl (x_len rfl Tryd.underlying40) ?_
  refine st rfl rfl rfl rfl (x_ld rfl Tryd.isAgg3 (hmb.cell rfl)) ?_
  refine st rfl rfl rfl rfl (x_lss rfl rfl) ?_
  refine st rfl rfl rfl rfl (x_asg rfl) ?_
  refine rl_end rfl ?_
  refine al_k ?_
  refine cl_ret rfl ?_
  refine fin1 rfl rfl ?_
  refine ⟨_, congrArg _ (by simp), hv, HO, by rw [dropAll_snoc]; exact Q, hpb, hdb, hmb, F⟩

theorem stop1_false (ws w : World) (gb db pb mb p nb hb : Nat) (ls : Rows) (most z : Int) (done : List Int) (v : Value) (hv : Blk w gb 40 [v]) (HO : w.ownsRow ws.heap.size 3 1 v done.length (ints done)) (Q : LsR w p nb hb 10 2 (ls)) (hpb : Blk w pb 23 [.pointer (some ⟨p, 0, none⟩)]) (hdb : Blk w db 4 [.bool false]) (hmb : Blk w mb 3 [.int .i64 most]) (F : Fr [gb, nb, hb] ws w) (hl : done.length ≤ 100000) (zg : gb < ws.heap.size ∧ db < ws.heap.size ∧ pb < ws.heap.size ∧ mb < ws.heap.size ∧ p < ws.heap.size ∧ nb < ws.heap.size ∧ hb < ws.heap.size) (z0 : p < gb ∧ nb < gb ∧ hb < gb) (zn : nb ≠ db ∧ nb ≠ pb ∧ nb ≠ mb ∧ hb ≠ db ∧ hb ≠ pb ∧ hb ≠ mb) :
    Cl Tryd.prog 17 [.int .i64 z, .pointer (some ⟨gb, 0, none⟩), .pointer (some ⟨db, 0, none⟩), .pointer (some ⟨pb, 0, none⟩), .pointer (some ⟨mb, 0, none⟩)] w (fun r w' => ∃ v', r = .bool (decide (((done ++ [z]).length : Int) < most)) ∧ Blk w' gb 40 [v'] ∧ w'.ownsRow ws.heap.size 3 1 v' (done ++ [z]).length (ints (done ++ [z])) ∧ LsR w' p nb hb 10 2 (ls) ∧ Blk w' pb 23 [.pointer (some ⟨p, 0, none⟩)] ∧ Blk w' db 4 [.bool false] ∧ Blk w' mb 3 [.int .i64 most] ∧ Fr [gb, nb, hb] ws w') := by
  have npg : p ≠ gb := by omega
  have nng : nb ≠ gb := by omega
  have nhg : hb ≠ gb := by omega
  refine enter Tryd.func17 rfl Tryd.ntmps17 rfl ?_
  refine cl_seq rfl ?_
  refine cl_reg rfl ?_
  refine st rfl rfl rfl rfl (x_asg rfl) ?_
  refine rl_end rfl ?_
  refine al_k ?_
  refine cl_seq rfl ?_
  refine cl_reg rfl ?_
  refine st rfl rfl rfl rfl (x_ld rfl Tryd.isAgg40 (hv.cell rfl)) ?_
  refine st rfl rfl rfl rfl (x_move rfl) ?_
  refine se rfl rfl rfl rfl (e_new (x_bsl rfl (bsl1 Tryd.underlying40 Tryd.sizeOf3 Tryd.zeroValue3 rfl rfl))) ?_
  rintro _ w1_2 ⟨rfl, b1_2, fr1_2, sz1_2⟩
  replace F := F.trans fr1_2.of0
  replace hv := hv.fr0 fr1_2
  replace HO := own_fr0 HO fr1_2
  replace hpb := hpb.fr0 fr1_2
  replace hdb := hdb.fr0 fr1_2
  replace hmb := hmb.fr0 fr1_2
  replace Q := Q.fr0 fr1_2
  have hsz := F.size
  refine se rfl rfl rfl rfl (e_app 1 8 (.int .i64 0) [.int .i64 z] rfl rfl Tryd.underlying40 (by kernel_rfl) rfl (by decide) HO rfl b1_2.news (by simp; rfl) (by omega) (by omega) hsz) ?_
  rintro v1 w1 ⟨HO1, hg, hat⟩
  have hge := own_ge HO
  have hrow : ∀ q, q < ws.heap.size → q ∉ (v.ownBlock).toList := by
    intro q hq hm
    cases hq2 : v.ownBlock with
    | none => simp [hq2] at hm
    | some r => simp [hq2] at hm; subst hm; have := hge _ hq2; omega
  replace hv := hv.fr (Fr.of_grown hg) (hrow _ (by omega))
  replace hpb := hpb.fr (Fr.of_grown hg) (hrow _ (by omega))
  replace hdb := hdb.fr (Fr.of_grown hg) (hrow _ (by omega))
  replace hmb := hmb.fr (Fr.of_grown hg) (hrow _ (by omega))
  replace Q := Q.fr (Fr.of_grown hg) (hrow _ (by omega)) (hrow _ (by omega)) (hrow _ (by omega)) (hrow _ (by omega))
  replace F := F.grown hg hge
  rw [ints2] at HO1
  replace HO : World.ownsRow w1 ws.heap.size 3 1 v1 (done ++ [z]).length (ints (done ++ [z])) := by rw [List.length_append]; exact HO1
  clear HO1
  obtain ⟨A1, c1, rfl, _⟩ := own_slice HO
  have np := hpb.ne hv (by decide)
  have nd_ := hdb.ne hv (by decide)
  have nm := hmb.ne hv (by decide)
  refine sv rfl rfl rfl (v_1 rfl rfl rfl rfl Tryd.sizeOf40 hv (by simp)) ?_
  rintro w2 ⟨hv2, fr2⟩
  replace F := F.trans (fr2.mono (by simp))
  replace HO := own_fr HO fr2 (by intro q hq; simp at hq; omega)
  replace hpb := hpb.fr fr2 (by simpa using np)
  replace hdb := hdb.fr fr2 (by simpa using nd_)
  replace hmb := hmb.fr fr2 (by simpa using nm)
  replace Q := Q.fr fr2 (by simpa using npg) (by simpa using nng) (by simpa using nhg) (by simp; omega)
  replace hv := hv2
  dsimp only [List.set_cons_zero] at hv
  refine rl_end rfl ?_
  refine al_k ?_
  refine cl_seq rfl ?_
  refine cl_seq rfl ?_
  refine cl_reg rfl ?_
  refine st rfl rfl rfl rfl (x_ld rfl Tryd.isAgg4 (hdb.cell rfl)) ?_
  refine rl_end rfl ?_
  refine al_k ?_
  refine cl_if0 rfl rfl ?_
  refine cl_skip rfl ?_
  refine al_k ?_
  refine cl_seq rfl ?_
  refine cl_reg rfl ?_
  refine st rfl rfl rfl rfl (x_ld rfl Tryd.isAgg40 (hv.cell rfl)) ?_
  refine st rfl rfl rfl rfl (x_len rfl Tryd.underlying40) ?_
  refine st rfl rfl rfl rfl (x_ld rfl Tryd.isAgg3 (hmb.cell rfl)) ?_
  refine st rfl rfl rfl rfl (x_lss rfl rfl) ?_
  refine st rfl rfl rfl rfl (x_asg rfl) ?_
  refine rl_end rfl ?_
  refine al_k ?_
  refine cl_ret rfl ?_
  refine fin1 rfl rfl ?_
  refine ⟨_, congrArg _ (by simp), hv, HO, Q, hpb, hdb, hmb, F⟩

theorem stops_true (w : World) (hG : Glb w) (A2 : Option Addr) (ln2 cp2 : Nat) (hln : ln2 ≤ 9223372036854775807) (hp : ∀ j : Nat, j < ln2 → ∃ (x : Addr) (z0 : Int) (z1 : Int) (z2 : Int), A2 = some x ∧ (∀ i v, [(.int .i64 z0 : Value), .int .i64 z1, .int .i64 z2][i]? = some v → w.cell? ((x.add (((j : Nat) : Int).toNat * 3)).add i) = some v) ∧ (Lit.int .i64 z0).wf = true ∧ (Lit.int .i64 z1).wf = true ∧ (Lit.int .i64 z2).wf = true) (most : Int) : Cl Tryd.prog 4 [.slice A2 ln2 cp2, .int .i64 most, .bool true] w (fun v w' => v = .bool true ∧ Fr [] w w') := by
  have F := Fr.refl [] w
  have hz0 : 0 < w.heap.size := Nat.lt_of_le_of_lt (Nat.zero_le _) (World.block_lt_of_cell? w _ (hG 0 _ rfl))
  refine enter Tryd.func4 rfl Tryd.ntmps4 rfl ?_
  refine cl_seq rfl ?_
  refine cl_reg rfl ?_
  refine se rfl rfl rfl rfl (e_new (x_box rfl rfl)) ?_
  rintro _ w0 ⟨rfl, hmb, fr, _⟩
  replace F := F.trans fr
  have zmb := hmb.lt
  generalize hqm : w.heap.size = mb at hmb zmb ⊢
  refine se rfl rfl rfl rfl (e_new (x_box rfl rfl)) ?_
  rintro _ w0b ⟨rfl, hdb, fr, _⟩
  replace F := F.trans fr
  replace hmb := hmb.fr0 fr
  have zdb := hdb.lt
  generalize hqd : w0.heap.size = db at hdb zdb ⊢
  refine st rfl rfl rfl rfl (x_asg rfl) ?_
  refine rl_end rfl ?_
  refine al_k ?_
  refine cl_seq rfl ?_
  refine cl_reg rfl ?_
  refine sc rfl rfl rfl rfl (c_fn rfl Tryd.call8 (new_r 10 2 (hG.fr F (by simp)) (by omega) (by omega))) ?_
  rintro _ w1 ⟨p, nb, hb, rfl, Q, g1, g2, g3, fr⟩
  have z1 : p < w1.heap.size ∧ nb < w1.heap.size ∧ hb < w1.heap.size := by obtain ⟨⟨x, L, _⟩, _⟩ := Q; exact ⟨L.top.lt, L.nod.lt, L.hed.lt⟩
  replace F := F.trans fr
  replace hmb := hmb.fr0 fr
  replace hdb := hdb.fr0 fr
  refine st rfl rfl rfl rfl (x_move rfl) ?_
  refine st rfl rfl rfl rfl (x_ext rfl rfl) ?_
  refine st rfl rfl rfl rfl (x_ext rfl rfl) ?_
  refine se rfl rfl rfl rfl (e_new (x_alloc Tryd.zeroValue23 rfl)) ?_
  rintro _ w1b ⟨rfl, hpb, fr, _⟩
  replace F := F.trans fr
  replace hmb := hmb.fr0 fr
  replace hdb := hdb.fr0 fr
  replace Q := Q.fr0 fr
  have zpb := hpb.lt
  generalize hqp : w1.heap.size = pb at hpb zpb ⊢
  refine sv rfl rfl rfl (v_1 rfl rfl rfl rfl Tryd.sizeOf23 hpb (by simp)) ?_
  rintro ws1 ⟨hpb2, fr2⟩
  replace hpb := hpb2
  dsimp only [List.set_cons_zero] at hpb
  have zs2 := fr2.size
  replace hmb := hmb.fr fr2 (by simp; omega)
  replace hdb := hdb.fr fr2 (by simp; omega)
  replace Q := Q.fr fr2 (by simp; omega) (by simp; omega) (by simp; omega) (by simp; omega)
  replace F := F.trans_new fr2 (by intro q hq; simp at hq; right; omega)
  refine st rfl rfl rfl rfl (x_asg rfl) ?_
  refine rl_end rfl ?_
  refine al_k ?_
  refine cl_seq rfl ?_
  refine cl_reg rfl ?_
  refine sc rfl rfl rfl rfl (c_fn rfl Tryd.call13 (rnew_c _ 10 2 (by omega) (by omega))) ?_
  rintro _ w2 ⟨rp, lb, rfl, R, fr⟩
  replace F := F.trans fr
  replace hmb := hmb.fr0 fr
  replace hdb := hdb.fr0 fr
  replace hpb := hpb.fr0 fr
  replace Q := Q.fr0 fr
  have hl0 := R.l0
  have hr0 := R.r0
  have hlB := R.lB
  have K : Bo w2 p nb hb ws1.heap.size w2.heap.size rp lb 10 2 (List.replicate 2 []) := ⟨Q, R, by omega, by omega, by omega⟩
  generalize hls : (List.replicate 2 [] : Rows) = ls0 at K
  have hS : ∀ q ∈ [nb, hb, lb], q ∈ ([] : List Nat) ∨ w.heap.size ≤ q := by intro q hq; simp at hq; right; omega
  have hne : (nb ≠ db ∧ nb ≠ pb ∧ nb ≠ mb ∧ hb ≠ db ∧ hb ≠ pb ∧ hb ≠ mb) ∧ (lb ≠ db ∧ lb ≠ pb ∧ lb ≠ mb) := by omega
  refine st rfl rfl rfl rfl (x_move rfl) ?_
  refine st rfl rfl rfl rfl (x_ext rfl rfl) ?_
  refine st rfl rfl rfl rfl (x_ext rfl rfl) ?_
  refine st rfl rfl rfl rfl (x_asg rfl) ?_
  refine st rfl rfl rfl rfl (x_asg rfl) ?_
  refine rl_end rfl ?_
  refine al_k ?_
  refine cl_seq rfl ?_
  refine cl_seq rfl ?_
  refine cl_reg rfl ?_
  refine st rfl rfl rfl rfl (x_move rfl) ?_
  refine st rfl rfl rfl rfl ((x_neq rfl rfl).b0 (by omega)) ?_
  refine st rfl rfl rfl rfl (x_move rfl) ?_
  refine st rfl rfl rfl rfl (x_ld rfl Tryd.isAgg23 (hpb.cell rfl)) ?_
  refine st rfl rfl rfl rfl (x_eqlp rfl rfl Tryd.underlying23) ?_
  refine st rfl rfl rfl rfl (x_pick0 rfl rfl) ?_
  refine rl_end rfl ?_
  refine al_k ?_
  refine cl_if0 rfl rfl ?_
  refine cl_skip rfl ?_
  refine al_k ?_
  refine cl_seq rfl ?_
  refine cl_seq rfl ?_
  refine cl_reg rfl ?_
  refine st rfl rfl rfl rfl (x_asg rfl) ?_
  refine rl_end rfl ?_
  refine al_k ?_
  refine cl_block rfl ?_
  refine cl_loop (fun s : Nat × Rows => [(11, .int .i64 s.1), (7, .pointer (some ⟨pb, 0, none⟩)), (5, .pointer (some ⟨db, 0, none⟩)), (4, .pointer (some ⟨mb, 0, none⟩)), (9, .pointer (some ⟨rp, 0, none⟩)), (0, .slice A2 ln2 cp2)]) (fun s w' => (s.1 ≤ ln2 ∧ s.1 ≤ 60) ∧ Bo w' p nb hb ws1.heap.size w2.heap.size rp lb 10 2 s.2 ∧ Blk w' mb 3 [.int .i64 most] ∧ Blk w' db 4 [.bool true] ∧ Blk w' pb 23 [.pointer (some ⟨p, 0, none⟩)] ∧ Fr [] w w') (fun s => ln2 + 60 - s.1) (0, ls0) rfl ⟨rfl, rfl, rfl, rfl, rfl, rfl, trivial⟩ ?_ ?_
  · exact ⟨⟨Nat.zero_le _, Nat.zero_le _⟩, K, hmb, hdb, hpb, F⟩
  · skip
    rintro ⟨i, ls⟩ wr ⟨⟨hi, hi6⟩, K, hmb, hdb, hpb, F⟩
    dsimp only at hi hi6 K ⊢
    refine cl_seq rfl ?_
    refine cl_seq rfl ?_
    refine cl_reg rfl ?_
    refine st rfl rfl rfl rfl (x_move rfl) ?_
    refine st rfl rfl rfl rfl (x_move rfl) ?_
    refine st rfl rfl rfl rfl (x_len rfl Tryd.underlying33) ?_
    refine sf rfl rfl rfl rfl (x_lss rfl rfl) (fun c6_3 => ?_) (fun c6_3 => ?_)
    · skip
      refine st rfl rfl rfl rfl (x_move rfl) ?_
      refine st rfl rfl rfl rfl (x_move rfl) ?_
      refine sf rfl rfl rfl rfl (x_lss rfl rfl) (fun c6_6 => ?_) (fun c6_6 => ?_)
      · skip
        refine st rfl rfl rfl rfl (x_pick1 rfl rfl) ?_
        refine rl_end rfl ?_
        refine al_k ?_
        refine cl_if1 rfl rfl ?_
        refine cl_skip rfl ?_
        refine al_k ?_
        refine cl_seq rfl ?_
        refine cl_block rfl ?_
        refine cl_seq rfl ?_
        obtain ⟨x2, kd, li, nd, rfl, hc, _, _, _⟩ := hp i (by omega)
        replace hc : ∀ q v, [(.int .i64 kd : Value), .int .i64 li, .int .i64 nd][q]? = some v → World.cell? wr ((x2.add (((i : Nat) : Int).toNat * 3)).add q) = some v := fun q v h => F.cell (hc q v h) (by simp)
        refine cl_draw (by kernel_rfl) rfl [6] (fun w' => w'.heap = wr.heap) ?_
        rintro wd8 frd8 hpd8
        refine ⟨hpd8, ?_⟩
        refine dl (i := 0) rfl rfl rfl rfl (by kernel_rfl) (by kernel_rfl) (fun w' hU => x_ld rfl Tryd.isAgg23 (heq hU (hpb.cell rfl))) ?_
        refine dt (i := 1) rfl rfl rfl rfl (by kernel_rfl) (fun _ => x_move rfl) ?_
        refine dt (i := 2) rfl rfl rfl rfl (by kernel_rfl) (fun _ => x_move rfl) ?_
        refine dt (i := 3) rfl rfl rfl rfl (by kernel_rfl) (fun _ => x_move rfl) ?_
        refine dt (i := 4) rfl rfl rfl rfl (by kernel_rfl) (fun _ => x_iag rfl rfl Tryd.underlying33 Tryd.sizeOf39 (by omega)) ?_
        refine dl (i := 5) rfl rfl rfl rfl (by kernel_rfl) (by kernel_rfl) (fun w' hU => x_ldg (cs := [.int .i64 kd, .int .i64 li, .int .i64 nd]) rfl Tryd.isAgg39 Tryd.sizeOf39 rfl (fun j v h => heq hU (hc j v h))) ?_
        replace F := F.trans frd8
        replace hmb := hmb.fr0 frd8
        replace hdb := hdb.fr0 frd8
        replace hpb := hpb.fr0 frd8
        replace K := K.fr0 frd8
        refine d1 (i := 6) (by kernel_rfl) ?_
        refine oc rfl rfl rfl rfl (c_fn rfl Tryd.call14 (do_c _ p nb hb _ _ rp lb 10 2 ls K kd li nd)) ?_
        rintro _ w4 ⟨rfl, K, fr⟩
        replace F := F.trans_new fr hS
        replace hmb := hmb.fr fr (by simp; omega)
        replace hdb := hdb.fr fr (by simp; omega)
        replace hpb := hpb.fr fr (by simp; omega)
        refine ⟨.inl (by kernel_rfl), ?_⟩
        refine dt (i := 7) rfl rfl rfl rfl (by kernel_rfl) (fun _ => x_not1 rfl) ?_
        refine dn (by kernel_rfl) ?_
        refine al_k ?_
        refine cl_if0 rfl rfl ?_
        refine cl_skip rfl ?_
        refine al_k ?_
        refine cl_reg rfl ?_
        refine st rfl rfl rfl rfl (x_move rfl) ?_
        refine st rfl rfl rfl rfl (x_add rfl rfl (by omega)) ?_
        refine st rfl rfl rfl rfl (x_asg rfl) ?_
        refine rl_end rfl ?_
        refine again (i + 1, _) (show ln2 + 60 - (i + 1) < ln2 + 60 - i by omega) ⟨rfl, rfl, rfl, rfl, rfl, rfl, trivial⟩ ⟨⟨by dsimp only; omega, by dsimp only; omega⟩, K, hmb, hdb, hpb, F⟩
      · skip
        refine st rfl rfl rfl rfl (x_pick1 rfl rfl) ?_
        refine rl_end rfl ?_
        refine al_k ?_
        refine cl_if0 rfl rfl ?_
        refine cl_exit rfl ?_
        refine upd_self ?_
        refine al_k ?_
        refine cl_seq rfl ?_
        have hlen := K.len
        obtain ⟨xs, hxs⟩ : ∃ l, ls[0]? = some l := ⟨_, List.getElem?_eq_getElem (by omega)⟩
        have hall : aAll ls 0 = xs := by unfold aAll; rw [if_pos (show okL ls 0 from ⟨by omega, by omega⟩)]; exact rowAt_nat (i := 0) hxs
        have hxl : xs.length ≤ 10 := by rw [← hall]; exact K.hA _
        have hnd2 := K.hN _ _ hxs
        have hrg : ∀ q ∈ xs, 0 ≤ q ∧ q < ((10 : Nat) : Int) := fun q hq => (K.of hxs hq).2
        refine cl_reg rfl ?_
        refine st rfl rfl rfl rfl (x_move rfl) ?_
        refine sc rfl rfl rfl rfl (c_fn rfl Tryd.call15 (rall_c _ _ _ rp lb 10 ls K.R 0)) ?_
        rintro v1 wk ⟨hv, hwk⟩
        obtain rfl := hwk.symm
        rw [hall] at hv
        obtain ⟨A0, c0, rfl, ⟨hA, hcap⟩, hrow⟩ := hv
        have hw := RowW.of hrow
        have zZ : wr.heap.size ≤ wr.heap.size := Nat.le_refl _
        have sB := K.R.sB
        generalize hZ : wr.heap.size = Z at hw sB zZ
        replace zZ : Z ≤ wr.heap.size := by omega
        refine st rfl rfl rfl rfl (x_asg rfl) ?_
        refine rl_end rfl ?_
        refine al_k ?_
        refine cl_seq rfl ?_
        refine cl_seq rfl ?_
        refine cl_reg rfl ?_
        refine st rfl rfl rfl rfl (x_ld rfl Tryd.isAgg3 (hmb.cell rfl)) ?_
        refine sf rfl rfl rfl rfl (x_lss rfl rfl) (fun c11_1 => ?_) (fun c11_1 => ?_)
        · skip
          refine st rfl rfl rfl rfl (x_move rfl) ?_
          refine so rfl rfl rfl rfl ?_
          refine so rfl rfl rfl rfl ?_
          refine st rfl rfl rfl rfl (x_pick1 rfl rfl) ?_
          refine rl_end rfl ?_
          refine al_k ?_
          refine cl_if1 rfl rfl ?_
          refine cl_reg rfl ?_
          refine sv rfl rfl rfl (v_1 rfl rfl rfl rfl Tryd.sizeOf3 hmb (by simp)) ?_
          rintro ws12 ⟨hmb2, fr2⟩
          replace hmb := hmb2
          dsimp only [List.set_cons_zero] at hmb
          replace hdb := hdb.fr fr2 (by simp; omega)
          replace hpb := hpb.fr fr2 (by simp; omega)
          replace hw := hw.fr fr2 (by intro q hq; simp at hq; omega)
          replace zZ := Nat.le_trans zZ fr2.size
          replace K := K.ofR (K.Q.fr fr2 (by simp; omega) (by simp; omega) (by simp; omega) (by simp; omega)) (K.R.fr fr2 (by intro q hq; simp at hq; omega))
          replace F := F.trans_new fr2 (by intro q hq; simp at hq; right; omega)
          refine rl_end rfl ?_
          refine al_k ?_
          refine cl_seq rfl ?_
          obtain ⟨mo, hmb, hmo⟩ : ∃ mo : Int, Blk ws12 mb 3 [.int .i64 mo] ∧ 1 ≤ mo ∧ mo ≤ 10 := ⟨_, hmb, by omega⟩
          refine cl_reg rfl ?_
          refine st rfl rfl rfl rfl (x_ld rfl Tryd.isAgg23 (hpb.cell rfl)) ?_
          refine sc rfl rfl rfl rfl (c_fn rfl Tryd.call16 (All_c _ (some ⟨p, 0, none⟩) 0)) ?_
          rintro _ w13 ⟨c1_, c2, c3, rfl, hc1, hc2, hc3, _, _, _, fr⟩
          replace F := F.trans fr
          replace hmb := hmb.fr0 fr
          replace hdb := hdb.fr0 fr
          replace hpb := hpb.fr0 fr
          replace K := K.fr0 fr
          replace hw := hw.fr0 fr
          replace zZ := Nat.le_trans zZ fr.size
          refine st rfl rfl rfl rfl (x_asg rfl) ?_
          refine rl_end rfl ?_
          refine al_k ?_
          refine cl_seq rfl ?_
          refine cl_seq rfl ?_
          refine cl_reg rfl ?_
          refine st rfl rfl rfl rfl (x_move rfl) ?_
          refine st rfl rfl rfl rfl (x_eqlf rfl rfl Tryd.underlying42) ?_
          refine rl_end rfl ?_
          refine al_k ?_
          refine cl_if0 rfl rfl ?_
          refine cl_skip rfl ?_
          refine al_k ?_
          refine cl_seq rfl ?_
          have zK := K.lts
          have l1 := hmb.lt
          have l2 := hdb.lt
          have l3 := hpb.lt
          refine cl_reg rfl ?_
          refine se rfl rfl rfl rfl (e_new (x_alloc Tryd.zeroValue40 rfl)) ?_
          rintro _ w16 ⟨rfl, hgb, fr, _⟩
          have gF := F.size
          replace F := F.trans fr
          replace hmb := hmb.fr0 fr
          replace hdb := hdb.fr0 fr
          replace hpb := hpb.fr0 fr
          replace K := K.fr0 fr
          replace hw := hw.fr0 fr
          replace hc1 := hc1.fr0 fr
          replace hc2 := hc2.fr0 fr
          replace hc3 := hc3.fr0 fr
          have zgb := hgb.lt
          generalize hqg : w13.heap.size = gb at hgb zgb ⊢
          have ztop : gb < w16.heap.size ∧ db < w16.heap.size ∧ pb < w16.heap.size ∧ mb < w16.heap.size ∧ p < w16.heap.size ∧ nb < w16.heap.size ∧ hb < w16.heap.size := by omega
          refine rl_end rfl ?_
          refine al_k ?_
          refine cl_seq rfl ?_
          refine cl_reg rfl ?_
          refine st rfl rfl rfl rfl (x_move rfl) ?_
          refine st rfl rfl rfl rfl (x_mkf rfl rfl) ?_
          refine sc rfl rfl rfl rfl (c_fv rfl rfl Tryd.call49 (told1_c _ (some ⟨p, 0, none⟩) 0 false c1_ c2 c3 hc1 hc2 hc3 xs (by omega) (fun w1 fr => by
                have := row_r (K.Q.fr0 fr) 0
                rw [hall] at this
                exact this.mono (fun v w2 h => ⟨h.1, h.2.2⟩)) 17 [] [.pointer (some ⟨gb, 0, none⟩), .pointer (some ⟨db, 0, none⟩), .pointer (some ⟨pb, 0, none⟩), .pointer (some ⟨mb, 0, none⟩)] Tryd.call17 (fun d => decide ((d.length : Int) < mo)) (fun ws done w1 => ∃ v, Blk w1 gb 40 [v] ∧ w1.ownsRow ws.heap.size 3 1 v done.length (ints done) ∧ LsR w1 p nb hb 10 2 (dropAll 10 ls done) ∧ Blk w1 pb 23 [.pointer (some ⟨p, 0, none⟩)] ∧ Blk w1 db 4 [.bool true] ∧ Blk w1 mb 3 [.int .i64 mo] ∧ Fr [gb, nb, hb] ws w1) [gb, nb, hb] (by intro q hq; simp at hq; omega) (fun ws fr => ⟨_, hgb.fr0 fr, own_nil _ _ _, K.Q.fr0 fr, hpb.fr0 fr, hdb.fr0 fr, hmb.fr0 fr, Fr.refl _ _⟩) (fun ws done w1 h => by
                obtain ⟨_, _, _, _, _, _, _, F⟩ := h
                exact F) (fun ws k z w1 fr hz h => by
                obtain ⟨v, hv, HO, Q, hpb, hdb, hmb, F1⟩ := h
                have hkl := (List.getElem?_eq_some_iff.1 hz).1
                have e : (xs.take k).length = k := by rw [List.length_take]; omega
                have e2 : xs.take (k + 1) = xs.take k ++ [z] := by rw [List.take_add_one, hz]; rfl
                have hs := fr.size
                refine (stop1_true ws w1 gb db pb mb p nb hb ls mo z (xs.take k) v hv HO Q hpb hdb hmb F1 (by omega) (by omega) (by omega) hne.1).mono ?_
                rintro r w' ⟨v', rfl, hv', HO', Q', hpb', hdb', hmb', F'⟩
                rw [e2]
                exact ⟨rfl, v', hv', HO', Q', hpb', hdb', hmb', F'⟩))) ?_
          rintro _ w17 ⟨rfl, ws, kk, F1, hst, v9, hgb, HO9, Q9, hpb, hdb, hmb, F9⟩
          -- told
          have s1 := F1.size
          have hk := stop_at hmo.1 hst
          replace hw := (hw.fr0 F1).fr F9 (by intro q hq; simp at hq; omega)
          replace F := (F.trans F1).trans_new F9 (by intro q hq; simp at hq; right; omega)
          obtain ⟨A9, c9, rfl, _⟩ := own_slice HO9
          clear K hc1 hc2 hc3
          have hlen2 : aLen (dropAll 10 ls (xs.take kk)) 0 = (xs.length : Int) - kk := by
            rw [aLen_of (dropAll_front (xs.take kk) ls (xs.drop kk) (by rw [List.take_append_drop]; exact hxs) (by rw [List.take_append_drop]; exact hnd2) (fun q hq => hrg q (List.mem_of_mem_take hq)))]
            have := hst.1
            rw [List.length_drop]
            omega
          refine rl_end rfl ?_
          refine al_k ?_
          refine cl_seq rfl ?_
          refine cl_reg rfl ?_
          refine st rfl rfl rfl rfl (x_move rfl) ?_
          refine st rfl rfl rfl rfl (x_len rfl Tryd.underlying40) ?_
          refine st rfl rfl rfl rfl (x_ld rfl Tryd.isAgg3 (hmb.cell rfl)) ?_
          refine st rfl rfl rfl rfl (x_min rfl rfl) ?_
          rw [← hk]
          have hkl := hst.1
          refine st rfl rfl rfl rfl (x_asg rfl) ?_
          refine rl_end rfl ?_
          refine al_k ?_
          refine cl_seq rfl ?_
          refine cl_seq rfl ?_
          refine cl_draw (by kernel_rfl) rfl [4] (fun w' => w'.heap = w17.heap) ?_
          rintro wd19 frd19 hpd19
          refine ⟨hpd19, ?_⟩
          refine dl (i := 0) rfl rfl rfl rfl (by kernel_rfl) (by kernel_rfl) (fun w' hU => x_ld rfl Tryd.isAgg40 (heq hU (hgb.cell rfl))) ?_
          refine dt (i := 1) rfl rfl rfl rfl (by kernel_rfl) (fun _ => x_move rfl) ?_
          refine dt (i := 2) rfl rfl rfl rfl (by kernel_rfl) (fun _ => x_move rfl) ?_
          refine dt (i := 3) rfl rfl rfl rfl (by kernel_rfl) (fun _ => x_slh rfl rfl Tryd.underlying40 Tryd.sizeOf3 (by have := hst.1; omega)) ?_
          replace F := F.trans frd19
          replace hmb := hmb.fr0 frd19
          replace hdb := hdb.fr0 frd19
          replace hpb := hpb.fr0 frd19
          replace hw := hw.fr0 frd19
          replace hgb := hgb.fr0 frd19
          replace Q9 := Q9.fr0 frd19
          replace HO9 := own_fr0 HO9 frd19
          refine d1 (i := 4) (by kernel_rfl) ?_
          refine oc rfl rfl rfl rfl (c_fn rfl Tryd.call19 ((same_c _ _ _ _ _ (SlI.own HO9 (by rw [List.length_take]; omega)) (hw.slI c0 kk hst.1 (by omega))).mono (R' := fun v w' => v = .bool true ∧ Fr [] _ w') (fun v w' h => ⟨h.1.trans (congrArg _ (decide_eq_true rfl)), h.2⟩))) ?_
          rintro _ w19 ⟨rfl, fr⟩
          replace F := F.trans fr
          replace hmb := hmb.fr0 fr
          replace hdb := hdb.fr0 fr
          replace hpb := hpb.fr0 fr
          replace Q9 := Q9.fr0 fr
          refine ⟨.inl (by kernel_rfl), ?_⟩
          refine dt (i := 5) rfl rfl rfl rfl (by kernel_rfl) (fun _ => x_not1 rfl) ?_
          refine dn (by kernel_rfl) ?_
          refine al_k ?_
          refine cl_if0 rfl rfl ?_
          refine cl_skip rfl ?_
          refine al_k ?_
          refine cl_seq rfl ?_
          refine cl_seq rfl ?_
          refine cl_reg rfl ?_
          refine st rfl rfl rfl rfl (x_ld rfl Tryd.isAgg4 (hdb.cell rfl)) ?_
          refine rl_end rfl ?_
          refine al_k ?_
          refine cl_if1 rfl rfl ?_
          refine cl_seq rfl ?_
          refine cl_reg rfl ?_
          refine st rfl rfl rfl rfl (x_ld rfl Tryd.isAgg23 (hpb.cell rfl)) ?_
          refine sc rfl rfl rfl rfl (c_fn rfl Tryd.call11 (len_r Q9 0)) ?_
          rintro _ w22 ⟨rfl, _, fr⟩
          replace F := F.trans fr
          refine st rfl rfl rfl rfl (x_move rfl) ?_
          refine st rfl rfl rfl rfl (x_len rfl Tryd.underlying40) ?_
          refine st rfl rfl rfl rfl (x_move rfl) ?_
          refine st rfl rfl rfl rfl (x_sub rfl rfl (by omega)) ?_
          refine st rfl rfl rfl rfl ((x_eql rfl rfl).b1 hlen2) ?_
          refine st rfl rfl rfl rfl (x_move rfl) ?_
          refine sc rfl rfl rfl rfl (c_fn rfl Tryd.call12 (alive_c _ (hG.fr F (by simp)))) ?_
          rintro _ w29 ⟨rfl, fr⟩
          replace F := F.trans fr
          refine st rfl rfl rfl rfl (x_pick1 rfl rfl) ?_
          refine st rfl rfl rfl rfl (x_asg rfl) ?_
          refine rl_end rfl ?_
          refine al_k ?_
          refine cl_ret rfl ?_
          refine fin1 rfl rfl ?_
          exact ⟨rfl, F⟩
        · skip
          refine st rfl rfl rfl rfl (x_move rfl) ?_
          refine st rfl rfl rfl rfl (x_ld rfl Tryd.isAgg3 (hmb.cell rfl)) ?_
          refine sf rfl rfl rfl rfl (x_gtr rfl rfl) (fun c11_4 => ?_) (fun c11_4 => ?_)
          · skip
            refine st rfl rfl rfl rfl (x_pick0 rfl rfl) ?_
            refine rl_end rfl ?_
            refine al_k ?_
            refine cl_if1 rfl rfl ?_
            refine cl_reg rfl ?_
            refine sv rfl rfl rfl (v_1 rfl rfl rfl rfl Tryd.sizeOf3 hmb (by simp)) ?_
            rintro ws12 ⟨hmb2, fr2⟩
            replace hmb := hmb2
            dsimp only [List.set_cons_zero] at hmb
            replace hdb := hdb.fr fr2 (by simp; omega)
            replace hpb := hpb.fr fr2 (by simp; omega)
            replace hw := hw.fr fr2 (by intro q hq; simp at hq; omega)
            replace zZ := Nat.le_trans zZ fr2.size
            replace K := K.ofR (K.Q.fr fr2 (by simp; omega) (by simp; omega) (by simp; omega) (by simp; omega)) (K.R.fr fr2 (by intro q hq; simp at hq; omega))
            replace F := F.trans_new fr2 (by intro q hq; simp at hq; right; omega)
            refine rl_end rfl ?_
            refine al_k ?_
            refine cl_seq rfl ?_
            obtain ⟨mo, hmb, hmo⟩ : ∃ mo : Int, Blk ws12 mb 3 [.int .i64 mo] ∧ 1 ≤ mo ∧ mo ≤ 10 := ⟨_, hmb, by omega⟩
            refine cl_reg rfl ?_
            refine st rfl rfl rfl rfl (x_ld rfl Tryd.isAgg23 (hpb.cell rfl)) ?_
            refine sc rfl rfl rfl rfl (c_fn rfl Tryd.call16 (All_c _ (some ⟨p, 0, none⟩) 0)) ?_
            rintro _ w13 ⟨c1_, c2, c3, rfl, hc1, hc2, hc3, _, _, _, fr⟩
            replace F := F.trans fr
            replace hmb := hmb.fr0 fr
            replace hdb := hdb.fr0 fr
            replace hpb := hpb.fr0 fr
            replace K := K.fr0 fr
            replace hw := hw.fr0 fr
            replace zZ := Nat.le_trans zZ fr.size
            refine st rfl rfl rfl rfl (x_asg rfl) ?_
            refine rl_end rfl ?_
            refine al_k ?_
            refine cl_seq rfl ?_
            refine cl_seq rfl ?_
            refine cl_reg rfl ?_
            refine st rfl rfl rfl rfl (x_move rfl) ?_
            refine st rfl rfl rfl rfl (x_eqlf rfl rfl Tryd.underlying42) ?_
            refine rl_end rfl ?_
            refine al_k ?_
            refine cl_if0 rfl rfl ?_
            refine cl_skip rfl ?_
            refine al_k ?_
            refine cl_seq rfl ?_
            have zK := K.lts
            have l1 := hmb.lt
            have l2 := hdb.lt
            have l3 := hpb.lt
            refine cl_reg rfl ?_
            refine se rfl rfl rfl rfl (e_new (x_alloc Tryd.zeroValue40 rfl)) ?_
            rintro _ w16 ⟨rfl, hgb, fr, _⟩
            have gF := F.size
            replace F := F.trans fr
            replace hmb := hmb.fr0 fr
            replace hdb := hdb.fr0 fr
            replace hpb := hpb.fr0 fr
            replace K := K.fr0 fr
            replace hw := hw.fr0 fr
            replace hc1 := hc1.fr0 fr
            replace hc2 := hc2.fr0 fr
            replace hc3 := hc3.fr0 fr
            have zgb := hgb.lt
            generalize hqg : w13.heap.size = gb at hgb zgb ⊢
            have ztop : gb < w16.heap.size ∧ db < w16.heap.size ∧ pb < w16.heap.size ∧ mb < w16.heap.size ∧ p < w16.heap.size ∧ nb < w16.heap.size ∧ hb < w16.heap.size := by omega
            refine rl_end rfl ?_
            refine al_k ?_
            refine cl_seq rfl ?_
            refine cl_reg rfl ?_
            refine st rfl rfl rfl rfl (x_move rfl) ?_
            refine st rfl rfl rfl rfl (x_mkf rfl rfl) ?_
            refine sc rfl rfl rfl rfl (c_fv rfl rfl Tryd.call49 (told1_c _ (some ⟨p, 0, none⟩) 0 false c1_ c2 c3 hc1 hc2 hc3 xs (by omega) (fun w1 fr => by
                  have := row_r (K.Q.fr0 fr) 0
                  rw [hall] at this
                  exact this.mono (fun v w2 h => ⟨h.1, h.2.2⟩)) 17 [] [.pointer (some ⟨gb, 0, none⟩), .pointer (some ⟨db, 0, none⟩), .pointer (some ⟨pb, 0, none⟩), .pointer (some ⟨mb, 0, none⟩)] Tryd.call17 (fun d => decide ((d.length : Int) < mo)) (fun ws done w1 => ∃ v, Blk w1 gb 40 [v] ∧ w1.ownsRow ws.heap.size 3 1 v done.length (ints done) ∧ LsR w1 p nb hb 10 2 (dropAll 10 ls done) ∧ Blk w1 pb 23 [.pointer (some ⟨p, 0, none⟩)] ∧ Blk w1 db 4 [.bool true] ∧ Blk w1 mb 3 [.int .i64 mo] ∧ Fr [gb, nb, hb] ws w1) [gb, nb, hb] (by intro q hq; simp at hq; omega) (fun ws fr => ⟨_, hgb.fr0 fr, own_nil _ _ _, K.Q.fr0 fr, hpb.fr0 fr, hdb.fr0 fr, hmb.fr0 fr, Fr.refl _ _⟩) (fun ws done w1 h => by
                  obtain ⟨_, _, _, _, _, _, _, F⟩ := h
                  exact F) (fun ws k z w1 fr hz h => by
                  obtain ⟨v, hv, HO, Q, hpb, hdb, hmb, F1⟩ := h
                  have hkl := (List.getElem?_eq_some_iff.1 hz).1
                  have e : (xs.take k).length = k := by rw [List.length_take]; omega
                  have e2 : xs.take (k + 1) = xs.take k ++ [z] := by rw [List.take_add_one, hz]; rfl
                  have hs := fr.size
                  refine (stop1_true ws w1 gb db pb mb p nb hb ls mo z (xs.take k) v hv HO Q hpb hdb hmb F1 (by omega) (by omega) (by omega) hne.1).mono ?_
                  rintro r w' ⟨v', rfl, hv', HO', Q', hpb', hdb', hmb', F'⟩
                  rw [e2]
                  exact ⟨rfl, v', hv', HO', Q', hpb', hdb', hmb', F'⟩))) ?_
            rintro _ w17 ⟨rfl, ws, kk, F1, hst, v9, hgb, HO9, Q9, hpb, hdb, hmb, F9⟩
            -- told
            have s1 := F1.size
            have hk := stop_at hmo.1 hst
            replace hw := (hw.fr0 F1).fr F9 (by intro q hq; simp at hq; omega)
            replace F := (F.trans F1).trans_new F9 (by intro q hq; simp at hq; right; omega)
            obtain ⟨A9, c9, rfl, _⟩ := own_slice HO9
            clear K hc1 hc2 hc3
            have hlen2 : aLen (dropAll 10 ls (xs.take kk)) 0 = (xs.length : Int) - kk := by
              rw [aLen_of (dropAll_front (xs.take kk) ls (xs.drop kk) (by rw [List.take_append_drop]; exact hxs) (by rw [List.take_append_drop]; exact hnd2) (fun q hq => hrg q (List.mem_of_mem_take hq)))]
              have := hst.1
              rw [List.length_drop]
              omega
            refine rl_end rfl ?_
            refine al_k ?_
            refine cl_seq rfl ?_
            refine cl_reg rfl ?_
            refine st rfl rfl rfl rfl (x_move rfl) ?_
            refine st rfl rfl rfl rfl (x_len rfl Tryd.underlying40) ?_
            refine st rfl rfl rfl rfl (x_ld rfl Tryd.isAgg3 (hmb.cell rfl)) ?_
            refine st rfl rfl rfl rfl (x_min rfl rfl) ?_
            rw [← hk]
            have hkl := hst.1
            refine st rfl rfl rfl rfl (x_asg rfl) ?_
            refine rl_end rfl ?_
            refine al_k ?_
            refine cl_seq rfl ?_
            refine cl_seq rfl ?_
            refine cl_draw (by kernel_rfl) rfl [4] (fun w' => w'.heap = w17.heap) ?_
            rintro wd19 frd19 hpd19
            refine ⟨hpd19, ?_⟩
            refine dl (i := 0) rfl rfl rfl rfl (by kernel_rfl) (by kernel_rfl) (fun w' hU => x_ld rfl Tryd.isAgg40 (heq hU (hgb.cell rfl))) ?_
            refine dt (i := 1) rfl rfl rfl rfl (by kernel_rfl) (fun _ => x_move rfl) ?_
            refine dt (i := 2) rfl rfl rfl rfl (by kernel_rfl) (fun _ => x_move rfl) ?_
            refine dt (i := 3) rfl rfl rfl rfl (by kernel_rfl) (fun _ => x_slh rfl rfl Tryd.underlying40 Tryd.sizeOf3 (by have := hst.1; omega)) ?_
            replace F := F.trans frd19
            replace hmb := hmb.fr0 frd19
            replace hdb := hdb.fr0 frd19
            replace hpb := hpb.fr0 frd19
            replace hw := hw.fr0 frd19
            replace hgb := hgb.fr0 frd19
            replace Q9 := Q9.fr0 frd19
            replace HO9 := own_fr0 HO9 frd19
            refine d1 (i := 4) (by kernel_rfl) ?_
            refine oc rfl rfl rfl rfl (c_fn rfl Tryd.call19 ((same_c _ _ _ _ _ (SlI.own HO9 (by rw [List.length_take]; omega)) (hw.slI c0 kk hst.1 (by omega))).mono (R' := fun v w' => v = .bool true ∧ Fr [] _ w') (fun v w' h => ⟨h.1.trans (congrArg _ (decide_eq_true rfl)), h.2⟩))) ?_
            rintro _ w19 ⟨rfl, fr⟩
            replace F := F.trans fr
            replace hmb := hmb.fr0 fr
            replace hdb := hdb.fr0 fr
            replace hpb := hpb.fr0 fr
            replace Q9 := Q9.fr0 fr
            refine ⟨.inl (by kernel_rfl), ?_⟩
            refine dt (i := 5) rfl rfl rfl rfl (by kernel_rfl) (fun _ => x_not1 rfl) ?_
            refine dn (by kernel_rfl) ?_
            refine al_k ?_
            refine cl_if0 rfl rfl ?_
            refine cl_skip rfl ?_
            refine al_k ?_
            refine cl_seq rfl ?_
            refine cl_seq rfl ?_
            refine cl_reg rfl ?_
            refine st rfl rfl rfl rfl (x_ld rfl Tryd.isAgg4 (hdb.cell rfl)) ?_
            refine rl_end rfl ?_
            refine al_k ?_
            refine cl_if1 rfl rfl ?_
            refine cl_seq rfl ?_
            refine cl_reg rfl ?_
            refine st rfl rfl rfl rfl (x_ld rfl Tryd.isAgg23 (hpb.cell rfl)) ?_
            refine sc rfl rfl rfl rfl (c_fn rfl Tryd.call11 (len_r Q9 0)) ?_
            rintro _ w22 ⟨rfl, _, fr⟩
            replace F := F.trans fr
            refine st rfl rfl rfl rfl (x_move rfl) ?_
            refine st rfl rfl rfl rfl (x_len rfl Tryd.underlying40) ?_
            refine st rfl rfl rfl rfl (x_move rfl) ?_
            refine st rfl rfl rfl rfl (x_sub rfl rfl (by omega)) ?_
            refine st rfl rfl rfl rfl ((x_eql rfl rfl).b1 hlen2) ?_
            refine st rfl rfl rfl rfl (x_move rfl) ?_
            refine sc rfl rfl rfl rfl (c_fn rfl Tryd.call12 (alive_c _ (hG.fr F (by simp)))) ?_
            rintro _ w29 ⟨rfl, fr⟩
            replace F := F.trans fr
            refine st rfl rfl rfl rfl (x_pick1 rfl rfl) ?_
            refine st rfl rfl rfl rfl (x_asg rfl) ?_
            refine rl_end rfl ?_
            refine al_k ?_
            refine cl_ret rfl ?_
            refine fin1 rfl rfl ?_
            exact ⟨rfl, F⟩
          · skip
            refine st rfl rfl rfl rfl (x_pick0 rfl rfl) ?_
            refine rl_end rfl ?_
            refine al_k ?_
            refine cl_if0 rfl rfl ?_
            refine cl_skip rfl ?_
            refine al_k ?_
            refine cl_seq rfl ?_
            obtain ⟨mo, hmb, hmo⟩ : ∃ mo : Int, Blk wr mb 3 [.int .i64 mo] ∧ 1 ≤ mo ∧ mo ≤ 10 := ⟨_, hmb, by omega⟩
            refine cl_reg rfl ?_
            refine st rfl rfl rfl rfl (x_ld rfl Tryd.isAgg23 (hpb.cell rfl)) ?_
            refine sc rfl rfl rfl rfl (c_fn rfl Tryd.call16 (All_c _ (some ⟨p, 0, none⟩) 0)) ?_
            rintro _ w13 ⟨c1_, c2, c3, rfl, hc1, hc2, hc3, _, _, _, fr⟩
            replace F := F.trans fr
            replace hmb := hmb.fr0 fr
            replace hdb := hdb.fr0 fr
            replace hpb := hpb.fr0 fr
            replace K := K.fr0 fr
            replace hw := hw.fr0 fr
            replace zZ := Nat.le_trans zZ fr.size
            refine st rfl rfl rfl rfl (x_asg rfl) ?_
            refine rl_end rfl ?_
            refine al_k ?_
            refine cl_seq rfl ?_
            refine cl_seq rfl ?_
            refine cl_reg rfl ?_
            refine st rfl rfl rfl rfl (x_move rfl) ?_
            refine st rfl rfl rfl rfl (x_eqlf rfl rfl Tryd.underlying42) ?_
            refine rl_end rfl ?_
            refine al_k ?_
            refine cl_if0 rfl rfl ?_
            refine cl_skip rfl ?_
            refine al_k ?_
            refine cl_seq rfl ?_
            have zK := K.lts
            have l1 := hmb.lt
            have l2 := hdb.lt
            have l3 := hpb.lt
            refine cl_reg rfl ?_
            refine se rfl rfl rfl rfl (e_new (x_alloc Tryd.zeroValue40 rfl)) ?_
            rintro _ w16 ⟨rfl, hgb, fr, _⟩
            have gF := F.size
            replace F := F.trans fr
            replace hmb := hmb.fr0 fr
            replace hdb := hdb.fr0 fr
            replace hpb := hpb.fr0 fr
            replace K := K.fr0 fr
            replace hw := hw.fr0 fr
            replace hc1 := hc1.fr0 fr
            replace hc2 := hc2.fr0 fr
            replace hc3 := hc3.fr0 fr
            have zgb := hgb.lt
            generalize hqg : w13.heap.size = gb at hgb zgb ⊢
            have ztop : gb < w16.heap.size ∧ db < w16.heap.size ∧ pb < w16.heap.size ∧ mb < w16.heap.size ∧ p < w16.heap.size ∧ nb < w16.heap.size ∧ hb < w16.heap.size := by omega
            refine rl_end rfl ?_
            refine al_k ?_
            refine cl_seq rfl ?_
            refine cl_reg rfl ?_
            refine st rfl rfl rfl rfl (x_move rfl) ?_
            refine st rfl rfl rfl rfl (x_mkf rfl rfl) ?_
            refine sc rfl rfl rfl rfl (c_fv rfl rfl Tryd.call49 (told1_c _ (some ⟨p, 0, none⟩) 0 false c1_ c2 c3 hc1 hc2 hc3 xs (by omega) (fun w1 fr => by
                  have := row_r (K.Q.fr0 fr) 0
                  rw [hall] at this
                  exact this.mono (fun v w2 h => ⟨h.1, h.2.2⟩)) 17 [] [.pointer (some ⟨gb, 0, none⟩), .pointer (some ⟨db, 0, none⟩), .pointer (some ⟨pb, 0, none⟩), .pointer (some ⟨mb, 0, none⟩)] Tryd.call17 (fun d => decide ((d.length : Int) < mo)) (fun ws done w1 => ∃ v, Blk w1 gb 40 [v] ∧ w1.ownsRow ws.heap.size 3 1 v done.length (ints done) ∧ LsR w1 p nb hb 10 2 (dropAll 10 ls done) ∧ Blk w1 pb 23 [.pointer (some ⟨p, 0, none⟩)] ∧ Blk w1 db 4 [.bool true] ∧ Blk w1 mb 3 [.int .i64 mo] ∧ Fr [gb, nb, hb] ws w1) [gb, nb, hb] (by intro q hq; simp at hq; omega) (fun ws fr => ⟨_, hgb.fr0 fr, own_nil _ _ _, K.Q.fr0 fr, hpb.fr0 fr, hdb.fr0 fr, hmb.fr0 fr, Fr.refl _ _⟩) (fun ws done w1 h => by
                  obtain ⟨_, _, _, _, _, _, _, F⟩ := h
                  exact F) (fun ws k z w1 fr hz h => by
                  obtain ⟨v, hv, HO, Q, hpb, hdb, hmb, F1⟩ := h
                  have hkl := (List.getElem?_eq_some_iff.1 hz).1
                  have e : (xs.take k).length = k := by rw [List.length_take]; omega
                  have e2 : xs.take (k + 1) = xs.take k ++ [z] := by rw [List.take_add_one, hz]; rfl
                  have hs := fr.size
                  refine (stop1_true ws w1 gb db pb mb p nb hb ls mo z (xs.take k) v hv HO Q hpb hdb hmb F1 (by omega) (by omega) (by omega) hne.1).mono ?_
                  rintro r w' ⟨v', rfl, hv', HO', Q', hpb', hdb', hmb', F'⟩
                  rw [e2]
                  exact ⟨rfl, v', hv', HO', Q', hpb', hdb', hmb', F'⟩))) ?_
            rintro _ w17 ⟨rfl, ws, kk, F1, hst, v9, hgb, HO9, Q9, hpb, hdb, hmb, F9⟩
            -- told
            have s1 := F1.size
            have hk := stop_at hmo.1 hst
            replace hw := (hw.fr0 F1).fr F9 (by intro q hq; simp at hq; omega)
            replace F := (F.trans F1).trans_new F9 (by intro q hq; simp at hq; right; omega)
            obtain ⟨A9, c9, rfl, _⟩ := own_slice HO9
            clear K hc1 hc2 hc3
            have hlen2 : aLen (dropAll 10 ls (xs.take kk)) 0 = (xs.length : Int) - kk := by
              rw [aLen_of (dropAll_front (xs.take kk) ls (xs.drop kk) (by rw [List.take_append_drop]; exact hxs) (by rw [List.take_append_drop]; exact hnd2) (fun q hq => hrg q (List.mem_of_mem_take hq)))]
              have := hst.1
              rw [List.length_drop]
              omega
            refine rl_end rfl ?_
            refine al_k ?_
            refine cl_seq rfl ?_
            refine cl_reg rfl ?_
            refine st rfl rfl rfl rfl (x_move rfl) ?_
            refine st rfl rfl rfl rfl (x_len rfl Tryd.underlying40) ?_
            refine st rfl rfl rfl rfl (x_ld rfl Tryd.isAgg3 (hmb.cell rfl)) ?_
            refine st rfl rfl rfl rfl (x_min rfl rfl) ?_
            rw [← hk]
            have hkl := hst.1
            refine st rfl rfl rfl rfl (x_asg rfl) ?_
            refine rl_end rfl ?_
            refine al_k ?_
            refine cl_seq rfl ?_
            refine cl_seq rfl ?_
            refine cl_draw (by kernel_rfl) rfl [4] (fun w' => w'.heap = w17.heap) ?_
            rintro wd19 frd19 hpd19
            refine ⟨hpd19, ?_⟩
            refine dl (i := 0) rfl rfl rfl rfl (by kernel_rfl) (by kernel_rfl) (fun w' hU => x_ld rfl Tryd.isAgg40 (heq hU (hgb.cell rfl))) ?_
            refine dt (i := 1) rfl rfl rfl rfl (by kernel_rfl) (fun _ => x_move rfl) ?_
            refine dt (i := 2) rfl rfl rfl rfl (by kernel_rfl) (fun _ => x_move rfl) ?_
            refine dt (i := 3) rfl rfl rfl rfl (by kernel_rfl) (fun _ => x_slh rfl rfl Tryd.underlying40 Tryd.sizeOf3 (by have := hst.1; omega)) ?_
            replace F := F.trans frd19
            replace hmb := hmb.fr0 frd19
            replace hdb := hdb.fr0 frd19
            replace hpb := hpb.fr0 frd19
            replace hw := hw.fr0 frd19
            replace hgb := hgb.fr0 frd19
            replace Q9 := Q9.fr0 frd19
            replace HO9 := own_fr0 HO9 frd19
            refine d1 (i := 4) (by kernel_rfl) ?_
            refine oc rfl rfl rfl rfl (c_fn rfl Tryd.call19 ((same_c _ _ _ _ _ (SlI.own HO9 (by rw [List.length_take]; omega)) (hw.slI c0 kk hst.1 (by omega))).mono (R' := fun v w' => v = .bool true ∧ Fr [] _ w') (fun v w' h => ⟨h.1.trans (congrArg _ (decide_eq_true rfl)), h.2⟩))) ?_
            rintro _ w19 ⟨rfl, fr⟩
            replace F := F.trans fr
            replace hmb := hmb.fr0 fr
            replace hdb := hdb.fr0 fr
            replace hpb := hpb.fr0 fr
            replace Q9 := Q9.fr0 fr
            refine ⟨.inl (by kernel_rfl), ?_⟩
            refine dt (i := 5) rfl rfl rfl rfl (by kernel_rfl) (fun _ => x_not1 rfl) ?_
            refine dn (by kernel_rfl) ?_
            refine al_k ?_
            refine cl_if0 rfl rfl ?_
            refine cl_skip rfl ?_
            refine al_k ?_
            refine cl_seq rfl ?_
            refine cl_seq rfl ?_
            refine cl_reg rfl ?_
            refine st rfl rfl rfl rfl (x_ld rfl Tryd.isAgg4 (hdb.cell rfl)) ?_
            refine rl_end rfl ?_
            refine al_k ?_
            refine cl_if1 rfl rfl ?_
            refine cl_seq rfl ?_
            refine cl_reg rfl ?_
            refine st rfl rfl rfl rfl (x_ld rfl Tryd.isAgg23 (hpb.cell rfl)) ?_
            refine sc rfl rfl rfl rfl (c_fn rfl Tryd.call11 (len_r Q9 0)) ?_
            rintro _ w22 ⟨rfl, _, fr⟩
            replace F := F.trans fr
            refine st rfl rfl rfl rfl (x_move rfl) ?_
            refine st rfl rfl rfl rfl (x_len rfl Tryd.underlying40) ?_
            refine st rfl rfl rfl rfl (x_move rfl) ?_
            refine st rfl rfl rfl rfl (x_sub rfl rfl (by omega)) ?_
            refine st rfl rfl rfl rfl ((x_eql rfl rfl).b1 hlen2) ?_
            refine st rfl rfl rfl rfl (x_move rfl) ?_
            refine sc rfl rfl rfl rfl (c_fn rfl Tryd.call12 (alive_c _ (hG.fr F (by simp)))) ?_
            rintro _ w29 ⟨rfl, fr⟩
            replace F := F.trans fr
            refine st rfl rfl rfl rfl (x_pick1 rfl rfl) ?_
            refine st rfl rfl rfl rfl (x_asg rfl) ?_
            refine rl_end rfl ?_
            refine al_k ?_
            refine cl_ret rfl ?_
            refine fin1 rfl rfl ?_
            exact ⟨rfl, F⟩
    · skip
      refine st rfl rfl rfl rfl (x_move rfl) ?_
      refine so rfl rfl rfl rfl ?_
      refine so rfl rfl rfl rfl ?_
      refine st rfl rfl rfl rfl (x_pick0 rfl rfl) ?_
      refine rl_end rfl ?_
      refine al_k ?_
      refine cl_if0 rfl rfl ?_
      refine cl_exit rfl ?_
      refine upd_self ?_
      refine al_k ?_
      refine cl_seq rfl ?_
      have hlen := K.len
      obtain ⟨xs, hxs⟩ : ∃ l, ls[0]? = some l := ⟨_, List.getElem?_eq_getElem (by omega)⟩
      have hall : aAll ls 0 = xs := by unfold aAll; rw [if_pos (show okL ls 0 from ⟨by omega, by omega⟩)]; exact rowAt_nat (i := 0) hxs
      have hxl : xs.length ≤ 10 := by rw [← hall]; exact K.hA _
      have hnd2 := K.hN _ _ hxs
      have hrg : ∀ q ∈ xs, 0 ≤ q ∧ q < ((10 : Nat) : Int) := fun q hq => (K.of hxs hq).2
      refine cl_reg rfl ?_
      refine st rfl rfl rfl rfl (x_move rfl) ?_
      refine sc rfl rfl rfl rfl (c_fn rfl Tryd.call15 (rall_c _ _ _ rp lb 10 ls K.R 0)) ?_
      rintro v1 wk ⟨hv, hwk⟩
      obtain rfl := hwk.symm
      rw [hall] at hv
      obtain ⟨A0, c0, rfl, ⟨hA, hcap⟩, hrow⟩ := hv
      have hw := RowW.of hrow
      have zZ : wr.heap.size ≤ wr.heap.size := Nat.le_refl _
      have sB := K.R.sB
      generalize hZ : wr.heap.size = Z at hw sB zZ
      replace zZ : Z ≤ wr.heap.size := by omega
      refine st rfl rfl rfl rfl (x_asg rfl) ?_
      refine rl_end rfl ?_
      refine al_k ?_
      refine cl_seq rfl ?_
      refine cl_seq rfl ?_
      refine cl_reg rfl ?_
      refine st rfl rfl rfl rfl (x_ld rfl Tryd.isAgg3 (hmb.cell rfl)) ?_
      refine sf rfl rfl rfl rfl (x_lss rfl rfl) (fun c11_1 => ?_) (fun c11_1 => ?_)
      · skip
        refine st rfl rfl rfl rfl (x_move rfl) ?_
        refine so rfl rfl rfl rfl ?_
        refine so rfl rfl rfl rfl ?_
        refine st rfl rfl rfl rfl (x_pick1 rfl rfl) ?_
        refine rl_end rfl ?_
        refine al_k ?_
        refine cl_if1 rfl rfl ?_
        refine cl_reg rfl ?_
        refine sv rfl rfl rfl (v_1 rfl rfl rfl rfl Tryd.sizeOf3 hmb (by simp)) ?_
        rintro ws12 ⟨hmb2, fr2⟩
        replace hmb := hmb2
        dsimp only [List.set_cons_zero] at hmb
        replace hdb := hdb.fr fr2 (by simp; omega)
        replace hpb := hpb.fr fr2 (by simp; omega)
        replace hw := hw.fr fr2 (by intro q hq; simp at hq; omega)
        replace zZ := Nat.le_trans zZ fr2.size
        replace K := K.ofR (K.Q.fr fr2 (by simp; omega) (by simp; omega) (by simp; omega) (by simp; omega)) (K.R.fr fr2 (by intro q hq; simp at hq; omega))
        replace F := F.trans_new fr2 (by intro q hq; simp at hq; right; omega)
        refine rl_end rfl ?_
        refine al_k ?_
        refine cl_seq rfl ?_
        obtain ⟨mo, hmb, hmo⟩ : ∃ mo : Int, Blk ws12 mb 3 [.int .i64 mo] ∧ 1 ≤ mo ∧ mo ≤ 10 := ⟨_, hmb, by omega⟩
        refine cl_reg rfl ?_
        refine st rfl rfl rfl rfl (x_ld rfl Tryd.isAgg23 (hpb.cell rfl)) ?_
        refine sc rfl rfl rfl rfl (c_fn rfl Tryd.call16 (All_c _ (some ⟨p, 0, none⟩) 0)) ?_
        rintro _ w13 ⟨c1_, c2, c3, rfl, hc1, hc2, hc3, _, _, _, fr⟩
        replace F := F.trans fr
        replace hmb := hmb.fr0 fr
        replace hdb := hdb.fr0 fr
        replace hpb := hpb.fr0 fr
        replace K := K.fr0 fr
        replace hw := hw.fr0 fr
        replace zZ := Nat.le_trans zZ fr.size
        refine st rfl rfl rfl rfl (x_asg rfl) ?_
        refine rl_end rfl ?_
        refine al_k ?_
        refine cl_seq rfl ?_
        refine cl_seq rfl ?_
        refine cl_reg rfl ?_
        refine st rfl rfl rfl rfl (x_move rfl) ?_
        refine st rfl rfl rfl rfl (x_eqlf rfl rfl Tryd.underlying42) ?_
        refine rl_end rfl ?_
        refine al_k ?_
        refine cl_if0 rfl rfl ?_
        refine cl_skip rfl ?_
        refine al_k ?_
        refine cl_seq rfl ?_
        have zK := K.lts
        have l1 := hmb.lt
        have l2 := hdb.lt
        have l3 := hpb.lt
        refine cl_reg rfl ?_
        refine se rfl rfl rfl rfl (e_new (x_alloc Tryd.zeroValue40 rfl)) ?_
        rintro _ w16 ⟨rfl, hgb, fr, _⟩
        have gF := F.size
        replace F := F.trans fr
        replace hmb := hmb.fr0 fr
        replace hdb := hdb.fr0 fr
        replace hpb := hpb.fr0 fr
        replace K := K.fr0 fr
        replace hw := hw.fr0 fr
        replace hc1 := hc1.fr0 fr
        replace hc2 := hc2.fr0 fr
        replace hc3 := hc3.fr0 fr
        have zgb := hgb.lt
        generalize hqg : w13.heap.size = gb at hgb zgb ⊢
        have ztop : gb < w16.heap.size ∧ db < w16.heap.size ∧ pb < w16.heap.size ∧ mb < w16.heap.size ∧ p < w16.heap.size ∧ nb < w16.heap.size ∧ hb < w16.heap.size := by omega
        refine rl_end rfl ?_
        refine al_k ?_
        refine cl_seq rfl ?_
        refine cl_reg rfl ?_
        refine st rfl rfl rfl rfl (x_move rfl) ?_
        refine st rfl rfl rfl rfl (x_mkf rfl rfl) ?_
        refine sc rfl rfl rfl rfl (c_fv rfl rfl Tryd.call49 (told1_c _ (some ⟨p, 0, none⟩) 0 false c1_ c2 c3 hc1 hc2 hc3 xs (by omega) (fun w1 fr => by
              have := row_r (K.Q.fr0 fr) 0
              rw [hall] at this
              exact this.mono (fun v w2 h => ⟨h.1, h.2.2⟩)) 17 [] [.pointer (some ⟨gb, 0, none⟩), .pointer (some ⟨db, 0, none⟩), .pointer (some ⟨pb, 0, none⟩), .pointer (some ⟨mb, 0, none⟩)] Tryd.call17 (fun d => decide ((d.length : Int) < mo)) (fun ws done w1 => ∃ v, Blk w1 gb 40 [v] ∧ w1.ownsRow ws.heap.size 3 1 v done.length (ints done) ∧ LsR w1 p nb hb 10 2 (dropAll 10 ls done) ∧ Blk w1 pb 23 [.pointer (some ⟨p, 0, none⟩)] ∧ Blk w1 db 4 [.bool true] ∧ Blk w1 mb 3 [.int .i64 mo] ∧ Fr [gb, nb, hb] ws w1) [gb, nb, hb] (by intro q hq; simp at hq; omega) (fun ws fr => ⟨_, hgb.fr0 fr, own_nil _ _ _, K.Q.fr0 fr, hpb.fr0 fr, hdb.fr0 fr, hmb.fr0 fr, Fr.refl _ _⟩) (fun ws done w1 h => by
              obtain ⟨_, _, _, _, _, _, _, F⟩ := h
              exact F) (fun ws k z w1 fr hz h => by
              obtain ⟨v, hv, HO, Q, hpb, hdb, hmb, F1⟩ := h
              have hkl := (List.getElem?_eq_some_iff.1 hz).1
              have e : (xs.take k).length = k := by rw [List.length_take]; omega
              have e2 : xs.take (k + 1) = xs.take k ++ [z] := by rw [List.take_add_one, hz]; rfl
              have hs := fr.size
              refine (stop1_true ws w1 gb db pb mb p nb hb ls mo z (xs.take k) v hv HO Q hpb hdb hmb F1 (by omega) (by omega) (by omega) hne.1).mono ?_
              rintro r w' ⟨v', rfl, hv', HO', Q', hpb', hdb', hmb', F'⟩
              rw [e2]
              exact ⟨rfl, v', hv', HO', Q', hpb', hdb', hmb', F'⟩))) ?_
        rintro _ w17 ⟨rfl, ws, kk, F1, hst, v9, hgb, HO9, Q9, hpb, hdb, hmb, F9⟩
        -- told
        have s1 := F1.size
        have hk := stop_at hmo.1 hst
        replace hw := (hw.fr0 F1).fr F9 (by intro q hq; simp at hq; omega)
        replace F := (F.trans F1).trans_new F9 (by intro q hq; simp at hq; right; omega)
        obtain ⟨A9, c9, rfl, _⟩ := own_slice HO9
        clear K hc1 hc2 hc3
        have hlen2 : aLen (dropAll 10 ls (xs.take kk)) 0 = (xs.length : Int) - kk := by
          rw [aLen_of (dropAll_front (xs.take kk) ls (xs.drop kk) (by rw [List.take_append_drop]; exact hxs) (by rw [List.take_append_drop]; exact hnd2) (fun q hq => hrg q (List.mem_of_mem_take hq)))]
          have := hst.1
          rw [List.length_drop]
          omega
        refine rl_end rfl ?_
        refine al_k ?_
        refine cl_seq rfl ?_
        refine cl_reg rfl ?_
        refine st rfl rfl rfl rfl (x_move rfl) ?_
        refine st rfl rfl rfl rfl (x_len rfl Tryd.underlying40) ?_
        refine st rfl rfl rfl rfl (x_ld rfl Tryd.isAgg3 (hmb.cell rfl)) ?_
        refine st rfl rfl rfl rfl (x_min rfl rfl) ?_
        rw [← hk]
        have hkl := hst.1
        refine st rfl rfl rfl rfl (x_asg rfl) ?_
        refine rl_end rfl ?_
        refine al_k ?_
        refine cl_seq rfl ?_
        refine cl_seq rfl ?_
        refine cl_draw (by kernel_rfl) rfl [4] (fun w' => w'.heap = w17.heap) ?_
        rintro wd19 frd19 hpd19
        refine ⟨hpd19, ?_⟩
        refine dl (i := 0) rfl rfl rfl rfl (by kernel_rfl) (by kernel_rfl) (fun w' hU => x_ld rfl Tryd.isAgg40 (heq hU (hgb.cell rfl))) ?_
        refine dt (i := 1) rfl rfl rfl rfl (by kernel_rfl) (fun _ => x_move rfl) ?_
        refine dt (i := 2) rfl rfl rfl rfl (by kernel_rfl) (fun _ => x_move rfl) ?_
        refine dt (i := 3) rfl rfl rfl rfl (by kernel_rfl) (fun _ => x_slh rfl rfl Tryd.underlying40 Tryd.sizeOf3 (by have := hst.1; omega)) ?_
        replace F := F.trans frd19
        replace hmb := hmb.fr0 frd19
        replace hdb := hdb.fr0 frd19
        replace hpb := hpb.fr0 frd19
        replace hw := hw.fr0 frd19
        replace hgb := hgb.fr0 frd19
        replace Q9 := Q9.fr0 frd19
        replace HO9 := own_fr0 HO9 frd19
        refine d1 (i := 4) (by kernel_rfl) ?_
        refine oc rfl rfl rfl rfl (c_fn rfl Tryd.call19 ((same_c _ _ _ _ _ (SlI.own HO9 (by rw [List.length_take]; omega)) (hw.slI c0 kk hst.1 (by omega))).mono (R' := fun v w' => v = .bool true ∧ Fr [] _ w') (fun v w' h => ⟨h.1.trans (congrArg _ (decide_eq_true rfl)), h.2⟩))) ?_
        rintro _ w19 ⟨rfl, fr⟩
        replace F := F.trans fr
        replace hmb := hmb.fr0 fr
        replace hdb := hdb.fr0 fr
        replace hpb := hpb.fr0 fr
        replace Q9 := Q9.fr0 fr
        refine ⟨.inl (by kernel_rfl), ?_⟩
        refine dt (i := 5) rfl rfl rfl rfl (by kernel_rfl) (fun _ => x_not1 rfl) ?_
        refine dn (by kernel_rfl) ?_
        refine al_k ?_
        refine cl_if0 rfl rfl ?_
        refine cl_skip rfl ?_
        refine al_k ?_
        refine cl_seq rfl ?_
        refine cl_seq rfl ?_
        refine cl_reg rfl ?_
        refine st rfl rfl rfl rfl (x_ld rfl Tryd.isAgg4 (hdb.cell rfl)) ?_
        refine rl_end rfl ?_
        refine al_k ?_
        refine cl_if1 rfl rfl ?_
        refine cl_seq rfl ?_
        refine cl_reg rfl ?_
        refine st rfl rfl rfl rfl (x_ld rfl Tryd.isAgg23 (hpb.cell rfl)) ?_
        refine sc rfl rfl rfl rfl (c_fn rfl Tryd.call11 (len_r Q9 0)) ?_
        rintro _ w22 ⟨rfl, _, fr⟩
        replace F := F.trans fr
        refine st rfl rfl rfl rfl (x_move rfl) ?_
        refine st rfl rfl rfl rfl (x_len rfl Tryd.underlying40) ?_
        refine st rfl rfl rfl rfl (x_move rfl) ?_
        refine st rfl rfl rfl rfl (x_sub rfl rfl (by omega)) ?_
        refine st rfl rfl rfl rfl ((x_eql rfl rfl).b1 hlen2) ?_
        refine st rfl rfl rfl rfl (x_move rfl) ?_
        refine sc rfl rfl rfl rfl (c_fn rfl Tryd.call12 (alive_c _ (hG.fr F (by simp)))) ?_
        rintro _ w29 ⟨rfl, fr⟩
        replace F := F.trans fr
        refine st rfl rfl rfl rfl (x_pick1 rfl rfl) ?_
        refine st rfl rfl rfl rfl (x_asg rfl) ?_
        refine rl_end rfl ?_
        refine al_k ?_
        refine cl_ret rfl ?_
        refine fin1 rfl rfl ?_
        exact ⟨rfl, F⟩
      · skip
        refine st rfl rfl rfl rfl (x_move rfl) ?_
        refine st rfl rfl rfl rfl (x_ld rfl Tryd.isAgg3 (hmb.cell rfl)) ?_
        refine sf rfl rfl rfl rfl (x_gtr rfl rfl) (fun c11_4 => ?_) (fun c11_4 => ?_)
        · skip
          refine st rfl rfl rfl rfl (x_pick0 rfl rfl) ?_
          refine rl_end rfl ?_
          refine al_k ?_
          refine cl_if1 rfl rfl ?_
          refine cl_reg rfl ?_
          refine sv rfl rfl rfl (v_1 rfl rfl rfl rfl Tryd.sizeOf3 hmb (by simp)) ?_
          rintro ws12 ⟨hmb2, fr2⟩
          replace hmb := hmb2
          dsimp only [List.set_cons_zero] at hmb
          replace hdb := hdb.fr fr2 (by simp; omega)
          replace hpb := hpb.fr fr2 (by simp; omega)
          replace hw := hw.fr fr2 (by intro q hq; simp at hq; omega)
          replace zZ := Nat.le_trans zZ fr2.size
          replace K := K.ofR (K.Q.fr fr2 (by simp; omega) (by simp; omega) (by simp; omega) (by simp; omega)) (K.R.fr fr2 (by intro q hq; simp at hq; omega))
          replace F := F.trans_new fr2 (by intro q hq; simp at hq; right; omega)
          refine rl_end rfl ?_
          refine al_k ?_
          refine cl_seq rfl ?_
          obtain ⟨mo, hmb, hmo⟩ : ∃ mo : Int, Blk ws12 mb 3 [.int .i64 mo] ∧ 1 ≤ mo ∧ mo ≤ 10 := ⟨_, hmb, by omega⟩
          refine cl_reg rfl ?_
          refine st rfl rfl rfl rfl (x_ld rfl Tryd.isAgg23 (hpb.cell rfl)) ?_
          refine sc rfl rfl rfl rfl (c_fn rfl Tryd.call16 (All_c _ (some ⟨p, 0, none⟩) 0)) ?_
          rintro _ w13 ⟨c1_, c2, c3, rfl, hc1, hc2, hc3, _, _, _, fr⟩
          replace F := F.trans fr
          replace hmb := hmb.fr0 fr
          replace hdb := hdb.fr0 fr
          replace hpb := hpb.fr0 fr
          replace K := K.fr0 fr
          replace hw := hw.fr0 fr
          replace zZ := Nat.le_trans zZ fr.size
          refine st rfl rfl rfl rfl (x_asg rfl) ?_
          refine rl_end rfl ?_
          refine al_k ?_
          refine cl_seq rfl ?_
          refine cl_seq rfl ?_
          refine cl_reg rfl ?_
          refine st rfl rfl rfl rfl (x_move rfl) ?_
          refine st rfl rfl rfl rfl (x_eqlf rfl rfl Tryd.underlying42) ?_
          refine rl_end rfl ?_
          refine al_k ?_
          refine cl_if0 rfl rfl ?_
          refine cl_skip rfl ?_
          refine al_k ?_
          refine cl_seq rfl ?_
          have zK := K.lts
          have l1 := hmb.lt
          have l2 := hdb.lt
          have l3 := hpb.lt
          refine cl_reg rfl ?_
          refine se rfl rfl rfl rfl (e_new (x_alloc Tryd.zeroValue40 rfl)) ?_
          rintro _ w16 ⟨rfl, hgb, fr, _⟩
          have gF := F.size
          replace F := F.trans fr
          replace hmb := hmb.fr0 fr
          replace hdb := hdb.fr0 fr
          replace hpb := hpb.fr0 fr
          replace K := K.fr0 fr
          replace hw := hw.fr0 fr
          replace hc1 := hc1.fr0 fr
          replace hc2 := hc2.fr0 fr
          replace hc3 := hc3.fr0 fr
          have zgb := hgb.lt
          generalize hqg : w13.heap.size = gb at hgb zgb ⊢
          have ztop : gb < w16.heap.size ∧ db < w16.heap.size ∧ pb < w16.heap.size ∧ mb < w16.heap.size ∧ p < w16.heap.size ∧ nb < w16.heap.size ∧ hb < w16.heap.size := by omega
          refine rl_end rfl ?_
          refine al_k ?_
          refine cl_seq rfl ?_
          refine cl_reg rfl ?_
          refine st rfl rfl rfl rfl (x_move rfl) ?_
          refine st rfl rfl rfl rfl (x_mkf rfl rfl) ?_
          refine sc rfl rfl rfl rfl (c_fv rfl rfl Tryd.call49 (told1_c _ (some ⟨p, 0, none⟩) 0 false c1_ c2 c3 hc1 hc2 hc3 xs (by omega) (fun w1 fr => by
                have := row_r (K.Q.fr0 fr) 0
                rw [hall] at this
                exact this.mono (fun v w2 h => ⟨h.1, h.2.2⟩)) 17 [] [.pointer (some ⟨gb, 0, none⟩), .pointer (some ⟨db, 0, none⟩), .pointer (some ⟨pb, 0, none⟩), .pointer (some ⟨mb, 0, none⟩)] Tryd.call17 (fun d => decide ((d.length : Int) < mo)) (fun ws done w1 => ∃ v, Blk w1 gb 40 [v] ∧ w1.ownsRow ws.heap.size 3 1 v done.length (ints done) ∧ LsR w1 p nb hb 10 2 (dropAll 10 ls done) ∧ Blk w1 pb 23 [.pointer (some ⟨p, 0, none⟩)] ∧ Blk w1 db 4 [.bool true] ∧ Blk w1 mb 3 [.int .i64 mo] ∧ Fr [gb, nb, hb] ws w1) [gb, nb, hb] (by intro q hq; simp at hq; omega) (fun ws fr => ⟨_, hgb.fr0 fr, own_nil _ _ _, K.Q.fr0 fr, hpb.fr0 fr, hdb.fr0 fr, hmb.fr0 fr, Fr.refl _ _⟩) (fun ws done w1 h => by
                obtain ⟨_, _, _, _, _, _, _, F⟩ := h
                exact F) (fun ws k z w1 fr hz h => by
                obtain ⟨v, hv, HO, Q, hpb, hdb, hmb, F1⟩ := h
                have hkl := (List.getElem?_eq_some_iff.1 hz).1
                have e : (xs.take k).length = k := by rw [List.length_take]; omega
                have e2 : xs.take (k + 1) = xs.take k ++ [z] := by rw [List.take_add_one, hz]; rfl
                have hs := fr.size
                refine (stop1_true ws w1 gb db pb mb p nb hb ls mo z (xs.take k) v hv HO Q hpb hdb hmb F1 (by omega) (by omega) (by omega) hne.1).mono ?_
                rintro r w' ⟨v', rfl, hv', HO', Q', hpb', hdb', hmb', F'⟩
                rw [e2]
                exact ⟨rfl, v', hv', HO', Q', hpb', hdb', hmb', F'⟩))) ?_
          rintro _ w17 ⟨rfl, ws, kk, F1, hst, v9, hgb, HO9, Q9, hpb, hdb, hmb, F9⟩
          -- told
          have s1 := F1.size
          have hk := stop_at hmo.1 hst
          replace hw := (hw.fr0 F1).fr F9 (by intro q hq; simp at hq; omega)
          replace F := (F.trans F1).trans_new F9 (by intro q hq; simp at hq; right; omega)
          obtain ⟨A9, c9, rfl, _⟩ := own_slice HO9
          clear K hc1 hc2 hc3
          have hlen2 : aLen (dropAll 10 ls (xs.take kk)) 0 = (xs.length : Int) - kk := by
            rw [aLen_of (dropAll_front (xs.take kk) ls (xs.drop kk) (by rw [List.take_append_drop]; exact hxs) (by rw [List.take_append_drop]; exact hnd2) (fun q hq => hrg q (List.mem_of_mem_take hq)))]
            have := hst.1
            rw [List.length_drop]
            omega
          refine rl_end rfl ?_
          refine al_k ?_
          refine cl_seq rfl ?_
          refine cl_reg rfl ?_
          refine st rfl rfl rfl rfl (x_move rfl) ?_
          refine st rfl rfl rfl rfl (x_len rfl Tryd.underlying40) ?_
          refine st rfl rfl rfl rfl (x_ld rfl Tryd.isAgg3 (hmb.cell rfl)) ?_
          refine st rfl rfl rfl rfl (x_min rfl rfl) ?_
          rw [← hk]
          have hkl := hst.1
          refine st rfl rfl rfl rfl (x_asg rfl) ?_
          refine rl_end rfl ?_
          refine al_k ?_
          refine cl_seq rfl ?_
          refine cl_seq rfl ?_
          refine cl_draw (by kernel_rfl) rfl [4] (fun w' => w'.heap = w17.heap) ?_
          rintro wd19 frd19 hpd19
          refine ⟨hpd19, ?_⟩
          refine dl (i := 0) rfl rfl rfl rfl (by kernel_rfl) (by kernel_rfl) (fun w' hU => x_ld rfl Tryd.isAgg40 (heq hU (hgb.cell rfl))) ?_
          refine dt (i := 1) rfl rfl rfl rfl (by kernel_rfl) (fun _ => x_move rfl) ?_
          refine dt (i := 2) rfl rfl rfl rfl (by kernel_rfl) (fun _ => x_move rfl) ?_
          refine dt (i := 3) rfl rfl rfl rfl (by kernel_rfl) (fun _ => x_slh rfl rfl Tryd.underlying40 Tryd.sizeOf3 (by have := hst.1; omega)) ?_
          replace F := F.trans frd19
          replace hmb := hmb.fr0 frd19
          replace hdb := hdb.fr0 frd19
          replace hpb := hpb.fr0 frd19
          replace hw := hw.fr0 frd19
          replace hgb := hgb.fr0 frd19
          replace Q9 := Q9.fr0 frd19
          replace HO9 := own_fr0 HO9 frd19
          refine d1 (i := 4) (by kernel_rfl) ?_
          refine oc rfl rfl rfl rfl (c_fn rfl Tryd.call19 ((same_c _ _ _ _ _ (SlI.own HO9 (by rw [List.length_take]; omega)) (hw.slI c0 kk hst.1 (by omega))).mono (R' := fun v w' => v = .bool true ∧ Fr [] _ w') (fun v w' h => ⟨h.1.trans (congrArg _ (decide_eq_true rfl)), h.2⟩))) ?_
          rintro _ w19 ⟨rfl, fr⟩
          replace F := F.trans fr
          replace hmb := hmb.fr0 fr
          replace hdb := hdb.fr0 fr
          replace hpb := hpb.fr0 fr
          replace Q9 := Q9.fr0 fr
          refine ⟨.inl (by kernel_rfl), ?_⟩
          refine dt (i := 5) rfl rfl rfl rfl (by kernel_rfl) (fun _ => x_not1 rfl) ?_
          refine dn (by kernel_rfl) ?_
          refine al_k ?_
          refine cl_if0 rfl rfl ?_
          refine cl_skip rfl ?_
          refine al_k ?_
          refine cl_seq rfl ?_
          refine cl_seq rfl ?_
          refine cl_reg rfl ?_
          refine st rfl rfl rfl rfl (x_ld rfl Tryd.isAgg4 (hdb.cell rfl)) ?_
          refine rl_end rfl ?_
          refine al_k ?_
          refine cl_if1 rfl rfl ?_
          refine cl_seq rfl ?_
          refine cl_reg rfl ?_
          refine st rfl rfl rfl rfl (x_ld rfl Tryd.isAgg23 (hpb.cell rfl)) ?_
          refine sc rfl rfl rfl rfl (c_fn rfl Tryd.call11 (len_r Q9 0)) ?_
          rintro _ w22 ⟨rfl, _, fr⟩
          replace F := F.trans fr
          refine st rfl rfl rfl rfl (x_move rfl) ?_
          refine st rfl rfl rfl rfl (x_len rfl Tryd.underlying40) ?_
          refine st rfl rfl rfl rfl (x_move rfl) ?_
          refine st rfl rfl rfl rfl (x_sub rfl rfl (by omega)) ?_
          refine st rfl rfl rfl rfl ((x_eql rfl rfl).b1 hlen2) ?_
          refine st rfl rfl rfl rfl (x_move rfl) ?_
          refine sc rfl rfl rfl rfl (c_fn rfl Tryd.call12 (alive_c _ (hG.fr F (by simp)))) ?_
          rintro _ w29 ⟨rfl, fr⟩
          replace F := F.trans fr
          refine st rfl rfl rfl rfl (x_pick1 rfl rfl) ?_
          refine st rfl rfl rfl rfl (x_asg rfl) ?_
          refine rl_end rfl ?_
          refine al_k ?_
          refine cl_ret rfl ?_
          refine fin1 rfl rfl ?_
          exact ⟨rfl, F⟩
        · skip
          refine st rfl rfl rfl rfl (x_pick0 rfl rfl) ?_
          refine rl_end rfl ?_
          refine al_k ?_
          refine cl_if0 rfl rfl ?_
          refine cl_skip rfl ?_
          refine al_k ?_
          refine cl_seq rfl ?_
          obtain ⟨mo, hmb, hmo⟩ : ∃ mo : Int, Blk wr mb 3 [.int .i64 mo] ∧ 1 ≤ mo ∧ mo ≤ 10 := ⟨_, hmb, by omega⟩
          refine cl_reg rfl ?_
          refine st rfl rfl rfl rfl (x_ld rfl Tryd.isAgg23 (hpb.cell rfl)) ?_
          refine sc rfl rfl rfl rfl (c_fn rfl Tryd.call16 (All_c _ (some ⟨p, 0, none⟩) 0)) ?_
          rintro _ w13 ⟨c1_, c2, c3, rfl, hc1, hc2, hc3, _, _, _, fr⟩
          replace F := F.trans fr
          replace hmb := hmb.fr0 fr
          replace hdb := hdb.fr0 fr
          replace hpb := hpb.fr0 fr
          replace K := K.fr0 fr
          replace hw := hw.fr0 fr
          replace zZ := Nat.le_trans zZ fr.size
          refine st rfl rfl rfl rfl (x_asg rfl) ?_
          refine rl_end rfl ?_
          refine al_k ?_
          refine cl_seq rfl ?_
          refine cl_seq rfl ?_
          refine cl_reg rfl ?_
          refine st rfl rfl rfl rfl (x_move rfl) ?_
          refine st rfl rfl rfl rfl (x_eqlf rfl rfl Tryd.underlying42) ?_
          refine rl_end rfl ?_
          refine al_k ?_
          refine cl_if0 rfl rfl ?_
          refine cl_skip rfl ?_
          refine al_k ?_
          refine cl_seq rfl ?_
          have zK := K.lts
          have l1 := hmb.lt
          have l2 := hdb.lt
          have l3 := hpb.lt
          refine cl_reg rfl ?_
          refine se rfl rfl rfl rfl (e_new (x_alloc Tryd.zeroValue40 rfl)) ?_
          rintro _ w16 ⟨rfl, hgb, fr, _⟩
          have gF := F.size
          replace F := F.trans fr
          replace hmb := hmb.fr0 fr
          replace hdb := hdb.fr0 fr
          replace hpb := hpb.fr0 fr
          replace K := K.fr0 fr
          replace hw := hw.fr0 fr
          replace hc1 := hc1.fr0 fr
          replace hc2 := hc2.fr0 fr
          replace hc3 := hc3.fr0 fr
          have zgb := hgb.lt
          generalize hqg : w13.heap.size = gb at hgb zgb ⊢
          have ztop : gb < w16.heap.size ∧ db < w16.heap.size ∧ pb < w16.heap.size ∧ mb < w16.heap.size ∧ p < w16.heap.size ∧ nb < w16.heap.size ∧ hb < w16.heap.size := by omega
          refine rl_end rfl ?_
          refine al_k ?_
          refine cl_seq rfl ?_
          refine cl_reg rfl ?_
          refine st rfl rfl rfl rfl (x_move rfl) ?_
          refine st rfl rfl rfl rfl (x_mkf rfl rfl) ?_
          refine sc rfl rfl rfl rfl (c_fv rfl rfl Tryd.call49 (told1_c _ (some ⟨p, 0, none⟩) 0 false c1_ c2 c3 hc1 hc2 hc3 xs (by omega) (fun w1 fr => by
                have := row_r (K.Q.fr0 fr) 0
                rw [hall] at this
                exact this.mono (fun v w2 h => ⟨h.1, h.2.2⟩)) 17 [] [.pointer (some ⟨gb, 0, none⟩), .pointer (some ⟨db, 0, none⟩), .pointer (some ⟨pb, 0, none⟩), .pointer (some ⟨mb, 0, none⟩)] Tryd.call17 (fun d => decide ((d.length : Int) < mo)) (fun ws done w1 => ∃ v, Blk w1 gb 40 [v] ∧ w1.ownsRow ws.heap.size 3 1 v done.length (ints done) ∧ LsR w1 p nb hb 10 2 (dropAll 10 ls done) ∧ Blk w1 pb 23 [.pointer (some ⟨p, 0, none⟩)] ∧ Blk w1 db 4 [.bool true] ∧ Blk w1 mb 3 [.int .i64 mo] ∧ Fr [gb, nb, hb] ws w1) [gb, nb, hb] (by intro q hq; simp at hq; omega) (fun ws fr => ⟨_, hgb.fr0 fr, own_nil _ _ _, K.Q.fr0 fr, hpb.fr0 fr, hdb.fr0 fr, hmb.fr0 fr, Fr.refl _ _⟩) (fun ws done w1 h => by
                obtain ⟨_, _, _, _, _, _, _, F⟩ := h
                exact F) (fun ws k z w1 fr hz h => by
                obtain ⟨v, hv, HO, Q, hpb, hdb, hmb, F1⟩ := h
                have hkl := (List.getElem?_eq_some_iff.1 hz).1
                have e : (xs.take k).length = k := by rw [List.length_take]; omega
                have e2 : xs.take (k + 1) = xs.take k ++ [z] := by rw [List.take_add_one, hz]; rfl
                have hs := fr.size
                refine (stop1_true ws w1 gb db pb mb p nb hb ls mo z (xs.take k) v hv HO Q hpb hdb hmb F1 (by omega) (by omega) (by omega) hne.1).mono ?_
                rintro r w' ⟨v', rfl, hv', HO', Q', hpb', hdb', hmb', F'⟩
                rw [e2]
                exact ⟨rfl, v', hv', HO', Q', hpb', hdb', hmb', F'⟩))) ?_
          rintro _ w17 ⟨rfl, ws, kk, F1, hst, v9, hgb, HO9, Q9, hpb, hdb, hmb, F9⟩
          -- told
          have s1 := F1.size
          have hk := stop_at hmo.1 hst
          replace hw := (hw.fr0 F1).fr F9 (by intro q hq; simp at hq; omega)
          replace F := (F.trans F1).trans_new F9 (by intro q hq; simp at hq; right; omega)
          obtain ⟨A9, c9, rfl, _⟩ := own_slice HO9
          clear K hc1 hc2 hc3
          have hlen2 : aLen (dropAll 10 ls (xs.take kk)) 0 = (xs.length : Int) - kk := by
            rw [aLen_of (dropAll_front (xs.take kk) ls (xs.drop kk) (by rw [List.take_append_drop]; exact hxs) (by rw [List.take_append_drop]; exact hnd2) (fun q hq => hrg q (List.mem_of_mem_take hq)))]
            have := hst.1
            rw [List.length_drop]
            omega
          refine rl_end rfl ?_
          refine al_k ?_
          refine cl_seq rfl ?_
          refine cl_reg rfl ?_
          refine st rfl rfl rfl rfl (x_move rfl) ?_
          refine st rfl rfl rfl rfl (x_len rfl Tryd.underlying40) ?_
          refine st rfl rfl rfl rfl (x_ld rfl Tryd.isAgg3 (hmb.cell rfl)) ?_
          refine st rfl rfl rfl rfl (x_min rfl rfl) ?_
          rw [← hk]
          have hkl := hst.1
          refine st rfl rfl rfl rfl (x_asg rfl) ?_
          refine rl_end rfl ?_
          refine al_k ?_
          refine cl_seq rfl ?_
          refine cl_seq rfl ?_
          refine cl_draw (by kernel_rfl) rfl [4] (fun w' => w'.heap = w17.heap) ?_
          rintro wd19 frd19 hpd19
          refine ⟨hpd19, ?_⟩
          refine dl (i := 0) rfl rfl rfl rfl (by kernel_rfl) (by kernel_rfl) (fun w' hU => x_ld rfl Tryd.isAgg40 (heq hU (hgb.cell rfl))) ?_
          refine dt (i := 1) rfl rfl rfl rfl (by kernel_rfl) (fun _ => x_move rfl) ?_
          refine dt (i := 2) rfl rfl rfl rfl (by kernel_rfl) (fun _ => x_move rfl) ?_
          refine dt (i := 3) rfl rfl rfl rfl (by kernel_rfl) (fun _ => x_slh rfl rfl Tryd.underlying40 Tryd.sizeOf3 (by have := hst.1; omega)) ?_
          replace F := F.trans frd19
          replace hmb := hmb.fr0 frd19
          replace hdb := hdb.fr0 frd19
          replace hpb := hpb.fr0 frd19
          replace hw := hw.fr0 frd19
          replace hgb := hgb.fr0 frd19
          replace Q9 := Q9.fr0 frd19
          replace HO9 := own_fr0 HO9 frd19
          refine d1 (i := 4) (by kernel_rfl) ?_
          refine oc rfl rfl rfl rfl (c_fn rfl Tryd.call19 ((same_c _ _ _ _ _ (SlI.own HO9 (by rw [List.length_take]; omega)) (hw.slI c0 kk hst.1 (by omega))).mono (R' := fun v w' => v = .bool true ∧ Fr [] _ w') (fun v w' h => ⟨h.1.trans (congrArg _ (decide_eq_true rfl)), h.2⟩))) ?_
          rintro _ w19 ⟨rfl, fr⟩
          replace F := F.trans fr
          replace hmb := hmb.fr0 fr
          replace hdb := hdb.fr0 fr
          replace hpb := hpb.fr0 fr
          replace Q9 := Q9.fr0 fr
          refine ⟨.inl (by kernel_rfl), ?_⟩
          refine dt (i := 5) rfl rfl rfl rfl (by kernel_rfl) (fun _ => x_not1 rfl) ?_
          refine dn (by kernel_rfl) ?_
          refine al_k ?_
          refine cl_if0 rfl rfl ?_
          refine cl_skip rfl ?_
          refine al_k ?_
          refine cl_seq rfl ?_
          refine cl_seq rfl ?_
          refine cl_reg rfl ?_
          refine st rfl rfl rfl rfl (x_ld rfl Tryd.isAgg4 (hdb.cell rfl)) ?_
          refine rl_end rfl ?_
          refine al_k ?_
          refine cl_if1 rfl rfl ?_
          refine cl_seq rfl ?_
          refine cl_reg rfl ?_
          refine st rfl rfl rfl rfl (x_ld rfl Tryd.isAgg23 (hpb.cell rfl)) ?_
          refine sc rfl rfl rfl rfl (c_fn rfl Tryd.call11 (len_r Q9 0)) ?_
          rintro _ w22 ⟨rfl, _, fr⟩
          replace F := F.trans fr
          refine st rfl rfl rfl rfl (x_move rfl) ?_
          refine st rfl rfl rfl rfl (x_len rfl Tryd.underlying40) ?_
          refine st rfl rfl rfl rfl (x_move rfl) ?_
          refine st rfl rfl rfl rfl (x_sub rfl rfl (by omega)) ?_
          refine st rfl rfl rfl rfl ((x_eql rfl rfl).b1 hlen2) ?_
          refine st rfl rfl rfl rfl (x_move rfl) ?_
          refine sc rfl rfl rfl rfl (c_fn rfl Tryd.call12 (alive_c _ (hG.fr F (by simp)))) ?_
          rintro _ w29 ⟨rfl, fr⟩
          replace F := F.trans fr
          refine st rfl rfl rfl rfl (x_pick1 rfl rfl) ?_
          refine st rfl rfl rfl rfl (x_asg rfl) ?_
          refine rl_end rfl ?_
          refine al_k ?_
          refine cl_ret rfl ?_
          refine fin1 rfl rfl ?_
          exact ⟨rfl, F⟩

theorem stops_false (w : World) (hG : Glb w) (A2 : Option Addr) (ln2 cp2 : Nat) (hln : ln2 ≤ 9223372036854775807) (hp : ∀ j : Nat, j < ln2 → ∃ (x : Addr) (z0 : Int) (z1 : Int) (z2 : Int), A2 = some x ∧ (∀ i v, [(.int .i64 z0 : Value), .int .i64 z1, .int .i64 z2][i]? = some v → w.cell? ((x.add (((j : Nat) : Int).toNat * 3)).add i) = some v) ∧ (Lit.int .i64 z0).wf = true ∧ (Lit.int .i64 z1).wf = true ∧ (Lit.int .i64 z2).wf = true) (most : Int) : Cl Tryd.prog 4 [.slice A2 ln2 cp2, .int .i64 most, .bool false] w (fun v w' => v = .bool true ∧ Fr [] w w') := by
  have F := Fr.refl [] w
  have hz0 : 0 < w.heap.size := Nat.lt_of_le_of_lt (Nat.zero_le _) (World.block_lt_of_cell? w _ (hG 0 _ rfl))
  refine enter Tryd.func4 rfl Tryd.ntmps4 rfl ?_
  refine cl_seq rfl ?_
  refine cl_reg rfl ?_
  refine se rfl rfl rfl rfl (e_new (x_box rfl rfl)) ?_
  rintro _ w0 ⟨rfl, hmb, fr, _⟩
  replace F := F.trans fr
  have zmb := hmb.lt
  generalize hqm : w.heap.size = mb at hmb zmb ⊢
  refine se rfl rfl rfl rfl (e_new (x_box rfl rfl)) ?_
  rintro _ w0b ⟨rfl, hdb, fr, _⟩
  replace F := F.trans fr
  replace hmb := hmb.fr0 fr
  have zdb := hdb.lt
  generalize hqd : w0.heap.size = db at hdb zdb ⊢
  refine st rfl rfl rfl rfl (x_asg rfl) ?_
  refine rl_end rfl ?_
  refine al_k ?_
  refine cl_seq rfl ?_
  refine cl_reg rfl ?_
  refine sc rfl rfl rfl rfl (c_fn rfl Tryd.call8 (new_r 10 2 (hG.fr F (by simp)) (by omega) (by omega))) ?_
  rintro _ w1 ⟨p, nb, hb, rfl, Q, g1, g2, g3, fr⟩
  have z1 : p < w1.heap.size ∧ nb < w1.heap.size ∧ hb < w1.heap.size := by obtain ⟨⟨x, L, _⟩, _⟩ := Q; exact ⟨L.top.lt, L.nod.lt, L.hed.lt⟩
  replace F := F.trans fr
  replace hmb := hmb.fr0 fr
  replace hdb := hdb.fr0 fr
  refine st rfl rfl rfl rfl (x_move rfl) ?_
  refine st rfl rfl rfl rfl (x_ext rfl rfl) ?_
  refine st rfl rfl rfl rfl (x_ext rfl rfl) ?_
  refine se rfl rfl rfl rfl (e_new (x_alloc Tryd.zeroValue23 rfl)) ?_
  rintro _ w1b ⟨rfl, hpb, fr, _⟩
  replace F := F.trans fr
  replace hmb := hmb.fr0 fr
  replace hdb := hdb.fr0 fr
  replace Q := Q.fr0 fr
  have zpb := hpb.lt
  generalize hqp : w1.heap.size = pb at hpb zpb ⊢
  refine sv rfl rfl rfl (v_1 rfl rfl rfl rfl Tryd.sizeOf23 hpb (by simp)) ?_
  rintro ws1 ⟨hpb2, fr2⟩
  replace hpb := hpb2
  dsimp only [List.set_cons_zero] at hpb
  have zs2 := fr2.size
  replace hmb := hmb.fr fr2 (by simp; omega)
  replace hdb := hdb.fr fr2 (by simp; omega)
  replace Q := Q.fr fr2 (by simp; omega) (by simp; omega) (by simp; omega) (by simp; omega)
  replace F := F.trans_new fr2 (by intro q hq; simp at hq; right; omega)
  refine st rfl rfl rfl rfl (x_asg rfl) ?_
  refine rl_end rfl ?_
  refine al_k ?_
  refine cl_seq rfl ?_
  refine cl_reg rfl ?_
  refine sc rfl rfl rfl rfl (c_fn rfl Tryd.call13 (rnew_c _ 10 2 (by omega) (by omega))) ?_
  rintro _ w2 ⟨rp, lb, rfl, R, fr⟩
  replace F := F.trans fr
  replace hmb := hmb.fr0 fr
  replace hdb := hdb.fr0 fr
  replace hpb := hpb.fr0 fr
  replace Q := Q.fr0 fr
  have hl0 := R.l0
  have hr0 := R.r0
  have hlB := R.lB
  have K : Bo w2 p nb hb ws1.heap.size w2.heap.size rp lb 10 2 (List.replicate 2 []) := ⟨Q, R, by omega, by omega, by omega⟩
  generalize hls : (List.replicate 2 [] : Rows) = ls0 at K
  have hS : ∀ q ∈ [nb, hb, lb], q ∈ ([] : List Nat) ∨ w.heap.size ≤ q := by intro q hq; simp at hq; right; omega
  have hne : (nb ≠ db ∧ nb ≠ pb ∧ nb ≠ mb ∧ hb ≠ db ∧ hb ≠ pb ∧ hb ≠ mb) ∧ (lb ≠ db ∧ lb ≠ pb ∧ lb ≠ mb) := by omega
  refine st rfl rfl rfl rfl (x_move rfl) ?_
  refine st rfl rfl rfl rfl (x_ext rfl rfl) ?_
  refine st rfl rfl rfl rfl (x_ext rfl rfl) ?_
  refine st rfl rfl rfl rfl (x_asg rfl) ?_
  refine st rfl rfl rfl rfl (x_asg rfl) ?_
  refine rl_end rfl ?_
  refine al_k ?_
  refine cl_seq rfl ?_
  refine cl_seq rfl ?_
  refine cl_reg rfl ?_
  refine st rfl rfl rfl rfl (x_move rfl) ?_
  refine st rfl rfl rfl rfl ((x_neq rfl rfl).b0 (by omega)) ?_
  refine st rfl rfl rfl rfl (x_move rfl) ?_
  refine st rfl rfl rfl rfl (x_ld rfl Tryd.isAgg23 (hpb.cell rfl)) ?_
  refine st rfl rfl rfl rfl (x_eqlp rfl rfl Tryd.underlying23) ?_
  refine st rfl rfl rfl rfl (x_pick0 rfl rfl) ?_
  refine rl_end rfl ?_
  refine al_k ?_
  refine cl_if0 rfl rfl ?_
  refine cl_skip rfl ?_
  refine al_k ?_
  refine cl_seq rfl ?_
  refine cl_seq rfl ?_
  refine cl_reg rfl ?_
  refine st rfl rfl rfl rfl (x_asg rfl) ?_
  refine rl_end rfl ?_
  refine al_k ?_
  refine cl_block rfl ?_
  refine cl_loop (fun s : Nat × Rows => [(11, .int .i64 s.1), (7, .pointer (some ⟨pb, 0, none⟩)), (5, .pointer (some ⟨db, 0, none⟩)), (4, .pointer (some ⟨mb, 0, none⟩)), (9, .pointer (some ⟨rp, 0, none⟩)), (0, .slice A2 ln2 cp2)]) (fun s w' => (s.1 ≤ ln2 ∧ s.1 ≤ 60) ∧ Bo w' p nb hb ws1.heap.size w2.heap.size rp lb 10 2 s.2 ∧ Blk w' mb 3 [.int .i64 most] ∧ Blk w' db 4 [.bool false] ∧ Blk w' pb 23 [.pointer (some ⟨p, 0, none⟩)] ∧ Fr [] w w') (fun s => ln2 + 60 - s.1) (0, ls0) rfl ⟨rfl, rfl, rfl, rfl, rfl, rfl, trivial⟩ ?_ ?_
  · exact ⟨⟨Nat.zero_le _, Nat.zero_le _⟩, K, hmb, hdb, hpb, F⟩
  · skip
    rintro ⟨i, ls⟩ wr ⟨⟨hi, hi6⟩, K, hmb, hdb, hpb, F⟩
    dsimp only at hi hi6 K ⊢
    refine cl_seq rfl ?_
    refine cl_seq rfl ?_
    refine cl_reg rfl ?_
    refine st rfl rfl rfl rfl (x_move rfl) ?_
    refine st rfl rfl rfl rfl (x_move rfl) ?_
    refine st rfl rfl rfl rfl (x_len rfl Tryd.underlying33) ?_
    refine sf rfl rfl rfl rfl (x_lss rfl rfl) (fun c6_3 => ?_) (fun c6_3 => ?_)
    · skip
      refine st rfl rfl rfl rfl (x_move rfl) ?_
      refine st rfl rfl rfl rfl (x_move rfl) ?_
      refine sf rfl rfl rfl rfl (x_lss rfl rfl) (fun c6_6 => ?_) (fun c6_6 => ?_)
      · skip
        refine st rfl rfl rfl rfl (x_pick1 rfl rfl) ?_
        refine rl_end rfl ?_
        refine al_k ?_
        refine cl_if1 rfl rfl ?_
        refine cl_skip rfl ?_
        refine al_k ?_
        refine cl_seq rfl ?_
        refine cl_block rfl ?_
        refine cl_seq rfl ?_
        obtain ⟨x2, kd, li, nd, rfl, hc, _, _, _⟩ := hp i (by omega)
        replace hc : ∀ q v, [(.int .i64 kd : Value), .int .i64 li, .int .i64 nd][q]? = some v → World.cell? wr ((x2.add (((i : Nat) : Int).toNat * 3)).add q) = some v := fun q v h => F.cell (hc q v h) (by simp)
        refine cl_draw (by kernel_rfl) rfl [6] (fun w' => w'.heap = wr.heap) ?_
        rintro wd8 frd8 hpd8
        refine ⟨hpd8, ?_⟩
        refine dl (i := 0) rfl rfl rfl rfl (by kernel_rfl) (by kernel_rfl) (fun w' hU => x_ld rfl Tryd.isAgg23 (heq hU (hpb.cell rfl))) ?_
        refine dt (i := 1) rfl rfl rfl rfl (by kernel_rfl) (fun _ => x_move rfl) ?_
        refine dt (i := 2) rfl rfl rfl rfl (by kernel_rfl) (fun _ => x_move rfl) ?_
        refine dt (i := 3) rfl rfl rfl rfl (by kernel_rfl) (fun _ => x_move rfl) ?_
        refine dt (i := 4) rfl rfl rfl rfl (by kernel_rfl) (fun _ => x_iag rfl rfl Tryd.underlying33 Tryd.sizeOf39 (by omega)) ?_
        refine dl (i := 5) rfl rfl rfl rfl (by kernel_rfl) (by kernel_rfl) (fun w' hU => x_ldg (cs := [.int .i64 kd, .int .i64 li, .int .i64 nd]) rfl Tryd.isAgg39 Tryd.sizeOf39 rfl (fun j v h => heq hU (hc j v h))) ?_
        replace F := F.trans frd8
        replace hmb := hmb.fr0 frd8
        replace hdb := hdb.fr0 frd8
        replace hpb := hpb.fr0 frd8
        replace K := K.fr0 frd8
        refine d1 (i := 6) (by kernel_rfl) ?_
        refine oc rfl rfl rfl rfl (c_fn rfl Tryd.call14 (do_c _ p nb hb _ _ rp lb 10 2 ls K kd li nd)) ?_
        rintro _ w4 ⟨rfl, K, fr⟩
        replace F := F.trans_new fr hS
        replace hmb := hmb.fr fr (by simp; omega)
        replace hdb := hdb.fr fr (by simp; omega)
        replace hpb := hpb.fr fr (by simp; omega)
        refine ⟨.inl (by kernel_rfl), ?_⟩
        refine dt (i := 7) rfl rfl rfl rfl (by kernel_rfl) (fun _ => x_not1 rfl) ?_
        refine dn (by kernel_rfl) ?_
        refine al_k ?_
        refine cl_if0 rfl rfl ?_
        refine cl_skip rfl ?_
        refine al_k ?_
        refine cl_reg rfl ?_
        refine st rfl rfl rfl rfl (x_move rfl) ?_
        refine st rfl rfl rfl rfl (x_add rfl rfl (by omega)) ?_
        refine st rfl rfl rfl rfl (x_asg rfl) ?_
        refine rl_end rfl ?_
        refine again (i + 1, _) (show ln2 + 60 - (i + 1) < ln2 + 60 - i by omega) ⟨rfl, rfl, rfl, rfl, rfl, rfl, trivial⟩ ⟨⟨by dsimp only; omega, by dsimp only; omega⟩, K, hmb, hdb, hpb, F⟩
      · skip
        refine st rfl rfl rfl rfl (x_pick1 rfl rfl) ?_
        refine rl_end rfl ?_
        refine al_k ?_
        refine cl_if0 rfl rfl ?_
        refine cl_exit rfl ?_
        refine upd_self ?_
        refine al_k ?_
        refine cl_seq rfl ?_
        have hlen := K.len
        obtain ⟨xs, hxs⟩ : ∃ l, ls[0]? = some l := ⟨_, List.getElem?_eq_getElem (by omega)⟩
        have hall : aAll ls 0 = xs := by unfold aAll; rw [if_pos (show okL ls 0 from ⟨by omega, by omega⟩)]; exact rowAt_nat (i := 0) hxs
        have hxl : xs.length ≤ 10 := by rw [← hall]; exact K.hA _
        have hnd2 := K.hN _ _ hxs
        have hrg : ∀ q ∈ xs, 0 ≤ q ∧ q < ((10 : Nat) : Int) := fun q hq => (K.of hxs hq).2
        refine cl_reg rfl ?_
        refine st rfl rfl rfl rfl (x_move rfl) ?_
        refine sc rfl rfl rfl rfl (c_fn rfl Tryd.call15 (rall_c _ _ _ rp lb 10 ls K.R 0)) ?_
        rintro v1 wk ⟨hv, hwk⟩
        obtain rfl := hwk.symm
        rw [hall] at hv
        obtain ⟨A0, c0, rfl, ⟨hA, hcap⟩, hrow⟩ := hv
        have hw := RowW.of hrow
        have zZ : wr.heap.size ≤ wr.heap.size := Nat.le_refl _
        have sB := K.R.sB
        generalize hZ : wr.heap.size = Z at hw sB zZ
        replace zZ : Z ≤ wr.heap.size := by omega
        refine st rfl rfl rfl rfl (x_asg rfl) ?_
        refine rl_end rfl ?_
        refine al_k ?_
        refine cl_seq rfl ?_
        refine cl_seq rfl ?_
        refine cl_reg rfl ?_
        refine st rfl rfl rfl rfl (x_ld rfl Tryd.isAgg3 (hmb.cell rfl)) ?_
        refine sf rfl rfl rfl rfl (x_lss rfl rfl) (fun c11_1 => ?_) (fun c11_1 => ?_)
        · skip
          refine st rfl rfl rfl rfl (x_move rfl) ?_
          refine so rfl rfl rfl rfl ?_
          refine so rfl rfl rfl rfl ?_
          refine st rfl rfl rfl rfl (x_pick1 rfl rfl) ?_
          refine rl_end rfl ?_
          refine al_k ?_
          refine cl_if1 rfl rfl ?_
          refine cl_reg rfl ?_
          refine sv rfl rfl rfl (v_1 rfl rfl rfl rfl Tryd.sizeOf3 hmb (by simp)) ?_
          rintro ws12 ⟨hmb2, fr2⟩
          replace hmb := hmb2
          dsimp only [List.set_cons_zero] at hmb
          replace hdb := hdb.fr fr2 (by simp; omega)
          replace hpb := hpb.fr fr2 (by simp; omega)
          replace hw := hw.fr fr2 (by intro q hq; simp at hq; omega)
          replace zZ := Nat.le_trans zZ fr2.size
          replace K := K.ofR (K.Q.fr fr2 (by simp; omega) (by simp; omega) (by simp; omega) (by simp; omega)) (K.R.fr fr2 (by intro q hq; simp at hq; omega))
          replace F := F.trans_new fr2 (by intro q hq; simp at hq; right; omega)
          refine rl_end rfl ?_
          refine al_k ?_
          refine cl_seq rfl ?_
          obtain ⟨mo, hmb, hmo⟩ : ∃ mo : Int, Blk ws12 mb 3 [.int .i64 mo] ∧ 1 ≤ mo ∧ mo ≤ 10 := ⟨_, hmb, by omega⟩
          refine cl_reg rfl ?_
          refine st rfl rfl rfl rfl (x_ld rfl Tryd.isAgg23 (hpb.cell rfl)) ?_
          refine sc rfl rfl rfl rfl (c_fn rfl Tryd.call16 (All_c _ (some ⟨p, 0, none⟩) 0)) ?_
          rintro _ w13 ⟨c1_, c2, c3, rfl, hc1, hc2, hc3, _, _, _, fr⟩
          replace F := F.trans fr
          replace hmb := hmb.fr0 fr
          replace hdb := hdb.fr0 fr
          replace hpb := hpb.fr0 fr
          replace K := K.fr0 fr
          replace hw := hw.fr0 fr
          replace zZ := Nat.le_trans zZ fr.size
          refine st rfl rfl rfl rfl (x_asg rfl) ?_
          refine rl_end rfl ?_
          refine al_k ?_
          refine cl_seq rfl ?_
          refine cl_seq rfl ?_
          refine cl_reg rfl ?_
          refine st rfl rfl rfl rfl (x_move rfl) ?_
          refine st rfl rfl rfl rfl (x_eqlf rfl rfl Tryd.underlying42) ?_
          refine rl_end rfl ?_
          refine al_k ?_
          refine cl_if0 rfl rfl ?_
          refine cl_skip rfl ?_
          refine al_k ?_
          refine cl_seq rfl ?_
          have zK := K.lts
          have l1 := hmb.lt
          have l2 := hdb.lt
          have l3 := hpb.lt
          refine cl_reg rfl ?_
          refine se rfl rfl rfl rfl (e_new (x_alloc Tryd.zeroValue40 rfl)) ?_
          rintro _ w16 ⟨rfl, hgb, fr, _⟩
          have gF := F.size
          replace F := F.trans fr
          replace hmb := hmb.fr0 fr
          replace hdb := hdb.fr0 fr
          replace hpb := hpb.fr0 fr
          replace K := K.fr0 fr
          replace hw := hw.fr0 fr
          replace hc1 := hc1.fr0 fr
          replace hc2 := hc2.fr0 fr
          replace hc3 := hc3.fr0 fr
          have zgb := hgb.lt
          generalize hqg : w13.heap.size = gb at hgb zgb ⊢
          have ztop : gb < w16.heap.size ∧ db < w16.heap.size ∧ pb < w16.heap.size ∧ mb < w16.heap.size ∧ p < w16.heap.size ∧ nb < w16.heap.size ∧ hb < w16.heap.size := by omega
          refine rl_end rfl ?_
          refine al_k ?_
          refine cl_seq rfl ?_
          refine cl_reg rfl ?_
          refine st rfl rfl rfl rfl (x_move rfl) ?_
          refine st rfl rfl rfl rfl (x_mkf rfl rfl) ?_
          refine sc rfl rfl rfl rfl (c_fv rfl rfl Tryd.call49 (told1_c _ (some ⟨p, 0, none⟩) 0 false c1_ c2 c3 hc1 hc2 hc3 xs (by omega) (fun w1 fr => by
                have := row_r (K.Q.fr0 fr) 0
                rw [hall] at this
                exact this.mono (fun v w2 h => ⟨h.1, h.2.2⟩)) 17 [] [.pointer (some ⟨gb, 0, none⟩), .pointer (some ⟨db, 0, none⟩), .pointer (some ⟨pb, 0, none⟩), .pointer (some ⟨mb, 0, none⟩)] Tryd.call17 (fun d => decide ((d.length : Int) < mo)) (fun ws done w1 => ∃ v, Blk w1 gb 40 [v] ∧ w1.ownsRow ws.heap.size 3 1 v done.length (ints done) ∧ LsR w1 p nb hb 10 2 (ls) ∧ Blk w1 pb 23 [.pointer (some ⟨p, 0, none⟩)] ∧ Blk w1 db 4 [.bool false] ∧ Blk w1 mb 3 [.int .i64 mo] ∧ Fr [gb, nb, hb] ws w1) [gb, nb, hb] (by intro q hq; simp at hq; omega) (fun ws fr => ⟨_, hgb.fr0 fr, own_nil _ _ _, K.Q.fr0 fr, hpb.fr0 fr, hdb.fr0 fr, hmb.fr0 fr, Fr.refl _ _⟩) (fun ws done w1 h => by
                obtain ⟨_, _, _, _, _, _, _, F⟩ := h
                exact F) (fun ws k z w1 fr hz h => by
                obtain ⟨v, hv, HO, Q, hpb, hdb, hmb, F1⟩ := h
                have hkl := (List.getElem?_eq_some_iff.1 hz).1
                have e : (xs.take k).length = k := by rw [List.length_take]; omega
                have e2 : xs.take (k + 1) = xs.take k ++ [z] := by rw [List.take_add_one, hz]; rfl
                have hs := fr.size
                refine (stop1_false ws w1 gb db pb mb p nb hb ls mo z (xs.take k) v hv HO Q hpb hdb hmb F1 (by omega) (by omega) (by omega) hne.1).mono ?_
                rintro r w' ⟨v', rfl, hv', HO', Q', hpb', hdb', hmb', F'⟩
                rw [e2]
                exact ⟨rfl, v', hv', HO', Q', hpb', hdb', hmb', F'⟩))) ?_
          rintro _ w17 ⟨rfl, ws, kk, F1, hst, v9, hgb, HO9, Q9, hpb, hdb, hmb, F9⟩
          -- told
          have s1 := F1.size
          have hk := stop_at hmo.1 hst
          replace hw := (hw.fr0 F1).fr F9 (by intro q hq; simp at hq; omega)
          replace F := (F.trans F1).trans_new F9 (by intro q hq; simp at hq; right; omega)
          obtain ⟨A9, c9, rfl, _⟩ := own_slice HO9
          clear K hc1 hc2 hc3
          have hlen2 : aLen ls 0 = (xs.length : Int) := aLen_of hxs
          refine rl_end rfl ?_
          refine al_k ?_
          refine cl_seq rfl ?_
          refine cl_reg rfl ?_
          refine st rfl rfl rfl rfl (x_move rfl) ?_
          refine st rfl rfl rfl rfl (x_len rfl Tryd.underlying40) ?_
          refine st rfl rfl rfl rfl (x_ld rfl Tryd.isAgg3 (hmb.cell rfl)) ?_
          refine st rfl rfl rfl rfl (x_min rfl rfl) ?_
          rw [← hk]
          have hkl := hst.1
          refine st rfl rfl rfl rfl (x_asg rfl) ?_
          refine rl_end rfl ?_
          refine al_k ?_
          refine cl_seq rfl ?_
          refine cl_seq rfl ?_
          refine cl_draw (by kernel_rfl) rfl [4] (fun w' => w'.heap = w17.heap) ?_
          rintro wd19 frd19 hpd19
          refine ⟨hpd19, ?_⟩
          refine dl (i := 0) rfl rfl rfl rfl (by kernel_rfl) (by kernel_rfl) (fun w' hU => x_ld rfl Tryd.isAgg40 (heq hU (hgb.cell rfl))) ?_
          refine dt (i := 1) rfl rfl rfl rfl (by kernel_rfl) (fun _ => x_move rfl) ?_
          refine dt (i := 2) rfl rfl rfl rfl (by kernel_rfl) (fun _ => x_move rfl) ?_
          refine dt (i := 3) rfl rfl rfl rfl (by kernel_rfl) (fun _ => x_slh rfl rfl Tryd.underlying40 Tryd.sizeOf3 (by have := hst.1; omega)) ?_
          replace F := F.trans frd19
          replace hmb := hmb.fr0 frd19
          replace hdb := hdb.fr0 frd19
          replace hpb := hpb.fr0 frd19
          replace hw := hw.fr0 frd19
          replace hgb := hgb.fr0 frd19
          replace Q9 := Q9.fr0 frd19
          replace HO9 := own_fr0 HO9 frd19
          refine d1 (i := 4) (by kernel_rfl) ?_
          refine oc rfl rfl rfl rfl (c_fn rfl Tryd.call19 ((same_c _ _ _ _ _ (SlI.own HO9 (by rw [List.length_take]; omega)) (hw.slI c0 kk hst.1 (by omega))).mono (R' := fun v w' => v = .bool true ∧ Fr [] _ w') (fun v w' h => ⟨h.1.trans (congrArg _ (decide_eq_true rfl)), h.2⟩))) ?_
          rintro _ w19 ⟨rfl, fr⟩
          replace F := F.trans fr
          replace hmb := hmb.fr0 fr
          replace hdb := hdb.fr0 fr
          replace hpb := hpb.fr0 fr
          replace Q9 := Q9.fr0 fr
          refine ⟨.inl (by kernel_rfl), ?_⟩
          refine dt (i := 5) rfl rfl rfl rfl (by kernel_rfl) (fun _ => x_not1 rfl) ?_
          refine dn (by kernel_rfl) ?_
          refine al_k ?_
          refine cl_if0 rfl rfl ?_
          refine cl_skip rfl ?_
          refine al_k ?_
          refine cl_seq rfl ?_
          refine cl_seq rfl ?_
          refine cl_reg rfl ?_
          refine st rfl rfl rfl rfl (x_ld rfl Tryd.isAgg4 (hdb.cell rfl)) ?_
          refine rl_end rfl ?_
          refine al_k ?_
          refine cl_if0 rfl rfl ?_
          refine cl_skip rfl ?_
          refine al_k ?_
          refine cl_seq rfl ?_
          refine cl_reg rfl ?_
          refine st rfl rfl rfl rfl (x_ld rfl Tryd.isAgg23 (hpb.cell rfl)) ?_
          refine sc rfl rfl rfl rfl (c_fn rfl Tryd.call11 (len_r Q9 0)) ?_
          rintro _ w22 ⟨rfl, _, fr⟩
          replace F := F.trans fr
          refine st rfl rfl rfl rfl (x_move rfl) ?_
          refine st rfl rfl rfl rfl (x_len rfl Tryd.underlying40) ?_
          refine st rfl rfl rfl rfl ((x_eql rfl rfl).b1 hlen2) ?_
          refine st rfl rfl rfl rfl (x_move rfl) ?_
          refine sc rfl rfl rfl rfl (c_fn rfl Tryd.call12 (alive_c _ (hG.fr F (by simp)))) ?_
          rintro _ w29 ⟨rfl, fr⟩
          replace F := F.trans fr
          refine st rfl rfl rfl rfl (x_pick1 rfl rfl) ?_
          refine st rfl rfl rfl rfl (x_asg rfl) ?_
          refine rl_end rfl ?_
          refine al_k ?_
          refine cl_ret rfl ?_
          refine fin1 rfl rfl ?_
          exact ⟨rfl, F⟩
        · skip
          refine st rfl rfl rfl rfl (x_move rfl) ?_
          refine st rfl rfl rfl rfl (x_ld rfl Tryd.isAgg3 (hmb.cell rfl)) ?_
          refine sf rfl rfl rfl rfl (x_gtr rfl rfl) (fun c11_4 => ?_) (fun c11_4 => ?_)
          · skip
            refine st rfl rfl rfl rfl (x_pick0 rfl rfl) ?_
            refine rl_end rfl ?_
            refine al_k ?_
            refine cl_if1 rfl rfl ?_
            refine cl_reg rfl ?_
            refine sv rfl rfl rfl (v_1 rfl rfl rfl rfl Tryd.sizeOf3 hmb (by simp)) ?_
            rintro ws12 ⟨hmb2, fr2⟩
            replace hmb := hmb2
            dsimp only [List.set_cons_zero] at hmb
            replace hdb := hdb.fr fr2 (by simp; omega)
            replace hpb := hpb.fr fr2 (by simp; omega)
            replace hw := hw.fr fr2 (by intro q hq; simp at hq; omega)
            replace zZ := Nat.le_trans zZ fr2.size
            replace K := K.ofR (K.Q.fr fr2 (by simp; omega) (by simp; omega) (by simp; omega) (by simp; omega)) (K.R.fr fr2 (by intro q hq; simp at hq; omega))
            replace F := F.trans_new fr2 (by intro q hq; simp at hq; right; omega)
            refine rl_end rfl ?_
            refine al_k ?_
            refine cl_seq rfl ?_
            obtain ⟨mo, hmb, hmo⟩ : ∃ mo : Int, Blk ws12 mb 3 [.int .i64 mo] ∧ 1 ≤ mo ∧ mo ≤ 10 := ⟨_, hmb, by omega⟩
            refine cl_reg rfl ?_
            refine st rfl rfl rfl rfl (x_ld rfl Tryd.isAgg23 (hpb.cell rfl)) ?_
            refine sc rfl rfl rfl rfl (c_fn rfl Tryd.call16 (All_c _ (some ⟨p, 0, none⟩) 0)) ?_
            rintro _ w13 ⟨c1_, c2, c3, rfl, hc1, hc2, hc3, _, _, _, fr⟩
            replace F := F.trans fr
            replace hmb := hmb.fr0 fr
            replace hdb := hdb.fr0 fr
            replace hpb := hpb.fr0 fr
            replace K := K.fr0 fr
            replace hw := hw.fr0 fr
            replace zZ := Nat.le_trans zZ fr.size
            refine st rfl rfl rfl rfl (x_asg rfl) ?_
            refine rl_end rfl ?_
            refine al_k ?_
            refine cl_seq rfl ?_
            refine cl_seq rfl ?_
            refine cl_reg rfl ?_
            refine st rfl rfl rfl rfl (x_move rfl) ?_
            refine st rfl rfl rfl rfl (x_eqlf rfl rfl Tryd.underlying42) ?_
            refine rl_end rfl ?_
            refine al_k ?_
            refine cl_if0 rfl rfl ?_
            refine cl_skip rfl ?_
            refine al_k ?_
            refine cl_seq rfl ?_
            have zK := K.lts
            have l1 := hmb.lt
            have l2 := hdb.lt
            have l3 := hpb.lt
            refine cl_reg rfl ?_
            refine se rfl rfl rfl rfl (e_new (x_alloc Tryd.zeroValue40 rfl)) ?_
            rintro _ w16 ⟨rfl, hgb, fr, _⟩
            have gF := F.size
            replace F := F.trans fr
            replace hmb := hmb.fr0 fr
            replace hdb := hdb.fr0 fr
            replace hpb := hpb.fr0 fr
            replace K := K.fr0 fr
            replace hw := hw.fr0 fr
            replace hc1 := hc1.fr0 fr
            replace hc2 := hc2.fr0 fr
            replace hc3 := hc3.fr0 fr
            have zgb := hgb.lt
            generalize hqg : w13.heap.size = gb at hgb zgb ⊢
            have ztop : gb < w16.heap.size ∧ db < w16.heap.size ∧ pb < w16.heap.size ∧ mb < w16.heap.size ∧ p < w16.heap.size ∧ nb < w16.heap.size ∧ hb < w16.heap.size := by omega
            refine rl_end rfl ?_
            refine al_k ?_
            refine cl_seq rfl ?_
            refine cl_reg rfl ?_
            refine st rfl rfl rfl rfl (x_move rfl) ?_
            refine st rfl rfl rfl rfl (x_mkf rfl rfl) ?_
            refine sc rfl rfl rfl rfl (c_fv rfl rfl Tryd.call49 (told1_c _ (some ⟨p, 0, none⟩) 0 false c1_ c2 c3 hc1 hc2 hc3 xs (by omega) (fun w1 fr => by
                  have := row_r (K.Q.fr0 fr) 0
                  rw [hall] at this
                  exact this.mono (fun v w2 h => ⟨h.1, h.2.2⟩)) 17 [] [.pointer (some ⟨gb, 0, none⟩), .pointer (some ⟨db, 0, none⟩), .pointer (some ⟨pb, 0, none⟩), .pointer (some ⟨mb, 0, none⟩)] Tryd.call17 (fun d => decide ((d.length : Int) < mo)) (fun ws done w1 => ∃ v, Blk w1 gb 40 [v] ∧ w1.ownsRow ws.heap.size 3 1 v done.length (ints done) ∧ LsR w1 p nb hb 10 2 (ls) ∧ Blk w1 pb 23 [.pointer (some ⟨p, 0, none⟩)] ∧ Blk w1 db 4 [.bool false] ∧ Blk w1 mb 3 [.int .i64 mo] ∧ Fr [gb, nb, hb] ws w1) [gb, nb, hb] (by intro q hq; simp at hq; omega) (fun ws fr => ⟨_, hgb.fr0 fr, own_nil _ _ _, K.Q.fr0 fr, hpb.fr0 fr, hdb.fr0 fr, hmb.fr0 fr, Fr.refl _ _⟩) (fun ws done w1 h => by
                  obtain ⟨_, _, _, _, _, _, _, F⟩ := h
                  exact F) (fun ws k z w1 fr hz h => by
                  obtain ⟨v, hv, HO, Q, hpb, hdb, hmb, F1⟩ := h
                  have hkl := (List.getElem?_eq_some_iff.1 hz).1
                  have e : (xs.take k).length = k := by rw [List.length_take]; omega
                  have e2 : xs.take (k + 1) = xs.take k ++ [z] := by rw [List.take_add_one, hz]; rfl
                  have hs := fr.size
                  refine (stop1_false ws w1 gb db pb mb p nb hb ls mo z (xs.take k) v hv HO Q hpb hdb hmb F1 (by omega) (by omega) (by omega) hne.1).mono ?_
                  rintro r w' ⟨v', rfl, hv', HO', Q', hpb', hdb', hmb', F'⟩
                  rw [e2]
                  exact ⟨rfl, v', hv', HO', Q', hpb', hdb', hmb', F'⟩))) ?_
            rintro _ w17 ⟨rfl, ws, kk, F1, hst, v9, hgb, HO9, Q9, hpb, hdb, hmb, F9⟩
            -- told
            have s1 := F1.size
            have hk := stop_at hmo.1 hst
            replace hw := (hw.fr0 F1).fr F9 (by intro q hq; simp at hq; omega)
            replace F := (F.trans F1).trans_new F9 (by intro q hq; simp at hq; right; omega)
            obtain ⟨A9, c9, rfl, _⟩ := own_slice HO9
            clear K hc1 hc2 hc3
            have hlen2 : aLen ls 0 = (xs.length : Int) := aLen_of hxs
            refine rl_end rfl ?_
            refine al_k ?_
            refine cl_seq rfl ?_
            refine cl_reg rfl ?_
            refine st rfl rfl rfl rfl (x_move rfl) ?_
            refine st rfl rfl rfl rfl (x_len rfl Tryd.underlying40) ?_
            refine st rfl rfl rfl rfl (x_ld rfl Tryd.isAgg3 (hmb.cell rfl)) ?_
            refine st rfl rfl rfl rfl (x_min rfl rfl) ?_
            rw [← hk]
            have hkl := hst.1
            refine st rfl rfl rfl rfl (x_asg rfl) ?_
            refine rl_end rfl ?_
            refine al_k ?_
            refine cl_seq rfl ?_
            refine cl_seq rfl ?_
            refine cl_draw (by kernel_rfl) rfl [4] (fun w' => w'.heap = w17.heap) ?_
            rintro wd19 frd19 hpd19
            refine ⟨hpd19, ?_⟩
            refine dl (i := 0) rfl rfl rfl rfl (by kernel_rfl) (by kernel_rfl) (fun w' hU => x_ld rfl Tryd.isAgg40 (heq hU (hgb.cell rfl))) ?_
            refine dt (i := 1) rfl rfl rfl rfl (by kernel_rfl) (fun _ => x_move rfl) ?_
            refine dt (i := 2) rfl rfl rfl rfl (by kernel_rfl) (fun _ => x_move rfl) ?_
            refine dt (i := 3) rfl rfl rfl rfl (by kernel_rfl) (fun _ => x_slh rfl rfl Tryd.underlying40 Tryd.sizeOf3 (by have := hst.1; omega)) ?_
            replace F := F.trans frd19
            replace hmb := hmb.fr0 frd19
            replace hdb := hdb.fr0 frd19
            replace hpb := hpb.fr0 frd19
            replace hw := hw.fr0 frd19
            replace hgb := hgb.fr0 frd19
            replace Q9 := Q9.fr0 frd19
            replace HO9 := own_fr0 HO9 frd19
            refine d1 (i := 4) (by kernel_rfl) ?_
            refine oc rfl rfl rfl rfl (c_fn rfl Tryd.call19 ((same_c _ _ _ _ _ (SlI.own HO9 (by rw [List.length_take]; omega)) (hw.slI c0 kk hst.1 (by omega))).mono (R' := fun v w' => v = .bool true ∧ Fr [] _ w') (fun v w' h => ⟨h.1.trans (congrArg _ (decide_eq_true rfl)), h.2⟩))) ?_
            rintro _ w19 ⟨rfl, fr⟩
            replace F := F.trans fr
            replace hmb := hmb.fr0 fr
            replace hdb := hdb.fr0 fr
            replace hpb := hpb.fr0 fr
            replace Q9 := Q9.fr0 fr
            refine ⟨.inl (by kernel_rfl), ?_⟩
            refine dt (i := 5) rfl rfl rfl rfl (by kernel_rfl) (fun _ => x_not1 rfl) ?_
            refine dn (by kernel_rfl) ?_
            refine al_k ?_
            refine cl_if0 rfl rfl ?_
            refine cl_skip rfl ?_
            refine al_k ?_
            refine cl_seq rfl ?_
            refine cl_seq rfl ?_
            refine cl_reg rfl ?_
            refine st rfl rfl rfl rfl (x_ld rfl Tryd.isAgg4 (hdb.cell rfl)) ?_
            refine rl_end rfl ?_
            refine al_k ?_
            refine cl_if0 rfl rfl ?_
            refine cl_skip rfl ?_
            refine al_k ?_
            refine cl_seq rfl ?_
            refine cl_reg rfl ?_
            refine st rfl rfl rfl rfl (x_ld rfl Tryd.isAgg23 (hpb.cell rfl)) ?_
            refine sc rfl rfl rfl rfl (c_fn rfl Tryd.call11 (len_r Q9 0)) ?_
            rintro _ w22 ⟨rfl, _, fr⟩
            replace F := F.trans fr
            refine st rfl rfl rfl rfl (x_move rfl) ?_
            refine st rfl rfl rfl rfl (x_len rfl Tryd.underlying40) ?_
            refine st rfl rfl rfl rfl ((x_eql rfl rfl).b1 hlen2) ?_
            refine st rfl rfl rfl rfl (x_move rfl) ?_
            refine sc rfl rfl rfl rfl (c_fn rfl Tryd.call12 (alive_c _ (hG.fr F (by simp)))) ?_
            rintro _ w29 ⟨rfl, fr⟩
            replace F := F.trans fr
            refine st rfl rfl rfl rfl (x_pick1 rfl rfl) ?_
            refine st rfl rfl rfl rfl (x_asg rfl) ?_
            refine rl_end rfl ?_
            refine al_k ?_
            refine cl_ret rfl ?_
            refine fin1 rfl rfl ?_
            exact ⟨rfl, F⟩
          · skip
            refine st rfl rfl rfl rfl (x_pick0 rfl rfl) ?_
            refine rl_end rfl ?_
            refine al_k ?_
            refine cl_if0 rfl rfl ?_
            refine cl_skip rfl ?_
            refine al_k ?_
            refine cl_seq rfl ?_
            obtain ⟨mo, hmb, hmo⟩ : ∃ mo : Int, Blk wr mb 3 [.int .i64 mo] ∧ 1 ≤ mo ∧ mo ≤ 10 := ⟨_, hmb, by omega⟩
            refine cl_reg rfl ?_
            refine st rfl rfl rfl rfl (x_ld rfl Tryd.isAgg23 (hpb.cell rfl)) ?_
            refine sc rfl rfl rfl rfl (c_fn rfl Tryd.call16 (All_c _ (some ⟨p, 0, none⟩) 0)) ?_
            rintro _ w13 ⟨c1_, c2, c3, rfl, hc1, hc2, hc3, _, _, _, fr⟩
            replace F := F.trans fr
            replace hmb := hmb.fr0 fr
            replace hdb := hdb.fr0 fr
            replace hpb := hpb.fr0 fr
            replace K := K.fr0 fr
            replace hw := hw.fr0 fr
            replace zZ := Nat.le_trans zZ fr.size
            refine st rfl rfl rfl rfl (x_asg rfl) ?_
            refine rl_end rfl ?_
            refine al_k ?_
            refine cl_seq rfl ?_
            refine cl_seq rfl ?_
            refine cl_reg rfl ?_
            refine st rfl rfl rfl rfl (x_move rfl) ?_
            refine st rfl rfl rfl rfl (x_eqlf rfl rfl Tryd.underlying42) ?_
            refine rl_end rfl ?_
            refine al_k ?_
            refine cl_if0 rfl rfl ?_
            refine cl_skip rfl ?_
            refine al_k ?_
            refine cl_seq rfl ?_
            have zK := K.lts
            have l1 := hmb.lt
            have l2 := hdb.lt
            have l3 := hpb.lt
            refine cl_reg rfl ?_
            refine se rfl rfl rfl rfl (e_new (x_alloc Tryd.zeroValue40 rfl)) ?_
            rintro _ w16 ⟨rfl, hgb, fr, _⟩
            have gF := F.size
            replace F := F.trans fr
            replace hmb := hmb.fr0 fr
            replace hdb := hdb.fr0 fr
            replace hpb := hpb.fr0 fr
            replace K := K.fr0 fr
            replace hw := hw.fr0 fr
            replace hc1 := hc1.fr0 fr
            replace hc2 := hc2.fr0 fr
            replace hc3 := hc3.fr0 fr
            have zgb := hgb.lt
            generalize hqg : w13.heap.size = gb at hgb zgb ⊢
            have ztop : gb < w16.heap.size ∧ db < w16.heap.size ∧ pb < w16.heap.size ∧ mb < w16.heap.size ∧ p < w16.heap.size ∧ nb < w16.heap.size ∧ hb < w16.heap.size := by omega
            refine rl_end rfl ?_
            refine al_k ?_
            refine cl_seq rfl ?_
            refine cl_reg rfl ?_
            refine st rfl rfl rfl rfl (x_move rfl) ?_
            refine st rfl rfl rfl rfl (x_mkf rfl rfl) ?_
            refine sc rfl rfl rfl rfl (c_fv rfl rfl Tryd.call49 (told1_c _ (some ⟨p, 0, none⟩) 0 false c1_ c2 c3 hc1 hc2 hc3 xs (by omega) (fun w1 fr => by
                  have := row_r (K.Q.fr0 fr) 0
                  rw [hall] at this
                  exact this.mono (fun v w2 h => ⟨h.1, h.2.2⟩)) 17 [] [.pointer (some ⟨gb, 0, none⟩), .pointer (some ⟨db, 0, none⟩), .pointer (some ⟨pb, 0, none⟩), .pointer (some ⟨mb, 0, none⟩)] Tryd.call17 (fun d => decide ((d.length : Int) < mo)) (fun ws done w1 => ∃ v, Blk w1 gb 40 [v] ∧ w1.ownsRow ws.heap.size 3 1 v done.length (ints done) ∧ LsR w1 p nb hb 10 2 (ls) ∧ Blk w1 pb 23 [.pointer (some ⟨p, 0, none⟩)] ∧ Blk w1 db 4 [.bool false] ∧ Blk w1 mb 3 [.int .i64 mo] ∧ Fr [gb, nb, hb] ws w1) [gb, nb, hb] (by intro q hq; simp at hq; omega) (fun ws fr => ⟨_, hgb.fr0 fr, own_nil _ _ _, K.Q.fr0 fr, hpb.fr0 fr, hdb.fr0 fr, hmb.fr0 fr, Fr.refl _ _⟩) (fun ws done w1 h => by
                  obtain ⟨_, _, _, _, _, _, _, F⟩ := h
                  exact F) (fun ws k z w1 fr hz h => by
                  obtain ⟨v, hv, HO, Q, hpb, hdb, hmb, F1⟩ := h
                  have hkl := (List.getElem?_eq_some_iff.1 hz).1
                  have e : (xs.take k).length = k := by rw [List.length_take]; omega
                  have e2 : xs.take (k + 1) = xs.take k ++ [z] := by rw [List.take_add_one, hz]; rfl
                  have hs := fr.size
                  refine (stop1_false ws w1 gb db pb mb p nb hb ls mo z (xs.take k) v hv HO Q hpb hdb hmb F1 (by omega) (by omega) (by omega) hne.1).mono ?_
                  rintro r w' ⟨v', rfl, hv', HO', Q', hpb', hdb', hmb', F'⟩
                  rw [e2]
                  exact ⟨rfl, v', hv', HO', Q', hpb', hdb', hmb', F'⟩))) ?_
            rintro _ w17 ⟨rfl, ws, kk, F1, hst, v9, hgb, HO9, Q9, hpb, hdb, hmb, F9⟩
            -- told
            have s1 := F1.size
            have hk := stop_at hmo.1 hst
            replace hw := (hw.fr0 F1).fr F9 (by intro q hq; simp at hq; omega)
            replace F := (F.trans F1).trans_new F9 (by intro q hq; simp at hq; right; omega)
            obtain ⟨A9, c9, rfl, _⟩ := own_slice HO9
            clear K hc1 hc2 hc3
            have hlen2 : aLen ls 0 = (xs.length : Int) := aLen_of hxs
            refine rl_end rfl ?_
            refine al_k ?_
            refine cl_seq rfl ?_
            refine cl_reg rfl ?_
            refine st rfl rfl rfl rfl (x_move rfl) ?_
            refine st rfl rfl rfl rfl (x_len rfl Tryd.underlying40) ?_
            refine st rfl rfl rfl rfl (x_ld rfl Tryd.isAgg3 (hmb.cell rfl)) ?_
            refine st rfl rfl rfl rfl (x_min rfl rfl) ?_
            rw [← hk]
            have hkl := hst.1
            refine st rfl rfl rfl rfl (x_asg rfl) ?_
            refine rl_end rfl ?_
            refine al_k ?_
            refine cl_seq rfl ?_
            refine cl_seq rfl ?_
            refine cl_draw (by kernel_rfl) rfl [4] (fun w' => w'.heap = w17.heap) ?_
            rintro wd19 frd19 hpd19
            refine ⟨hpd19, ?_⟩
            refine dl (i := 0) rfl rfl rfl rfl (by kernel_rfl) (by kernel_rfl) (fun w' hU => x_ld rfl Tryd.isAgg40 (heq hU (hgb.cell rfl))) ?_
            refine dt (i := 1) rfl rfl rfl rfl (by kernel_rfl) (fun _ => x_move rfl) ?_
            refine dt (i := 2) rfl rfl rfl rfl (by kernel_rfl) (fun _ => x_move rfl) ?_
            refine dt (i := 3) rfl rfl rfl rfl (by kernel_rfl) (fun _ => x_slh rfl rfl Tryd.underlying40 Tryd.sizeOf3 (by have := hst.1; omega)) ?_
            replace F := F.trans frd19
            replace hmb := hmb.fr0 frd19
            replace hdb := hdb.fr0 frd19
            replace hpb := hpb.fr0 frd19
            replace hw := hw.fr0 frd19
            replace hgb := hgb.fr0 frd19
            replace Q9 := Q9.fr0 frd19
            replace HO9 := own_fr0 HO9 frd19
            refine d1 (i := 4) (by kernel_rfl) ?_
            refine oc rfl rfl rfl rfl (c_fn rfl Tryd.call19 ((same_c _ _ _ _ _ (SlI.own HO9 (by rw [List.length_take]; omega)) (hw.slI c0 kk hst.1 (by omega))).mono (R' := fun v w' => v = .bool true ∧ Fr [] _ w') (fun v w' h => ⟨h.1.trans (congrArg _ (decide_eq_true rfl)), h.2⟩))) ?_
            rintro _ w19 ⟨rfl, fr⟩
            replace F := F.trans fr
            replace hmb := hmb.fr0 fr
            replace hdb := hdb.fr0 fr
            replace hpb := hpb.fr0 fr
            replace Q9 := Q9.fr0 fr
            refine ⟨.inl (by kernel_rfl), ?_⟩
            refine dt (i := 5) rfl rfl rfl rfl (by kernel_rfl) (fun _ => x_not1 rfl) ?_
            refine dn (by kernel_rfl) ?_
            refine al_k ?_
            refine cl_if0 rfl rfl ?_
            refine cl_skip rfl ?_
            refine al_k ?_
            refine cl_seq rfl ?_
            refine cl_seq rfl ?_
            refine cl_reg rfl ?_
            refine st rfl rfl rfl rfl (x_ld rfl Tryd.isAgg4 (hdb.cell rfl)) ?_
            refine rl_end rfl ?_
            refine al_k ?_
            refine cl_if0 rfl rfl ?_
            refine cl_skip rfl ?_
            refine al_k ?_
            refine cl_seq rfl ?_
            refine cl_reg rfl ?_
            refine st rfl rfl rfl rfl (x_ld rfl Tryd.isAgg23 (hpb.cell rfl)) ?_
            refine sc rfl rfl rfl rfl (c_fn rfl Tryd.call11 (len_r Q9 0)) ?_
            rintro _ w22 ⟨rfl, _, fr⟩
            replace F := F.trans fr
            refine st rfl rfl rfl rfl (x_move rfl) ?_
            refine st rfl rfl rfl rfl (x_len rfl Tryd.underlying40) ?_
            refine st rfl rfl rfl rfl ((x_eql rfl rfl).b1 hlen2) ?_
            refine st rfl rfl rfl rfl (x_move rfl) ?_
            refine sc rfl rfl rfl rfl (c_fn rfl Tryd.call12 (alive_c _ (hG.fr F (by simp)))) ?_
            rintro _ w29 ⟨rfl, fr⟩
            replace F := F.trans fr
            refine st rfl rfl rfl rfl (x_pick1 rfl rfl) ?_
            refine st rfl rfl rfl rfl (x_asg rfl) ?_
            refine rl_end rfl ?_
            refine al_k ?_
            refine cl_ret rfl ?_
            refine fin1 rfl rfl ?_
            exact ⟨rfl, F⟩
    · skip
      refine st rfl rfl rfl rfl (x_move rfl) ?_
      refine so rfl rfl rfl rfl ?_
      refine so rfl rfl rfl rfl ?_
      refine st rfl rfl rfl rfl (x_pick0 rfl rfl) ?_
      refine rl_end rfl ?_
      refine al_k ?_
      refine cl_if0 rfl rfl ?_
      refine cl_exit rfl ?_
      refine upd_self ?_
      refine al_k ?_
      refine cl_seq rfl ?_
      have hlen := K.len
      obtain ⟨xs, hxs⟩ : ∃ l, ls[0]? = some l := ⟨_, List.getElem?_eq_getElem (by omega)⟩
      have hall : aAll ls 0 = xs := by unfold aAll; rw [if_pos (show okL ls 0 from ⟨by omega, by omega⟩)]; exact rowAt_nat (i := 0) hxs
      have hxl : xs.length ≤ 10 := by rw [← hall]; exact K.hA _
      have hnd2 := K.hN _ _ hxs
      have hrg : ∀ q ∈ xs, 0 ≤ q ∧ q < ((10 : Nat) : Int) := fun q hq => (K.of hxs hq).2
      refine cl_reg rfl ?_
      refine st rfl rfl rfl rfl (x_move rfl) ?_
      refine sc rfl rfl rfl rfl (c_fn rfl Tryd.call15 (rall_c _ _ _ rp lb 10 ls K.R 0)) ?_
      rintro v1 wk ⟨hv, hwk⟩
      obtain rfl := hwk.symm
      rw [hall] at hv
      obtain ⟨A0, c0, rfl, ⟨hA, hcap⟩, hrow⟩ := hv
      have hw := RowW.of hrow
      have zZ : wr.heap.size ≤ wr.heap.size := Nat.le_refl _
      have sB := K.R.sB
      generalize hZ : wr.heap.size = Z at hw sB zZ
      replace zZ : Z ≤ wr.heap.size := by omega
      refine st rfl rfl rfl rfl (x_asg rfl) ?_
      refine rl_end rfl ?_
      refine al_k ?_
      refine cl_seq rfl ?_
      refine cl_seq rfl ?_
      refine cl_reg rfl ?_
      refine st rfl rfl rfl rfl (x_ld rfl Tryd.isAgg3 (hmb.cell rfl)) ?_
      refine sf rfl rfl rfl rfl (x_lss rfl rfl) (fun c11_1 => ?_) (fun c11_1 => ?_)
      · skip
        refine st rfl rfl rfl rfl (x_move rfl) ?_
        refine so rfl rfl rfl rfl ?_
        refine so rfl rfl rfl rfl ?_
        refine st rfl rfl rfl rfl (x_pick1 rfl rfl) ?_
        refine rl_end rfl ?_
        refine al_k ?_
        refine cl_if1 rfl rfl ?_
        refine cl_reg rfl ?_
        refine sv rfl rfl rfl (v_1 rfl rfl rfl rfl Tryd.sizeOf3 hmb (by simp)) ?_
        rintro ws12 ⟨hmb2, fr2⟩
        replace hmb := hmb2
        dsimp only [List.set_cons_zero] at hmb
        replace hdb := hdb.fr fr2 (by simp; omega)
        replace hpb := hpb.fr fr2 (by simp; omega)
        replace hw := hw.fr fr2 (by intro q hq; simp at hq; omega)
        replace zZ := Nat.le_trans zZ fr2.size
        replace K := K.ofR (K.Q.fr fr2 (by simp; omega) (by simp; omega) (by simp; omega) (by simp; omega)) (K.R.fr fr2 (by intro q hq; simp at hq; omega))
        replace F := F.trans_new fr2 (by intro q hq; simp at hq; right; omega)
        refine rl_end rfl ?_
        refine al_k ?_
        refine cl_seq rfl ?_
        obtain ⟨mo, hmb, hmo⟩ : ∃ mo : Int, Blk ws12 mb 3 [.int .i64 mo] ∧ 1 ≤ mo ∧ mo ≤ 10 := ⟨_, hmb, by omega⟩
        refine cl_reg rfl ?_
        refine st rfl rfl rfl rfl (x_ld rfl Tryd.isAgg23 (hpb.cell rfl)) ?_
        refine sc rfl rfl rfl rfl (c_fn rfl Tryd.call16 (All_c _ (some ⟨p, 0, none⟩) 0)) ?_
        rintro _ w13 ⟨c1_, c2, c3, rfl, hc1, hc2, hc3, _, _, _, fr⟩
        replace F := F.trans fr
        replace hmb := hmb.fr0 fr
        replace hdb := hdb.fr0 fr
        replace hpb := hpb.fr0 fr
        replace K := K.fr0 fr
        replace hw := hw.fr0 fr
        replace zZ := Nat.le_trans zZ fr.size
        refine st rfl rfl rfl rfl (x_asg rfl) ?_
        refine rl_end rfl ?_
        refine al_k ?_
        refine cl_seq rfl ?_
        refine cl_seq rfl ?_
        refine cl_reg rfl ?_
        refine st rfl rfl rfl rfl (x_move rfl) ?_
        refine st rfl rfl rfl rfl (x_eqlf rfl rfl Tryd.underlying42) ?_
        refine rl_end rfl ?_
        refine al_k ?_
        refine cl_if0 rfl rfl ?_
        refine cl_skip rfl ?_
        refine al_k ?_
        refine cl_seq rfl ?_
        have zK := K.lts
        have l1 := hmb.lt
        have l2 := hdb.lt
        have l3 := hpb.lt
        refine cl_reg rfl ?_
        refine se rfl rfl rfl rfl (e_new (x_alloc Tryd.zeroValue40 rfl)) ?_
        rintro _ w16 ⟨rfl, hgb, fr, _⟩
        have gF := F.size
        replace F := F.trans fr
        replace hmb := hmb.fr0 fr
        replace hdb := hdb.fr0 fr
        replace hpb := hpb.fr0 fr
        replace K := K.fr0 fr
        replace hw := hw.fr0 fr
        replace hc1 := hc1.fr0 fr
        replace hc2 := hc2.fr0 fr
        replace hc3 := hc3.fr0 fr
        have zgb := hgb.lt
        generalize hqg : w13.heap.size = gb at hgb zgb ⊢
        have ztop : gb < w16.heap.size ∧ db < w16.heap.size ∧ pb < w16.heap.size ∧ mb < w16.heap.size ∧ p < w16.heap.size ∧ nb < w16.heap.size ∧ hb < w16.heap.size := by omega
        refine rl_end rfl ?_
        refine al_k ?_
        refine cl_seq rfl ?_
        refine cl_reg rfl ?_
        refine st rfl rfl rfl rfl (x_move rfl) ?_
        refine st rfl rfl rfl rfl (x_mkf rfl rfl) ?_
        refine sc rfl rfl rfl rfl (c_fv rfl rfl Tryd.call49 (told1_c _ (some ⟨p, 0, none⟩) 0 false c1_ c2 c3 hc1 hc2 hc3 xs (by omega) (fun w1 fr => by
              have := row_r (K.Q.fr0 fr) 0
              rw [hall] at this
              exact this.mono (fun v w2 h => ⟨h.1, h.2.2⟩)) 17 [] [.pointer (some ⟨gb, 0, none⟩), .pointer (some ⟨db, 0, none⟩), .pointer (some ⟨pb, 0, none⟩), .pointer (some ⟨mb, 0, none⟩)] Tryd.call17 (fun d => decide ((d.length : Int) < mo)) (fun ws done w1 => ∃ v, Blk w1 gb 40 [v] ∧ w1.ownsRow ws.heap.size 3 1 v done.length (ints done) ∧ LsR w1 p nb hb 10 2 (ls) ∧ Blk w1 pb 23 [.pointer (some ⟨p, 0, none⟩)] ∧ Blk w1 db 4 [.bool false] ∧ Blk w1 mb 3 [.int .i64 mo] ∧ Fr [gb, nb, hb] ws w1) [gb, nb, hb] (by intro q hq; simp at hq; omega) (fun ws fr => ⟨_, hgb.fr0 fr, own_nil _ _ _, K.Q.fr0 fr, hpb.fr0 fr, hdb.fr0 fr, hmb.fr0 fr, Fr.refl _ _⟩) (fun ws done w1 h => by
              obtain ⟨_, _, _, _, _, _, _, F⟩ := h
              exact F) (fun ws k z w1 fr hz h => by
              obtain ⟨v, hv, HO, Q, hpb, hdb, hmb, F1⟩ := h
              have hkl := (List.getElem?_eq_some_iff.1 hz).1
              have e : (xs.take k).length = k := by rw [List.length_take]; omega
              have e2 : xs.take (k + 1) = xs.take k ++ [z] := by rw [List.take_add_one, hz]; rfl
              have hs := fr.size
              refine (stop1_false ws w1 gb db pb mb p nb hb ls mo z (xs.take k) v hv HO Q hpb hdb hmb F1 (by omega) (by omega) (by omega) hne.1).mono ?_
              rintro r w' ⟨v', rfl, hv', HO', Q', hpb', hdb', hmb', F'⟩
              rw [e2]
              exact ⟨rfl, v', hv', HO', Q', hpb', hdb', hmb', F'⟩))) ?_
        rintro _ w17 ⟨rfl, ws, kk, F1, hst, v9, hgb, HO9, Q9, hpb, hdb, hmb, F9⟩
        -- told
        have s1 := F1.size
        have hk := stop_at hmo.1 hst
        replace hw := (hw.fr0 F1).fr F9 (by intro q hq; simp at hq; omega)
        replace F := (F.trans F1).trans_new F9 (by intro q hq; simp at hq; right; omega)
        obtain ⟨A9, c9, rfl, _⟩ := own_slice HO9
        clear K hc1 hc2 hc3
        have hlen2 : aLen ls 0 = (xs.length : Int) := aLen_of hxs
        refine rl_end rfl ?_
        refine al_k ?_
        refine cl_seq rfl ?_
        refine cl_reg rfl ?_
        refine st rfl rfl rfl rfl (x_move rfl) ?_
        refine st rfl rfl rfl rfl (x_len rfl Tryd.underlying40) ?_
        refine st rfl rfl rfl rfl (x_ld rfl Tryd.isAgg3 (hmb.cell rfl)) ?_
        refine st rfl rfl rfl rfl (x_min rfl rfl) ?_
        rw [← hk]
        have hkl := hst.1
        refine st rfl rfl rfl rfl (x_asg rfl) ?_
        refine rl_end rfl ?_
        refine al_k ?_
        refine cl_seq rfl ?_
        refine cl_seq rfl ?_
        refine cl_draw (by kernel_rfl) rfl [4] (fun w' => w'.heap = w17.heap) ?_
        rintro wd19 frd19 hpd19
        refine ⟨hpd19, ?_⟩
        refine dl (i := 0) rfl rfl rfl rfl (by kernel_rfl) (by kernel_rfl) (fun w' hU => x_ld rfl Tryd.isAgg40 (heq hU (hgb.cell rfl))) ?_
        refine dt (i := 1) rfl rfl rfl rfl (by kernel_rfl) (fun _ => x_move rfl) ?_
        refine dt (i := 2) rfl rfl rfl rfl (by kernel_rfl) (fun _ => x_move rfl) ?_
        refine dt (i := 3) rfl rfl rfl rfl (by kernel_rfl) (fun _ => x_slh rfl rfl Tryd.underlying40 Tryd.sizeOf3 (by have := hst.1; omega)) ?_
        replace F := F.trans frd19
        replace hmb := hmb.fr0 frd19
        replace hdb := hdb.fr0 frd19
        replace hpb := hpb.fr0 frd19
        replace hw := hw.fr0 frd19
        replace hgb := hgb.fr0 frd19
        replace Q9 := Q9.fr0 frd19
        replace HO9 := own_fr0 HO9 frd19
        refine d1 (i := 4) (by kernel_rfl) ?_
        refine oc rfl rfl rfl rfl (c_fn rfl Tryd.call19 ((same_c _ _ _ _ _ (SlI.own HO9 (by rw [List.length_take]; omega)) (hw.slI c0 kk hst.1 (by omega))).mono (R' := fun v w' => v = .bool true ∧ Fr [] _ w') (fun v w' h => ⟨h.1.trans (congrArg _ (decide_eq_true rfl)), h.2⟩))) ?_
        rintro _ w19 ⟨rfl, fr⟩
        replace F := F.trans fr
        replace hmb := hmb.fr0 fr
        replace hdb := hdb.fr0 fr
        replace hpb := hpb.fr0 fr
        replace Q9 := Q9.fr0 fr
        refine ⟨.inl (by kernel_rfl), ?_⟩
        refine dt (i := 5) rfl rfl rfl rfl (by kernel_rfl) (fun _ => x_not1 rfl) ?_
        refine dn (by kernel_rfl) ?_
        refine al_k ?_
        refine cl_if0 rfl rfl ?_
        refine cl_skip rfl ?_
        refine al_k ?_
        refine cl_seq rfl ?_
        refine cl_seq rfl ?_
        refine cl_reg rfl ?_
        refine st rfl rfl rfl rfl (x_ld rfl Tryd.isAgg4 (hdb.cell rfl)) ?_
        refine rl_end rfl ?_
        refine al_k ?_
        refine cl_if0 rfl rfl ?_
        refine cl_skip rfl ?_
        refine al_k ?_
        refine cl_seq rfl ?_
        refine cl_reg rfl ?_
        refine st rfl rfl rfl rfl (x_ld rfl Tryd.isAgg23 (hpb.cell rfl)) ?_
        refine sc rfl rfl rfl rfl (c_fn rfl Tryd.call11 (len_r Q9 0)) ?_
        rintro _ w22 ⟨rfl, _, fr⟩
        replace F := F.trans fr
        refine st rfl rfl rfl rfl (x_move rfl) ?_
        refine st rfl rfl rfl rfl (x_len rfl Tryd.underlying40) ?_
        refine st rfl rfl rfl rfl ((x_eql rfl rfl).b1 hlen2) ?_
        refine st rfl rfl rfl rfl (x_move rfl) ?_
        refine sc rfl rfl rfl rfl (c_fn rfl Tryd.call12 (alive_c _ (hG.fr F (by simp)))) ?_
        rintro _ w29 ⟨rfl, fr⟩
        replace F := F.trans fr
        refine st rfl rfl rfl rfl (x_pick1 rfl rfl) ?_
        refine st rfl rfl rfl rfl (x_asg rfl) ?_
        refine rl_end rfl ?_
        refine al_k ?_
        refine cl_ret rfl ?_
        refine fin1 rfl rfl ?_
        exact ⟨rfl, F⟩
      · skip
        refine st rfl rfl rfl rfl (x_move rfl) ?_
        refine st rfl rfl rfl rfl (x_ld rfl Tryd.isAgg3 (hmb.cell rfl)) ?_
        refine sf rfl rfl rfl rfl (x_gtr rfl rfl) (fun c11_4 => ?_) (fun c11_4 => ?_)
        · skip
          refine st rfl rfl rfl rfl (x_pick0 rfl rfl) ?_
          refine rl_end rfl ?_
          refine al_k ?_
          refine cl_if1 rfl rfl ?_
          refine cl_reg rfl ?_
          refine sv rfl rfl rfl (v_1 rfl rfl rfl rfl Tryd.sizeOf3 hmb (by simp)) ?_
          rintro ws12 ⟨hmb2, fr2⟩
          replace hmb := hmb2
          dsimp only [List.set_cons_zero] at hmb
          replace hdb := hdb.fr fr2 (by simp; omega)
          replace hpb := hpb.fr fr2 (by simp; omega)
          replace hw := hw.fr fr2 (by intro q hq; simp at hq; omega)
          replace zZ := Nat.le_trans zZ fr2.size
          replace K := K.ofR (K.Q.fr fr2 (by simp; omega) (by simp; omega) (by simp; omega) (by simp; omega)) (K.R.fr fr2 (by intro q hq; simp at hq; omega))
          replace F := F.trans_new fr2 (by intro q hq; simp at hq; right; omega)
          refine rl_end rfl ?_
          refine al_k ?_
          refine cl_seq rfl ?_
          obtain ⟨mo, hmb, hmo⟩ : ∃ mo : Int, Blk ws12 mb 3 [.int .i64 mo] ∧ 1 ≤ mo ∧ mo ≤ 10 := ⟨_, hmb, by omega⟩
          refine cl_reg rfl ?_
          refine st rfl rfl rfl rfl (x_ld rfl Tryd.isAgg23 (hpb.cell rfl)) ?_
          refine sc rfl rfl rfl rfl (c_fn rfl Tryd.call16 (All_c _ (some ⟨p, 0, none⟩) 0)) ?_
          rintro _ w13 ⟨c1_, c2, c3, rfl, hc1, hc2, hc3, _, _, _, fr⟩
          replace F := F.trans fr
          replace hmb := hmb.fr0 fr
          replace hdb := hdb.fr0 fr
          replace hpb := hpb.fr0 fr
          replace K := K.fr0 fr
          replace hw := hw.fr0 fr
          replace zZ := Nat.le_trans zZ fr.size
          refine st rfl rfl rfl rfl (x_asg rfl) ?_
          refine rl_end rfl ?_
          refine al_k ?_
          refine cl_seq rfl ?_
          refine cl_seq rfl ?_
          refine cl_reg rfl ?_
          refine st rfl rfl rfl rfl (x_move rfl) ?_
          refine st rfl rfl rfl rfl (x_eqlf rfl rfl Tryd.underlying42) ?_
          refine rl_end rfl ?_
          refine al_k ?_
          refine cl_if0 rfl rfl ?_
          refine cl_skip rfl ?_
          refine al_k ?_
          refine cl_seq rfl ?_
          have zK := K.lts
          have l1 := hmb.lt
          have l2 := hdb.lt
          have l3 := hpb.lt
          refine cl_reg rfl ?_
          refine se rfl rfl rfl rfl (e_new (x_alloc Tryd.zeroValue40 rfl)) ?_
          rintro _ w16 ⟨rfl, hgb, fr, _⟩
          have gF := F.size
          replace F := F.trans fr
          replace hmb := hmb.fr0 fr
          replace hdb := hdb.fr0 fr
          replace hpb := hpb.fr0 fr
          replace K := K.fr0 fr
          replace hw := hw.fr0 fr
          replace hc1 := hc1.fr0 fr
          replace hc2 := hc2.fr0 fr
          replace hc3 := hc3.fr0 fr
          have zgb := hgb.lt
          generalize hqg : w13.heap.size = gb at hgb zgb ⊢
          have ztop : gb < w16.heap.size ∧ db < w16.heap.size ∧ pb < w16.heap.size ∧ mb < w16.heap.size ∧ p < w16.heap.size ∧ nb < w16.heap.size ∧ hb < w16.heap.size := by omega
          refine rl_end rfl ?_
          refine al_k ?_
          refine cl_seq rfl ?_
          refine cl_reg rfl ?_
          refine st rfl rfl rfl rfl (x_move rfl) ?_
          refine st rfl rfl rfl rfl (x_mkf rfl rfl) ?_
          refine sc rfl rfl rfl rfl (c_fv rfl rfl Tryd.call49 (told1_c _ (some ⟨p, 0, none⟩) 0 false c1_ c2 c3 hc1 hc2 hc3 xs (by omega) (fun w1 fr => by
                have := row_r (K.Q.fr0 fr) 0
                rw [hall] at this
                exact this.mono (fun v w2 h => ⟨h.1, h.2.2⟩)) 17 [] [.pointer (some ⟨gb, 0, none⟩), .pointer (some ⟨db, 0, none⟩), .pointer (some ⟨pb, 0, none⟩), .pointer (some ⟨mb, 0, none⟩)] Tryd.call17 (fun d => decide ((d.length : Int) < mo)) (fun ws done w1 => ∃ v, Blk w1 gb 40 [v] ∧ w1.ownsRow ws.heap.size 3 1 v done.length (ints done) ∧ LsR w1 p nb hb 10 2 (ls) ∧ Blk w1 pb 23 [.pointer (some ⟨p, 0, none⟩)] ∧ Blk w1 db 4 [.bool false] ∧ Blk w1 mb 3 [.int .i64 mo] ∧ Fr [gb, nb, hb] ws w1) [gb, nb, hb] (by intro q hq; simp at hq; omega) (fun ws fr => ⟨_, hgb.fr0 fr, own_nil _ _ _, K.Q.fr0 fr, hpb.fr0 fr, hdb.fr0 fr, hmb.fr0 fr, Fr.refl _ _⟩) (fun ws done w1 h => by
                obtain ⟨_, _, _, _, _, _, _, F⟩ := h
                exact F) (fun ws k z w1 fr hz h => by
                obtain ⟨v, hv, HO, Q, hpb, hdb, hmb, F1⟩ := h
                have hkl := (List.getElem?_eq_some_iff.1 hz).1
                have e : (xs.take k).length = k := by rw [List.length_take]; omega
                have e2 : xs.take (k + 1) = xs.take k ++ [z] := by rw [List.take_add_one, hz]; rfl
                have hs := fr.size
                refine (stop1_false ws w1 gb db pb mb p nb hb ls mo z (xs.take k) v hv HO Q hpb hdb hmb F1 (by omega) (by omega) (by omega) hne.1).mono ?_
                rintro r w' ⟨v', rfl, hv', HO', Q', hpb', hdb', hmb', F'⟩
                rw [e2]
                exact ⟨rfl, v', hv', HO', Q', hpb', hdb', hmb', F'⟩))) ?_
          rintro _ w17 ⟨rfl, ws, kk, F1, hst, v9, hgb, HO9, Q9, hpb, hdb, hmb, F9⟩
          -- told
          have s1 := F1.size
          have hk := stop_at hmo.1 hst
          replace hw := (hw.fr0 F1).fr F9 (by intro q hq; simp at hq; omega)
          replace F := (F.trans F1).trans_new F9 (by intro q hq; simp at hq; right; omega)
          obtain ⟨A9, c9, rfl, _⟩ := own_slice HO9
          clear K hc1 hc2 hc3
          have hlen2 : aLen ls 0 = (xs.length : Int) := aLen_of hxs
          refine rl_end rfl ?_
          refine al_k ?_
          refine cl_seq rfl ?_
          refine cl_reg rfl ?_
          refine st rfl rfl rfl rfl (x_move rfl) ?_
          refine st rfl rfl rfl rfl (x_len rfl Tryd.underlying40) ?_
          refine st rfl rfl rfl rfl (x_ld rfl Tryd.isAgg3 (hmb.cell rfl)) ?_
          refine st rfl rfl rfl rfl (x_min rfl rfl) ?_
          rw [← hk]
          have hkl := hst.1
          refine st rfl rfl rfl rfl (x_asg rfl) ?_
          refine rl_end rfl ?_
          refine al_k ?_
          refine cl_seq rfl ?_
          refine cl_seq rfl ?_
          refine cl_draw (by kernel_rfl) rfl [4] (fun w' => w'.heap = w17.heap) ?_
          rintro wd19 frd19 hpd19
          refine ⟨hpd19, ?_⟩
          refine dl (i := 0) rfl rfl rfl rfl (by kernel_rfl) (by kernel_rfl) (fun w' hU => x_ld rfl Tryd.isAgg40 (heq hU (hgb.cell rfl))) ?_
          refine dt (i := 1) rfl rfl rfl rfl (by kernel_rfl) (fun _ => x_move rfl) ?_
          refine dt (i := 2) rfl rfl rfl rfl (by kernel_rfl) (fun _ => x_move rfl) ?_
          refine dt (i := 3) rfl rfl rfl rfl (by kernel_rfl) (fun _ => x_slh rfl rfl Tryd.underlying40 Tryd.sizeOf3 (by have := hst.1; omega)) ?_
          replace F := F.trans frd19
          replace hmb := hmb.fr0 frd19
          replace hdb := hdb.fr0 frd19
          replace hpb := hpb.fr0 frd19
          replace hw := hw.fr0 frd19
          replace hgb := hgb.fr0 frd19
          replace Q9 := Q9.fr0 frd19
          replace HO9 := own_fr0 HO9 frd19
          refine d1 (i := 4) (by kernel_rfl) ?_
          refine oc rfl rfl rfl rfl (c_fn rfl Tryd.call19 ((same_c _ _ _ _ _ (SlI.own HO9 (by rw [List.length_take]; omega)) (hw.slI c0 kk hst.1 (by omega))).mono (R' := fun v w' => v = .bool true ∧ Fr [] _ w') (fun v w' h => ⟨h.1.trans (congrArg _ (decide_eq_true rfl)), h.2⟩))) ?_
          rintro _ w19 ⟨rfl, fr⟩
          replace F := F.trans fr
          replace hmb := hmb.fr0 fr
          replace hdb := hdb.fr0 fr
          replace hpb := hpb.fr0 fr
          replace Q9 := Q9.fr0 fr
          refine ⟨.inl (by kernel_rfl), ?_⟩
          refine dt (i := 5) rfl rfl rfl rfl (by kernel_rfl) (fun _ => x_not1 rfl) ?_
          refine dn (by kernel_rfl) ?_
          refine al_k ?_
          refine cl_if0 rfl rfl ?_
          refine cl_skip rfl ?_
          refine al_k ?_
          refine cl_seq rfl ?_
          refine cl_seq rfl ?_
          refine cl_reg rfl ?_
          refine st rfl rfl rfl rfl (x_ld rfl Tryd.isAgg4 (hdb.cell rfl)) ?_
          refine rl_end rfl ?_
          refine al_k ?_
          refine cl_if0 rfl rfl ?_
          refine cl_skip rfl ?_
          refine al_k ?_
          refine cl_seq rfl ?_
          refine cl_reg rfl ?_
          refine st rfl rfl rfl rfl (x_ld rfl Tryd.isAgg23 (hpb.cell rfl)) ?_
          refine sc rfl rfl rfl rfl (c_fn rfl Tryd.call11 (len_r Q9 0)) ?_
          rintro _ w22 ⟨rfl, _, fr⟩
          replace F := F.trans fr
          refine st rfl rfl rfl rfl (x_move rfl) ?_
          refine st rfl rfl rfl rfl (x_len rfl Tryd.underlying40) ?_
          refine st rfl rfl rfl rfl ((x_eql rfl rfl).b1 hlen2) ?_
          refine st rfl rfl rfl rfl (x_move rfl) ?_
          refine sc rfl rfl rfl rfl (c_fn rfl Tryd.call12 (alive_c _ (hG.fr F (by simp)))) ?_
          rintro _ w29 ⟨rfl, fr⟩
          replace F := F.trans fr
          refine st rfl rfl rfl rfl (x_pick1 rfl rfl) ?_
          refine st rfl rfl rfl rfl (x_asg rfl) ?_
          refine rl_end rfl ?_
          refine al_k ?_
          refine cl_ret rfl ?_
          refine fin1 rfl rfl ?_
          exact ⟨rfl, F⟩
        · skip
          refine st rfl rfl rfl rfl (x_pick0 rfl rfl) ?_
          refine rl_end rfl ?_
          refine al_k ?_
          refine cl_if0 rfl rfl ?_
          refine cl_skip rfl ?_
          refine al_k ?_
          refine cl_seq rfl ?_
          obtain ⟨mo, hmb, hmo⟩ : ∃ mo : Int, Blk wr mb 3 [.int .i64 mo] ∧ 1 ≤ mo ∧ mo ≤ 10 := ⟨_, hmb, by omega⟩
          refine cl_reg rfl ?_
          refine st rfl rfl rfl rfl (x_ld rfl Tryd.isAgg23 (hpb.cell rfl)) ?_
          refine sc rfl rfl rfl rfl (c_fn rfl Tryd.call16 (All_c _ (some ⟨p, 0, none⟩) 0)) ?_
          rintro _ w13 ⟨c1_, c2, c3, rfl, hc1, hc2, hc3, _, _, _, fr⟩
          replace F := F.trans fr
          replace hmb := hmb.fr0 fr
          replace hdb := hdb.fr0 fr
          replace hpb := hpb.fr0 fr
          replace K := K.fr0 fr
          replace hw := hw.fr0 fr
          replace zZ := Nat.le_trans zZ fr.size
          refine st rfl rfl rfl rfl (x_asg rfl) ?_
          refine rl_end rfl ?_
          refine al_k ?_
          refine cl_seq rfl ?_
          refine cl_seq rfl ?_
          refine cl_reg rfl ?_
          refine st rfl rfl rfl rfl (x_move rfl) ?_
          refine st rfl rfl rfl rfl (x_eqlf rfl rfl Tryd.underlying42) ?_
          refine rl_end rfl ?_
          refine al_k ?_
          refine cl_if0 rfl rfl ?_
          refine cl_skip rfl ?_
          refine al_k ?_
          refine cl_seq rfl ?_
          have zK := K.lts
          have l1 := hmb.lt
          have l2 := hdb.lt
          have l3 := hpb.lt
          refine cl_reg rfl ?_
          refine se rfl rfl rfl rfl (e_new (x_alloc Tryd.zeroValue40 rfl)) ?_
          rintro _ w16 ⟨rfl, hgb, fr, _⟩
          have gF := F.size
          replace F := F.trans fr
          replace hmb := hmb.fr0 fr
          replace hdb := hdb.fr0 fr
          replace hpb := hpb.fr0 fr
          replace K := K.fr0 fr
          replace hw := hw.fr0 fr
          replace hc1 := hc1.fr0 fr
          replace hc2 := hc2.fr0 fr
          replace hc3 := hc3.fr0 fr
          have zgb := hgb.lt
          generalize hqg : w13.heap.size = gb at hgb zgb ⊢
          have ztop : gb < w16.heap.size ∧ db < w16.heap.size ∧ pb < w16.heap.size ∧ mb < w16.heap.size ∧ p < w16.heap.size ∧ nb < w16.heap.size ∧ hb < w16.heap.size := by omega
          refine rl_end rfl ?_
          refine al_k ?_
          refine cl_seq rfl ?_
          refine cl_reg rfl ?_
          refine st rfl rfl rfl rfl (x_move rfl) ?_
          refine st rfl rfl rfl rfl (x_mkf rfl rfl) ?_
          refine sc rfl rfl rfl rfl (c_fv rfl rfl Tryd.call49 (told1_c _ (some ⟨p, 0, none⟩) 0 false c1_ c2 c3 hc1 hc2 hc3 xs (by omega) (fun w1 fr => by
                have := row_r (K.Q.fr0 fr) 0
                rw [hall] at this
                exact this.mono (fun v w2 h => ⟨h.1, h.2.2⟩)) 17 [] [.pointer (some ⟨gb, 0, none⟩), .pointer (some ⟨db, 0, none⟩), .pointer (some ⟨pb, 0, none⟩), .pointer (some ⟨mb, 0, none⟩)] Tryd.call17 (fun d => decide ((d.length : Int) < mo)) (fun ws done w1 => ∃ v, Blk w1 gb 40 [v] ∧ w1.ownsRow ws.heap.size 3 1 v done.length (ints done) ∧ LsR w1 p nb hb 10 2 (ls) ∧ Blk w1 pb 23 [.pointer (some ⟨p, 0, none⟩)] ∧ Blk w1 db 4 [.bool false] ∧ Blk w1 mb 3 [.int .i64 mo] ∧ Fr [gb, nb, hb] ws w1) [gb, nb, hb] (by intro q hq; simp at hq; omega) (fun ws fr => ⟨_, hgb.fr0 fr, own_nil _ _ _, K.Q.fr0 fr, hpb.fr0 fr, hdb.fr0 fr, hmb.fr0 fr, Fr.refl _ _⟩) (fun ws done w1 h => by
                obtain ⟨_, _, _, _, _, _, _, F⟩ := h
                exact F) (fun ws k z w1 fr hz h => by
                obtain ⟨v, hv, HO, Q, hpb, hdb, hmb, F1⟩ := h
                have hkl := (List.getElem?_eq_some_iff.1 hz).1
                have e : (xs.take k).length = k := by rw [List.length_take]; omega
                have e2 : xs.take (k + 1) = xs.take k ++ [z] := by rw [List.take_add_one, hz]; rfl
                have hs := fr.size
                refine (stop1_false ws w1 gb db pb mb p nb hb ls mo z (xs.take k) v hv HO Q hpb hdb hmb F1 (by omega) (by omega) (by omega) hne.1).mono ?_
                rintro r w' ⟨v', rfl, hv', HO', Q', hpb', hdb', hmb', F'⟩
                rw [e2]
                exact ⟨rfl, v', hv', HO', Q', hpb', hdb', hmb', F'⟩))) ?_
          rintro _ w17 ⟨rfl, ws, kk, F1, hst, v9, hgb, HO9, Q9, hpb, hdb, hmb, F9⟩
          -- told
          have s1 := F1.size
          have hk := stop_at hmo.1 hst
          replace hw := (hw.fr0 F1).fr F9 (by intro q hq; simp at hq; omega)
          replace F := (F.trans F1).trans_new F9 (by intro q hq; simp at hq; right; omega)
          obtain ⟨A9, c9, rfl, _⟩ := own_slice HO9
          clear K hc1 hc2 hc3
          have hlen2 : aLen ls 0 = (xs.length : Int) := aLen_of hxs
          refine rl_end rfl ?_
          refine al_k ?_
          refine cl_seq rfl ?_
          refine cl_reg rfl ?_
          refine st rfl rfl rfl rfl (x_move rfl) ?_
          refine st rfl rfl rfl rfl (x_len rfl Tryd.underlying40) ?_
          refine st rfl rfl rfl rfl (x_ld rfl Tryd.isAgg3 (hmb.cell rfl)) ?_
          refine st rfl rfl rfl rfl (x_min rfl rfl) ?_
          rw [← hk]
          have hkl := hst.1
          refine st rfl rfl rfl rfl (x_asg rfl) ?_
          refine rl_end rfl ?_
          refine al_k ?_
          refine cl_seq rfl ?_
          refine cl_seq rfl ?_
          refine cl_draw (by kernel_rfl) rfl [4] (fun w' => w'.heap = w17.heap) ?_
          rintro wd19 frd19 hpd19
          refine ⟨hpd19, ?_⟩
          refine dl (i := 0) rfl rfl rfl rfl (by kernel_rfl) (by kernel_rfl) (fun w' hU => x_ld rfl Tryd.isAgg40 (heq hU (hgb.cell rfl))) ?_
          refine dt (i := 1) rfl rfl rfl rfl (by kernel_rfl) (fun _ => x_move rfl) ?_
          refine dt (i := 2) rfl rfl rfl rfl (by kernel_rfl) (fun _ => x_move rfl) ?_
          refine dt (i := 3) rfl rfl rfl rfl (by kernel_rfl) (fun _ => x_slh rfl rfl Tryd.underlying40 Tryd.sizeOf3 (by have := hst.1; omega)) ?_
          replace F := F.trans frd19
          replace hmb := hmb.fr0 frd19
          replace hdb := hdb.fr0 frd19
          replace hpb := hpb.fr0 frd19
          replace hw := hw.fr0 frd19
          replace hgb := hgb.fr0 frd19
          replace Q9 := Q9.fr0 frd19
          replace HO9 := own_fr0 HO9 frd19
          refine d1 (i := 4) (by kernel_rfl) ?_
          refine oc rfl rfl rfl rfl (c_fn rfl Tryd.call19 ((same_c _ _ _ _ _ (SlI.own HO9 (by rw [List.length_take]; omega)) (hw.slI c0 kk hst.1 (by omega))).mono (R' := fun v w' => v = .bool true ∧ Fr [] _ w') (fun v w' h => ⟨h.1.trans (congrArg _ (decide_eq_true rfl)), h.2⟩))) ?_
          rintro _ w19 ⟨rfl, fr⟩
          replace F := F.trans fr
          replace hmb := hmb.fr0 fr
          replace hdb := hdb.fr0 fr
          replace hpb := hpb.fr0 fr
          replace Q9 := Q9.fr0 fr
          refine ⟨.inl (by kernel_rfl), ?_⟩
          refine dt (i := 5) rfl rfl rfl rfl (by kernel_rfl) (fun _ => x_not1 rfl) ?_
          refine dn (by kernel_rfl) ?_
          refine al_k ?_
          refine cl_if0 rfl rfl ?_
          refine cl_skip rfl ?_
          refine al_k ?_
          refine cl_seq rfl ?_
          refine cl_seq rfl ?_
          refine cl_reg rfl ?_
          refine st rfl rfl rfl rfl (x_ld rfl Tryd.isAgg4 (hdb.cell rfl)) ?_
          refine rl_end rfl ?_
          refine al_k ?_
          refine cl_if0 rfl rfl ?_
          refine cl_skip rfl ?_
          refine al_k ?_
          refine cl_seq rfl ?_
          refine cl_reg rfl ?_
          refine st rfl rfl rfl rfl (x_ld rfl Tryd.isAgg23 (hpb.cell rfl)) ?_
          refine sc rfl rfl rfl rfl (c_fn rfl Tryd.call11 (len_r Q9 0)) ?_
          rintro _ w22 ⟨rfl, _, fr⟩
          replace F := F.trans fr
          refine st rfl rfl rfl rfl (x_move rfl) ?_
          refine st rfl rfl rfl rfl (x_len rfl Tryd.underlying40) ?_
          refine st rfl rfl rfl rfl ((x_eql rfl rfl).b1 hlen2) ?_
          refine st rfl rfl rfl rfl (x_move rfl) ?_
          refine sc rfl rfl rfl rfl (c_fn rfl Tryd.call12 (alive_c _ (hG.fr F (by simp)))) ?_
          rintro _ w29 ⟨rfl, fr⟩
          replace F := F.trans fr
          refine st rfl rfl rfl rfl (x_pick1 rfl rfl) ?_
          refine st rfl rfl rfl rfl (x_asg rfl) ?_
          refine rl_end rfl ?_
          refine al_k ?_
          refine cl_ret rfl ?_
          refine fin1 rfl rfl ?_
          exact ⟨rfl, F⟩

theorem stops_c (w : World) (hG : Glb w) (A2 : Option Addr) (ln2 cp2 : Nat) (hln : ln2 ≤ 9223372036854775807) (hp : ∀ j : Nat, j < ln2 → ∃ (x : Addr) (z0 : Int) (z1 : Int) (z2 : Int), A2 = some x ∧ (∀ i v, [(.int .i64 z0 : Value), .int .i64 z1, .int .i64 z2][i]? = some v → w.cell? ((x.add (((j : Nat) : Int).toNat * 3)).add i) = some v) ∧ (Lit.int .i64 z0).wf = true ∧ (Lit.int .i64 z1).wf = true ∧ (Lit.int .i64 z2).wf = true) (most : Int) (drop : Bool) : Cl Tryd.prog 4 [.slice A2 ln2 cp2, .int .i64 most, .bool drop] w (fun v w' => v = .bool true ∧ Fr [] w w') := by
  cases drop
  · exact stops_false w hG A2 ln2 cp2 hln hp most
  · exact stops_true w hG A2 ln2 cp2 hln hp most

end Go.Proofs.YtnnhpbjibhnhnabDoor.Ls
