/- Lists by links: the walks of All, Back and what tells a row. -/
import Derived.Test.YtnnhpbjibhnhnabDoorLsW3
set_option linter.unusedVariables false
namespace Go.Proofs.YtnnhpbjibhnhnabDoor.Ls
open Go Go.RowKit Go.Proofs.YtnnhpbjibhnhnabDoor.Sx Go.Proofs.YtnnhpbjibhnhnabDoor
set_option maxRecDepth 100000

theorem told_c (w : World) (q : Option Addr) (li : Int) (bk : Bool) : Cl Tryd.prog 37 [.pointer q, .int .i64 li, .bool bk] w (fun v w' => ∃ b1 b2 b3, v = .func (.func 49) [].toArray [.pointer (some ⟨b1, 0, none⟩), .pointer (some ⟨b2, 0, none⟩), .pointer (some ⟨b3, 0, none⟩)].toArray ∧ Blk w' b1 23 [.pointer q] ∧ Blk w' b2 3 [.int .i64 li] ∧ Blk w' b3 4 [.bool bk] ∧ w.heap.size ≤ b1 ∧ w.heap.size ≤ b2 ∧ w.heap.size ≤ b3 ∧ Fr [] w w') := by
  have F := Fr.refl [] w
  refine enter Tryd.func37 rfl Tryd.ntmps37 rfl ?_
  refine cl_seq rfl ?_
  refine cl_reg rfl ?_
  refine se rfl rfl rfl rfl (e_new (x_box rfl rfl)) ?_
  rintro _ w0_0 ⟨rfl, b0_0, fr0_0, sz0_0⟩
  replace F := F.trans fr0_0
  have g2 := F.size
  refine se rfl rfl rfl rfl (e_new (x_box rfl rfl)) ?_
  rintro _ w0_1 ⟨rfl, b0_1, fr0_1, sz0_1⟩
  replace F := F.trans fr0_1
  replace b0_0 := b0_0.fr0 fr0_1
  have g3 := F.size
  refine se rfl rfl rfl rfl (e_new (x_box rfl rfl)) ?_
  rintro _ w0_2 ⟨rfl, b0_2, fr0_2, sz0_2⟩
  replace F := F.trans fr0_2
  replace b0_0 := b0_0.fr0 fr0_2
  replace b0_1 := b0_1.fr0 fr0_2
  refine st rfl rfl rfl rfl (x_asg rfl) ?_
  refine rl_end rfl ?_
  refine al_k ?_
  refine cl_seq rfl ?_
  refine cl_reg rfl ?_
  refine st rfl rfl rfl rfl (x_mkf rfl rfl) ?_
  refine st rfl rfl rfl rfl (x_asg rfl) ?_
  refine rl_end rfl ?_
  refine al_k ?_
  refine cl_ret rfl ?_
  refine fin1 rfl rfl ?_
  exact ⟨_, _, _, rfl, b0_0, b0_1, b0_2, Nat.le_refl _, g2, g3, F⟩

theorem All_c (w : World) (q : Option Addr) (li : Int) : Cl Tryd.prog 16 [.pointer q, .int .i64 li] w (fun v w' => ∃ b1 b2 b3, v = .func (.func 49) [].toArray [.pointer (some ⟨b1, 0, none⟩), .pointer (some ⟨b2, 0, none⟩), .pointer (some ⟨b3, 0, none⟩)].toArray ∧ Blk w' b1 23 [.pointer q] ∧ Blk w' b2 3 [.int .i64 li] ∧ Blk w' b3 4 [.bool false] ∧ w.heap.size ≤ b1 ∧ w.heap.size ≤ b2 ∧ w.heap.size ≤ b3 ∧ Fr [] w w') := by
  refine enter Tryd.func16 rfl Tryd.ntmps16 rfl ?_
  refine cl_seq rfl ?_
  refine cl_reg rfl ?_
  refine st rfl rfl rfl rfl (x_asg rfl) ?_
  refine rl_end rfl ?_
  refine al_k ?_
  refine cl_seq rfl ?_
  refine cl_reg rfl ?_
  refine st rfl rfl rfl rfl (x_move rfl) ?_
  refine st rfl rfl rfl rfl (x_move rfl) ?_
  refine sc rfl rfl rfl rfl (c_fn rfl Tryd.call37 (told_c _ q li false)) ?_
  rintro v w1 hr
  refine st rfl rfl rfl rfl (x_asg rfl) ?_
  refine rl_end rfl ?_
  refine al_k ?_
  refine cl_ret rfl ?_
  refine fin1 rfl rfl ?_
  exact hr

theorem Back_c (w : World) (q : Option Addr) (li : Int) : Cl Tryd.prog 27 [.pointer q, .int .i64 li] w (fun v w' => ∃ b1 b2 b3, v = .func (.func 49) [].toArray [.pointer (some ⟨b1, 0, none⟩), .pointer (some ⟨b2, 0, none⟩), .pointer (some ⟨b3, 0, none⟩)].toArray ∧ Blk w' b1 23 [.pointer q] ∧ Blk w' b2 3 [.int .i64 li] ∧ Blk w' b3 4 [.bool true] ∧ w.heap.size ≤ b1 ∧ w.heap.size ≤ b2 ∧ w.heap.size ≤ b3 ∧ Fr [] w w') := by
  refine enter Tryd.func27 rfl Tryd.ntmps27 rfl ?_
  refine cl_seq rfl ?_
  refine cl_reg rfl ?_
  refine st rfl rfl rfl rfl (x_asg rfl) ?_
  refine rl_end rfl ?_
  refine al_k ?_
  refine cl_seq rfl ?_
  refine cl_reg rfl ?_
  refine st rfl rfl rfl rfl (x_move rfl) ?_
  refine st rfl rfl rfl rfl (x_move rfl) ?_
  refine sc rfl rfl rfl rfl (c_fn rfl Tryd.call37 (told_c _ q li true)) ?_
  rintro v w1 hr
  refine st rfl rfl rfl rfl (x_asg rfl) ?_
  refine rl_end rfl ?_
  refine al_k ?_
  refine cl_ret rfl ?_
  refine fin1 rfl rfl ?_
  exact hr

theorem told1_c (w : World) (q : Option Addr) (li : Int) (bk : Bool) (b1 b2 b3 : Nat) (hb1 : Blk w b1 23 [.pointer q]) (hb2 : Blk w b2 3 [.int .i64 li]) (hb3 : Blk w b3 4 [.bool bk]) (xs : List Int) (hx : xs.length ≤ 100000) (hrow : ∀ w1, Fr [] w w1 → Cl Tryd.prog 50 [.pointer q, .int .i64 li, .bool bk] w1 (fun v w' => w'.ownsRow w1.heap.size 3 1 v xs.length (ints xs) ∧ Fr [] w1 w'))
    (g : FuncId) (ps cs : List Value) (hg : ∀ a w, (callFunc g a).run Tryd.prog w = .ok (.enter g a) w) (C : List Int → Bool) (Y : World → List Int → World → Prop) (T : List Nat) (hT : ∀ q ∈ T, q < w.heap.size)
    (hY0 : ∀ ws, Fr [] w ws → Y ws [] ws) (hYf : ∀ ws done w1, Y ws done w1 → Fr T ws w1)
    (hYs : ∀ ws k z w1, Fr [] w ws → xs[k]? = some z → Y ws (xs.take k) w1 → Cl Tryd.prog g (ps ++ [.int .i64 z] ++ cs) w1 (fun v w2 => v = .bool (C (xs.take (k + 1))) ∧ Y ws (xs.take (k + 1)) w2)) :
    Cl Tryd.prog 49 [.func (.func g) ps.toArray cs.toArray, .pointer (some ⟨b1, 0, none⟩), .pointer (some ⟨b2, 0, none⟩), .pointer (some ⟨b3, 0, none⟩)] w (fun v w' => v = .tuple #[] ∧ ∃ ws k, Fr [] w ws ∧ Stop C xs k ∧ Y ws (xs.take k) w') := by
  refine enter Tryd.func49 rfl Tryd.ntmps49 rfl ?_
  refine cl_seq rfl ?_
  refine cl_reg rfl ?_
  refine st rfl rfl rfl rfl (x_ld rfl Tryd.isAgg23 (hb1.cell rfl)) ?_
  refine st rfl rfl rfl rfl (x_ld rfl Tryd.isAgg3 (hb2.cell rfl)) ?_
  refine st rfl rfl rfl rfl (x_ld rfl Tryd.isAgg4 (hb3.cell rfl)) ?_
  refine sc rfl rfl rfl rfl (c_fn rfl Tryd.call50 (hrow w (Fr.refl [] w))) ?_
  rintro v ws ⟨HO, F⟩
  have hcell : ∃ A c, v = .slice A xs.length c ∧ ∀ k z, xs[k]? = some z → ∃ b, A = some ⟨b, 0, none⟩ ∧ w.heap.size ≤ b ∧ ws.cell? ⟨b, ((k : Nat) : Int).toNat * 1, none⟩ = some (.int .i64 z) := by
    obtain ⟨A, c, e, h⟩ := own_slice HO
    refine ⟨A, c, e, fun k z hz => ?_⟩
    have hkl := (List.getElem?_eq_some_iff.1 hz).1
    rcases h with h | h | ⟨b, rfl, hb, hbs, hcc⟩
    · simp [ints] at h; subst h; simp at hkl
    · omega
    · exact ⟨b, rfl, hb, by rw [Int.toNat_natCast, Nat.mul_one]; exact hcc k _ (by simp [ints, hz])⟩
  obtain ⟨A0, c0, rfl, hcell⟩ := hcell
  refine st rfl rfl rfl rfl (x_len rfl Tryd.underlying40) ?_
  refine st rfl rfl rfl rfl (x_move rfl) ?_
  refine rl_end rfl ?_
  refine al_k ?_
  refine cl_block rfl ?_
  refine cl_loop (fun k : Nat => [(12, .int .i64 k), (11, .int .i64 xs.length), (10, .slice A0 xs.length c0), (0, .func (.func g) ps.toArray cs.toArray)]) (fun k wr => k ≤ xs.length ∧ Y ws (xs.take k) wr ∧ ∀ j, 0 < j → j ≤ k → C (xs.take j) = true) (fun k => xs.length - k) 0 rfl ⟨rfl, rfl, rfl, rfl, trivial⟩ ?_ ?_
  · exact ⟨Nat.zero_le _, hY0 ws F, by omega⟩
  · skip
    rintro k wr ⟨hk, hY, hC⟩
    refine cl_seq rfl ?_
    refine cl_reg rfl ?_
    refine sf rfl rfl rfl rfl (x_lss rfl rfl) (fun c1_0 => ?_) (fun c1_0 => ?_)
    · skip
      refine rl_end rfl ?_
      refine al_k ?_
      refine cl_seq rfl ?_
      refine cl_if1 rfl rfl ?_
      refine cl_skip rfl ?_
      refine al_k ?_
      refine cl_seq rfl ?_
      refine cl_block rfl ?_
      refine cl_seq rfl ?_
      have hkl : k < xs.length := by omega
      obtain ⟨z, hz⟩ : ∃ z, xs[k]? = some z := ⟨_, List.getElem?_eq_getElem hkl⟩
      obtain ⟨b, rfl, hb, hc⟩ := hcell k z hz
      replace hc := (hYf _ _ _ hY).cell hc (fun hm => by have := hT b hm; omega)
      refine cl_reg rfl ?_
      refine st rfl rfl rfl rfl (x_ia0 rfl rfl Tryd.underlying40 Tryd.sizeOf3 (by omega)) ?_
      refine st rfl rfl rfl rfl (x_ld rfl Tryd.isAgg3 hc) ?_
      refine st rfl rfl rfl rfl (x_asg rfl) ?_
      refine rl_end rfl ?_
      refine al_k ?_
      refine cl_seq rfl ?_
      refine cl_reg rfl ?_
      refine st rfl rfl rfl rfl (x_move rfl) ?_
      refine st rfl rfl rfl rfl (x_move rfl) ?_
      refine sc rfl rfl rfl rfl (c_fv rfl rfl hg (hYs ws k z wr F hz hY)) ?_
      rintro _ w2 ⟨rfl, hY2⟩
      -- told
      refine st rfl rfl rfl rfl (x_not rfl) ?_
      refine rl_end rfl ?_
      refine al_k ?_
      refine cl_cond rfl rfl (fun hb19 => ?_) (fun hb19 => ?_)
      · skip
        refine cl_ret rfl ?_
        refine fin0 rfl ?_
        refine ⟨rfl, ws, k + 1, F, ⟨by omega, fun j h0 h1 => hC j h0 (by omega), .inr ⟨by omega, by cases h : C (xs.take (k + 1)) <;> simp_all⟩⟩, hY2⟩
      · skip
        refine cl_skip rfl ?_
        refine al_k ?_
        refine cl_reg rfl ?_
        refine st rfl rfl rfl rfl (x_add rfl rfl (by omega)) ?_
        refine st rfl rfl rfl rfl (x_move rfl) ?_
        refine rl_end rfl ?_
        refine again (k + 1) (by omega) ⟨rfl, rfl, rfl, rfl, trivial⟩ ⟨by omega, hY2, ?_⟩
        intro j hj0 hj
        rcases Nat.lt_or_ge k j with h | h
        · obtain rfl : j = k + 1 := by omega
          cases h : C (xs.take (k + 1)) <;> simp_all
        · exact hC j hj0 h
    · skip
      refine rl_end rfl ?_
      refine al_k ?_
      refine cl_seq rfl ?_
      refine cl_if0 rfl rfl ?_
      refine cl_exit rfl ?_
      refine upd_self ?_
      refine fin0n rfl ?_
      have e : k = xs.length := by omega
      subst e
      exact ⟨rfl, ws, _, F, ⟨Nat.le_refl _, fun j h0 h1 => hC j h0 (by omega), .inl rfl⟩, hY⟩

theorem rest1_c (ws w : World) (ob : Nat) (z : Int) (done : List Int) (v : Value) (hv : Blk w ob 40 [v]) (HO : w.ownsRow ws.heap.size 3 1 v done.length (ints done)) (F : Fr [ob] ws w) (hob : ob < ws.heap.size) (hl : done.length ≤ 100000) :
    Cl Tryd.prog 41 [.int .i64 z, .pointer (some ⟨ob, 0, none⟩)] w (fun r w' => ∃ v', r = .bool (decide (((done.length + 1 : Nat) : Int) < 80)) ∧ Blk w' ob 40 [v'] ∧ w'.ownsRow ws.heap.size 3 1 v' (done.length + 1) (ints (done ++ [z])) ∧ Fr [ob] ws w') := by
  refine enter Tryd.func41 rfl Tryd.ntmps41 rfl ?_
  refine cl_seq rfl ?_
  refine cl_reg rfl ?_
  refine st rfl rfl rfl rfl (x_asg rfl) ?_
  refine rl_end rfl ?_
  refine al_k ?_
  refine cl_seq rfl ?_
  refine cl_reg rfl ?_
  refine st rfl rfl rfl rfl (x_ld rfl Tryd.isAgg40 (hv.cell rfl)) ?_
  refine st rfl rfl rfl rfl (x_move rfl) ?_
  refine se rfl rfl rfl rfl (e_new (x_bsl rfl (bsl1 Tryd.underlying40 Tryd.sizeOf3 Tryd.zeroValue3 rfl rfl))) ?_
  rintro _ w1_2 ⟨rfl, b1_2, fr1_2, sz1_2⟩
  replace F := F.trans fr1_2.of0
  replace hv := hv.fr0 fr1_2
  replace HO := own_fr0 HO fr1_2
  refine se rfl rfl rfl rfl (e_app 1 8 (.int .i64 0) [.int .i64 z] rfl rfl Tryd.underlying40 (by kernel_rfl) rfl (by decide) HO rfl b1_2.news (by simp; rfl) (by omega) (by omega) F.size) ?_
  rintro v1 w1 ⟨HO1, hg, hat⟩
  replace F := F.grown hg (own_ge HO)
  replace hv := hv.fr (Fr.of_grown hg) (by intro hm; cases hq : v.ownBlock with | none => simp [hq] at hm | some r => simp [hq] at hm; subst hm; have := own_ge HO _ hq; omega)
  obtain ⟨hcv, hov⟩ : v1.cells = #[v1] ∧ v1.oneCell' = true := by obtain ⟨A1, c1, rfl, _⟩ := own_slice HO1; exact ⟨rfl, rfl⟩
  refine sv rfl rfl rfl (v_1 rfl rfl hcv hov Tryd.sizeOf40 hv (by simp)) ?_
  rintro w2 ⟨hv2, fr2⟩
  replace F := F.trans_new fr2 (by intro q hq; simp at hq; subst hq; exact .inl (by simp))
  replace HO1 := own_fr HO1 fr2 (by intro q hq; simp at hq; subst hq; exact hob)
  replace hv2 : Blk w2 ob 40 [v1] := hv2
  obtain ⟨A1, c1, rfl, _⟩ := own_slice HO1
  refine rl_end rfl ?_
  refine al_k ?_
  refine cl_seq rfl ?_
  refine cl_reg rfl ?_
  refine st rfl rfl rfl rfl (x_ld rfl Tryd.isAgg40 (hv2.cell rfl)) ?_
  refine st rfl rfl rfl rfl (x_len rfl Tryd.underlying40) ?_
  refine st rfl rfl rfl rfl (x_lss rfl rfl) ?_
  refine st rfl rfl rfl rfl (x_asg rfl) ?_
  refine rl_end rfl ?_
  refine al_k ?_
  refine cl_ret rfl ?_
  refine fin1 rfl rfl ?_
  refine ⟨_, rfl, hv2, ?_, F⟩
  have e : ints (done ++ [z]) = ints done ++ [.int .i64 z] := by simp [ints]
  rw [e]; exact HO1

theorem rest_c (w : World) (q : Option Addr) (li : Int) (bk : Bool) (b1 b2 b3 : Nat) (hb1 : Blk w b1 23 [.pointer q]) (hb2 : Blk w b2 3 [.int .i64 li]) (hb3 : Blk w b3 4 [.bool bk]) (xs : List Int) (hx : xs.length ≤ 80) (hrow : ∀ w1, Fr [] w w1 → Cl Tryd.prog 50 [.pointer q, .int .i64 li, .bool bk] w1 (fun v w' => w'.ownsRow w1.heap.size 3 1 v xs.length (ints xs) ∧ Fr [] w1 w')) :
    Cl Tryd.prog 26 [.func (.func 49) [].toArray [.pointer (some ⟨b1, 0, none⟩), .pointer (some ⟨b2, 0, none⟩), .pointer (some ⟨b3, 0, none⟩)].toArray] w (fun v w' => w'.ownsRow w.heap.size 3 1 v xs.length (ints xs) ∧ Fr [] w w') := by
  have F := Fr.refl [] w
  refine enter Tryd.func26 rfl Tryd.ntmps26 rfl ?_
  refine cl_seq rfl ?_
  refine cl_reg rfl ?_
  refine st rfl rfl rfl rfl (x_asg rfl) ?_
  refine rl_end rfl ?_
  refine al_k ?_
  refine cl_seq rfl ?_
  refine cl_reg rfl ?_
  refine se rfl rfl rfl rfl (e_new (x_alloc Tryd.zeroValue40 rfl)) ?_
  rintro _ w1_0 ⟨rfl, b1_0, fr1_0, sz1_0⟩
  replace F := F.trans fr1_0
  replace hb1 := hb1.fr0 fr1_0
  replace hb2 := hb2.fr0 fr1_0
  replace hb3 := hb3.fr0 fr1_0
  refine rl_end rfl ?_
  refine al_k ?_
  refine cl_seq rfl ?_
  refine cl_seq rfl ?_
  refine cl_reg rfl ?_
  refine st rfl rfl rfl rfl (x_move rfl) ?_
  refine st rfl rfl rfl rfl (x_eqlf rfl rfl Tryd.underlying42) ?_
  refine rl_end rfl ?_
  refine al_k ?_
  refine cl_if0 rfl rfl ?_
  refine cl_skip rfl ?_
  refine al_k ?_
  refine cl_seq rfl ?_
  refine cl_reg rfl ?_
  have hsz := sz1_0
  refine st rfl rfl rfl rfl (x_move rfl) ?_
  refine st rfl rfl rfl rfl (x_mkf rfl rfl) ?_
  refine sc rfl rfl rfl rfl (c_fv rfl rfl Tryd.call49 (told1_c _ q li bk b1 b2 b3 hb1 hb2 hb3 xs (by omega) (fun w1 fr => hrow w1 (F.trans fr)) 41 [] [.pointer (some ⟨w.heap.size, 0, none⟩)] Tryd.call41 (fun d => decide ((d.length : Int) < 80)) (fun ws done w1 => ∃ v, Blk w1 w.heap.size 40 [v] ∧ w1.ownsRow ws.heap.size 3 1 v done.length (ints done) ∧ Fr [w.heap.size] ws w1) [w.heap.size] (by intro q hq; simp at hq; subst hq; omega) (fun ws fr => ⟨_, b1_0.fr0 fr, own_nil _ _ _, Fr.refl _ _⟩) (fun ws done w1 h => h.choose_spec.2.2) (fun ws k z w1 fr hz h => by
        obtain ⟨v, hv, HO, F1⟩ := h
        have hkl := (List.getElem?_eq_some_iff.1 hz).1
        have e : (xs.take k).length = k := by rw [List.length_take]; omega
        have e2 : xs.take (k + 1) = xs.take k ++ [z] := by rw [List.take_add_one, hz]; rfl
        have e3 : (xs.take k ++ [z]).length = (xs.take k).length + 1 := by simp
        have hs := fr.size
        refine (rest1_c ws w1 w.heap.size z (xs.take k) v hv HO F1 (by omega) (by omega)).mono ?_
        rintro r w' ⟨v', rfl, hv', HO', F'⟩
        rw [e2]
        exact ⟨congrArg _ (by rw [e3]), v', hv', by rw [e3]; exact HO', F'⟩))) ?_
  rintro _ w9 ⟨rfl, ws, k, F1, hst, v9, hv9, HO9, F9⟩
  -- rest
  refine rl_end rfl ?_
  refine al_k ?_
  refine cl_seq rfl ?_
  refine cl_reg rfl ?_
  refine st rfl rfl rfl rfl (x_ld rfl Tryd.isAgg40 (hv9.cell rfl)) ?_
  refine st rfl rfl rfl rfl (x_asg rfl) ?_
  refine rl_end rfl ?_
  refine al_k ?_
  refine cl_ret rfl ?_
  refine fin1 rfl rfl ?_
  have ek : k = xs.length := by
    rcases hst.2.2 with h | ⟨h0, h⟩
    · exact h
    · have hk := hst.1
      replace h : decide ((((xs.take k).length : Nat) : Int) < 80) = false := h
      rw [List.length_take] at h
      simp at h
      omega
  subst ek
  rw [List.take_length] at HO9
  have hs := F1.size
  have hs0 := F.size
  exact ⟨own_mono HO9 (by omega), (F.trans F1).trans_new F9 (by intro q hq; simp at hq; subst hq; exact .inr (Nat.le_refl _))⟩

theorem ltold_c (w : World) (q : Option Addr) (li : Int) (xs : List Int) (hx : xs.length ≤ 80) (hrow : ∀ w1, Fr [] w w1 → Cl Tryd.prog 50 [.pointer q, .int .i64 li, .bool false] w1 (fun v w' => w'.ownsRow w1.heap.size 3 1 v xs.length (ints xs) ∧ Fr [] w1 w')) :
    Cl Tryd.prog 20 [.pointer q, .int .i64 li] w (fun v w' => w'.ownsRow w.heap.size 3 1 v xs.length (ints xs) ∧ Fr [] w w') := by
  refine enter Tryd.func20 rfl Tryd.ntmps20 rfl ?_
  refine cl_seq rfl ?_
  refine cl_reg rfl ?_
  refine st rfl rfl rfl rfl (x_asg rfl) ?_
  refine rl_end rfl ?_
  refine al_k ?_
  refine cl_seq rfl ?_
  refine cl_reg rfl ?_
  refine st rfl rfl rfl rfl (x_move rfl) ?_
  refine st rfl rfl rfl rfl (x_move rfl) ?_
  refine sc rfl rfl rfl rfl (c_fn rfl Tryd.call16 (All_c _ q li)) ?_
  rintro _ w1 ⟨b1, b2, b3, rfl, hb1, hb2, hb3, _, _, _, F⟩
  refine sc rfl rfl rfl rfl (c_fn rfl Tryd.call26 (rest_c _ q li false b1 b2 b3 hb1 hb2 hb3 xs hx (fun w1 fr => hrow w1 (F.trans fr)))) ?_
  rintro v w2 ⟨HO, F2⟩
  refine st rfl rfl rfl rfl (x_asg rfl) ?_
  refine rl_end rfl ?_
  refine al_k ?_
  refine cl_ret rfl ?_
  refine fin1 rfl rfl ?_
  exact ⟨own_mono HO F.size, F.trans F2⟩

end Go.Proofs.YtnnhpbjibhnhnabDoor.Ls
