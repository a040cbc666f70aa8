/- The arena: the walk of Held. -/
import Derived.Test.YtjjaijabdfoanaaDoorArW7
import Derived.Test.YtjjaijabdfoanaaDoorArH
set_option linter.unusedVariables false
namespace Go.Proofs.YtjjaijabdfoanaaDoor.Arn
open Go Go.RowKit Go.Proofs.YtjjaijabdfoanaaDoor.Sx Go.Proofs.YtjjaijabdfoanaaDoor.Ls Go.Proofs.YtjjaijabdfoanaaDoor
set_option maxRecDepth 100000

theorem nums0_c (w : World) (q : Option Addr) (part : Int) : Cl Tryd.prog 46 [.pointer q, .int .i64 part] w (fun v w' => ∃ b1 b2, v = .func (.func 52) [].toArray [.pointer (some ⟨b1, 0, none⟩), .pointer (some ⟨b2, 0, none⟩)].toArray ∧ Blk w' b1 26 [.pointer q] ∧ Blk w' b2 3 [.int .i64 part] ∧ w.heap.size ≤ b1 ∧ w.heap.size ≤ b2 ∧ b1 ≠ b2 ∧ Fr [] w w') := by
  have F := Fr.refl [] w
  refine enter Tryd.func46 rfl Tryd.ntmps46 rfl ?_
  refine cl_seq rfl ?_
  refine cl_reg rfl ?_
  refine se rfl rfl rfl rfl (e_new (x_box rfl rfl)) ?_
  rintro _ w0_0 ⟨rfl, b0_0, fr0_0, sz0_0⟩
  replace F := F.trans fr0_0
  have g2 := F.size
  refine se rfl rfl rfl rfl (e_new (x_box rfl rfl)) ?_
  rintro _ w0_1 ⟨rfl, b0_1, fr0_1, sz0_1⟩
  replace F := F.trans fr0_1
  replace b0_0 := b0_0.fr0 fr0_1
  refine st rfl rfl rfl rfl (x_asg rfl) ?_
  refine rl_end rfl ?_
  refine al_k ?_
  refine cl_seq rfl ?_
  refine cl_reg rfl ?_
  refine st rfl rfl rfl rfl (x_mkf rfl rfl) ?_
  refine st rfl rfl rfl rfl (x_asg rfl) ?_
  refine rl_end rfl ?_
  refine al_k ?_
  refine cl_ret rfl ?_
  refine fin1 rfl rfl ?_
  exact ⟨_, _, rfl, b0_0, b0_1, Nat.le_refl _, g2, by have := b0_1.ne b0_0 (by decide); exact this.symm, F⟩

theorem heldf_c (w : World) (q : Option Addr) (part : Int) : Cl Tryd.prog 39 [.pointer q, .int .i64 part] w (fun v w' => ∃ b1 b2, v = .func (.func 45) [].toArray [.pointer (some ⟨b1, 0, none⟩), .pointer (some ⟨b2, 0, none⟩)].toArray ∧ Blk w' b1 26 [.pointer q] ∧ Blk w' b2 3 [.int .i64 part] ∧ w.heap.size ≤ b1 ∧ w.heap.size ≤ b2 ∧ b1 ≠ b2 ∧ Fr [] w w') := by
  have F := Fr.refl [] w
  refine enter Tryd.func39 rfl Tryd.ntmps39 rfl ?_
  refine cl_seq rfl ?_
  refine cl_reg rfl ?_
  refine se rfl rfl rfl rfl (e_new (x_box rfl rfl)) ?_
  rintro _ w0_0 ⟨rfl, b0_0, fr0_0, sz0_0⟩
  replace F := F.trans fr0_0
  have g2 := F.size
  refine se rfl rfl rfl rfl (e_new (x_box rfl rfl)) ?_
  rintro _ w0_1 ⟨rfl, b0_1, fr0_1, sz0_1⟩
  replace F := F.trans fr0_1
  replace b0_0 := b0_0.fr0 fr0_1
  refine st rfl rfl rfl rfl (x_asg rfl) ?_
  refine rl_end rfl ?_
  refine al_k ?_
  refine cl_seq rfl ?_
  refine cl_reg rfl ?_
  refine st rfl rfl rfl rfl (x_mkf rfl rfl) ?_
  refine st rfl rfl rfl rfl (x_asg rfl) ?_
  refine rl_end rfl ?_
  refine al_k ?_
  refine cl_ret rfl ?_
  refine fin1 rfl rfl ?_
  exact ⟨_, _, rfl, b0_0, b0_1, Nat.le_refl _, g2, by have := b0_1.ne b0_0 (by decide); exact this.symm, F⟩

theorem nums_c (w : World) (k : AK) (x : Ar) (part : Int) (L b1 b2 : Nat) (J : Nat → World → Prop) (hJ0 : ∀ m W W', J m W → Fr [] W W' → J m W') (hJ : ∀ m W, J m W → ArAt W k x ∧ Blk W b1 26 [.pointer (some ⟨k.ap, 0, none⟩)] ∧ Blk W b2 3 [.int .i64 part]) (hY : ∀ m W, m < (heldN x part).length → J m W → Yd Tryd.prog L [argv x part m] W (fun v W' => v = .bool true ∧ J (m + 1) W')) (h0 : J 0 w) :
    Cl Tryd.prog 52 [.func (.yield L) #[] #[], .pointer (some ⟨b1, 0, none⟩), .pointer (some ⟨b2, 0, none⟩)] w (fun v w' => v = .tuple #[] ∧ J (heldN x part).length w') := by
  obtain ⟨K, c1, c2⟩ := hJ _ _ h0
  have hlen := K.sl0
  refine enter Tryd.func52 rfl Tryd.ntmps52 rfl ?_
  refine cl_seq rfl ?_
  refine cl_reg rfl ?_
  refine st rfl rfl rfl rfl (x_ld rfl Tryd.isAgg26 (c1.cell rfl)) ?_
  refine st rfl rfl rfl rfl (x_nil rfl) ?_
  refine st rfl rfl rfl rfl (x_fa rfl Tryd.underlying64 rfl Tryd.sizeOf60 0 rfl) ?_
  refine st rfl rfl rfl rfl (x_ld rfl Tryd.isAgg60 K.cS) ?_
  refine st rfl rfl rfl rfl (x_len rfl Tryd.underlying60) ?_
  refine st rfl rfl rfl rfl (x_move rfl) ?_
  refine rl_end rfl ?_
  refine al_k ?_
  refine cl_block rfl ?_
  refine cl_loop (fun i : Nat => [(11, .int .i64 i), (10, .int .i64 x.slots.length), (9, .slice k.A x.slots.length k.c), (0, .func (.yield L) #[] #[]), (1, .pointer (some ⟨b1, 0, none⟩)), (2, .pointer (some ⟨b2, 0, none⟩))]) (fun i w' => i ≤ x.slots.length ∧ J (heldTo x part i).length w') (fun i => x.slots.length - i) 0 rfl ⟨rfl, rfl, rfl, rfl, rfl, rfl, trivial⟩ ?_ ?_
  · exact ⟨Nat.zero_le _, h0⟩
  · skip
    rintro i wr ⟨hi, H⟩
    obtain ⟨K, c1, c2⟩ := hJ _ _ H
    refine cl_seq rfl ?_
    refine cl_reg rfl ?_
    refine sf rfl rfl rfl rfl (x_lss rfl rfl) (fun c1_0 => ?_) (fun c1_0 => ?_)
    · skip
      refine rl_end rfl ?_
      refine al_k ?_
      refine cl_seq rfl ?_
      refine cl_if1 rfl rfl ?_
      refine cl_skip rfl ?_
      refine al_k ?_
      refine cl_seq rfl ?_
      refine cl_block rfl ?_
      refine cl_seq rfl ?_
      have hil : i < x.slots.length := by omega
      obtain ⟨s, hs⟩ : ∃ s, x.slots[i]? = some s := ⟨_, List.getElem?_eq_getElem hil⟩
      have eA := (K.sl (ne_of_at hs)).1
      rw [eA]
      refine cl_reg rfl ?_
      refine st rfl rfl rfl rfl (x_move rfl) ?_
      refine st rfl rfl rfl rfl (x_ia0 rfl rfl Tryd.underlying60 Tryd.sizeOf68 (by omega)) ?_
      refine st rfl rfl rfl rfl (x_ldn rfl Tryd.isAgg68 Tryd.sizeOf68 rfl (K.cSe hs)) ?_
      refine se rfl rfl rfl rfl (e_new (x_alloc Tryd.zeroValue68 rfl)) ?_
      rintro _ w2 ⟨rfl, b5, fA, _⟩
      refine st rfl rfl rfl rfl (x_asg rfl) ?_
      refine sv rfl rfl rfl (v_n rfl rfl (oneS s) Tryd.sizeOf68 rfl b5 (by decide)) ?_
      rintro w3 ⟨b5b, fr⟩
      replace b5 : Blk w3 _ 68 (encS s) := b5b
      have FF := fA.trans_new fr (by intro q hq; simp at hq; subst hq; exact .inr (Nat.le_refl _))
      replace H := hJ0 _ _ _ H FF
      clear K c1 c2
      obtain ⟨K, c1, c2⟩ := hJ _ _ H
      refine rl_end rfl ?_
      refine al_k ?_
      refine cl_seq rfl ?_
      refine cl_regI rfl ?_
      refine ist rfl rfl rfl rfl (x_fa rfl Tryd.underlying68 rfl Tryd.sizeOf4 3 rfl) ?_
      refine ist rfl rfl rfl rfl (x_ld rfl Tryd.isAgg4 (b5.cell rfl)) ?_
      cases hf3_1 : (s.held)
      · skip
        refine ist rfl rfl rfl rfl (x_move rfl) ?_
        refine iso rfl rfl rfl rfl ?_
        refine iso rfl rfl rfl rfl ?_
        refine iso rfl rfl rfl rfl ?_
        refine iso rfl rfl rfl rfl ?_
        refine ist rfl rfl rfl rfl (x_pick0 rfl rfl) ?_
        refine ist rfl rfl rfl rfl (x_move rfl) ?_
        refine iso rfl rfl rfl rfl ?_
        refine iso rfl rfl rfl rfl ?_
        refine iso rfl rfl rfl rfl ?_
        refine iso rfl rfl rfl rfl ?_
        refine ist rfl rfl rfl rfl (x_pick0 rfl rfl) ?_
        refine irl_end rfl ?_
        refine al_k ?_
        refine cl_if0 rfl rfl ?_
        refine cl_skip rfl ?_
        refine al_k ?_
        refine cl_reg rfl ?_
        refine st rfl rfl rfl rfl (x_add rfl rfl (by omega)) ?_
        refine st rfl rfl rfl rfl (x_move rfl) ?_
        refine rl_end rfl ?_
        have hno : isH x part i = false := by rw [isH_some hs, hf3_1]; rfl
        refine again (i + 1) (by omega) ⟨rfl, rfl, rfl, rfl, rfl, rfl, trivial⟩ ⟨by omega, by rw [heldTo_no hno]; exact H⟩
      · skip
        refine ist rfl rfl rfl rfl (x_move rfl) ?_
        refine ist rfl rfl rfl rfl (x_fa rfl Tryd.underlying68 rfl Tryd.sizeOf3 0 rfl) ?_
        refine ist rfl rfl rfl rfl (x_ld rfl Tryd.isAgg3 (b5.cell rfl)) ?_
        refine ist rfl rfl rfl rfl (x_ld rfl Tryd.isAgg3 (c2.cell rfl)) ?_
        refine isf rfl rfl rfl rfl (x_eql rfl rfl) (fun c3_6 => ?_) (fun c3_6 => ?_)
        · skip
          refine ist rfl rfl rfl rfl (x_pick1 rfl rfl) ?_
          refine ist rfl rfl rfl rfl (x_move rfl) ?_
          refine ist rfl rfl rfl rfl (x_move rfl) ?_
          refine ist rfl rfl rfl rfl (x_move rfl) ?_
          have hyes : isH x part i = true := by rw [isH_some hs, hf3_1]; simp [c3_6]
          have hat := heldTo_at hyes hil
          have hYi := hY _ _ (List.getElem?_eq_some_iff.1 hat).1 H
          rw [argv_of hat] at hYi
          refine iy rfl rfl rfl rfl rfl (hYi) ?_
          rintro _ w4 ⟨rfl, H⟩
          refine ist rfl rfl rfl rfl (x_not1 rfl) ?_
          refine ist rfl rfl rfl rfl (x_pick1 rfl rfl) ?_
          refine irl_end rfl ?_
          refine al_k ?_
          refine cl_if0 rfl rfl ?_
          refine cl_skip rfl ?_
          refine al_k ?_
          refine cl_reg rfl ?_
          refine st rfl rfl rfl rfl (x_add rfl rfl (by omega)) ?_
          refine st rfl rfl rfl rfl (x_move rfl) ?_
          refine rl_end rfl ?_
          have e : (heldTo x part (i + 1)).length = (heldTo x part i).length + 1 := by (rw [heldTo_yes hyes, List.length_append]; rfl)
          refine again (i + 1) (by omega) ⟨rfl, rfl, rfl, rfl, rfl, rfl, trivial⟩ ⟨by omega, by rw [e]; exact H⟩
        · skip
          refine ist rfl rfl rfl rfl (x_pick1 rfl rfl) ?_
          refine ist rfl rfl rfl rfl (x_move rfl) ?_
          refine iso rfl rfl rfl rfl ?_
          refine iso rfl rfl rfl rfl ?_
          refine iso rfl rfl rfl rfl ?_
          refine iso rfl rfl rfl rfl ?_
          refine ist rfl rfl rfl rfl (x_pick0 rfl rfl) ?_
          refine irl_end rfl ?_
          refine al_k ?_
          refine cl_if0 rfl rfl ?_
          refine cl_skip rfl ?_
          refine al_k ?_
          refine cl_reg rfl ?_
          refine st rfl rfl rfl rfl (x_add rfl rfl (by omega)) ?_
          refine st rfl rfl rfl rfl (x_move rfl) ?_
          refine rl_end rfl ?_
          have hno : isH x part i = false := by rw [isH_some hs, hf3_1]; simp [c3_6]
          refine again (i + 1) (by omega) ⟨rfl, rfl, rfl, rfl, rfl, rfl, trivial⟩ ⟨by omega, by rw [heldTo_no hno]; exact H⟩
    · skip
      refine rl_end rfl ?_
      refine al_k ?_
      refine cl_seq rfl ?_
      refine cl_if0 rfl rfl ?_
      refine cl_exit rfl ?_
      refine upd_self ?_
      refine fin0n rfl ?_
      have e : i = x.slots.length := by omega
      subst e
      exact ⟨rfl, H⟩

theorem heldr_c (w : World) (k : AK) (x : Ar) (K : ArAt w k x) (z0 : 0 < w.heap.size) (part : Int) (b1 b2 : Nat) (c1 : Blk w b1 26 [.pointer (some ⟨k.ap, 0, none⟩)]) (c2 : Blk w b2 3 [.int .i64 part]) (kf : FuncId) (caps : List Value) (hg : ∀ a w, (callFunc kf a).run Tryd.prog w = .ok (.enter kf a) w) (C : List (Int × Int) → Bool) (Y : World → List (Int × Int) → World → Prop) (T : List Nat) (hT : ∀ q ∈ T, q < w.heap.size)
    (hY0 : ∀ ws, Fr [] w ws → Y ws [] ws) (hYf : ∀ ws done w1, Y ws done w1 → Fr T ws w1) (hYr : ∀ ws done w1 w2, Y ws done w1 → Fr [] w1 w2 → Y ws done w2)
    (hYs : ∀ ws q z w1, Fr [] w ws → (names x part)[q]? = some z → Y ws ((names x part).take q) w1 → Cl Tryd.prog kf ([] ++ [.agg [.int .i64 z.1, .int .u64 z.2].toArray] ++ caps) w1 (fun v w2 => v = .bool (C ((names x part).take (q + 1))) ∧ Y ws ((names x part).take (q + 1)) w2)) :
    Cl Tryd.prog 45 [.func (.func kf) [].toArray caps.toArray, .pointer (some ⟨b1, 0, none⟩), .pointer (some ⟨b2, 0, none⟩)] w (fun v w' => v = .tuple #[] ∧ ∃ ws kk D w1, Fr [] w ws ∧ StopA C (names x part) kk ∧ Y ws ((names x part).take kk) w1 ∧ w.heap.size ≤ D ∧ D < ws.heap.size ∧ Fr [D] w1 w') := by
  have F := Fr.refl [] w
  have zk := K.lts
  have zb1 := c1.lt
  refine enterM Tryd.func45 rfl Tryd.ntmps45 rfl ?_
  refine cl_seq rfl ?_
  refine cl_seq rfl ?_
  refine cl_reg rfl ?_
  refine st rfl rfl rfl rfl (x_ld rfl Tryd.isAgg26 (c1.cell rfl)) ?_
  refine sc rfl rfl rfl rfl (c_fn rfl Tryd.call28 (is_a _ k x K)) ?_
  rintro _ wk ⟨rfl, hwk⟩
  obtain rfl := hwk.symm
  refine st rfl rfl rfl rfl (x_not1 rfl) ?_
  refine rl_end rfl ?_
  refine al_k ?_
  refine cl_if0 rfl rfl ?_
  refine cl_skip rfl ?_
  refine al_k ?_
  refine cl_seq rfl ?_
  refine cl_reg rfl ?_
  refine se rfl rfl rfl rfl (e_new (x_alloc Tryd.zeroValue30 rfl)) ?_
  rintro _ w1 ⟨rfl, h4, fr, _⟩
  replace F := F.trans fr
  replace K := K.fr0 fr
  replace c1 := c1.fr0 fr
  replace c2 := c2.fr0 fr
  have zb4 := h4.lt
  generalize hb4 : w.heap.size = b4 at h4 zb4 ⊢
  clear fr
  refine rl_end rfl ?_
  refine al_k ?_
  refine cl_seq rfl ?_
  refine cl_seq rfl ?_
  refine cl_reg rfl ?_
  refine st rfl rfl rfl rfl (x_ld rfl Tryd.isAgg26 (c1.cell rfl)) ?_
  refine st rfl rfl rfl rfl (x_ld rfl Tryd.isAgg3 (c2.cell rfl)) ?_
  refine sc rfl rfl rfl rfl (c_fn rfl Tryd.call46 (nums0_c _ (some ⟨k.ap, 0, none⟩) part)) ?_
  rintro _ wR ⟨b3, b5, rfl, c3, c5, g3, g5, n35, fr⟩
  replace F := F.trans fr
  replace K := K.fr0 fr
  replace c1 := c1.fr0 fr
  replace c2 := c2.fr0 fr
  replace h4 := h4.fr0 fr
  have zz := fr.size
  clear fr
  refine rl_end rfl ?_
  refine al_k ?_
  refine cl_block rfl ?_
  have l3 := c3.lt
  have l5 := c5.lt
  have zb : (b1 < w.heap.size ∧ w.heap.size ≤ b4 ∧ w.heap.size ≤ b3 ∧ w.heap.size ≤ b5) ∧ (b4 < wR.heap.size ∧ b3 < wR.heap.size ∧ b5 < wR.heap.size) ∧ (b3 ≠ b4 ∧ b5 ≠ b4) := by omega
  refine cl_range rfl rfl Tryd.call52 (heldN x part).length (fun m => [argv x part m]) (fun m => [(5, argv x part m), (4, .pointer (some ⟨b4, 0, none⟩)), (1, .pointer (some ⟨b1, 0, none⟩))]) (fun m W => HI w wR.heap.size b1 b3 b4 b5 k x part m W) (by decide) (fun _ => rfl) ?_ ?_ ?_ ?_ ?_ ?_ ?_
  · skip
    intro W f hz
    exact ⟨K.fr0 f, c1.fr0 f, c3.fr0 f, c5.fr0 f, ⟨_, h4.fr0 f, own_nil _ _ _⟩, F.trans f, hz, zk, z0, zb⟩
  · skip
    intro m W W' H f
    exact H.frS f (by intro q hq; simp at hq; omega)
  · skip
    intro J hJ0 hJ hY W hW
    exact (nums_c W k x part (wR.heap.size + 1) b3 b5 J hJ0 (fun m W h => ⟨(hJ m W h).K, (hJ m W h).c3, (hJ m W h).c5⟩) hY hW).mono (fun v W' h => h.2)
  · skip
    intro m W W' H f
    exact H.fr0 f
  · skip
    intro m W hm
    refine icl_reg rfl ?_
    refine ist rfl rfl rfl rfl (x_asg rfl) ?_
    refine irl_end rfl ?_
    exact fun a ha => ⟨rfl, ha.sub ⟨rfl, rfl, rfl, trivial⟩⟩
  · skip
    rintro m W hm H
    obtain ⟨i, hi⟩ : ∃ i, (heldN x part)[m]? = some i := ⟨_, List.getElem?_eq_getElem hm⟩
    obtain ⟨s, hs, hh, hp⟩ := heldN_slot hi
    obtain ⟨v, hv4, HO⟩ := H.row
    have hk := KLD.refl H.zB
    have hml : ((names x part).take m).length ≤ 65536 := by (have := heldN_len x part; have := K.sl0; have := names_len x part; rw [List.length_take]; omega)
    rw [argv_of hi]
    refine icl_block rfl ?_
    refine icl_draw (by kernel_rfl) rfl ?_
    rintro wd4 frd4 hpd4
    replace H := H.fr0 frd4
    replace hv4 := hv4.fr0 frd4
    replace HO := own_fr0 HO frd4
    replace hk := hk.fr0 frd4
    refine di_3 (i := 0) (j := 1) (m := 2) (by kernel_rfl) ?_ ?_ ?_
    · skip
      refine oi_x rfl rfl rfl rfl (x_ld rfl Tryd.isAgg30 (hv4.cell rfl)) ?_
      refine di_2 (i := 1) (j := 2) (by kernel_rfl) ?_ ?_
      · skip
        refine oi_x rfl rfl rfl rfl (x_ld rfl Tryd.isAgg26 (H.c1.cell rfl)) ?_
        refine di_1 (i := 2) (by kernel_rfl) ?_
        refine oi_x rfl rfl rfl rfl (x_move rfl) ?_
        refine di_1 (i := 3) (by kernel_rfl) ?_
        refine oi_c rfl rfl rfl rfl (c_fn rfl Tryd.call30 (name_a _ k x H.K (i : Int) (by omega) s (by simpa using hs))) ?_
        rintro _ wn ⟨rfl, fr⟩
        replace H := H.fr0 fr
        replace hv4 := hv4.fr0 fr
        replace HO := own_fr0 HO fr
        replace hk := hk.fr0 fr
        clear fr
        refine di_1 (i := 4) (by kernel_rfl) ?_
        refine oi_e rfl rfl rfl rfl (e_new (x_bsl rfl (bslN _ _ _))) ?_
        rintro _ wb ⟨rfl, b44, fr, _⟩
        replace H := H.fr0 fr
        replace hv4 := hv4.fr0 fr
        replace HO := own_fr0 HO fr
        replace hk := hk.fr0 fr
        clear fr
        refine di_1 (i := 5) (by kernel_rfl) ?_
        refine oi_e rfl rfl rfl rfl (e_app 2 16 (.agg #[.int .i64 0, .int .u64 0]) _ rfl rfl Tryd.underlying30 (by kernel_rfl) rfl (by decide) HO rfl b44.news (oneN (_, _)) (by omega) (by omega) H.zB) ?_
        rintro v1 wa ⟨HO1, hg2, hat⟩
        rw [encN_snoc] at HO1
        replace HO1 : World.ownsRow wa (wR.heap.size + 2) 33 2 v1 ((names x part).take (m + 1)).length (flat encN ((names x part).take (m + 1))) := by rw [names_succ hi hs, List.length_append]; exact HO1
        replace hv4 := hv4.fr (Fr.of_grown hg2) (by intro hq; cases hvo : v.ownBlock with | none => (simp [hvo] at hq) | some r => (simp [hvo] at hq; subst hq; have := own_ge HO _ hvo; omega))
        replace hk := hk.frS (Fr.of_grown hg2) (by intro q hq; cases hvo : v.ownBlock with | none => (simp [hvo] at hq) | some r => (simp [hvo] at hq; subst hq; have := own_ge HO _ hvo; omega))
        obtain ⟨hcv, hov⟩ : v1.cells = #[v1] ∧ v1.oneCell' = true := by obtain ⟨A1, c1, rfl, _⟩ := own_slice HO1; exact ⟨rfl, rfl⟩
        refine di_1 (i := 6) (by kernel_rfl) ?_
        refine oi_v rfl rfl rfl (v_1 rfl rfl hcv hov Tryd.sizeOf30 hv4 (by simp)) ?_
        rintro w6 ⟨hv6, fr⟩
        have H6 := H.push hg2 (own_ge HO) fr hv6 HO1
        replace hk := hk.frS fr (by intro q hq; simp at hq; omega)
        refine di_n (by kernel_rfl) ?_
        exact fun _ _ => ⟨H6, hk.size, hk.kp⟩
      · skip
        refine oi_x rfl rfl rfl rfl (x_move rfl) ?_
        refine di_1 (i := 1) (by kernel_rfl) ?_
        refine oi_x rfl rfl rfl rfl (x_ld rfl Tryd.isAgg26 (H.c1.cell rfl)) ?_
        refine di_1 (i := 3) (by kernel_rfl) ?_
        refine oi_c rfl rfl rfl rfl (c_fn rfl Tryd.call30 (name_a _ k x H.K (i : Int) (by omega) s (by simpa using hs))) ?_
        rintro _ wn ⟨rfl, fr⟩
        replace H := H.fr0 fr
        replace hv4 := hv4.fr0 fr
        replace HO := own_fr0 HO fr
        replace hk := hk.fr0 fr
        clear fr
        refine di_1 (i := 4) (by kernel_rfl) ?_
        refine oi_e rfl rfl rfl rfl (e_new (x_bsl rfl (bslN _ _ _))) ?_
        rintro _ wb ⟨rfl, b44, fr, _⟩
        replace H := H.fr0 fr
        replace hv4 := hv4.fr0 fr
        replace HO := own_fr0 HO fr
        replace hk := hk.fr0 fr
        clear fr
        refine di_1 (i := 5) (by kernel_rfl) ?_
        refine oi_e rfl rfl rfl rfl (e_app 2 16 (.agg #[.int .i64 0, .int .u64 0]) _ rfl rfl Tryd.underlying30 (by kernel_rfl) rfl (by decide) HO rfl b44.news (oneN (_, _)) (by omega) (by omega) H.zB) ?_
        rintro v1 wa ⟨HO1, hg2, hat⟩
        rw [encN_snoc] at HO1
        replace HO1 : World.ownsRow wa (wR.heap.size + 2) 33 2 v1 ((names x part).take (m + 1)).length (flat encN ((names x part).take (m + 1))) := by rw [names_succ hi hs, List.length_append]; exact HO1
        replace hv4 := hv4.fr (Fr.of_grown hg2) (by intro hq; cases hvo : v.ownBlock with | none => (simp [hvo] at hq) | some r => (simp [hvo] at hq; subst hq; have := own_ge HO _ hvo; omega))
        replace hk := hk.frS (Fr.of_grown hg2) (by intro q hq; cases hvo : v.ownBlock with | none => (simp [hvo] at hq) | some r => (simp [hvo] at hq; subst hq; have := own_ge HO _ hvo; omega))
        obtain ⟨hcv, hov⟩ : v1.cells = #[v1] ∧ v1.oneCell' = true := by obtain ⟨A1, c1, rfl, _⟩ := own_slice HO1; exact ⟨rfl, rfl⟩
        refine di_1 (i := 6) (by kernel_rfl) ?_
        refine oi_v rfl rfl rfl (v_1 rfl rfl hcv hov Tryd.sizeOf30 hv4 (by simp)) ?_
        rintro w6 ⟨hv6, fr⟩
        have H6 := H.push hg2 (own_ge HO) fr hv6 HO1
        replace hk := hk.frS fr (by intro q hq; simp at hq; omega)
        refine di_n (by kernel_rfl) ?_
        exact fun _ _ => ⟨H6, hk.size, hk.kp⟩
    · skip
      refine oi_x rfl rfl rfl rfl (x_ld rfl Tryd.isAgg26 (H.c1.cell rfl)) ?_
      refine di_2 (i := 0) (j := 2) (by kernel_rfl) ?_ ?_
      · skip
        refine oi_x rfl rfl rfl rfl (x_ld rfl Tryd.isAgg30 (hv4.cell rfl)) ?_
        refine di_1 (i := 2) (by kernel_rfl) ?_
        refine oi_x rfl rfl rfl rfl (x_move rfl) ?_
        refine di_1 (i := 3) (by kernel_rfl) ?_
        refine oi_c rfl rfl rfl rfl (c_fn rfl Tryd.call30 (name_a _ k x H.K (i : Int) (by omega) s (by simpa using hs))) ?_
        rintro _ wn ⟨rfl, fr⟩
        replace H := H.fr0 fr
        replace hv4 := hv4.fr0 fr
        replace HO := own_fr0 HO fr
        replace hk := hk.fr0 fr
        clear fr
        refine di_1 (i := 4) (by kernel_rfl) ?_
        refine oi_e rfl rfl rfl rfl (e_new (x_bsl rfl (bslN _ _ _))) ?_
        rintro _ wb ⟨rfl, b44, fr, _⟩
        replace H := H.fr0 fr
        replace hv4 := hv4.fr0 fr
        replace HO := own_fr0 HO fr
        replace hk := hk.fr0 fr
        clear fr
        refine di_1 (i := 5) (by kernel_rfl) ?_
        refine oi_e rfl rfl rfl rfl (e_app 2 16 (.agg #[.int .i64 0, .int .u64 0]) _ rfl rfl Tryd.underlying30 (by kernel_rfl) rfl (by decide) HO rfl b44.news (oneN (_, _)) (by omega) (by omega) H.zB) ?_
        rintro v1 wa ⟨HO1, hg2, hat⟩
        rw [encN_snoc] at HO1
        replace HO1 : World.ownsRow wa (wR.heap.size + 2) 33 2 v1 ((names x part).take (m + 1)).length (flat encN ((names x part).take (m + 1))) := by rw [names_succ hi hs, List.length_append]; exact HO1
        replace hv4 := hv4.fr (Fr.of_grown hg2) (by intro hq; cases hvo : v.ownBlock with | none => (simp [hvo] at hq) | some r => (simp [hvo] at hq; subst hq; have := own_ge HO _ hvo; omega))
        replace hk := hk.frS (Fr.of_grown hg2) (by intro q hq; cases hvo : v.ownBlock with | none => (simp [hvo] at hq) | some r => (simp [hvo] at hq; subst hq; have := own_ge HO _ hvo; omega))
        obtain ⟨hcv, hov⟩ : v1.cells = #[v1] ∧ v1.oneCell' = true := by obtain ⟨A1, c1, rfl, _⟩ := own_slice HO1; exact ⟨rfl, rfl⟩
        refine di_1 (i := 6) (by kernel_rfl) ?_
        refine oi_v rfl rfl rfl (v_1 rfl rfl hcv hov Tryd.sizeOf30 hv4 (by simp)) ?_
        rintro w6 ⟨hv6, fr⟩
        have H6 := H.push hg2 (own_ge HO) fr hv6 HO1
        replace hk := hk.frS fr (by intro q hq; simp at hq; omega)
        refine di_n (by kernel_rfl) ?_
        exact fun _ _ => ⟨H6, hk.size, hk.kp⟩
      · skip
        refine oi_x rfl rfl rfl rfl (x_move rfl) ?_
        refine di_2 (i := 0) (j := 3) (by kernel_rfl) ?_ ?_
        · skip
          refine oi_x rfl rfl rfl rfl (x_ld rfl Tryd.isAgg30 (hv4.cell rfl)) ?_
          refine di_1 (i := 3) (by kernel_rfl) ?_
          refine oi_c rfl rfl rfl rfl (c_fn rfl Tryd.call30 (name_a _ k x H.K (i : Int) (by omega) s (by simpa using hs))) ?_
          rintro _ wn ⟨rfl, fr⟩
          replace H := H.fr0 fr
          replace hv4 := hv4.fr0 fr
          replace HO := own_fr0 HO fr
          replace hk := hk.fr0 fr
          clear fr
          refine di_1 (i := 4) (by kernel_rfl) ?_
          refine oi_e rfl rfl rfl rfl (e_new (x_bsl rfl (bslN _ _ _))) ?_
          rintro _ wb ⟨rfl, b44, fr, _⟩
          replace H := H.fr0 fr
          replace hv4 := hv4.fr0 fr
          replace HO := own_fr0 HO fr
          replace hk := hk.fr0 fr
          clear fr
          refine di_1 (i := 5) (by kernel_rfl) ?_
          refine oi_e rfl rfl rfl rfl (e_app 2 16 (.agg #[.int .i64 0, .int .u64 0]) _ rfl rfl Tryd.underlying30 (by kernel_rfl) rfl (by decide) HO rfl b44.news (oneN (_, _)) (by omega) (by omega) H.zB) ?_
          rintro v1 wa ⟨HO1, hg2, hat⟩
          rw [encN_snoc] at HO1
          replace HO1 : World.ownsRow wa (wR.heap.size + 2) 33 2 v1 ((names x part).take (m + 1)).length (flat encN ((names x part).take (m + 1))) := by rw [names_succ hi hs, List.length_append]; exact HO1
          replace hv4 := hv4.fr (Fr.of_grown hg2) (by intro hq; cases hvo : v.ownBlock with | none => (simp [hvo] at hq) | some r => (simp [hvo] at hq; subst hq; have := own_ge HO _ hvo; omega))
          replace hk := hk.frS (Fr.of_grown hg2) (by intro q hq; cases hvo : v.ownBlock with | none => (simp [hvo] at hq) | some r => (simp [hvo] at hq; subst hq; have := own_ge HO _ hvo; omega))
          obtain ⟨hcv, hov⟩ : v1.cells = #[v1] ∧ v1.oneCell' = true := by obtain ⟨A1, c1, rfl, _⟩ := own_slice HO1; exact ⟨rfl, rfl⟩
          refine di_1 (i := 6) (by kernel_rfl) ?_
          refine oi_v rfl rfl rfl (v_1 rfl rfl hcv hov Tryd.sizeOf30 hv4 (by simp)) ?_
          rintro w6 ⟨hv6, fr⟩
          have H6 := H.push hg2 (own_ge HO) fr hv6 HO1
          replace hk := hk.frS fr (by intro q hq; simp at hq; omega)
          refine di_n (by kernel_rfl) ?_
          exact fun _ _ => ⟨H6, hk.size, hk.kp⟩
        · skip
          refine oi_c rfl rfl rfl rfl (c_fn rfl Tryd.call30 (name_a _ k x H.K (i : Int) (by omega) s (by simpa using hs))) ?_
          rintro _ wn ⟨rfl, fr⟩
          replace H := H.fr0 fr
          replace hv4 := hv4.fr0 fr
          replace HO := own_fr0 HO fr
          replace hk := hk.fr0 fr
          clear fr
          refine di_2 (i := 0) (j := 4) (by kernel_rfl) ?_ ?_
          · skip
            refine oi_x rfl rfl rfl rfl (x_ld rfl Tryd.isAgg30 (hv4.cell rfl)) ?_
            refine di_1 (i := 4) (by kernel_rfl) ?_
            refine oi_e rfl rfl rfl rfl (e_new (x_bsl rfl (bslN _ _ _))) ?_
            rintro _ wb ⟨rfl, b44, fr, _⟩
            replace H := H.fr0 fr
            replace hv4 := hv4.fr0 fr
            replace HO := own_fr0 HO fr
            replace hk := hk.fr0 fr
            clear fr
            refine di_1 (i := 5) (by kernel_rfl) ?_
            refine oi_e rfl rfl rfl rfl (e_app 2 16 (.agg #[.int .i64 0, .int .u64 0]) _ rfl rfl Tryd.underlying30 (by kernel_rfl) rfl (by decide) HO rfl b44.news (oneN (_, _)) (by omega) (by omega) H.zB) ?_
            rintro v1 wa ⟨HO1, hg2, hat⟩
            rw [encN_snoc] at HO1
            replace HO1 : World.ownsRow wa (wR.heap.size + 2) 33 2 v1 ((names x part).take (m + 1)).length (flat encN ((names x part).take (m + 1))) := by rw [names_succ hi hs, List.length_append]; exact HO1
            replace hv4 := hv4.fr (Fr.of_grown hg2) (by intro hq; cases hvo : v.ownBlock with | none => (simp [hvo] at hq) | some r => (simp [hvo] at hq; subst hq; have := own_ge HO _ hvo; omega))
            replace hk := hk.frS (Fr.of_grown hg2) (by intro q hq; cases hvo : v.ownBlock with | none => (simp [hvo] at hq) | some r => (simp [hvo] at hq; subst hq; have := own_ge HO _ hvo; omega))
            obtain ⟨hcv, hov⟩ : v1.cells = #[v1] ∧ v1.oneCell' = true := by obtain ⟨A1, c1, rfl, _⟩ := own_slice HO1; exact ⟨rfl, rfl⟩
            refine di_1 (i := 6) (by kernel_rfl) ?_
            refine oi_v rfl rfl rfl (v_1 rfl rfl hcv hov Tryd.sizeOf30 hv4 (by simp)) ?_
            rintro w6 ⟨hv6, fr⟩
            have H6 := H.push hg2 (own_ge HO) fr hv6 HO1
            replace hk := hk.frS fr (by intro q hq; simp at hq; omega)
            refine di_n (by kernel_rfl) ?_
            exact fun _ _ => ⟨H6, hk.size, hk.kp⟩
          · skip
            refine oi_e rfl rfl rfl rfl (e_new (x_bsl rfl (bslN _ _ _))) ?_
            rintro _ wb ⟨rfl, b44, fr, _⟩
            replace H := H.fr0 fr
            replace hv4 := hv4.fr0 fr
            replace HO := own_fr0 HO fr
            replace hk := hk.fr0 fr
            clear fr
            refine di_1 (i := 0) (by kernel_rfl) ?_
            refine oi_x rfl rfl rfl rfl (x_ld rfl Tryd.isAgg30 (hv4.cell rfl)) ?_
            refine di_1 (i := 5) (by kernel_rfl) ?_
            refine oi_e rfl rfl rfl rfl (e_app 2 16 (.agg #[.int .i64 0, .int .u64 0]) _ rfl rfl Tryd.underlying30 (by kernel_rfl) rfl (by decide) HO rfl b44.news (oneN (_, _)) (by omega) (by omega) H.zB) ?_
            rintro v1 wa ⟨HO1, hg2, hat⟩
            rw [encN_snoc] at HO1
            replace HO1 : World.ownsRow wa (wR.heap.size + 2) 33 2 v1 ((names x part).take (m + 1)).length (flat encN ((names x part).take (m + 1))) := by rw [names_succ hi hs, List.length_append]; exact HO1
            replace hv4 := hv4.fr (Fr.of_grown hg2) (by intro hq; cases hvo : v.ownBlock with | none => (simp [hvo] at hq) | some r => (simp [hvo] at hq; subst hq; have := own_ge HO _ hvo; omega))
            replace hk := hk.frS (Fr.of_grown hg2) (by intro q hq; cases hvo : v.ownBlock with | none => (simp [hvo] at hq) | some r => (simp [hvo] at hq; subst hq; have := own_ge HO _ hvo; omega))
            obtain ⟨hcv, hov⟩ : v1.cells = #[v1] ∧ v1.oneCell' = true := by obtain ⟨A1, c1, rfl, _⟩ := own_slice HO1; exact ⟨rfl, rfl⟩
            refine di_1 (i := 6) (by kernel_rfl) ?_
            refine oi_v rfl rfl rfl (v_1 rfl rfl hcv hov Tryd.sizeOf30 hv4 (by simp)) ?_
            rintro w6 ⟨hv6, fr⟩
            have H6 := H.push hg2 (own_ge HO) fr hv6 HO1
            replace hk := hk.frS fr (by intro q hq; simp at hq; omega)
            refine di_n (by kernel_rfl) ?_
            exact fun _ _ => ⟨H6, hk.size, hk.kp⟩
    · skip
      refine oi_x rfl rfl rfl rfl (x_move rfl) ?_
      refine di_2 (i := 0) (j := 1) (by kernel_rfl) ?_ ?_
      · skip
        refine oi_x rfl rfl rfl rfl (x_ld rfl Tryd.isAgg30 (hv4.cell rfl)) ?_
        refine di_1 (i := 1) (by kernel_rfl) ?_
        refine oi_x rfl rfl rfl rfl (x_ld rfl Tryd.isAgg26 (H.c1.cell rfl)) ?_
        refine di_1 (i := 3) (by kernel_rfl) ?_
        refine oi_c rfl rfl rfl rfl (c_fn rfl Tryd.call30 (name_a _ k x H.K (i : Int) (by omega) s (by simpa using hs))) ?_
        rintro _ wn ⟨rfl, fr⟩
        replace H := H.fr0 fr
        replace hv4 := hv4.fr0 fr
        replace HO := own_fr0 HO fr
        replace hk := hk.fr0 fr
        clear fr
        refine di_1 (i := 4) (by kernel_rfl) ?_
        refine oi_e rfl rfl rfl rfl (e_new (x_bsl rfl (bslN _ _ _))) ?_
        rintro _ wb ⟨rfl, b44, fr, _⟩
        replace H := H.fr0 fr
        replace hv4 := hv4.fr0 fr
        replace HO := own_fr0 HO fr
        replace hk := hk.fr0 fr
        clear fr
        refine di_1 (i := 5) (by kernel_rfl) ?_
        refine oi_e rfl rfl rfl rfl (e_app 2 16 (.agg #[.int .i64 0, .int .u64 0]) _ rfl rfl Tryd.underlying30 (by kernel_rfl) rfl (by decide) HO rfl b44.news (oneN (_, _)) (by omega) (by omega) H.zB) ?_
        rintro v1 wa ⟨HO1, hg2, hat⟩
        rw [encN_snoc] at HO1
        replace HO1 : World.ownsRow wa (wR.heap.size + 2) 33 2 v1 ((names x part).take (m + 1)).length (flat encN ((names x part).take (m + 1))) := by rw [names_succ hi hs, List.length_append]; exact HO1
        replace hv4 := hv4.fr (Fr.of_grown hg2) (by intro hq; cases hvo : v.ownBlock with | none => (simp [hvo] at hq) | some r => (simp [hvo] at hq; subst hq; have := own_ge HO _ hvo; omega))
        replace hk := hk.frS (Fr.of_grown hg2) (by intro q hq; cases hvo : v.ownBlock with | none => (simp [hvo] at hq) | some r => (simp [hvo] at hq; subst hq; have := own_ge HO _ hvo; omega))
        obtain ⟨hcv, hov⟩ : v1.cells = #[v1] ∧ v1.oneCell' = true := by obtain ⟨A1, c1, rfl, _⟩ := own_slice HO1; exact ⟨rfl, rfl⟩
        refine di_1 (i := 6) (by kernel_rfl) ?_
        refine oi_v rfl rfl rfl (v_1 rfl rfl hcv hov Tryd.sizeOf30 hv4 (by simp)) ?_
        rintro w6 ⟨hv6, fr⟩
        have H6 := H.push hg2 (own_ge HO) fr hv6 HO1
        replace hk := hk.frS fr (by intro q hq; simp at hq; omega)
        refine di_n (by kernel_rfl) ?_
        exact fun _ _ => ⟨H6, hk.size, hk.kp⟩
      · skip
        refine oi_x rfl rfl rfl rfl (x_ld rfl Tryd.isAgg26 (H.c1.cell rfl)) ?_
        refine di_2 (i := 0) (j := 3) (by kernel_rfl) ?_ ?_
        · skip
          refine oi_x rfl rfl rfl rfl (x_ld rfl Tryd.isAgg30 (hv4.cell rfl)) ?_
          refine di_1 (i := 3) (by kernel_rfl) ?_
          refine oi_c rfl rfl rfl rfl (c_fn rfl Tryd.call30 (name_a _ k x H.K (i : Int) (by omega) s (by simpa using hs))) ?_
          rintro _ wn ⟨rfl, fr⟩
          replace H := H.fr0 fr
          replace hv4 := hv4.fr0 fr
          replace HO := own_fr0 HO fr
          replace hk := hk.fr0 fr
          clear fr
          refine di_1 (i := 4) (by kernel_rfl) ?_
          refine oi_e rfl rfl rfl rfl (e_new (x_bsl rfl (bslN _ _ _))) ?_
          rintro _ wb ⟨rfl, b44, fr, _⟩
          replace H := H.fr0 fr
          replace hv4 := hv4.fr0 fr
          replace HO := own_fr0 HO fr
          replace hk := hk.fr0 fr
          clear fr
          refine di_1 (i := 5) (by kernel_rfl) ?_
          refine oi_e rfl rfl rfl rfl (e_app 2 16 (.agg #[.int .i64 0, .int .u64 0]) _ rfl rfl Tryd.underlying30 (by kernel_rfl) rfl (by decide) HO rfl b44.news (oneN (_, _)) (by omega) (by omega) H.zB) ?_
          rintro v1 wa ⟨HO1, hg2, hat⟩
          rw [encN_snoc] at HO1
          replace HO1 : World.ownsRow wa (wR.heap.size + 2) 33 2 v1 ((names x part).take (m + 1)).length (flat encN ((names x part).take (m + 1))) := by rw [names_succ hi hs, List.length_append]; exact HO1
          replace hv4 := hv4.fr (Fr.of_grown hg2) (by intro hq; cases hvo : v.ownBlock with | none => (simp [hvo] at hq) | some r => (simp [hvo] at hq; subst hq; have := own_ge HO _ hvo; omega))
          replace hk := hk.frS (Fr.of_grown hg2) (by intro q hq; cases hvo : v.ownBlock with | none => (simp [hvo] at hq) | some r => (simp [hvo] at hq; subst hq; have := own_ge HO _ hvo; omega))
          obtain ⟨hcv, hov⟩ : v1.cells = #[v1] ∧ v1.oneCell' = true := by obtain ⟨A1, c1, rfl, _⟩ := own_slice HO1; exact ⟨rfl, rfl⟩
          refine di_1 (i := 6) (by kernel_rfl) ?_
          refine oi_v rfl rfl rfl (v_1 rfl rfl hcv hov Tryd.sizeOf30 hv4 (by simp)) ?_
          rintro w6 ⟨hv6, fr⟩
          have H6 := H.push hg2 (own_ge HO) fr hv6 HO1
          replace hk := hk.frS fr (by intro q hq; simp at hq; omega)
          refine di_n (by kernel_rfl) ?_
          exact fun _ _ => ⟨H6, hk.size, hk.kp⟩
        · skip
          refine oi_c rfl rfl rfl rfl (c_fn rfl Tryd.call30 (name_a _ k x H.K (i : Int) (by omega) s (by simpa using hs))) ?_
          rintro _ wn ⟨rfl, fr⟩
          replace H := H.fr0 fr
          replace hv4 := hv4.fr0 fr
          replace HO := own_fr0 HO fr
          replace hk := hk.fr0 fr
          clear fr
          refine di_2 (i := 0) (j := 4) (by kernel_rfl) ?_ ?_
          · skip
            refine oi_x rfl rfl rfl rfl (x_ld rfl Tryd.isAgg30 (hv4.cell rfl)) ?_
            refine di_1 (i := 4) (by kernel_rfl) ?_
            refine oi_e rfl rfl rfl rfl (e_new (x_bsl rfl (bslN _ _ _))) ?_
            rintro _ wb ⟨rfl, b44, fr, _⟩
            replace H := H.fr0 fr
            replace hv4 := hv4.fr0 fr
            replace HO := own_fr0 HO fr
            replace hk := hk.fr0 fr
            clear fr
            refine di_1 (i := 5) (by kernel_rfl) ?_
            refine oi_e rfl rfl rfl rfl (e_app 2 16 (.agg #[.int .i64 0, .int .u64 0]) _ rfl rfl Tryd.underlying30 (by kernel_rfl) rfl (by decide) HO rfl b44.news (oneN (_, _)) (by omega) (by omega) H.zB) ?_
            rintro v1 wa ⟨HO1, hg2, hat⟩
            rw [encN_snoc] at HO1
            replace HO1 : World.ownsRow wa (wR.heap.size + 2) 33 2 v1 ((names x part).take (m + 1)).length (flat encN ((names x part).take (m + 1))) := by rw [names_succ hi hs, List.length_append]; exact HO1
            replace hv4 := hv4.fr (Fr.of_grown hg2) (by intro hq; cases hvo : v.ownBlock with | none => (simp [hvo] at hq) | some r => (simp [hvo] at hq; subst hq; have := own_ge HO _ hvo; omega))
            replace hk := hk.frS (Fr.of_grown hg2) (by intro q hq; cases hvo : v.ownBlock with | none => (simp [hvo] at hq) | some r => (simp [hvo] at hq; subst hq; have := own_ge HO _ hvo; omega))
            obtain ⟨hcv, hov⟩ : v1.cells = #[v1] ∧ v1.oneCell' = true := by obtain ⟨A1, c1, rfl, _⟩ := own_slice HO1; exact ⟨rfl, rfl⟩
            refine di_1 (i := 6) (by kernel_rfl) ?_
            refine oi_v rfl rfl rfl (v_1 rfl rfl hcv hov Tryd.sizeOf30 hv4 (by simp)) ?_
            rintro w6 ⟨hv6, fr⟩
            have H6 := H.push hg2 (own_ge HO) fr hv6 HO1
            replace hk := hk.frS fr (by intro q hq; simp at hq; omega)
            refine di_n (by kernel_rfl) ?_
            exact fun _ _ => ⟨H6, hk.size, hk.kp⟩
          · skip
            refine oi_e rfl rfl rfl rfl (e_new (x_bsl rfl (bslN _ _ _))) ?_
            rintro _ wb ⟨rfl, b44, fr, _⟩
            replace H := H.fr0 fr
            replace hv4 := hv4.fr0 fr
            replace HO := own_fr0 HO fr
            replace hk := hk.fr0 fr
            clear fr
            refine di_1 (i := 0) (by kernel_rfl) ?_
            refine oi_x rfl rfl rfl rfl (x_ld rfl Tryd.isAgg30 (hv4.cell rfl)) ?_
            refine di_1 (i := 5) (by kernel_rfl) ?_
            refine oi_e rfl rfl rfl rfl (e_app 2 16 (.agg #[.int .i64 0, .int .u64 0]) _ rfl rfl Tryd.underlying30 (by kernel_rfl) rfl (by decide) HO rfl b44.news (oneN (_, _)) (by omega) (by omega) H.zB) ?_
            rintro v1 wa ⟨HO1, hg2, hat⟩
            rw [encN_snoc] at HO1
            replace HO1 : World.ownsRow wa (wR.heap.size + 2) 33 2 v1 ((names x part).take (m + 1)).length (flat encN ((names x part).take (m + 1))) := by rw [names_succ hi hs, List.length_append]; exact HO1
            replace hv4 := hv4.fr (Fr.of_grown hg2) (by intro hq; cases hvo : v.ownBlock with | none => (simp [hvo] at hq) | some r => (simp [hvo] at hq; subst hq; have := own_ge HO _ hvo; omega))
            replace hk := hk.frS (Fr.of_grown hg2) (by intro q hq; cases hvo : v.ownBlock with | none => (simp [hvo] at hq) | some r => (simp [hvo] at hq; subst hq; have := own_ge HO _ hvo; omega))
            obtain ⟨hcv, hov⟩ : v1.cells = #[v1] ∧ v1.oneCell' = true := by obtain ⟨A1, c1, rfl, _⟩ := own_slice HO1; exact ⟨rfl, rfl⟩
            refine di_1 (i := 6) (by kernel_rfl) ?_
            refine oi_v rfl rfl rfl (v_1 rfl rfl hcv hov Tryd.sizeOf30 hv4 (by simp)) ?_
            rintro w6 ⟨hv6, fr⟩
            have H6 := H.push hg2 (own_ge HO) fr hv6 HO1
            replace hk := hk.frS fr (by intro q hq; simp at hq; omega)
            refine di_n (by kernel_rfl) ?_
            exact fun _ _ => ⟨H6, hk.size, hk.kp⟩
  · skip
    rintro ws H hD
    obtain ⟨v, hv4, HO⟩ := H.row
    rw [← names_len, List.take_length] at HO
    obtain ⟨A0, c0, rfl, _⟩ := own_slice HO
    have hlt := H.zB
    have hnl : (names x part).length ≤ 65536 := by (have := heldN_len x part; have := K.sl0; have := names_len x part; omega)
    refine al_k ?_
    refine cl_seq rfl ?_
    refine cl_reg rfl ?_
    refine st rfl rfl rfl rfl (x_ld rfl Tryd.isAgg30 (hv4.cell rfl)) ?_
    refine st rfl rfl rfl rfl (x_len rfl Tryd.underlying30) ?_
    refine st rfl rfl rfl rfl (x_move rfl) ?_
    refine rl_end rfl ?_
    refine al_k ?_
    refine cl_block rfl ?_
    refine cl_loop (fun q : Nat => [(23, .int .i64 q), (22, .int .i64 (names x part).length), (21, .slice A0 (names x part).length c0), (0, .func (.func kf) [].toArray caps.toArray)]) (fun q wr => q ≤ (names x part).length ∧ Y ws ((names x part).take q) wr ∧ ∀ j, 0 < j → j ≤ q → C ((names x part).take j) = true) (fun q => (names x part).length - q) 0 rfl ⟨rfl, rfl, rfl, rfl, trivial⟩ ?_ ?_
    · exact ⟨Nat.zero_le _, hY0 ws H.F, by omega⟩
    · skip
      rintro q wr ⟨hq, hY, hC⟩
      refine cl_seq rfl ?_
      refine cl_reg rfl ?_
      refine sf rfl rfl rfl rfl (x_lss rfl rfl) (fun c6_0 => ?_) (fun c6_0 => ?_)
      · skip
        refine rl_end rfl ?_
        refine al_k ?_
        refine cl_seq rfl ?_
        refine cl_if1 rfl rfl ?_
        refine cl_skip rfl ?_
        refine al_k ?_
        refine cl_seq rfl ?_
        refine cl_block rfl ?_
        refine cl_seq rfl ?_
        obtain ⟨z, hz⟩ : ∃ z, (names x part)[q]? = some z := ⟨_, List.getElem?_eq_getElem (by omega)⟩
        obtain ⟨g7, rfl, hc0⟩ := own_atA HO hz
        have hg7 := own_ge HO g7 rfl
        have hc : ∀ j u, [Value.int .i64 z.1, .int .u64 z.2][j]? = some u → wr.cell? ⟨g7, q * 2 + j, none⟩ = some u := fun j u h => (hYf _ _ _ hY).cell (hc0 j u h) (fun hm => by have := hT g7 hm; omega)
        refine cl_reg rfl ?_
        refine st rfl rfl rfl rfl (x_ia0 rfl rfl Tryd.underlying30 Tryd.sizeOf33 (by omega)) ?_
        refine st rfl rfl rfl rfl (x_ldn rfl Tryd.isAgg33 Tryd.sizeOf33 rfl hc) ?_
        refine se rfl rfl rfl rfl (e_new (x_alloc Tryd.zeroValue33 rfl)) ?_
        rintro _ w7 ⟨rfl, b7, fA, _⟩
        refine sv rfl rfl rfl (v_n (vs := [.int .i64 z.1, .int .u64 z.2]) rfl rfl (by intro v hv; simp at hv; rcases hv with rfl | rfl <;> rfl) Tryd.sizeOf33 rfl b7 (by decide)) ?_
        rintro w8 ⟨b7b, fr⟩
        replace b7 : Blk w8 _ 33 [.int .i64 z.1, .int .u64 z.2] := b7b
        have hY8 := hYr _ _ _ _ hY (fA.trans_new fr (by intro q hq; simp at hq; subst hq; exact .inr (Nat.le_refl _)))
        refine rl_end rfl ?_
        refine al_k ?_
        refine cl_seq rfl ?_
        refine cl_reg rfl ?_
        refine st rfl rfl rfl rfl (x_move rfl) ?_
        refine st rfl rfl rfl rfl (x_ldn rfl Tryd.isAgg33 Tryd.sizeOf33 rfl (by intro j v hv; rw [Nat.zero_add]; exact b7.cell hv)) ?_
        refine sc rfl rfl rfl rfl (c_fv rfl rfl hg (hYs ws q z w8 H.F hz hY8)) ?_
        rintro _ w9 ⟨rfl, hY9⟩
        -- told
        refine st rfl rfl rfl rfl (x_not rfl) ?_
        refine rl_end rfl ?_
        refine al_k ?_
        refine cl_cond rfl rfl (fun hb30 => ?_) (fun hb30 => ?_)
        · skip
          refine cl_ret rfl ?_
          refine finMD rfl (((hYf _ _ _ hY9).keep _ (by omega) (fun hm => by have := hT _ hm; omega)).trans hD) ?_
          refine ⟨rfl, ws, q + 1, _, _, H.F, ⟨by omega, fun j h0 h1 => hC j h0 (by omega), .inr ⟨by omega, by cases h : C ((names x part).take (q + 1)) <;> simp_all⟩⟩, hY9, by omega, by omega, Fr.putObj _ _ _⟩
        · skip
          refine cl_skip rfl ?_
          refine al_k ?_
          refine cl_reg rfl ?_
          refine st rfl rfl rfl rfl (x_add rfl rfl (by omega)) ?_
          refine st rfl rfl rfl rfl (x_move rfl) ?_
          refine rl_end rfl ?_
          refine again (q + 1) (by omega) ⟨rfl, rfl, rfl, rfl, trivial⟩ ⟨by omega, hY9, ?_⟩
          intro j hj0 hj
          rcases Nat.lt_or_ge q j with h | h
          · obtain rfl : j = q + 1 := by omega
            cases h : C ((names x part).take (q + 1)) <;> simp_all
          · exact hC j hj0 h
      · skip
        refine rl_end rfl ?_
        refine al_k ?_
        refine cl_seq rfl ?_
        refine cl_if0 rfl rfl ?_
        refine cl_exit rfl ?_
        refine upd_self ?_
        refine finMD rfl (((hYf _ _ _ hY).keep _ (by omega) (fun hm => by have := hT _ hm; omega)).trans hD) ?_
        have e : q = (names x part).length := by omega
        subst e
        exact ⟨rfl, ws, _, _, _, H.F, ⟨Nat.le_refl _, fun j h0 h1 => hC j h0 (by omega), .inl rfl⟩, hY, by omega, by omega, Fr.putObj _ _ _⟩

end Go.Proofs.YtjjaijabdfoanaaDoor.Arn
