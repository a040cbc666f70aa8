/- Lists by links: the walks of All, Back and what tells a row. -/
import Derived.Test.YtcbkpekbfkaeeaaDoorLsW3
set_option linter.unusedVariables false
namespace Go.Proofs.YtcbkpekbfkaeeaaDoor.Ls
open Go Go.RowKit Go.Proofs.YtcbkpekbfkaeeaaDoor.Sx Go.Proofs.YtcbkpekbfkaeeaaDoor
set_option maxRecDepth 100000

theorem told_c (w : World) (q : Option Addr) (li : Int) (bk : Bool) : Cl Tryd.prog 58 [.pointer q, .int .i64 li, .bool bk] w (fun v w' => ∃ b1 b2 b3, v = .func (.func 63) [].toArray [.pointer (some ⟨b1, 0, none⟩), .pointer (some ⟨b2, 0, none⟩), .pointer (some ⟨b3, 0, none⟩)].toArray ∧ Blk w' b1 58 [.pointer q] ∧ Blk w' b2 3 [.int .i64 li] ∧ Blk w' b3 4 [.bool bk] ∧ w.heap.size ≤ b1 ∧ w.heap.size ≤ b2 ∧ w.heap.size ≤ b3 ∧ Fr [] w w') := by
  have F := Fr.refl [] w
  refine enter Tryd.func58 rfl Tryd.ntmps58 rfl ?_
  refine cl_seq rfl ?_
  refine cl_reg rfl ?_
  refine se rfl rfl rfl rfl (e_new (x_box rfl rfl)) ?_
  rintro _ w0_0 ⟨rfl, b0_0, fr0_0, sz0_0⟩
  replace F := F.trans fr0_0
  have g2 := F.size
  refine se rfl rfl rfl rfl (e_new (x_box rfl rfl)) ?_
  rintro _ w0_1 ⟨rfl, b0_1, fr0_1, sz0_1⟩
  replace F := F.trans fr0_1
  replace b0_0 := b0_0.fr0 fr0_1
  have g3 := F.size
  refine se rfl rfl rfl rfl (e_new (x_box rfl rfl)) ?_
  rintro _ w0_2 ⟨rfl, b0_2, fr0_2, sz0_2⟩
  replace F := F.trans fr0_2
  replace b0_0 := b0_0.fr0 fr0_2
  replace b0_1 := b0_1.fr0 fr0_2
  refine st rfl rfl rfl rfl (x_asg rfl) ?_
  refine rl_end rfl ?_
  refine al_k ?_
  refine cl_seq rfl ?_
  refine cl_reg rfl ?_
  refine st rfl rfl rfl rfl (x_mkf rfl rfl) ?_
  refine st rfl rfl rfl rfl (x_asg rfl) ?_
  refine rl_end rfl ?_
  refine al_k ?_
  refine cl_ret rfl ?_
  refine fin1 rfl rfl ?_
  exact ⟨_, _, _, rfl, b0_0, b0_1, b0_2, Nat.le_refl _, g2, g3, F⟩

theorem All_c (w : World) (q : Option Addr) (li : Int) : Cl Tryd.prog 54 [.pointer q, .int .i64 li] w (fun v w' => ∃ b1 b2 b3, v = .func (.func 63) [].toArray [.pointer (some ⟨b1, 0, none⟩), .pointer (some ⟨b2, 0, none⟩), .pointer (some ⟨b3, 0, none⟩)].toArray ∧ Blk w' b1 58 [.pointer q] ∧ Blk w' b2 3 [.int .i64 li] ∧ Blk w' b3 4 [.bool false] ∧ w.heap.size ≤ b1 ∧ w.heap.size ≤ b2 ∧ w.heap.size ≤ b3 ∧ Fr [] w w') := by
  refine enter Tryd.func54 rfl Tryd.ntmps54 rfl ?_
  refine cl_seq rfl ?_
  refine cl_reg rfl ?_
  refine st rfl rfl rfl rfl (x_asg rfl) ?_
  refine rl_end rfl ?_
  refine al_k ?_
  refine cl_seq rfl ?_
  refine cl_reg rfl ?_
  refine st rfl rfl rfl rfl (x_move rfl) ?_
  refine st rfl rfl rfl rfl (x_move rfl) ?_
  refine sc rfl rfl rfl rfl (c_fn rfl Tryd.call58 (told_c _ q li false)) ?_
  rintro v w1 hr
  refine st rfl rfl rfl rfl (x_asg rfl) ?_
  refine rl_end rfl ?_
  refine al_k ?_
  refine cl_ret rfl ?_
  refine fin1 rfl rfl ?_
  exact hr

theorem told1_c (w : World) (q : Option Addr) (li : Int) (bk : Bool) (b1 b2 b3 : Nat) (hb1 : Blk w b1 58 [.pointer q]) (hb2 : Blk w b2 3 [.int .i64 li]) (hb3 : Blk w b3 4 [.bool bk]) (xs : List Int) (hx : xs.length ≤ 100000) (hrow : ∀ w1, Fr [] w w1 → Cl Tryd.prog 64 [.pointer q, .int .i64 li, .bool bk] w1 (fun v w' => w'.ownsRow w1.heap.size 3 1 v xs.length (ints xs) ∧ Fr [] w1 w'))
    (g : FuncId) (ps cs : List Value) (hg : ∀ a w, (callFunc g a).run Tryd.prog w = .ok (.enter g a) w) (C : List Int → Bool) (Y : World → List Int → World → Prop) (T : List Nat) (hT : ∀ q ∈ T, q < w.heap.size)
    (hY0 : ∀ ws, Fr [] w ws → Y ws [] ws) (hYf : ∀ ws done w1, Y ws done w1 → Fr T ws w1)
    (hYs : ∀ ws k z w1, Fr [] w ws → xs[k]? = some z → Y ws (xs.take k) w1 → Cl Tryd.prog g (ps ++ [.int .i64 z] ++ cs) w1 (fun v w2 => v = .bool (C (xs.take (k + 1))) ∧ Y ws (xs.take (k + 1)) w2)) :
    Cl Tryd.prog 63 [.func (.func g) ps.toArray cs.toArray, .pointer (some ⟨b1, 0, none⟩), .pointer (some ⟨b2, 0, none⟩), .pointer (some ⟨b3, 0, none⟩)] w (fun v w' => v = .tuple #[] ∧ ∃ ws k, Fr [] w ws ∧ Stop C xs k ∧ Y ws (xs.take k) w') := by
  refine enter Tryd.func63 rfl Tryd.ntmps63 rfl ?_
  refine cl_seq rfl ?_
  refine cl_reg rfl ?_
  refine st rfl rfl rfl rfl (x_ld rfl Tryd.isAgg58 (hb1.cell rfl)) ?_
  refine st rfl rfl rfl rfl (x_ld rfl Tryd.isAgg3 (hb2.cell rfl)) ?_
  refine st rfl rfl rfl rfl (x_ld rfl Tryd.isAgg4 (hb3.cell rfl)) ?_
  refine sc rfl rfl rfl rfl (c_fn rfl Tryd.call64 (hrow w (Fr.refl [] w))) ?_
  rintro v ws ⟨HO, F⟩
  have hcell : ∃ A c, v = .slice A xs.length c ∧ ∀ k z, xs[k]? = some z → ∃ b, A = some ⟨b, 0, none⟩ ∧ w.heap.size ≤ b ∧ ws.cell? ⟨b, ((k : Nat) : Int).toNat * 1, none⟩ = some (.int .i64 z) := by
    obtain ⟨A, c, e, h⟩ := own_slice HO
    refine ⟨A, c, e, fun k z hz => ?_⟩
    have hkl := (List.getElem?_eq_some_iff.1 hz).1
    rcases h with h | h | ⟨b, rfl, hb, hbs, hcc⟩
    · simp [ints] at h; subst h; simp at hkl
    · omega
    · exact ⟨b, rfl, hb, by rw [Int.toNat_natCast, Nat.mul_one]; exact hcc k _ (by simp [ints, hz])⟩
  obtain ⟨A0, c0, rfl, hcell⟩ := hcell
  refine st rfl rfl rfl rfl (x_len rfl Tryd.underlying35) ?_
  refine st rfl rfl rfl rfl (x_move rfl) ?_
  refine rl_end rfl ?_
  refine al_k ?_
  refine cl_block rfl ?_
  refine cl_loop (fun k : Nat => [(12, .int .i64 k), (11, .int .i64 xs.length), (10, .slice A0 xs.length c0), (0, .func (.func g) ps.toArray cs.toArray)]) (fun k wr => k ≤ xs.length ∧ Y ws (xs.take k) wr ∧ ∀ j, 0 < j → j ≤ k → C (xs.take j) = true) (fun k => xs.length - k) 0 rfl ⟨rfl, rfl, rfl, rfl, trivial⟩ ?_ ?_
  · exact ⟨Nat.zero_le _, hY0 ws F, by omega⟩
  · skip
    rintro k wr ⟨hk, hY, hC⟩
    refine cl_seq rfl ?_
    refine cl_reg rfl ?_
    refine sf rfl rfl rfl rfl (x_lss rfl rfl) (fun c1_0 => ?_) (fun c1_0 => ?_)
    · skip
      refine rl_end rfl ?_
      refine al_k ?_
      refine cl_seq rfl ?_
      refine cl_if1 rfl rfl ?_
      refine cl_skip rfl ?_
      refine al_k ?_
      refine cl_seq rfl ?_
      refine cl_block rfl ?_
      refine cl_seq rfl ?_
      have hkl : k < xs.length := by omega
      obtain ⟨z, hz⟩ : ∃ z, xs[k]? = some z := ⟨_, List.getElem?_eq_getElem hkl⟩
      obtain ⟨b, rfl, hb, hc⟩ := hcell k z hz
      replace hc := (hYf _ _ _ hY).cell hc (fun hm => by have := hT b hm; omega)
      refine cl_reg rfl ?_
      refine st rfl rfl rfl rfl (x_ia0 rfl rfl Tryd.underlying35 Tryd.sizeOf3 (by omega)) ?_
      refine st rfl rfl rfl rfl (x_ld rfl Tryd.isAgg3 hc) ?_
      refine st rfl rfl rfl rfl (x_asg rfl) ?_
      refine rl_end rfl ?_
      refine al_k ?_
      refine cl_seq rfl ?_
      refine cl_reg rfl ?_
      refine st rfl rfl rfl rfl (x_move rfl) ?_
      refine st rfl rfl rfl rfl (x_move rfl) ?_
      refine sc rfl rfl rfl rfl (c_fv rfl rfl hg (hYs ws k z wr F hz hY)) ?_
      rintro _ w2 ⟨rfl, hY2⟩
      -- told
      refine st rfl rfl rfl rfl (x_not rfl) ?_
      refine rl_end rfl ?_
      refine al_k ?_
      refine cl_cond rfl rfl (fun hb19 => ?_) (fun hb19 => ?_)
      · skip
        refine cl_ret rfl ?_
        refine fin0 rfl ?_
        refine ⟨rfl, ws, k + 1, F, ⟨by omega, fun j h0 h1 => hC j h0 (by omega), .inr ⟨by omega, by cases h : C (xs.take (k + 1)) <;> simp_all⟩⟩, hY2⟩
      · skip
        refine cl_skip rfl ?_
        refine al_k ?_
        refine cl_reg rfl ?_
        refine st rfl rfl rfl rfl (x_add rfl rfl (by omega)) ?_
        refine st rfl rfl rfl rfl (x_move rfl) ?_
        refine rl_end rfl ?_
        refine again (k + 1) (by omega) ⟨rfl, rfl, rfl, rfl, trivial⟩ ⟨by omega, hY2, ?_⟩
        intro j hj0 hj
        rcases Nat.lt_or_ge k j with h | h
        · obtain rfl : j = k + 1 := by omega
          cases h : C (xs.take (k + 1)) <;> simp_all
        · exact hC j hj0 h
    · skip
      refine rl_end rfl ?_
      refine al_k ?_
      refine cl_seq rfl ?_
      refine cl_if0 rfl rfl ?_
      refine cl_exit rfl ?_
      refine upd_self ?_
      refine fin0n rfl ?_
      have e : k = xs.length := by omega
      subst e
      exact ⟨rfl, ws, _, F, ⟨Nat.le_refl _, fun j h0 h1 => hC j h0 (by omega), .inl rfl⟩, hY⟩

end Go.Proofs.YtcbkpekbfkaeeaaDoor.Ls
