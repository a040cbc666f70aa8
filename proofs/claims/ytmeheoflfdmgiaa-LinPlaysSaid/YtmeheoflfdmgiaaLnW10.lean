/- Deeds: Order, and the examples. -/
import Derived.Test.YtmeheoflfdmgiaaLnW9
import Derived.Test.YtmeheoflfdmgiaaLnP
set_option linter.unusedVariables false
namespace Go.Proofs.Ytmeheoflfdmgiaa.Lin
open Go Go.RowKit Go.Proofs.Ytmeheoflfdmgiaa.Sx Go.Proofs.Ytmeheoflfdmgiaa
set_option maxRecDepth 100000

theorem searchP_c (l : List D) (hl : l.length ≤ 24) : ∀ (f : Nat) (w : World) (A : Option Addr) (c ball bmp bm bl bf : Nat) (HR : RowG encD 6 w A l) (Ball : Blk w ball 38 [.int .u64 ((mustF l l.length).toNat : Nat)]) (Bmp : Blk w bmp 54 [.map (some bm)]) (Bl : Blk w bl 22 [.slice A l.length c]) (Bf : Blk w bf 55 [.func (.func 24) #[] #[.pointer (some ⟨ball, 0, none⟩), .pointer (some ⟨bmp, 0, none⟩), .pointer (some ⟨bl, 0, none⟩), .pointer (some ⟨bf, 0, none⟩)]]) (done : BitVec 64) (A3 : Option Addr) (c3 : Nat) (p : List Int) (HP : RowG encI 1 w A3 p) (hcp : p.length ≤ c3) (hpr : okRow l p) (hpc : p.length ≤ cnt l.length done) (T : List (BitVec 64 × List Int)) (TM : TMap w bm (T.map encV)) (hT : Tried l T (cnt l.length done)), cnt l.length done + f = l.length + 1 → Cl Try.prog 24 [.int .u64 ((done).toNat : Nat), .slice A3 p.length c3, .pointer (some ⟨ball, 0, none⟩), .pointer (some ⟨bmp, 0, none⟩), .pointer (some ⟨bl, 0, none⟩), .pointer (some ⟨bf, 0, none⟩)] w (fun r w' => ∃ T2 : List (BitVec 64 × List Int), TMap w' bm (T2.map encV) ∧ (∀ t ∈ T2, okT l t) ∧ (dfsF l f done p = none → ∀ t ∈ T2, t ∈ T ∨ fails l t) ∧ Fr [bm] w w' ∧ SR w' r (dfsF l f done p)) := by
  intro f
  induction f with
  | zero =>
    intro w A c ball bmp bm bl bf HR Ball Bmp Bl Bf done A3 c3 p HP hcp hpr hpc T TM hT hc
    have := cnt_le l.length done
    omega
  | succ f ih =>
    intro w A c ball bmp bm bl bf HR Ball Bmp Bl Bf done A3 c3 p HP hcp hpr hpc T TM hT hc
    exact searchP_step l hl f ih w A c ball bmp bm bl bf HR Ball Bmp Bl Bf done A3 c3 p HP hcp hpr hpc T TM hT hc
theorem cnt_zero : ∀ n, cnt n 0#64 = 0 := by
  intro n
  induction n with
  | zero => rfl
  | succ n ih => unfold cnt; rw [ih]; simp
theorem few_r (w : World) (A : Option Addr) (c : Nat) (l : List D) (HR : RowG encD 6 w A l) (m : Nat) (hm : m ≤ 24) (hc : l.length ≤ c) : Cl Try.prog 8 [.slice A l.length c, .int .i64 m] w (fun v w' => ∃ L : List D, v = .slice A L.length c ∧ RowG encD 6 w' A L ∧ L = l.take (fewN l.length m) ∧ L.length ≤ 25 ∧ L.length ≤ c ∧ Fr [] w w') := by
  refine (few_c w A l.length m c hc hm).mono ?_
  rintro v w' ⟨rfl, fr⟩
  have h1 := fewN_le l.length m
  have h2 : fewN l.length m ≤ 25 := by unfold fewN; split <;> (try split) <;> omega
  have h3 : (l.take (fewN l.length m)).length = fewN l.length m := by rw [List.length_take]; omega
  exact ⟨l.take (fewN l.length m), by rw [h3], (HR.take _).fr0 fr, rfl, by omega, by omega, fr⟩

theorem Order_p (w : World) (A : Option Addr) (c : Nat) (l : List D) (HR : RowG encD 6 w A l) (hl : l.length ≤ 1000) : Cl Try.prog 9 [.slice A l.length c] w (fun r w' => OR w' r (orderP l) ∧ Fr [] w w') := by
  have F := Fr.refl [] w
  refine enter Try.func9 rfl Try.ntmps9 rfl ?_
  refine cl_seq rfl ?_
  refine cl_reg rfl ?_
  refine se rfl rfl rfl rfl (e_new (x_box (cs := [.slice A l.length c]) rfl rfl)) ?_
  rintro _ w1 ⟨rfl, b1, fr, _⟩
  replace F := F.trans fr
  clear fr
  refine st rfl rfl rfl rfl (x_asg rfl) ?_
  refine st rfl rfl rfl rfl (x_asg rfl) ?_
  refine st rfl rfl rfl rfl (x_asg rfl) ?_
  refine rl_end rfl ?_
  refine al_k ?_
  refine cl_seq rfl ?_
  refine cl_seq rfl ?_
  refine cl_reg rfl ?_
  refine st rfl rfl rfl rfl (x_ld rfl Try.isAgg22 (b1.cell rfl)) ?_
  refine sc rfl rfl rfl rfl (c_fn rfl Try.call19 (check_c _ A c l (HR.fr0 F) (by omega))) ?_
  rintro _ w11 ⟨rfl, fr⟩
  replace F := F.trans fr
  replace b1 := b1.fr0 fr
  clear fr
  refine st rfl rfl rfl rfl (x_asg rfl) ?_
  refine rl_end rfl ?_
  refine al_k ?_
  refine cl_seq rfl ?_
  refine cl_reg rfl ?_
  refine st rfl rfl rfl rfl (x_move rfl) ?_
  refine sf rfl rfl rfl rfl (x_neq rfl rfl) (fun c2_1 => ?_) (fun c2_1 => ?_)
  · skip
    refine rl_end rfl ?_
    refine al_k ?_
    refine cl_if1 rfl rfl ?_
    refine cl_seq rfl ?_
    refine cl_reg rfl ?_
    refine st rfl rfl rfl rfl (x_move rfl) ?_
    refine st rfl rfl rfl rfl (x_asg rfl) ?_
    refine st rfl rfl rfl rfl (x_asg rfl) ?_
    refine st rfl rfl rfl rfl (x_asg rfl) ?_
    refine rl_end rfl ?_
    refine al_k ?_
    refine cl_ret rfl ?_
    refine fin3 rfl rfl rfl rfl ?_
    have hH : ¬ Hist l := fun h => c2_1 (if_pos h)
    unfold orderP
    rw [if_neg hH, if_neg hH]
    exact ⟨⟨_, rfl, SlG.nil _⟩, F⟩
  · skip
    refine rl_end rfl ?_
    refine al_k ?_
    refine cl_if0 rfl rfl ?_
    refine cl_skip rfl ?_
    refine al_k ?_
    refine cl_seq rfl ?_
    have hH : Hist l := Decidable.by_contra (fun h => by rw [if_neg h] at c2_1; exact c2_1 (by decide))
    refine cl_reg rfl ?_
    refine st rfl rfl rfl rfl (x_ld rfl Try.isAgg22 (b1.cell rfl)) ?_
    refine sc rfl rfl rfl rfl (c_fn rfl Try.call23 (must_c _ A c l (HR.fr0 F) (by have := hH.1; omega))) ?_
    rintro _ w41 ⟨rfl, fr⟩
    replace F := F.trans fr
    replace b1 := b1.fr0 fr
    clear fr
    refine se rfl rfl rfl rfl (e_new (x_alloc Try.zeroValue38 rfl)) ?_
    rintro _ wb6 ⟨rfl, b6, fA, _⟩
    refine sv rfl rfl rfl (v_1 rfl rfl rfl rfl Try.sizeOf38 b6 (by decide)) ?_
    rintro wb6b ⟨bb2, fr⟩
    replace b6 : Blk wb6b _ 38 [.int .u64 ((mustF l l.length).toNat : Nat)] := bb2
    have FF := fA.trans_new fr (by intro q hq; simp at hq; subst hq; exact .inr (Nat.le_refl _))
    clear fr fA bb2
    replace F := F.trans FF
    replace b1 := b1.fr0 FF
    clear FF
    refine rl_end rfl ?_
    refine al_k ?_
    refine cl_seq rfl ?_
    refine cl_reg rfl ?_
    refine se rfl rfl rfl rfl (e_map) ?_
    rintro _ w5 ⟨rfl, TM, fr⟩
    have hbm := F.size
    replace F := F.trans fr
    replace b1 := b1.fr0 fr
    replace b6 := b6.fr0 fr
    clear fr
    refine se rfl rfl rfl rfl (e_new (x_alloc Try.zeroValue54 rfl)) ?_
    rintro _ wb7 ⟨rfl, b7, fA, _⟩
    refine sv rfl rfl rfl (v_1 rfl rfl rfl rfl Try.sizeOf54 b7 (by decide)) ?_
    rintro wb7b ⟨bb2, fr⟩
    replace b7 : Blk wb7b _ 54 [.map (some _)] := bb2
    have FF := fA.trans_new fr (by intro q hq; simp at hq; subst hq; exact .inr (Nat.le_refl _))
    clear fr fA bb2
    replace F := F.trans FF
    replace b1 := b1.fr0 FF
    replace b6 := b6.fr0 FF
    replace TM := TM.fr0 FF
    clear FF
    refine rl_end rfl ?_
    refine al_k ?_
    refine cl_seq rfl ?_
    refine cl_reg rfl ?_
    refine se rfl rfl rfl rfl (e_new (x_alloc Try.zeroValue55 rfl)) ?_
    rintro _ wb8 ⟨rfl, b8, fA, _⟩
    refine rl_end rfl ?_
    refine al_k ?_
    refine cl_seq rfl ?_
    refine cl_reg rfl ?_
    refine st rfl rfl rfl rfl (x_mkf rfl rfl) ?_
    refine sv rfl rfl rfl (v_1 rfl rfl rfl rfl Try.sizeOf55 b8 (by decide)) ?_
    rintro wb8b ⟨bb2, fr⟩
    replace b8 : Blk wb8b _ 55 [_] := bb2
    have FF := fA.trans_new fr (by intro q hq; simp at hq; subst hq; exact .inr (Nat.le_refl _))
    clear fr fA bb2
    replace F := F.trans FF
    replace b1 := b1.fr0 FF
    replace b6 := b6.fr0 FF
    replace TM := TM.fr0 FF
    replace b7 := b7.fr0 FF
    clear FF
    refine rl_end rfl ?_
    refine al_k ?_
    refine cl_seq rfl ?_
    refine cl_reg rfl ?_
    refine st rfl rfl rfl rfl (x_ld rfl Try.isAgg55 (b8.cell rfl)) ?_
    refine sc rfl rfl rfl rfl (c_fv rfl rfl Try.call24 (searchP_c l hH.1 (l.length + 1) _ A c _ _ _ _ _ (HR.fr0 F) b6 b7 b1 b8 0#64 none 0 [] (RowG.nil _ _) (Nat.le_refl _) (by intro z hz; cases hz) (Nat.zero_le _) [] TM (by intro t ht; cases ht) (by rw [cnt_zero]; omega))) ?_
    rintro _ w81 ⟨T2, TM2, _, _, F2, v8, rfl, hs8⟩
    replace F := F.trans_new F2 (by intro q hq; simp at hq; subst hq; exact .inr hbm)
    refine st rfl rfl rfl rfl (x_move rfl) ?_
    refine st rfl rfl rfl rfl (x_ext rfl rfl) ?_
    refine st rfl rfl rfl rfl (x_ext rfl rfl) ?_
    refine st rfl rfl rfl rfl (x_asg rfl) ?_
    refine st rfl rfl rfl rfl (x_asg rfl) ?_
    refine rl_end rfl ?_
    refine al_k ?_
    refine cl_seq rfl ?_
    refine cl_reg rfl ?_
    refine st rfl rfl rfl rfl (x_move rfl) ?_
    refine st rfl rfl rfl rfl (x_move rfl) ?_
    refine st rfl rfl rfl rfl (x_asg rfl) ?_
    refine st rfl rfl rfl rfl (x_asg rfl) ?_
    refine st rfl rfl rfl rfl (x_asg rfl) ?_
    refine rl_end rfl ?_
    refine al_k ?_
    refine cl_ret rfl ?_
    refine fin3 rfl rfl rfl rfl ?_
    unfold orderP
    rw [if_pos hH]
    exact ⟨⟨_, rfl, hs8⟩, F⟩

theorem Order_c (w : World) (A : Option Addr) (c : Nat) (l : List D) (HR : RowG encD 6 w A l) (hl : l.length ≤ 1000) : Cl Try.prog 9 [.slice A l.length c] w (fun r w' => OR w' r (orderR l) ∧ Fr [] w w') := by
  have h := Order_p w A c l HR hl
  rw [order_same] at h
  exact h
theorem exA : orderP [⟨1, 0, 1, 0, 9, false⟩, ⟨2, 0, 1, 2, 3, false⟩] = (some [0, 1], 0) := by
  unfold orderP
  rw [if_pos (by decide), dfs_B]
  kernel_rfl
theorem exB : orderP [⟨1, 0, 1, 0, 1, false⟩, ⟨3, 0, 0, 2, 3, false⟩] = (none, 0) := by
  unfold orderP
  rw [if_pos (by decide), dfs_B]
  kernel_rfl
theorem OrderA (w : World) (A : Option Addr) (c : Nat) (HR : RowG encD 6 w A [⟨1, 0, 1, 0, 9, false⟩, ⟨2, 0, 1, 2, 3, false⟩]) : Cl Try.prog 9 [.slice A 2 c] w (fun r w' => ∃ v, r = .tuple #[v, .bool true, .int .i64 0] ∧ SlG encI 1 w' v [0, 1] ∧ Fr [] w w') := by
  refine (Order_p w A c _ HR (by decide)).mono ?_
  rintro r w' ⟨⟨v, hv, hs⟩, fr⟩
  rw [exA] at hv hs
  exact ⟨v, hv, hs, fr⟩
theorem OrderB (w : World) (A : Option Addr) (c : Nat) (HR : RowG encD 6 w A [⟨1, 0, 1, 0, 1, false⟩, ⟨3, 0, 0, 2, 3, false⟩]) : Cl Try.prog 9 [.slice A 2 c] w (fun r w' => ∃ v, r = .tuple #[v, .bool false, .int .i64 0] ∧ Fr [] w w') := by
  refine (Order_p w A c _ HR (by decide)).mono ?_
  rintro r w' ⟨⟨v, hv, hs⟩, fr⟩
  rw [exB] at hv
  exact ⟨v, hv, fr⟩
theorem bld1 (k p fr t : Int) (w : World) : (Instr.build 40 [(0, .int .i64 k), (2, .int .u64 p), (3, .int .i64 fr), (4, .int .i64 t)].toArray).run Try.prog w = .ok (.agg (encD ⟨k, 0, p, fr, t, false⟩).toArray) w := by kernel_rfl
theorem bld2 (k fr t : Int) (w : World) : (Instr.build 40 [(0, .int .i64 k), (3, .int .i64 fr), (4, .int .i64 t)].toArray).run Try.prog w = .ok (.agg (encD ⟨k, 0, 0, fr, t, false⟩).toArray) w := by kernel_rfl
theorem bslD2 (d e : D) (w : World) : (Instr.buildSlice 22 2 [(0, .agg (encD d).toArray), (1, .agg (encD e).toArray)].toArray).run Try.prog w = .ok (.slice (some ⟨w.heap.size, 0, none⟩) 2 2) (w.alloc (.cells (flat encD [d, e]).toArray 40)) := by kernel_rfl
theorem bslI2 (d e : Int) (w : World) : (Instr.buildSlice 24 2 [(0, .int .i64 d), (1, .int .i64 e)].toArray).run Try.prog w = .ok (.slice (some ⟨w.heap.size, 0, none⟩) 2 2) (w.alloc (.cells (flat encI [d, e]).toArray 3)) := by kernel_rfl

theorem alive_c (w : World) : Cl Try.prog 12 [] w (fun v w' => v = .bool true ∧ Fr [] w w') := by
  have F := Fr.refl [] w
  refine enter Try.func12 rfl Try.ntmps12 rfl ?_
  refine cl_seq rfl ?_
  refine cl_reg rfl ?_
  refine st rfl rfl rfl rfl (x_asg rfl) ?_
  refine rl_end rfl ?_
  refine al_k ?_
  refine cl_seq rfl ?_
  refine cl_reg rfl ?_
  refine sc rfl rfl rfl rfl (c_fn rfl Try.call29 (send_c _ 1 0 9)) ?_
  rintro _ w10 ⟨rfl, fr⟩
  replace F := F.trans fr
  clear fr
  refine st rfl rfl rfl rfl (x_build rfl (bld1 _ _ _ _ _)) ?_
  refine se rfl rfl rfl rfl (e_new (x_bsl rfl (bslD2 _ _ _))) ?_
  rintro _ w1_2 ⟨rfl, bs, fr, _⟩
  replace F := F.trans fr
  clear fr
  replace bs := RowG.blk (rest := []) lenD (by rw [List.append_nil]; exact bs)
  refine sc rfl rfl rfl rfl (c_fn rfl Try.call9 (OrderA _ _ _ bs)) ?_
  rintro _ w13 ⟨v1, rfl, hs1, fr⟩
  replace F := F.trans fr
  clear fr
  refine st rfl rfl rfl rfl (x_move rfl) ?_
  refine st rfl rfl rfl rfl (x_ext rfl rfl) ?_
  refine st rfl rfl rfl rfl (x_ext rfl rfl) ?_
  refine st rfl rfl rfl rfl (x_ext rfl rfl) ?_
  refine st rfl rfl rfl rfl (x_asg rfl) ?_
  refine st rfl rfl rfl rfl (x_asg rfl) ?_
  refine st rfl rfl rfl rfl (x_asg rfl) ?_
  refine rl_end rfl ?_
  refine al_k ?_
  refine cl_seq rfl ?_
  refine cl_reg rfl ?_
  refine sc rfl rfl rfl rfl (c_fn rfl Try.call29 (send_c _ 1 0 1)) ?_
  rintro _ w20 ⟨rfl, fr⟩
  replace F := F.trans fr
  replace hs1 := hs1.fr0 fr
  clear fr
  refine st rfl rfl rfl rfl (x_build rfl (bld2 _ _ _ _)) ?_
  refine se rfl rfl rfl rfl (e_new (x_bsl rfl (bslD2 _ _ _))) ?_
  rintro _ w2_2 ⟨rfl, bs, fr, _⟩
  replace F := F.trans fr
  replace hs1 := hs1.fr0 fr
  clear fr
  replace bs := RowG.blk (rest := []) lenD (by rw [List.append_nil]; exact bs)
  refine sc rfl rfl rfl rfl (c_fn rfl Try.call9 (OrderB _ _ _ bs)) ?_
  rintro _ w23 ⟨v2, rfl, fr⟩
  replace F := F.trans fr
  replace hs1 := hs1.fr0 fr
  clear fr
  refine st rfl rfl rfl rfl (x_move rfl) ?_
  refine st rfl rfl rfl rfl (x_ext rfl rfl) ?_
  refine st rfl rfl rfl rfl (x_ext rfl rfl) ?_
  refine st rfl rfl rfl rfl (x_ext rfl rfl) ?_
  refine st rfl rfl rfl rfl (x_asg rfl) ?_
  refine st rfl rfl rfl rfl (x_asg rfl) ?_
  refine st rfl rfl rfl rfl (x_asg rfl) ?_
  refine rl_end rfl ?_
  refine al_k ?_
  refine cl_seq rfl ?_
  refine cl_reg rfl ?_
  refine st rfl rfl rfl rfl (x_move rfl) ?_
  refine st rfl rfl rfl rfl ((x_eql rfl rfl).b1 (by omega)) ?_
  refine st rfl rfl rfl rfl (x_move rfl) ?_
  refine st rfl rfl rfl rfl (x_move rfl) ?_
  refine st rfl rfl rfl rfl ((x_eql rfl rfl).b1 (by omega)) ?_
  refine st rfl rfl rfl rfl (x_pick1 rfl rfl) ?_
  refine st rfl rfl rfl rfl (x_move rfl) ?_
  refine st rfl rfl rfl rfl (x_move rfl) ?_
  refine st rfl rfl rfl rfl (x_pick1 rfl rfl) ?_
  refine st rfl rfl rfl rfl (x_move rfl) ?_
  refine st rfl rfl rfl rfl (x_move rfl) ?_
  refine st rfl rfl rfl rfl (x_not0 rfl) ?_
  refine st rfl rfl rfl rfl (x_pick1 rfl rfl) ?_
  refine st rfl rfl rfl rfl (x_move rfl) ?_
  refine st rfl rfl rfl rfl (x_move rfl) ?_
  refine se rfl rfl rfl rfl (e_new (x_bsl rfl (bslI2 _ _ _))) ?_
  rintro _ w315 ⟨rfl, bs, fr, _⟩
  replace F := F.trans fr
  replace hs1 := hs1.fr0 fr
  clear fr
  replace bs := RowG.blk (rest := []) lenI (by rw [List.append_nil]; exact bs)
  obtain ⟨A1, c1, rfl, HS1, _⟩ := hs1
  refine sc rfl rfl rfl rfl (c_fn rfl Try.call11 (same_c _ A1 c1 [0, 1] HS1 _ _ [0, 1] bs (by decide))) ?_
  rintro _ w316 ⟨rfl, fr⟩
  replace F := F.trans fr
  clear fr
  refine st rfl rfl rfl rfl (x_pick1 rfl rfl) ?_
  refine st rfl rfl rfl rfl (x_asg rfl) ?_
  refine rl_end rfl ?_
  refine al_k ?_
  refine cl_ret rfl ?_
  refine fin1 rfl rfl ?_
  exact ⟨rfl, F⟩

end Go.Proofs.Ytmeheoflfdmgiaa.Lin
