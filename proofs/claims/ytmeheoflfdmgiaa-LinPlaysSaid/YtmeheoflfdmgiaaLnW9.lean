/- Deeds: the walk of the search. -/
import Derived.Test.YtmeheoflfdmgiaaLnW8
set_option linter.unusedVariables false
namespace Go.Proofs.Ytmeheoflfdmgiaa.Lin
open Go Go.RowKit Go.Proofs.Ytmeheoflfdmgiaa.Sx Go.Proofs.Ytmeheoflfdmgiaa
set_option maxRecDepth 100000

theorem searchP_step (l : List D) (hl : l.length ≤ 24) (f : Nat) (ih : ∀ (w : World) (A : Option Addr) (c ball bmp bm bl bf : Nat) (HR : RowG encD 6 w A l) (Ball : Blk w ball 38 [.int .u64 ((mustF l l.length).toNat : Nat)]) (Bmp : Blk w bmp 54 [.map (some bm)]) (Bl : Blk w bl 22 [.slice A l.length c]) (Bf : Blk w bf 55 [.func (.func 24) #[] #[.pointer (some ⟨ball, 0, none⟩), .pointer (some ⟨bmp, 0, none⟩), .pointer (some ⟨bl, 0, none⟩), .pointer (some ⟨bf, 0, none⟩)]]) (done : BitVec 64) (A3 : Option Addr) (c3 : Nat) (p : List Int) (HP : RowG encI 1 w A3 p) (hcp : p.length ≤ c3) (hpr : okRow l p) (hpc : p.length ≤ cnt l.length done) (T : List (BitVec 64 × List Int)) (TM : TMap w bm (T.map encV)) (hT : Tried l T (cnt l.length done)), cnt l.length done + f = l.length + 1 → Cl Try.prog 24 [.int .u64 ((done).toNat : Nat), .slice A3 p.length c3, .pointer (some ⟨ball, 0, none⟩), .pointer (some ⟨bmp, 0, none⟩), .pointer (some ⟨bl, 0, none⟩), .pointer (some ⟨bf, 0, none⟩)] w (fun r w' => ∃ T2 : List (BitVec 64 × List Int), TMap w' bm (T2.map encV) ∧ (∀ t ∈ T2, okT l t) ∧ (dfsF l f done p = none → ∀ t ∈ T2, t ∈ T ∨ fails l t) ∧ Fr [bm] w w' ∧ SR w' r (dfsF l f done p))) (w : World) (A : Option Addr) (c ball bmp bm bl bf : Nat) (HR : RowG encD 6 w A l) (Ball : Blk w ball 38 [.int .u64 ((mustF l l.length).toNat : Nat)]) (Bmp : Blk w bmp 54 [.map (some bm)]) (Bl : Blk w bl 22 [.slice A l.length c]) (Bf : Blk w bf 55 [.func (.func 24) #[] #[.pointer (some ⟨ball, 0, none⟩), .pointer (some ⟨bmp, 0, none⟩), .pointer (some ⟨bl, 0, none⟩), .pointer (some ⟨bf, 0, none⟩)]]) (done : BitVec 64) (A3 : Option Addr) (c3 : Nat) (p : List Int) (HP : RowG encI 1 w A3 p) (hcp : p.length ≤ c3) (hpr : okRow l p) (hpc : p.length ≤ cnt l.length done) (T : List (BitVec 64 × List Int)) (TM : TMap w bm (T.map encV)) (hT : Tried l T (cnt l.length done)) (hc : cnt l.length done + (f + 1) = l.length + 1) : Cl Try.prog 24 [.int .u64 ((done).toNat : Nat), .slice A3 p.length c3, .pointer (some ⟨ball, 0, none⟩), .pointer (some ⟨bmp, 0, none⟩), .pointer (some ⟨bl, 0, none⟩), .pointer (some ⟨bf, 0, none⟩)] w (fun r w' => ∃ T2 : List (BitVec 64 × List Int), TMap w' bm (T2.map encV) ∧ (∀ t ∈ T2, okT l t) ∧ (dfsF l (f + 1) done p = none → ∀ t ∈ T2, t ∈ T ∨ fails l t) ∧ Fr [bm] w w' ∧ SR w' r (dfsF l (f + 1) done p)) := by
  have F := Fr.refl [bm] w
  refine enter Try.func24 rfl Try.ntmps24 rfl ?_
  refine cl_seq rfl ?_
  refine cl_reg rfl ?_
  refine st rfl rfl rfl rfl (x_asg rfl) ?_
  refine st rfl rfl rfl rfl (x_asg rfl) ?_
  refine rl_end rfl ?_
  refine al_k ?_
  refine cl_seq rfl ?_
  refine cl_seq rfl ?_
  have TM0 := TM
  have hok : okT l (done, p) := ⟨hpr, by have := cnt_le l.length done; show p.length ≤ 24; omega⟩
  have hokT : ∀ t ∈ T, okT l t := fun t ht => (hT t ht).1
  have hkT : ∀ v ∈ T.map encV, ∃ q, keyOf Try.prog 59 v = some q := fun v hv => by obtain ⟨t, ht, rfl⟩ := List.mem_map.1 hv; exact keyT t (hokT t ht).2
  refine cl_reg rfl ?_
  refine st rfl rfl rfl rfl (x_ld rfl Try.isAgg38 ((Ball.frM TM0 F).cell rfl)) ?_
  refine st rfl rfl rfl rfl (x_move rfl) ?_
  refine st rfl rfl rfl rfl (x_andn (a := mustF l l.length) (b := done) rfl rfl) ?_
  refine sf rfl rfl rfl rfl (x_eql rfl rfl) (fun c1_3 => ?_) (fun c1_3 => ?_)
  · skip
    refine rl_end rfl ?_
    refine al_k ?_
    refine cl_if1 rfl rfl ?_
    refine cl_seq rfl ?_
    refine cl_reg rfl ?_
    refine st rfl rfl rfl rfl (x_asg rfl) ?_
    refine st rfl rfl rfl rfl (x_asg rfl) ?_
    refine rl_end rfl ?_
    refine al_k ?_
    refine cl_ret rfl ?_
    refine fin2 rfl rfl rfl ?_
    refine ⟨T, TM, hokT, fun h => ?_, F, SR.yes (a := []) ?_ (SlG.nil _)⟩
    · have h1 : dfsF l (f + 1) done p = some [] := stepD_all c1_3
      rw [h1] at h; cases h
    · exact stepD_all c1_3
  · skip
    refine rl_end rfl ?_
    refine al_k ?_
    refine cl_if0 rfl rfl ?_
    refine cl_skip rfl ?_
    refine al_k ?_
    refine cl_seq rfl ?_
    refine cl_reg rfl ?_
    refine st rfl rfl rfl rfl (x_move rfl) ?_
    refine st rfl rfl rfl rfl (x_move rfl) ?_
    refine sc rfl rfl rfl rfl (c_fn rfl Try.call25 (at_c _ A3 c3 p (HP.frM TM0 F) (by have := hok.2; exact this) done)) ?_
    rintro _ w3 ⟨rfl, fr⟩
    replace F := F.trans (Fr.of0 fr)
    replace TM := TM.fr0 fr
    clear fr
    refine se rfl rfl rfl rfl (e_new (x_alloc zT rfl)) ?_
    rintro _ w33 ⟨rfl, bt, fA, _⟩
    refine sv rfl rfl rfl (v_n (vs := encT (done, p)) rfl rfl (oneTn _ _ _) Try.sizeOf59 (lenTn _ _ _) bt (by rw [lenTn]; omega)) ?_
    rintro w34 ⟨b2, fr⟩
    replace b2 : Blk w34 _ 59 (splice (encTn 0#64 [] 0) 0 (encTn done p p.length)) := b2
    rw [spliceT] at b2
    replace bt := b2
    have FF := fA.trans_new fr (by intro q hq; simp at hq; subst hq; exact .inr (Nat.le_refl _))
    clear fr fA b2
    replace F := F.trans (Fr.of0 FF)
    replace TM := TM.fr0 FF
    clear FF
    refine rl_end rfl ?_
    refine al_k ?_
    refine cl_seq rfl ?_
    refine cl_seq rfl ?_
    refine cl_reg rfl ?_
    refine st rfl rfl rfl rfl (x_ld rfl Try.isAgg54 ((Bmp.frM TM0 F).cell rfl)) ?_
    refine st rfl rfl rfl rfl (x_ldn (cs := encT (done, p)) rfl Try.isAgg59 Try.sizeOf59 (lenTn _ _ _) (by intro j v hv; rw [Nat.zero_add]; exact bt.cell hv)) ?_
    refine st rfl rfl rfl rfl (x_look (T := T.map encV) (key := encV (done, p)) klT Try.underlying54 Try.zeroValue4 rfl rfl TM hkT (keyT _ hok.2)) ?_
    cases hf4_2 : (dc (encV (done, p) ∈ T.map encV))
    · skip
      refine rl_end rfl ?_
      refine al_k ?_
      refine cl_if0 rfl rfl ?_
      refine cl_skip rfl ?_
      refine al_k ?_
      refine cl_seq rfl ?_
      have hnot : (done, p) ∉ T := fun h => not_dc hf4_2 ((enc_mem (by omega) hok hokT).2 h)
      refine cl_reg rfl ?_
      refine st rfl rfl rfl rfl (x_ld rfl Try.isAgg54 ((Bmp.frM TM0 F).cell rfl)) ?_
      refine st rfl rfl rfl rfl (x_ldn (cs := encT (done, p)) rfl Try.isAgg59 Try.sizeOf59 (lenTn _ _ _) (by intro j v hv; rw [Nat.zero_add]; exact bt.cell hv)) ?_
      refine sv rfl rfl rfl (v_mapup (T := T.map encV) (key := encV (done, p)) klT Try.underlying54 rfl rfl rfl TM hkT (keyT _ hok.2) (not_dc hf4_2)) ?_
      rintro w6 ⟨TM2, fr⟩
      replace TM : TMap w6 bm ((T ++ [(done, p)]).map encV) := by rw [List.map_append]; exact TM2
      replace F := F.trans fr
      clear fr TM2
      refine rl_end rfl ?_
      refine al_k ?_
      refine cl_seq rfl ?_
      refine cl_seq rfl ?_
      refine cl_reg rfl ?_
      refine st rfl rfl rfl rfl (x_ld rfl Try.isAgg22 ((Bl.frM TM0 F).cell rfl)) ?_
      refine st rfl rfl rfl rfl (x_len rfl Try.underlying22) ?_
      refine st rfl rfl rfl rfl (x_move rfl) ?_
      refine rl_end rfl ?_
      refine al_k ?_
      refine cl_block rfl ?_
      refine cl_loop (fun i : Nat => [(30, .int .i64 i), (29, .int .i64 l.length), (0, .int .u64 ((done).toNat : Nat)), (1, .slice A3 p.length c3), (2, .pointer (some ⟨ball, 0, none⟩)), (3, .pointer (some ⟨bmp, 0, none⟩)), (4, .pointer (some ⟨bl, 0, none⟩)), (5, .pointer (some ⟨bf, 0, none⟩))]) (fun i w' => (i ≤ l.length ∧ ∀ (j : Nat), j < i → candD l (dfsF l f) done p j = none) ∧ ∃ T1 : List (BitVec 64 × List Int), TMap w' bm (T1.map encV) ∧ (∀ t ∈ T1, okT l t) ∧ (∀ t ∈ T1, t ∈ T ∨ t = (done, p) ∨ fails l t) ∧ Fr [bm] w w') (fun i => l.length - i) 0 rfl ⟨rfl, rfl, rfl, rfl, rfl, rfl, rfl, rfl, trivial⟩ ?_ ?_
      · exact ⟨⟨Nat.zero_le _, fun j h => absurd h (by omega)⟩, T ++ [(done, p)], TM, fun t ht => by (rcases List.mem_append.1 ht with h | h); exact hokT t h; (simp at h; subst h; exact hok), fun t ht => by (rcases List.mem_append.1 ht with h | h); exact .inl h; (simp at h; exact .inr (.inl h)), F⟩
      · skip
        rintro i wr ⟨⟨hi, hno⟩, T1, TM, hok1, hin1, F⟩
        refine cl_seq rfl ?_
        refine cl_reg rfl ?_
        refine sf rfl rfl rfl rfl (x_lss rfl rfl) (fun c8_0 => ?_) (fun c8_0 => ?_)
        · skip
          refine rl_end rfl ?_
          refine al_k ?_
          refine cl_seq rfl ?_
          refine cl_if1 rfl rfl ?_
          refine cl_skip rfl ?_
          refine al_k ?_
          refine cl_seq rfl ?_
          refine cl_block rfl ?_
          refine cl_seq rfl ?_
          refine cl_reg rfl ?_
          refine st rfl rfl rfl rfl (x_move rfl) ?_
          refine st rfl rfl rfl rfl (x_asg rfl) ?_
          refine rl_end rfl ?_
          refine al_k ?_
          refine cl_seq rfl ?_
          refine cl_seq rfl ?_
          refine cl_reg rfl ?_
          refine st rfl rfl rfl rfl (x_ld rfl Try.isAgg22 ((Bl.frM TM0 F).cell rfl)) ?_
          refine st rfl rfl rfl rfl (x_move rfl) ?_
          refine st rfl rfl rfl rfl (x_move rfl) ?_
          refine sc rfl rfl rfl rfl (c_fn rfl Try.call26 (free_c _ A c l (HR.frM TM0 F) (by omega) done i (by omega))) ?_
          rintro _ w10 ⟨rfl, fr⟩
          replace F := F.trans (Fr.of0 fr)
          replace TM := TM.fr0 fr
          clear fr
          cases hf10_3 : (dc (freeI l done i))
          · skip
            refine st rfl rfl rfl rfl (x_not0 rfl) ?_
            refine rl_end rfl ?_
            refine al_k ?_
            refine cl_if1 rfl rfl ?_
            refine cl_exit rfl ?_
            refine upd_self ?_
            refine al_k ?_
            refine cl_reg rfl ?_
            refine st rfl rfl rfl rfl (x_add rfl rfl (by omega)) ?_
            refine st rfl rfl rfl rfl (x_move rfl) ?_
            refine rl_end rfl ?_
            refine again (i + 1) (by omega) ⟨rfl, rfl, rfl, rfl, rfl, rfl, rfl, rfl, trivial⟩ ⟨⟨by omega, ?_⟩, T1, TM, hok1, hin1, F⟩
            · intro j hj
              rcases Nat.lt_or_ge j i with h | h
              · exact hno j h
              · obtain rfl : j = i := by omega
                exact candD_held hf10_3
          · skip
            refine st rfl rfl rfl rfl (x_not1 rfl) ?_
            refine rl_end rfl ?_
            refine al_k ?_
            refine cl_if0 rfl rfl ?_
            refine cl_skip rfl ?_
            refine al_k ?_
            refine cl_seq rfl ?_
            refine cl_reg rfl ?_
            refine st rfl rfl rfl rfl (x_move rfl) ?_
            refine st rfl rfl rfl rfl (x_ld rfl Try.isAgg22 ((Bl.frM TM0 F).cell rfl)) ?_
            refine st rfl rfl rfl rfl (x_move rfl) ?_
            refine sc rfl rfl rfl rfl (c_fn rfl Try.call27 (pthen_c _ A c l (HR.frM TM0 F) A3 c3 p (HP.frM TM0 F) hcp (by have := hok.2; simp only at this; omega) hpr i (by omega))) ?_
            rintro _ w11 ⟨⟨v11, rfl, hv11⟩, fr⟩
            replace F := F.trans (Fr.of0 fr)
            replace TM := TM.fr0 fr
            clear fr
            refine st rfl rfl rfl rfl (x_move rfl) ?_
            refine st rfl rfl rfl rfl (x_ext rfl rfl) ?_
            refine st rfl rfl rfl rfl (x_ext rfl rfl) ?_
            cases hf11_6 : ((pstep l p (i : Int)).isSome)
            · skip
              refine st rfl rfl rfl rfl (x_asg rfl) ?_
              refine st rfl rfl rfl rfl (x_asg rfl) ?_
              refine rl_end rfl ?_
              refine al_k ?_
              refine cl_seq rfl ?_
              refine cl_seq rfl ?_
              refine cl_reg rfl ?_
              refine st rfl rfl rfl rfl (x_move rfl) ?_
              refine st rfl rfl rfl rfl (x_not0 rfl) ?_
              refine rl_end rfl ?_
              refine al_k ?_
              refine cl_if1 rfl rfl ?_
              refine cl_exit rfl ?_
              refine upd_self ?_
              refine al_k ?_
              refine cl_reg rfl ?_
              refine st rfl rfl rfl rfl (x_add rfl rfl (by omega)) ?_
              refine st rfl rfl rfl rfl (x_move rfl) ?_
              refine rl_end rfl ?_
              refine again (i + 1) (by omega) ⟨rfl, rfl, rfl, rfl, rfl, rfl, rfl, rfl, trivial⟩ ⟨⟨by omega, ?_⟩, T1, TM, hok1, hin1, F⟩
              · intro j hj
                rcases Nat.lt_or_ge j i with h | h
                · exact hno j h
                · obtain rfl : j = i := by omega
                  exact candD_stuck (none_of hf11_6)
            · skip
              refine st rfl rfl rfl rfl (x_asg rfl) ?_
              refine st rfl rfl rfl rfl (x_asg rfl) ?_
              refine rl_end rfl ?_
              refine al_k ?_
              refine cl_seq rfl ?_
              refine cl_seq rfl ?_
              refine cl_reg rfl ?_
              refine st rfl rfl rfl rfl (x_move rfl) ?_
              refine st rfl rfl rfl rfl (x_not1 rfl) ?_
              refine rl_end rfl ?_
              refine al_k ?_
              refine cl_if0 rfl rfl ?_
              refine cl_skip rfl ?_
              refine al_k ?_
              refine cl_seq rfl ?_
              obtain ⟨p2, hp2⟩ := some_of hf11_6
              obtain ⟨A5, c5, rfl, HP2, hc5⟩ := hv11 p2 hp2
              have hfr := of_dc hf10_3
              have hcn := cnt_or l.length done i (by omega) (by omega) hfr.2
              have hT1 := fun e => tried_next hT hok1 hin1 (done2 := done ||| ((1#64) <<< i)) e
              refine cl_reg rfl ?_
              refine st rfl rfl rfl rfl (x_ld rfl Try.isAgg55 ((Bf.frM TM0 F).cell rfl)) ?_
              refine st rfl rfl rfl rfl (x_move rfl) ?_
              refine st rfl rfl rfl rfl (x_move rfl) ?_
              refine st rfl rfl rfl rfl (x_cvu (i := i) rfl Try.underlying3 Try.underlying65 (by omega)) ?_
              refine st rfl rfl rfl rfl (x_shl1 (i := i) rfl rfl (by omega)) ?_
              refine st rfl rfl rfl rfl (x_or (a := done) (b := (1#64) <<< i) rfl rfl) ?_
              refine st rfl rfl rfl rfl (x_move rfl) ?_
              refine sc rfl rfl rfl rfl (c_fv rfl rfl Try.call24 (ih _ A c ball bmp bm bl bf (HR.frM TM0 F) (Ball.frM TM0 F) (Bmp.frM TM0 F) (Bl.frM TM0 F) (Bf.frM TM0 F) (done ||| ((1#64) <<< i)) A5 c5 p2 HP2 hc5 (pstep_ok hpr (by omega) hp2) (by have := pstep_len hp2; omega) T1 TM (hT1 hcn) (by omega))) ?_
              rintro _ w13 ⟨T2, TM2, hok2, hT2, F2, v13, rfl, hs13⟩
              replace F := F.trans F2
              replace TM := TM2
              clear TM2 F2
              refine st rfl rfl rfl rfl (x_move rfl) ?_
              refine st rfl rfl rfl rfl (x_ext rfl rfl) ?_
              refine st rfl rfl rfl rfl (x_ext rfl rfl) ?_
              cases hf13_10 : ((dfsF l f (done ||| ((1#64) <<< i)) p2).isSome)
              · skip
                refine st rfl rfl rfl rfl (x_asg rfl) ?_
                refine st rfl rfl rfl rfl (x_asg rfl) ?_
                refine rl_end rfl ?_
                refine al_k ?_
                refine cl_seq rfl ?_
                refine cl_reg rfl ?_
                refine st rfl rfl rfl rfl (x_move rfl) ?_
                refine rl_end rfl ?_
                refine al_k ?_
                refine cl_if0 rfl rfl ?_
                refine cl_skip rfl ?_
                refine al_k ?_
                refine cl_reg rfl ?_
                refine st rfl rfl rfl rfl (x_add rfl rfl (by omega)) ?_
                refine st rfl rfl rfl rfl (x_move rfl) ?_
                refine rl_end rfl ?_
                refine again (i + 1) (by omega) ⟨rfl, rfl, rfl, rfl, rfl, rfl, rfl, rfl, trivial⟩ ⟨⟨by omega, ?_⟩, T2, TM, hok2, ?_, F⟩
                · intro j hj
                  rcases Nat.lt_or_ge j i with h | h
                  · exact hno j h
                  · obtain rfl : j = i := by omega
                    exact (candD_go hf10_3 hp2).trans (by rw [none_of hf13_10]; rfl)
                · intro t ht
                  rcases hT2 (none_of hf13_10) t ht with h | h
                  · exact hin1 t h
                  · exact .inr (.inr h)
              · skip
                refine st rfl rfl rfl rfl (x_asg rfl) ?_
                refine st rfl rfl rfl rfl (x_asg rfl) ?_
                refine rl_end rfl ?_
                refine al_k ?_
                refine cl_seq rfl ?_
                refine cl_reg rfl ?_
                refine st rfl rfl rfl rfl (x_move rfl) ?_
                refine rl_end rfl ?_
                refine al_k ?_
                refine cl_if1 rfl rfl ?_
                refine cl_seq rfl ?_
                obtain ⟨a, ha⟩ := some_of hf13_10
                rw [ha] at hs13
                obtain ⟨A7, c7, rfl, HR7, hc7⟩ := hs13
                have hal := dfsF_len f ha
                have G := Fr.refl [] w13
                have TM13 := TM
                have F13 := F
                refine cl_reg rfl ?_
                refine st rfl rfl rfl rfl (x_move rfl) ?_
                refine se rfl rfl rfl rfl (e_new (x_bsl rfl (bslI _ _))) ?_
                rintro _ wl ⟨rfl, b16, fr, _⟩
                have HO := own_lit (base := (World.heap w13).size) (n := 1) (size := 1) b16 (Nat.le_refl _) rfl (by decide)
                have HBs := b16.lt
                replace F := F.trans (Fr.of0 fr)
                replace TM := TM.fr0 fr
                replace G := G.trans fr
                clear fr
                refine st rfl rfl rfl rfl (x_move rfl) ?_
                refine se rfl rfl rfl rfl (e_appv 1 8 (.int .i64 0) (flat encI a) rfl rfl Try.underlying24 (by kernel_rfl) rfl (by decide) HO (flat_length lenI a) (fun e => RowG.none HR7 e) (fun ad e j u hu => G.cell (RowG.all (by decide) lenI HR7 ad e j u hu) (by simp)) (flat_mem1 oneIn _) (by show (1 + a.length) * 8 ≤ _; omega) (by show 1 + a.length ≤ _; omega) G.size) ?_
                rintro va wa ⟨HOa, hg, hat2⟩
                have hge := own_ge HO
                have G2 := G.grown hg hge
                skip
                refine st rfl rfl rfl rfl (x_asg rfl) ?_
                refine st rfl rfl rfl rfl (x_asg rfl) ?_
                refine rl_end rfl ?_
                refine al_k ?_
                refine cl_ret rfl ?_
                refine fin2 rfl rfl rfl ?_
                have hres : dfsF l (f + 1) done p = some ((i : Int) :: a) := stepD_yes c1_3 hno (by omega) ((candD_go hf10_3 hp2).trans (by rw [ha]; rfl))
                exact ⟨T2, TM13.fr0 G2, hok2, (fun h => by rw [hres] at h; cases h), F13.trans (Fr.of0 G2), .yes hres (SlG.own (l := (i : Int) :: a) (by decide) lenI HOa (by show 1 + a.length = a.length + 1; omega) rfl)⟩
        · skip
          refine rl_end rfl ?_
          refine al_k ?_
          refine cl_seq rfl ?_
          refine cl_if0 rfl rfl ?_
          refine cl_exit rfl ?_
          refine upd_self ?_
          refine al_k ?_
          refine cl_seq rfl ?_
          refine cl_reg rfl ?_
          refine st rfl rfl rfl rfl (x_asg rfl) ?_
          refine st rfl rfl rfl rfl (x_asg rfl) ?_
          refine rl_end rfl ?_
          refine al_k ?_
          refine cl_ret rfl ?_
          refine fin2 rfl rfl rfl ?_
          have hres : dfsF l (f + 1) done p = none := stepD_no c1_3 (fun j hj => hno j (by omega))
          exact ⟨T1, TM, hok1, fun _ t ht => by
            rcases hin1 t ht with h | h | h
            · exact .inl h
            · subst h
              refine .inr ?_
              unfold fails
              rw [show l.length + 1 - cnt l.length (done, p).1 = f + 1 by simp only; omega]
              exact hres
            · exact .inr h, F, .no hres⟩
    · skip
      refine rl_end rfl ?_
      refine al_k ?_
      refine cl_if1 rfl rfl ?_
      refine cl_seq rfl ?_
      refine cl_reg rfl ?_
      refine st rfl rfl rfl rfl (x_asg rfl) ?_
      refine st rfl rfl rfl rfl (x_asg rfl) ?_
      refine rl_end rfl ?_
      refine al_k ?_
      refine cl_ret rfl ?_
      refine fin2 rfl rfl rfl ?_
      have hin := (enc_mem (by omega) hok hokT).1 (of_dc hf4_2)
      have hfail : dfsF l (f + 1) done p = none := by
        rcases (hT _ hin).2 with h | h
        · unfold fails at h
          rw [show l.length + 1 - cnt l.length (done, p).1 = f + 1 by simp only; omega] at h
          exact h
        · simp only at h; omega
      exact ⟨T, TM, hokT, fun _ t ht => .inl ht, F, .no hfail⟩

end Go.Proofs.Ytmeheoflfdmgiaa.Lin
