/- The arena: the walk of what tells the held slots. -/
import Derived.Test.YtjjaijabdfoanaaDoorArW9
set_option linter.unusedVariables false
namespace Go.Proofs.YtjjaijabdfoanaaDoor.Arn
open Go Go.RowKit Go.Proofs.YtjjaijabdfoanaaDoor.Sx Go.Proofs.YtjjaijabdfoanaaDoor.Ls Go.Proofs.YtjjaijabdfoanaaDoor
set_option maxRecDepth 100000

theorem held1_c (ws w : World) (ob mb : Nat) (z : Int × Int) (done : List (Int × Int)) (v : Value) (most : Int) (hv : Blk w ob 30 [v]) (HO : w.ownsRow ws.heap.size 33 2 v done.length (flat encN done)) (hm : Blk w mb 3 [.int .i64 most]) (F : Fr [ob] ws w) (hob : ob < ws.heap.size ∧ mb < ws.heap.size) (hne : mb ≠ ob) (hl : done.length ≤ 100000) :
    Cl Tryd.prog 40 [.agg [.int .i64 z.1, .int .u64 z.2].toArray, .pointer (some ⟨ob, 0, none⟩), .pointer (some ⟨mb, 0, none⟩)] w (fun r w' => ∃ v', r = .bool (decide (((done ++ [z]).length : Int) < most)) ∧ Blk w' ob 30 [v'] ∧ w'.ownsRow ws.heap.size 33 2 v' (done ++ [z]).length (flat encN (done ++ [z])) ∧ Blk w' mb 3 [.int .i64 most] ∧ Fr [ob] ws w') := by
  refine enter Tryd.func40 rfl Tryd.ntmps40 rfl ?_
  refine cl_seq rfl ?_
  refine cl_reg rfl ?_
  refine se rfl rfl rfl rfl (e_new (x_box (cs := [.int .i64 z.1, .int .u64 z.2]) rfl rfl)) ?_
  rintro _ w0 ⟨rfl, b3, fr, _⟩
  replace F := F.trans fr.of0
  replace hv := hv.fr0 fr
  replace HO := own_fr0 HO fr
  replace hm := hm.fr0 fr
  clear fr
  refine st rfl rfl rfl rfl (x_asg rfl) ?_
  refine rl_end rfl ?_
  refine al_k ?_
  refine cl_seq rfl ?_
  refine cl_reg rfl ?_
  refine st rfl rfl rfl rfl (x_ld rfl Tryd.isAgg30 (hv.cell rfl)) ?_
  refine st rfl rfl rfl rfl (x_ldn rfl Tryd.isAgg33 Tryd.sizeOf33 rfl (by intro j u hu; rw [Nat.zero_add]; exact b3.cell hu)) ?_
  refine se rfl rfl rfl rfl (e_new (x_bsl rfl (bslN _ _ _))) ?_
  rintro _ w1b ⟨rfl, b1_2, fr, _⟩
  replace F := F.trans fr.of0
  replace hv := hv.fr0 fr
  replace HO := own_fr0 HO fr
  replace hm := hm.fr0 fr
  replace b3 := b3.fr0 fr
  clear fr
  refine se rfl rfl rfl rfl (e_app 2 16 (.agg #[.int .i64 0, .int .u64 0]) _ rfl rfl Tryd.underlying30 (by kernel_rfl) rfl (by decide) HO rfl b1_2.news (oneN (_, _)) (by omega) (by omega) F.size) ?_
  rintro v1 w1 ⟨HO1, hg, hat⟩
  have hge := own_ge HO
  have hno : ∀ q, q < ws.heap.size → q ∉ v.ownBlock.toList := fun q hq hm => by cases hvo : v.ownBlock with | none => (simp [hvo] at hm) | some r => (simp [hvo] at hm; subst hm; have := hge _ hvo; omega)
  replace F := F.grown hg hge
  replace hv := hv.fr (Fr.of_grown hg) (hno _ hob.1)
  replace hm := hm.fr (Fr.of_grown hg) (hno _ hob.2)
  rw [encN_snoc] at HO1
  obtain ⟨hcv, hov⟩ : v1.cells = #[v1] ∧ v1.oneCell' = true := by obtain ⟨A1, c1, rfl, _⟩ := own_slice HO1; exact ⟨rfl, rfl⟩
  refine sv rfl rfl rfl (v_1 rfl rfl hcv hov Tryd.sizeOf30 hv (by simp)) ?_
  rintro w2 ⟨hv2, fr2⟩
  replace F := F.trans_new fr2 (by intro q hq; simp at hq; subst hq; exact .inl (by simp))
  replace HO1 := own_fr HO1 fr2 (by intro q hq; simp at hq; subst hq; exact hob.1)
  replace hm := hm.fr fr2 (by simpa using hne)
  replace hv2 : Blk w2 ob 30 [v1] := hv2
  obtain ⟨A1, c1, rfl, _⟩ := own_slice HO1
  refine rl_end rfl ?_
  refine al_k ?_
  refine cl_seq rfl ?_
  refine cl_reg rfl ?_
  refine st rfl rfl rfl rfl (x_ld rfl Tryd.isAgg30 (hv2.cell rfl)) ?_
  refine st rfl rfl rfl rfl (x_len rfl Tryd.underlying30) ?_
  refine st rfl rfl rfl rfl (x_ld rfl Tryd.isAgg3 (hm.cell rfl)) ?_
  refine st rfl rfl rfl rfl (x_lss rfl rfl) ?_
  refine st rfl rfl rfl rfl (x_asg rfl) ?_
  refine rl_end rfl ?_
  refine al_k ?_
  refine cl_ret rfl ?_
  refine fin1 rfl rfl ?_
  have e3 : (done ++ [(z.1, z.2)]).length = done.length + 1 := by simp
  exact ⟨_, congrArg _ (by rw [List.length_append]; rfl), hv2, by rw [List.length_append]; exact HO1, hm, F⟩

theorem held_c (w : World) (k : AK) (x : Ar) (K : ArAt w k x) (z0 : 0 < w.heap.size) (part most : Int) (hmo : 1 ≤ most) : Cl Tryd.prog 23 [.pointer (some ⟨k.ap, 0, none⟩), .int .i64 part, .int .i64 most] w (fun v w' => ∃ A c kk, v = .tuple #[.slice A kk c, .bool true] ∧ ((kk : Nat) : Int) = (if most < ((names x part).length : Int) then most else (names x part).length) ∧ kk ≤ (names x part).length ∧ w'.ownsRow w.heap.size 33 2 (.slice A kk c) kk (flat encN ((names x part).take kk)) ∧ Fr [] w w') := by
  have F := Fr.refl [] w
  have hgw := Nat.le_refl w.heap.size
  refine enter Tryd.func23 rfl Tryd.ntmps23 rfl ?_
  refine cl_seq rfl ?_
  refine cl_reg rfl ?_
  refine se rfl rfl rfl rfl (e_new (x_box rfl rfl)) ?_
  rintro _ w0 ⟨rfl, hm, fr, _⟩
  replace F := F.trans fr
  replace K := K.fr0 fr
  have zm := hm.lt
  have gm := Nat.le_refl w.heap.size
  generalize hmq : w.heap.size = mb at hm zm gm ⊢
  clear fr
  refine st rfl rfl rfl rfl (x_asg rfl) ?_
  refine st rfl rfl rfl rfl (x_asg rfl) ?_
  refine rl_end rfl ?_
  refine al_k ?_
  refine cl_seq rfl ?_
  refine cl_reg rfl ?_
  refine st rfl rfl rfl rfl (x_move rfl) ?_
  refine st rfl rfl rfl rfl (x_move rfl) ?_
  refine sc rfl rfl rfl rfl (c_fn rfl Tryd.call39 (heldf_c _ (some ⟨k.ap, 0, none⟩) part)) ?_
  rintro _ w1 ⟨b1, b2, rfl, c1, c2, g1, g2, n12, fr⟩
  replace F := F.trans fr
  replace K := K.fr0 fr
  replace hm := hm.fr0 fr
  have z1 := fr.size
  clear fr
  refine st rfl rfl rfl rfl (x_asg rfl) ?_
  refine rl_end rfl ?_
  refine al_k ?_
  refine cl_seq rfl ?_
  refine cl_seq rfl ?_
  refine cl_reg rfl ?_
  refine st rfl rfl rfl rfl (x_move rfl) ?_
  refine st rfl rfl rfl rfl (x_eqlf rfl rfl Tryd.underlying83) ?_
  refine rl_end rfl ?_
  refine al_k ?_
  refine cl_if0 rfl rfl ?_
  refine cl_skip rfl ?_
  refine al_k ?_
  refine cl_seq rfl ?_
  refine cl_reg rfl ?_
  refine se rfl rfl rfl rfl (e_new (x_alloc Tryd.zeroValue30 rfl)) ?_
  rintro _ w4 ⟨rfl, h9, fr, _⟩
  replace F := F.trans fr
  replace K := K.fr0 fr
  replace hm := hm.fr0 fr
  replace c1 := c1.fr0 fr
  replace c2 := c2.fr0 fr
  have z9 := h9.lt
  have zw := F.size
  have nmo : mb ≠ w1.heap.size := by omega
  have gw : mb ≤ w1.heap.size := by omega
  generalize hoq : w1.heap.size = ob at h9 z9 nmo gw ⊢
  clear fr
  refine rl_end rfl ?_
  refine al_k ?_
  refine cl_seq rfl ?_
  refine cl_reg rfl ?_
  refine st rfl rfl rfl rfl (x_move rfl) ?_
  refine st rfl rfl rfl rfl (x_mkf rfl rfl) ?_
  refine sc rfl rfl rfl rfl (c_fv rfl rfl Tryd.call45 (heldr_c _ k x K (by omega) part b1 b2 c1 c2 40 [.pointer (some ⟨ob, 0, none⟩), .pointer (some ⟨mb, 0, none⟩)] Tryd.call40 (fun d => decide ((d.length : Int) < most)) (fun ws done w1 => ∃ v, Blk w1 ob 30 [v] ∧ w1.ownsRow ws.heap.size 33 2 v done.length (flat encN done) ∧ Blk w1 mb 3 [.int .i64 most] ∧ Fr [ob] ws w1) [ob] (by intro q hq; simp at hq; subst hq; exact z9) (fun ws fr => ⟨_, h9.fr0 fr, own_nil _ _ _, hm.fr0 fr, Fr.refl _ _⟩) (fun ws done w1 h => by
        obtain ⟨_, _, _, _, h⟩ := h
        exact h) (fun ws done w1 w2 h fr => by
        obtain ⟨v, a, b, c, d⟩ := h
        exact ⟨v, a.fr0 fr, own_fr0 b fr, c.fr0 fr, d.trans fr.of0⟩) (fun ws q z w1 fr hz h => by
        obtain ⟨v, hv, HO, hm1, F1⟩ := h
        have hkl := (List.getElem?_eq_some_iff.1 hz).1
        have hnl : (names x part).length ≤ 65536 := by (have := heldN_len x part; have := K.sl0; have := names_len x part; omega)
        have e2 : (names x part).take (q + 1) = (names x part).take q ++ [z] := by rw [List.take_add_one, hz]; rfl
        have hs := fr.size
        refine (held1_c ws w1 ob mb z ((names x part).take q) v most hv HO hm1 F1 (by omega) nmo (by rw [List.length_take]; omega)).mono ?_
        rintro r w' ⟨v', rfl, hv', HO', hm', F'⟩
        rw [e2]
        exact ⟨rfl, v', hv', HO', hm', F'⟩))) ?_
  rintro _ w9 ⟨rfl, ws, kk, D, w8, F1, hst, ⟨v9, h9b, HO9, hm9, F9⟩, gD, lD, fD⟩
  -- told
  have s1 := F1.size
  replace h9 := h9b.fr fD (by simp; omega)
  replace HO9 := own_fr HO9 fD (by intro q hq; simp at hq; omega)
  have hk := stop_atA hmo hst
  have hkl := hst.1
  replace F := ((F.trans F1).trans_new F9 (by intro q hq; simp at hq; right; omega)).trans_new fD (by intro q hq; simp at hq; right; omega)
  have ekk : ((names x part).take kk).length = kk := by (rw [List.length_take]; omega)
  rw [ekk] at HO9
  obtain ⟨A9, c9, rfl, _⟩ := own_slice HO9
  refine rl_end rfl ?_
  refine al_k ?_
  refine cl_seq rfl ?_
  refine cl_reg rfl ?_
  refine st rfl rfl rfl rfl (x_ld rfl Tryd.isAgg30 (h9.cell rfl)) ?_
  refine st rfl rfl rfl rfl (x_asg rfl) ?_
  refine st rfl rfl rfl rfl (x_asg rfl) ?_
  refine rl_end rfl ?_
  refine al_k ?_
  refine cl_ret rfl ?_
  refine fin2 rfl rfl rfl ?_
  exact ⟨A9, c9, kk, rfl, hk, hkl, own_mono HO9 (by omega), F⟩

end Go.Proofs.YtjjaijabdfoanaaDoor.Arn
