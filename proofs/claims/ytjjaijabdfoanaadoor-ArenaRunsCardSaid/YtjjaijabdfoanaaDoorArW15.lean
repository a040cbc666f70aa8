/- The reference: the walk of Alloc. -/
import Derived.Test.YtjjaijabdfoanaaDoorArW14
set_option linter.unusedVariables false
namespace Go.Proofs.YtjjaijabdfoanaaDoor.Arn
open Go Go.RowKit Go.Proofs.YtjjaijabdfoanaaDoor.Sx Go.Proofs.YtjjaijabdfoanaaDoor.Ls Go.Proofs.YtjjaijabdfoanaaDoor
set_option maxRecDepth 100000

theorem ralloc_bad (w : World) (B0 B : Nat) (r : RK) (qs : List Int) (x : Ar) (R : RAt w B0 B r qs x) (p : Int) (hbad : ¬ (0 ≤ p ∧ p < (qs.length : Int))) : Cl Tryd.prog 33 [.pointer (some ⟨r.rp, 0, none⟩), .int .i64 p] w (fun q w' => q = .tuple #[.agg [.int .i64 0, .int .u64 0].toArray, .int .i64 5] ∧ RAt w' B0 B r qs x ∧ Fr [r.cb, r.fb] w w') := by
  have F := Fr.refl [r.cb, r.fb] w
  have hwB := R.sB
  refine enter Tryd.func33 rfl Tryd.ntmps33 rfl ?_
  refine cl_seq rfl ?_
  refine cl_reg rfl ?_
  refine se rfl rfl rfl rfl (e_new (x_alloc Tryd.zeroValue33 rfl)) ?_
  rintro _ w0 ⟨rfl, b0, fr, _⟩
  have Rw := R
  have F0 := fr
  replace F := F.trans fr.of0
  replace R := R.fr0 fr
  have gb := b0.lt
  have gB := R.sB
  have gb2 : B ≤ w.heap.size := hwB
  have gb3 := Nat.le_refl w.heap.size
  generalize hbq : w.heap.size = bq at b0 gb gb2 gb3 ⊢
  clear fr
  refine st rfl rfl rfl rfl (x_asg rfl) ?_
  refine rl_end rfl ?_
  refine al_k ?_
  refine cl_seq rfl ?_
  refine cl_seq rfl ?_
  refine cl_reg rfl ?_
  refine st rfl rfl rfl rfl (x_move rfl) ?_
  refine st rfl rfl rfl rfl (x_move rfl) ?_
  refine sc rfl rfl rfl rfl (c_fn rfl Tryd.call38 (rpart_c _ B0 B r qs x R p)) ?_
  rintro _ wk ⟨rfl, hwk⟩
  obtain rfl := hwk.symm
  rw [decide_eq_false hbad]
  refine st rfl rfl rfl rfl (x_not0 rfl) ?_
  refine rl_end rfl ?_
  refine al_k ?_
  refine cl_if1 rfl rfl ?_
  refine cl_seq rfl ?_
  refine cl_reg rfl ?_
  refine st rfl rfl rfl rfl (x_build rfl (bldN0 _)) ?_
  refine sv rfl rfl rfl (v_n (vs := [.int .i64 0, .int .u64 0]) rfl rfl (by intro v hv; simp at hv; rcases hv with rfl | rfl <;> rfl) Tryd.sizeOf33 rfl b0 (by decide)) ?_
  rintro w2 ⟨bR, frR⟩
  replace bR : Blk w2 bq 33 [.int .i64 0, .int .u64 0] := bR
  have G := F0.trans_new frR (by intro q hq; simp at hq; exact .inr (by omega))
  replace R := Rw.fr0 G
  replace F := (Fr.refl [r.cb, r.fb] w).trans G.of0
  refine st rfl rfl rfl rfl (x_asg rfl) ?_
  refine rl_end rfl ?_
  refine al_k ?_
  refine cl_ret rfl ?_
  refine fin_ct rfl rfl (run_ldv Tryd.isAgg33 Tryd.sizeOf33 rfl bR) rfl ?_
  exact ⟨rfl, R, F⟩

theorem ralloc_none (w : World) (B0 B : Nat) (r : RK) (qs : List Int) (x : Ar) (R : RAt w B0 B r qs x) (p : Int) (hS : Sz qs x) (h0 : 0 ≤ p) (h1 : p < (qs.length : Int)) (hr : Ls.rowAt x.free p = []) : Cl Tryd.prog 33 [.pointer (some ⟨r.rp, 0, none⟩), .int .i64 p] w (fun q w' => q = .tuple #[.agg [.int .i64 0, .int .u64 0].toArray, .int .i64 61] ∧ RAt w' B0 B r qs x ∧ Fr [r.cb, r.fb] w w') := by
  have F := Fr.refl [r.cb, r.fb] w
  have hwB := R.sB
  refine enter Tryd.func33 rfl Tryd.ntmps33 rfl ?_
  refine cl_seq rfl ?_
  refine cl_reg rfl ?_
  refine se rfl rfl rfl rfl (e_new (x_alloc Tryd.zeroValue33 rfl)) ?_
  rintro _ w0 ⟨rfl, b0, fr, _⟩
  have Rw := R
  have F0 := fr
  replace F := F.trans fr.of0
  replace R := R.fr0 fr
  have gb := b0.lt
  have gB := R.sB
  have gb2 : B ≤ w.heap.size := hwB
  have gb3 := Nat.le_refl w.heap.size
  generalize hbq : w.heap.size = bq at b0 gb gb2 gb3 ⊢
  clear fr
  refine st rfl rfl rfl rfl (x_asg rfl) ?_
  refine rl_end rfl ?_
  refine al_k ?_
  refine cl_seq rfl ?_
  refine cl_seq rfl ?_
  refine cl_reg rfl ?_
  refine st rfl rfl rfl rfl (x_move rfl) ?_
  refine st rfl rfl rfl rfl (x_move rfl) ?_
  refine sc rfl rfl rfl rfl (c_fn rfl Tryd.call38 (rpart_y _ B0 B r qs x R p h0 h1)) ?_
  rintro _ wk ⟨rfl, hwk⟩
  obtain rfl := hwk.symm
  refine st rfl rfl rfl rfl (x_not1 rfl) ?_
  refine rl_end rfl ?_
  refine al_k ?_
  refine cl_if0 rfl rfl ?_
  refine cl_skip rfl ?_
  refine al_k ?_
  refine cl_seq rfl ?_
  refine cl_seq rfl ?_
  have hfl := hS.I.fl
  have hpq := hS.pq
  have hpp := hS.I.pp
  have hrow : x.free[p.toNat]? = some (Ls.rowAt x.free p) := rowAt_some ⟨h0, by omega⟩
  obtain ⟨A1, c1, hc4, hrv⟩ := R.row hrow
  rw [hr] at hc4 hrv
  refine cl_reg rfl ?_
  refine st rfl rfl rfl rfl (x_move rfl) ?_
  refine st rfl rfl rfl rfl (x_nil rfl) ?_
  refine st rfl rfl rfl rfl (x_fa rfl Tryd.underlying79 rfl Tryd.sizeOf77 2 rfl) ?_
  refine st rfl rfl rfl rfl (x_ld rfl Tryd.isAgg77 R.c2) ?_
  refine st rfl rfl rfl rfl (x_move rfl) ?_
  refine st rfl rfl rfl rfl (x_ia0 rfl rfl Tryd.underlying77 Tryd.sizeOf22 (by omega)) ?_
  refine st rfl rfl rfl rfl (x_ld rfl Tryd.isAgg22 hc4) ?_
  refine st rfl rfl rfl rfl (x_len rfl Tryd.underlying22) ?_
  refine st rfl rfl rfl rfl ((x_eql rfl rfl).b1 rfl) ?_
  refine rl_end rfl ?_
  refine al_k ?_
  refine cl_if1 rfl rfl ?_
  refine cl_seq rfl ?_
  refine cl_reg rfl ?_
  refine st rfl rfl rfl rfl (x_build rfl (bldN0 _)) ?_
  refine sv rfl rfl rfl (v_n (vs := [.int .i64 0, .int .u64 0]) rfl rfl (by intro v hv; simp at hv; rcases hv with rfl | rfl <;> rfl) Tryd.sizeOf33 rfl b0 (by decide)) ?_
  rintro w2 ⟨bR, frR⟩
  replace bR : Blk w2 bq 33 [.int .i64 0, .int .u64 0] := bR
  have G := F0.trans_new frR (by intro q hq; simp at hq; exact .inr (by omega))
  replace R := Rw.fr0 G
  replace F := (Fr.refl [r.cb, r.fb] w).trans G.of0
  refine st rfl rfl rfl rfl (x_asg rfl) ?_
  refine rl_end rfl ?_
  refine al_k ?_
  refine cl_ret rfl ?_
  refine fin_ct rfl rfl (run_ldv Tryd.isAgg33 Tryd.sizeOf33 rfl bR) rfl ?_
  exact ⟨rfl, R, F⟩

theorem ralloc_ok (w : World) (B0 B : Nat) (r : RK) (qs : List Int) (x : Ar) (R : RAt w B0 B r qs x) (p : Int) (hS : Sz qs x) (hlr : ∀ (i : Nat) l, x.free[i]? = some l → l.length ≤ 65536) (h0 : 0 ≤ p) (h1 : p < (qs.length : Int)) (n : Int) (l : List Int) (hr : Ls.rowAt x.free p = n :: l) (hn : 0 ≤ n) (s : Sl) (hs : x.slots[n.toNat]? = some s) : Cl Tryd.prog 33 [.pointer (some ⟨r.rp, 0, none⟩), .int .i64 p] w (fun q w' => q = .tuple #[.agg [.int .i64 n, .int .u64 s.gen].toArray, .int .i64 0] ∧ RAt w' B0 B r qs { x with slots := x.slots.set n.toNat { s with held := true }, free := x.free.set p.toNat l } ∧ Fr [r.cb, r.fb] w w') := by
  have F := Fr.refl [r.cb, r.fb] w
  have hwB := R.sB
  refine enter Tryd.func33 rfl Tryd.ntmps33 rfl ?_
  refine cl_seq rfl ?_
  refine cl_reg rfl ?_
  refine se rfl rfl rfl rfl (e_new (x_alloc Tryd.zeroValue33 rfl)) ?_
  rintro _ w0 ⟨rfl, b0, fr, _⟩
  have Rw := R
  have F0 := fr
  replace F := F.trans fr.of0
  replace R := R.fr0 fr
  have gb := b0.lt
  have gB := R.sB
  have gb2 : B ≤ w.heap.size := hwB
  have gb3 := Nat.le_refl w.heap.size
  generalize hbq : w.heap.size = bq at b0 gb gb2 gb3 ⊢
  clear fr
  refine st rfl rfl rfl rfl (x_asg rfl) ?_
  refine rl_end rfl ?_
  refine al_k ?_
  refine cl_seq rfl ?_
  refine cl_seq rfl ?_
  refine cl_reg rfl ?_
  refine st rfl rfl rfl rfl (x_move rfl) ?_
  refine st rfl rfl rfl rfl (x_move rfl) ?_
  refine sc rfl rfl rfl rfl (c_fn rfl Tryd.call38 (rpart_y _ B0 B r qs x R p h0 h1)) ?_
  rintro _ wk ⟨rfl, hwk⟩
  obtain rfl := hwk.symm
  refine st rfl rfl rfl rfl (x_not1 rfl) ?_
  refine rl_end rfl ?_
  refine al_k ?_
  refine cl_if0 rfl rfl ?_
  refine cl_skip rfl ?_
  refine al_k ?_
  refine cl_seq rfl ?_
  refine cl_seq rfl ?_
  have hfl := hS.I.fl
  have hpq := hS.pq
  have hpp := hS.I.pp
  have hrow : x.free[p.toNat]? = some (Ls.rowAt x.free p) := rowAt_some ⟨h0, by omega⟩
  obtain ⟨A1, c1, hc4, hrv⟩ := R.row hrow
  rw [hr] at hc4 hrv
  refine cl_reg rfl ?_
  refine st rfl rfl rfl rfl (x_move rfl) ?_
  refine st rfl rfl rfl rfl (x_nil rfl) ?_
  refine st rfl rfl rfl rfl (x_fa rfl Tryd.underlying79 rfl Tryd.sizeOf77 2 rfl) ?_
  refine st rfl rfl rfl rfl (x_ld rfl Tryd.isAgg77 R.c2) ?_
  refine st rfl rfl rfl rfl (x_move rfl) ?_
  refine st rfl rfl rfl rfl (x_ia0 rfl rfl Tryd.underlying77 Tryd.sizeOf22 (by omega)) ?_
  refine st rfl rfl rfl rfl (x_ld rfl Tryd.isAgg22 hc4) ?_
  refine st rfl rfl rfl rfl (x_len rfl Tryd.underlying22) ?_
  refine st rfl rfl rfl rfl ((x_eql rfl rfl).b0 (by simp only [List.length_cons]; omega)) ?_
  refine rl_end rfl ?_
  refine al_k ?_
  refine cl_if0 rfl rfl ?_
  refine cl_skip rfl ?_
  refine al_k ?_
  refine cl_seq rfl ?_
  obtain ⟨bA, rfl, hbA, hc5, hc1, hal1, hal2⟩ := RowQ.tl hrv
  have hrl : (n :: l).length ≤ 65536 := hlr _ _ (by rw [← hr]; exact hrow)
  have hrl2 : l.length + 1 ≤ 65536 := hrl
  have hsl := (List.getElem?_eq_some_iff.1 hs).1
  have hs0 := hS.I.sl
  have zB := R.zB
  refine cl_reg rfl ?_
  refine st rfl rfl rfl rfl (x_move rfl) ?_
  refine st rfl rfl rfl rfl (x_nil rfl) ?_
  refine st rfl rfl rfl rfl (x_fa rfl Tryd.underlying79 rfl Tryd.sizeOf77 2 rfl) ?_
  refine st rfl rfl rfl rfl (x_ld rfl Tryd.isAgg77 R.c2) ?_
  refine st rfl rfl rfl rfl (x_move rfl) ?_
  refine st rfl rfl rfl rfl (x_ia0 rfl rfl Tryd.underlying77 Tryd.sizeOf22 (by omega)) ?_
  refine st rfl rfl rfl rfl (x_ld rfl Tryd.isAgg22 hc4) ?_
  refine st rfl rfl rfl rfl (x_ia0 rfl rfl Tryd.underlying22 Tryd.sizeOf3 (by simp only [List.length_cons]; omega)) ?_
  refine st rfl rfl rfl rfl (x_ld rfl Tryd.isAgg3 hc5) ?_
  refine st rfl rfl rfl rfl (x_asg rfl) ?_
  refine rl_end rfl ?_
  refine al_k ?_
  refine cl_seq rfl ?_
  obtain ⟨eA, restc, bC⟩ := R.cl (ne_of_at hs)
  obtain ⟨vs0, rest0, bF0, hl0, _⟩ := R.fr
  have bT := R.top
  rw [eA] at bT
  have nTC : r.rp ≠ r.cb := bT.ne bC (by decide)
  have nTF : r.rp ≠ r.fb := bT.ne bF0 (by decide)
  have bCx := bC
  refine cl_draw (by kernel_rfl) rfl [16] (fun w' => Fr [] w0 w') ?_
  rintro wd6 G hpd
  refine ⟨G, ?_⟩
  refine dt (i := 0) rfl rfl rfl rfl (by kernel_rfl) (fun _ => x_move rfl) ?_
  refine dt (i := 1) rfl rfl rfl rfl (by kernel_rfl) (fun _ => x_nil rfl) ?_
  refine dt (i := 2) rfl rfl rfl rfl (by kernel_rfl) (fun _ => x_fa rfl Tryd.underlying79 rfl Tryd.sizeOf77 2 rfl) ?_
  refine dlt (i := 3) rfl rfl rfl rfl (by kernel_rfl) (by kernel_rfl) (fun w' hU => x_ld rfl Tryd.isAgg77 ((R.fr0 hU).c2)) ?_
  refine dt (i := 4) rfl rfl rfl rfl (by kernel_rfl) (fun _ => x_move rfl) ?_
  refine dt (i := 6) rfl rfl rfl rfl (by kernel_rfl) (fun _ => x_move rfl) ?_
  refine dt (i := 7) rfl rfl rfl rfl (by kernel_rfl) (fun _ => x_nil rfl) ?_
  refine dt (i := 8) rfl rfl rfl rfl (by kernel_rfl) (fun _ => x_fa rfl Tryd.underlying79 rfl Tryd.sizeOf77 2 rfl) ?_
  refine dlt (i := 9) rfl rfl rfl rfl (by kernel_rfl) (by kernel_rfl) (fun w' hU => x_ld rfl Tryd.isAgg77 ((R.fr0 hU).c2)) ?_
  refine dt (i := 10) rfl rfl rfl rfl (by kernel_rfl) (fun _ => x_move rfl) ?_
  refine dt (i := 11) rfl rfl rfl rfl (by kernel_rfl) (fun _ => x_ia0 rfl rfl Tryd.underlying77 Tryd.sizeOf22 (by omega)) ?_
  refine dlt (i := 12) rfl rfl rfl rfl (by kernel_rfl) (by kernel_rfl) (fun w' hU => x_ld rfl Tryd.isAgg22 (hU.cell hc4 (by simp))) ?_
  refine dt (i := 13) rfl rfl rfl rfl (by kernel_rfl) (fun _ => x_sll rfl rfl Tryd.underlying22 Tryd.sizeOf3 (by simp only [List.length_cons]; omega)) ?_
  refine d1 (i := 5) (by kernel_rfl) ?_
  refine oe rfl rfl rfl rfl (e_new (x_bsl rfl (bsl0 Tryd.underlying22 Tryd.sizeOf3))) ?_
  rintro _ wn ⟨rfl, b5, fr, _⟩
  have HO := own_lit (base := (World.heap w0).size) (n := 0) (size := 1) b5 G.size rfl (by decide)
  have l5 := b5.lt
  clear b5
  replace G := G.trans fr
  clear fr
  refine ⟨.inr G, ?_⟩
  refine d1 (i := 14) (by kernel_rfl) ?_
  refine oe rfl rfl rfl rfl (e_appv 1 8 (.int .i64 0) (ints l) rfl rfl Tryd.underlying22 (by kernel_rfl) rfl (by decide) HO (by rw [ints_len]; simp) (fun e => by have h := hal2 e; show (l.length + 1) - 1 = 0; omega) (fun ad e j u hu => G.cell (hal1 ad e j u hu) (by simp)) (oneI _) (by simp; omega) (by simp; omega) G.size) ?_
  rintro va wa ⟨HOa, hg, hat⟩
  have G1 := G.grown hg (own_ge HO)
  have fg1 := (Fr.of_grown hg).size
  replace G := G1
  clear G1 HO
  refine ⟨.inr G, ?_⟩
  refine dt (i := 15) rfl rfl rfl rfl (by kernel_rfl) (fun _ => x_ia0 rfl rfl Tryd.underlying77 Tryd.sizeOf22 (by omega)) ?_
  refine d1 (i := 16) (by kernel_rfl) ?_
  obtain ⟨hcv, hov⟩ : va.cells = #[va] ∧ va.oneCell' = true := by obtain ⟨A9, c9, rfl, _⟩ := own_slice HOa; exact ⟨rfl, rfl⟩
  have HOz := own_cast (n2 := l.length) (ys := ints l) HOa (by simp) (by simp)
  replace bC := bC.fr0 G
  have bF1 := bF0.fr0 G
  replace bT := bT.fr0 G
  replace b0 := b0.fr0 G
  have hl0b : p.toNat < vs0.length := by omega
  refine osv rfl rfl rfl (v_1 rfl rfl hcv hov Tryd.sizeOf22 bF1 (by rw [List.length_append]; omega)) ?_
  rintro wst ⟨bF, fr⟩
  replace HOz := own_fr HOz fr (by intro q hq; simp at hq; omega)
  replace bC := bC.fr fr (by simpa using R.zn)
  replace bT := bT.fr fr (by simpa using nTF)
  replace b0 := b0.fr fr (by simp; omega)
  have gB2 := G.size
  replace F := ((Fr.refl [r.cb, r.fb] w).trans F0.of0).trans (G.of0.trans (fr.mono (by simp)))
  clear fr
  refine ⟨.inl (by kernel_rfl), ?_⟩
  refine dn (by kernel_rfl) ?_
  refine al_k ?_
  refine cl_seq rfl ?_
  refine cl_reg rfl ?_
  refine st rfl rfl rfl rfl (x_move rfl) ?_
  refine st rfl rfl rfl rfl (x_nil rfl) ?_
  refine st rfl rfl rfl rfl (x_fa rfl Tryd.underlying79 rfl Tryd.sizeOf76 1 rfl) ?_
  refine st rfl rfl rfl rfl (x_ld rfl Tryd.isAgg76 (bT.cell rfl)) ?_
  refine st rfl rfl rfl rfl (x_move rfl) ?_
  refine st rfl rfl rfl rfl (x_ia0 rfl rfl Tryd.underlying76 Tryd.sizeOf81 (by omega)) ?_
  refine st rfl rfl rfl rfl (x_fa rfl Tryd.underlying81 rfl Tryd.sizeOf4 2 rfl) ?_
  refine sv rfl rfl rfl (v_1 rfl rfl rfl rfl Tryd.sizeOf4 bC (by rw [List.length_append, flat_length lenC]; omega)) ?_
  rintro w7 ⟨bC2, fr⟩
  have hbc := flatC_set (s' := { s with held := true }) hs (j := 2) (v := .bool true) (by decide) rfl restc
  replace bF := bF.fr fr (by simpa using R.zn.symm)
  replace bT := bT.fr fr (by simpa using nTC)
  replace b0 := b0.fr fr (by simp; omega)
  replace HOz := own_fr HOz fr (by intro q hq; simp at hq; omega)
  replace F := F.trans (fr.mono (by simp))
  clear fr
  refine rl_end rfl ?_
  refine al_k ?_
  refine cl_seq rfl ?_
  refine cl_reg rfl ?_
  refine st rfl rfl rfl rfl (x_move rfl) ?_
  refine st rfl rfl rfl rfl (x_move rfl) ?_
  refine st rfl rfl rfl rfl (x_nil rfl) ?_
  refine st rfl rfl rfl rfl (x_fa rfl Tryd.underlying79 rfl Tryd.sizeOf76 1 rfl) ?_
  refine st rfl rfl rfl rfl (x_ld rfl Tryd.isAgg76 (bT.cell rfl)) ?_
  refine st rfl rfl rfl rfl (x_move rfl) ?_
  refine st rfl rfl rfl rfl (x_ia0 rfl rfl Tryd.underlying76 Tryd.sizeOf81 (by omega)) ?_
  refine st rfl rfl rfl rfl (x_fa rfl Tryd.underlying81 rfl Tryd.sizeOf31 1 rfl) ?_
  refine st rfl rfl rfl rfl (x_ld rfl Tryd.isAgg31 (bC2.cell (by rw [hbc]; rw [List.getElem?_append_left (by rw [flat_length lenC, List.length_set]; omega)]; exact flat_get lenC (set_at hs) (by decide)))) ?_
  refine st rfl rfl rfl rfl (x_build rfl (bldN _ _ _)) ?_
  refine sv rfl rfl rfl (v_n (vs := [.int .i64 n, .int .u64 s.gen]) rfl rfl (by intro v hv; simp at hv; rcases hv with rfl | rfl <;> rfl) Tryd.sizeOf33 rfl b0 (by decide)) ?_
  rintro w8 ⟨bR, frR⟩
  replace bR : Blk w8 bq 33 [.int .i64 n, .int .u64 s.gen] := bR
  replace bF := bF.fr frR (by simp; omega)
  replace bC2 := bC2.fr frR (by simp; omega)
  replace HOz := own_fr HOz frR (by intro q hq; simp at hq; omega)
  replace F := F.trans_new frR (by intro q hq; simp at hq; exact .inr (by omega))
  refine st rfl rfl rfl rfl (x_asg rfl) ?_
  refine rl_end rfl ?_
  refine al_k ?_
  refine cl_ret rfl ?_
  refine fin_ct rfl rfl (run_ldv Tryd.isAgg33 Tryd.sizeOf33 rfl bR) rfl ?_
  obtain ⟨_, restw, bCw⟩ := Rw.cl (ne_of_at hs)
  obtain ⟨vsw, restfw, bFw, _, _⟩ := Rw.fr
  have e1 := (bCw.fr0 F0).inj bCx
  have e2 := (bFw.fr0 F0).inj bF0
  rw [← e2] at bF
  exact ⟨rfl, Rw.set2 (s' := { s with held := true }) (l := l) hs (by omega) bCw bFw bC2 (fun rest e => by rw [hbc]; rw [e1] at e; exact congrArg _ (List.append_cancel_left e)) bF F (Rw.rowq HOz (by omega)), F⟩

theorem ralloc_c (w : World) (B0 B : Nat) (r : RK) (qs : List Int) (x : Ar) (R : RAt w B0 B r qs x) (hS : Sz qs x) (hlr : ∀ (i : Nat) l, x.free[i]? = some l → l.length ≤ 65536) (p : Int) : Cl Tryd.prog 33 [.pointer (some ⟨r.rp, 0, none⟩), .int .i64 p] w (fun q w' => q = .tuple #[.agg [.int .i64 (x.alloc p).2.1, .int .u64 (x.alloc p).2.2.1].toArray, .int .i64 (x.alloc p).2.2.2] ∧ RAt w' B0 B r qs (x.alloc p).1 ∧ Fr [r.cb, r.fb] w w') := by
  by_cases h : 0 ≤ p ∧ p < x.parts
  · have h2 : p < (qs.length : Int) := by have := h.2; rw [hS.pq] at this; exact this
    rcases hS.I.alloc_eq h with ⟨hr, e⟩ | ⟨n, l, s, hr, hn, hs, _, _, e⟩
    · rw [e]
      exact ralloc_none w B0 B r qs x R p hS h.1 h2 hr
    · rw [e]
      exact (ralloc_ok w B0 B r qs x R p hS hlr h.1 h2 n l hr hn s hs).mono (fun v w' ⟨hv, hR, hF⟩ => ⟨hv, hR.hs' _, hF⟩)
  · rw [alloc_out_eq h]
    exact ralloc_bad w B0 B r qs x R p (fun h2 => h ⟨h2.1, by rw [hS.pq]; exact h2.2⟩)

end Go.Proofs.YtjjaijabdfoanaaDoor.Arn
