/- The reference: the walks of what changes it. -/
import Derived.Test.YtjjaijabdfoanaaDoorArW13
set_option linter.unusedVariables false
namespace Go.Proofs.YtjjaijabdfoanaaDoor.Arn
open Go Go.RowKit Go.Proofs.YtjjaijabdfoanaaDoor.Sx Go.Proofs.YtjjaijabdfoanaaDoor.Ls Go.Proofs.YtjjaijabdfoanaaDoor
set_option maxRecDepth 100000

theorem rread_no (w : World) (B0 B : Nat) (r : RK) (qs : List Int) (x : Ar) (R : RAt w B0 B r qs x) (n g : Int) (hfd : x.find n g = none) : Cl Tryd.prog 35 [.pointer (some ⟨r.rp, 0, none⟩), .agg [.int .i64 n, .int .u64 g].toArray] w (fun v w' => v = .tuple #[.int .u64 0, .int .i64 62] ∧ Fr [] w w') := by
  have F := Fr.refl [] w
  have hwB := R.sB
  refine enter Tryd.func35 rfl Tryd.ntmps35 rfl ?_
  refine cl_seq rfl ?_
  refine cl_reg rfl ?_
  refine se rfl rfl rfl rfl (e_new (x_box (cs := [.int .i64 n, .int .u64 g]) rfl rfl)) ?_
  rintro _ w0 ⟨rfl, b0, fr, _⟩
  replace F := F.trans fr
  replace R := R.fr0 fr
  have gb := b0.lt
  have gB := R.sB
  have gb2 : B ≤ w.heap.size := hwB
  have gb3 := Nat.le_refl w.heap.size
  generalize hbq : w.heap.size = bq at b0 gb gb2 gb3 ⊢
  clear fr
  refine st rfl rfl rfl rfl (x_asg rfl) ?_
  refine st rfl rfl rfl rfl (x_asg rfl) ?_
  refine rl_end rfl ?_
  refine al_k ?_
  refine cl_seq rfl ?_
  refine cl_seq rfl ?_
  refine cl_reg rfl ?_
  refine st rfl rfl rfl rfl (x_move rfl) ?_
  refine st rfl rfl rfl rfl (x_ldn rfl Tryd.isAgg33 Tryd.sizeOf33 rfl (by intro j v hv; rw [Nat.zero_add]; exact b0.cell hv)) ?_
  refine sc rfl rfl rfl rfl (c_fn rfl Tryd.call44 (ralive_c _ B0 B r qs x R n g)) ?_
  rintro _ w1 ⟨rfl, fr⟩
  replace F := F.trans fr
  replace R := R.fr0 fr
  replace b0 := b0.fr0 fr
  clear fr
  rw [hfd]
  refine st rfl rfl rfl rfl (x_not0 rfl) ?_
  refine rl_end rfl ?_
  refine al_k ?_
  refine cl_if1 rfl rfl ?_
  refine cl_seq rfl ?_
  refine cl_reg rfl ?_
  refine st rfl rfl rfl rfl (x_asg rfl) ?_
  refine st rfl rfl rfl rfl (x_asg rfl) ?_
  refine rl_end rfl ?_
  refine al_k ?_
  refine cl_ret rfl ?_
  refine fin2 rfl rfl rfl ?_
  exact ⟨rfl, F⟩

theorem rread_ok (w : World) (B0 B : Nat) (r : RK) (qs : List Int) (x : Ar) (R : RAt w B0 B r qs x) (n g : Int) (s : Sl) (hfd : x.find n g = some s) : Cl Tryd.prog 35 [.pointer (some ⟨r.rp, 0, none⟩), .agg [.int .i64 n, .int .u64 g].toArray] w (fun v w' => v = .tuple #[.int .u64 s.pay, .int .i64 0] ∧ Fr [] w w') := by
  have F := Fr.refl [] w
  have hwB := R.sB
  refine enter Tryd.func35 rfl Tryd.ntmps35 rfl ?_
  refine cl_seq rfl ?_
  refine cl_reg rfl ?_
  refine se rfl rfl rfl rfl (e_new (x_box (cs := [.int .i64 n, .int .u64 g]) rfl rfl)) ?_
  rintro _ w0 ⟨rfl, b0, fr, _⟩
  replace F := F.trans fr
  replace R := R.fr0 fr
  have gb := b0.lt
  have gB := R.sB
  have gb2 : B ≤ w.heap.size := hwB
  have gb3 := Nat.le_refl w.heap.size
  generalize hbq : w.heap.size = bq at b0 gb gb2 gb3 ⊢
  clear fr
  refine st rfl rfl rfl rfl (x_asg rfl) ?_
  refine st rfl rfl rfl rfl (x_asg rfl) ?_
  refine rl_end rfl ?_
  refine al_k ?_
  refine cl_seq rfl ?_
  refine cl_seq rfl ?_
  refine cl_reg rfl ?_
  refine st rfl rfl rfl rfl (x_move rfl) ?_
  refine st rfl rfl rfl rfl (x_ldn rfl Tryd.isAgg33 Tryd.sizeOf33 rfl (by intro j v hv; rw [Nat.zero_add]; exact b0.cell hv)) ?_
  refine sc rfl rfl rfl rfl (c_fn rfl Tryd.call44 (ralive_c _ B0 B r qs x R n g)) ?_
  rintro _ w1 ⟨rfl, fr⟩
  replace F := F.trans fr
  replace R := R.fr0 fr
  replace b0 := b0.fr0 fr
  clear fr
  rw [hfd]
  refine st rfl rfl rfl rfl (x_not1 rfl) ?_
  refine rl_end rfl ?_
  refine al_k ?_
  refine cl_if0 rfl rfl ?_
  refine cl_skip rfl ?_
  refine al_k ?_
  refine cl_seq rfl ?_
  obtain ⟨h0, hs, hh, hg⟩ := find_some hfd
  have hsl := (List.getElem?_eq_some_iff.1 hs).1
  have zB := R.zB
  refine cl_draw (by kernel_rfl) rfl [] (fun w' => w'.heap = w1.heap) ?_
  rintro wd3 frd3 hpd3
  refine ⟨hpd3, ?_⟩
  refine dt (i := 0) rfl rfl rfl rfl (by kernel_rfl) (fun _ => x_move rfl) ?_
  refine dt (i := 1) rfl rfl rfl rfl (by kernel_rfl) (fun _ => x_nil rfl) ?_
  refine dt (i := 2) rfl rfl rfl rfl (by kernel_rfl) (fun _ => x_fa rfl Tryd.underlying79 rfl Tryd.sizeOf76 1 rfl) ?_
  refine dlt (i := 3) rfl rfl rfl rfl (by kernel_rfl) (by kernel_rfl) (fun w' hU => x_ld rfl Tryd.isAgg76 (heq hU (R.c1' (ne_of_at hs)))) ?_
  refine dt (i := 4) rfl rfl rfl rfl (by kernel_rfl) (fun _ => x_fa rfl Tryd.underlying33 rfl Tryd.sizeOf3 0 rfl) ?_
  refine dlt (i := 5) rfl rfl rfl rfl (by kernel_rfl) (by kernel_rfl) (fun w' hU => x_ld rfl Tryd.isAgg3 (heq hU (b0.cell rfl))) ?_
  refine dt (i := 6) rfl rfl rfl rfl (by kernel_rfl) (fun _ => x_ia0 rfl rfl Tryd.underlying76 Tryd.sizeOf81 (by omega)) ?_
  refine dt (i := 7) rfl rfl rfl rfl (by kernel_rfl) (fun _ => x_fa rfl Tryd.underlying81 rfl Tryd.sizeOf31 0 rfl) ?_
  refine dlt (i := 8) rfl rfl rfl rfl (by kernel_rfl) (by kernel_rfl) (fun w' hU => x_ld rfl Tryd.isAgg31 (heq hU (R.cCl hs (j := 0) rfl))) ?_
  refine dt (i := 9) rfl rfl rfl rfl (by kernel_rfl) (fun _ => x_asg rfl) ?_
  refine dt (i := 10) rfl rfl rfl rfl (by kernel_rfl) (fun _ => x_asg rfl) ?_
  replace F := F.trans frd3
  replace R := R.fr0 frd3
  replace b0 := b0.fr0 frd3
  refine dn (by kernel_rfl) ?_
  refine al_k ?_
  refine cl_ret rfl ?_
  refine fin2 rfl rfl rfl ?_
  exact ⟨rfl, F⟩

theorem rread_c (w : World) (B0 B : Nat) (r : RK) (qs : List Int) (x : Ar) (R : RAt w B0 B r qs x) (n g : Int) : Cl Tryd.prog 35 [.pointer (some ⟨r.rp, 0, none⟩), .agg [.int .i64 n, .int .u64 g].toArray] w (fun v w' => v = .tuple #[.int .u64 (x.read n g).1, .int .i64 (x.read n g).2] ∧ Fr [] w w') := by
  unfold Ar.read
  cases h : x.find n g with
  | none => exact rread_no w B0 B r qs x R n g h
  | some s => exact rread_ok w B0 B r qs x R n g s h

theorem rwrite_no (w : World) (B0 B : Nat) (r : RK) (qs : List Int) (x : Ar) (R : RAt w B0 B r qs x) (n g v : Int) (hfd : x.find n g = none) : Cl Tryd.prog 34 [.pointer (some ⟨r.rp, 0, none⟩), .agg [.int .i64 n, .int .u64 g].toArray, .int .u64 v] w (fun q w' => q = .int .i64 62 ∧ RAt w' B0 B r qs x ∧ Fr [r.cb, r.fb] w w') := by
  have F := Fr.refl [r.cb, r.fb] w
  have hwB := R.sB
  refine enter Tryd.func34 rfl Tryd.ntmps34 rfl ?_
  refine cl_seq rfl ?_
  refine cl_reg rfl ?_
  refine se rfl rfl rfl rfl (e_new (x_box (cs := [.int .i64 n, .int .u64 g]) rfl rfl)) ?_
  rintro _ w0 ⟨rfl, b0, fr, _⟩
  replace F := F.trans fr.of0
  replace R := R.fr0 fr
  have gb := b0.lt
  have gB := R.sB
  have gb2 : B ≤ w.heap.size := hwB
  have gb3 := Nat.le_refl w.heap.size
  generalize hbq : w.heap.size = bq at b0 gb gb2 gb3 ⊢
  clear fr
  refine st rfl rfl rfl rfl (x_asg rfl) ?_
  refine rl_end rfl ?_
  refine al_k ?_
  refine cl_seq rfl ?_
  refine cl_seq rfl ?_
  refine cl_reg rfl ?_
  refine st rfl rfl rfl rfl (x_move rfl) ?_
  refine st rfl rfl rfl rfl (x_ldn rfl Tryd.isAgg33 Tryd.sizeOf33 rfl (by intro j v hv; rw [Nat.zero_add]; exact b0.cell hv)) ?_
  refine sc rfl rfl rfl rfl (c_fn rfl Tryd.call44 (ralive_c _ B0 B r qs x R n g)) ?_
  rintro _ w1 ⟨rfl, fr⟩
  replace F := F.trans fr.of0
  replace R := R.fr0 fr
  replace b0 := b0.fr0 fr
  clear fr
  rw [hfd]
  refine st rfl rfl rfl rfl (x_not0 rfl) ?_
  refine rl_end rfl ?_
  refine al_k ?_
  refine cl_if1 rfl rfl ?_
  refine cl_seq rfl ?_
  refine cl_reg rfl ?_
  refine st rfl rfl rfl rfl (x_asg rfl) ?_
  refine rl_end rfl ?_
  refine al_k ?_
  refine cl_ret rfl ?_
  refine fin1 rfl rfl ?_
  exact ⟨rfl, R, F⟩

theorem rwrite_ok (w : World) (B0 B : Nat) (r : RK) (qs : List Int) (x : Ar) (R : RAt w B0 B r qs x) (n g v : Int) (s : Sl) (hfd : x.find n g = some s) : Cl Tryd.prog 34 [.pointer (some ⟨r.rp, 0, none⟩), .agg [.int .i64 n, .int .u64 g].toArray, .int .u64 v] w (fun q w' => q = .int .i64 0 ∧ RAt w' B0 B r qs { x with slots := x.slots.set n.toNat { s with pay := v } } ∧ Fr [r.cb, r.fb] w w') := by
  have F := Fr.refl [r.cb, r.fb] w
  have hwB := R.sB
  refine enter Tryd.func34 rfl Tryd.ntmps34 rfl ?_
  refine cl_seq rfl ?_
  refine cl_reg rfl ?_
  refine se rfl rfl rfl rfl (e_new (x_box (cs := [.int .i64 n, .int .u64 g]) rfl rfl)) ?_
  rintro _ w0 ⟨rfl, b0, fr, _⟩
  replace F := F.trans fr.of0
  replace R := R.fr0 fr
  have gb := b0.lt
  have gB := R.sB
  have gb2 : B ≤ w.heap.size := hwB
  have gb3 := Nat.le_refl w.heap.size
  generalize hbq : w.heap.size = bq at b0 gb gb2 gb3 ⊢
  clear fr
  refine st rfl rfl rfl rfl (x_asg rfl) ?_
  refine rl_end rfl ?_
  refine al_k ?_
  refine cl_seq rfl ?_
  refine cl_seq rfl ?_
  refine cl_reg rfl ?_
  refine st rfl rfl rfl rfl (x_move rfl) ?_
  refine st rfl rfl rfl rfl (x_ldn rfl Tryd.isAgg33 Tryd.sizeOf33 rfl (by intro j v hv; rw [Nat.zero_add]; exact b0.cell hv)) ?_
  refine sc rfl rfl rfl rfl (c_fn rfl Tryd.call44 (ralive_c _ B0 B r qs x R n g)) ?_
  rintro _ w1 ⟨rfl, fr⟩
  replace F := F.trans fr.of0
  replace R := R.fr0 fr
  replace b0 := b0.fr0 fr
  clear fr
  rw [hfd]
  refine st rfl rfl rfl rfl (x_not1 rfl) ?_
  refine rl_end rfl ?_
  refine al_k ?_
  refine cl_if0 rfl rfl ?_
  refine cl_skip rfl ?_
  refine al_k ?_
  refine cl_seq rfl ?_
  obtain ⟨h0, hs, hh, hg⟩ := find_some hfd
  have hsl := (List.getElem?_eq_some_iff.1 hs).1
  have zB := R.zB
  refine cl_draw (by kernel_rfl) rfl [9] (fun w' => w'.heap = w1.heap) ?_
  rintro wd3 frd3 hpd3
  refine ⟨hpd3, ?_⟩
  refine dt (i := 0) rfl rfl rfl rfl (by kernel_rfl) (fun _ => x_move rfl) ?_
  refine dt (i := 1) rfl rfl rfl rfl (by kernel_rfl) (fun _ => x_nil rfl) ?_
  refine dt (i := 2) rfl rfl rfl rfl (by kernel_rfl) (fun _ => x_fa rfl Tryd.underlying79 rfl Tryd.sizeOf76 1 rfl) ?_
  refine dlt (i := 3) rfl rfl rfl rfl (by kernel_rfl) (by kernel_rfl) (fun w' hU => x_ld rfl Tryd.isAgg76 (heq hU (R.c1' (ne_of_at hs)))) ?_
  refine dt (i := 4) rfl rfl rfl rfl (by kernel_rfl) (fun _ => x_fa rfl Tryd.underlying33 rfl Tryd.sizeOf3 0 rfl) ?_
  refine dlt (i := 5) rfl rfl rfl rfl (by kernel_rfl) (by kernel_rfl) (fun w' hU => x_ld rfl Tryd.isAgg3 (heq hU (b0.cell rfl))) ?_
  refine dt (i := 6) rfl rfl rfl rfl (by kernel_rfl) (fun _ => x_move rfl) ?_
  refine dt (i := 7) rfl rfl rfl rfl (by kernel_rfl) (fun _ => x_ia0 rfl rfl Tryd.underlying76 Tryd.sizeOf81 (by omega)) ?_
  refine dt (i := 8) rfl rfl rfl rfl (by kernel_rfl) (fun _ => x_fa rfl Tryd.underlying81 rfl Tryd.sizeOf31 0 rfl) ?_
  replace F := F.trans frd3.of0
  replace R := R.fr0 frd3
  replace b0 := b0.fr0 frd3
  refine d1 (i := 9) (by kernel_rfl) ?_
  obtain ⟨eA, rest, bC⟩ := R.cl (ne_of_at hs)
  refine osv rfl rfl rfl (v_1 rfl rfl rfl rfl Tryd.sizeOf31 bC (by rw [List.length_append, flat_length lenC]; omega)) ?_
  rintro w3 ⟨bC2, fr⟩
  replace R := R.setC (s' := { s with pay := v }) hs bC bC2 (fun rest e => by rw [e]; exact flatC_set (s' := { s with pay := v }) hs (j := 0) (by decide) rfl rest) fr
  replace b0 := b0.fr fr (by simp; omega)
  replace F := F.trans (fr.mono (by simp))
  clear fr
  refine ⟨.inl (by kernel_rfl), ?_⟩
  refine dn (by kernel_rfl) ?_
  refine al_k ?_
  refine cl_seq rfl ?_
  refine cl_reg rfl ?_
  refine st rfl rfl rfl rfl (x_asg rfl) ?_
  refine rl_end rfl ?_
  refine al_k ?_
  refine cl_ret rfl ?_
  refine fin1 rfl rfl ?_
  exact ⟨rfl, R, F⟩

theorem rwrite_c (w : World) (B0 B : Nat) (r : RK) (qs : List Int) (x : Ar) (R : RAt w B0 B r qs x) (n g v : Int) : Cl Tryd.prog 34 [.pointer (some ⟨r.rp, 0, none⟩), .agg [.int .i64 n, .int .u64 g].toArray, .int .u64 v] w (fun q w' => q = .int .i64 (x.write n g v).2 ∧ RAt w' B0 B r qs (x.write n g v).1 ∧ Fr [r.cb, r.fb] w w') := by
  unfold Ar.write
  cases h : x.find n g with
  | none => exact rwrite_no w B0 B r qs x R n g v h
  | some s => exact rwrite_ok w B0 B r qs x R n g v s h

theorem bldC (g : Int) (w : World) : (Instr.build 81 [(1, .int .u64 g)].toArray).run Tryd.prog w = .ok (.agg [.int .u64 0, .int .u64 g, .bool false].toArray) w := by kernel_rfl
theorem oneI (l : List Int) : ∀ u ∈ ints l, u.oneCell' = true := by intro u hu; simp only [ints, List.mem_map] at hu; obtain ⟨z, _, rfl⟩ := hu; rfl
theorem ints_snoc (l : List Int) (a : Int) : ints l ++ [Value.int .i64 a] = ints (l ++ [a]) := by simp [ints]
theorem ints_len (l : List Int) : (ints l).length = l.length * 1 := by simp [ints]

theorem own_cast {w : World} {B e sz n n2 : Nat} {v : Value} {xs ys : List Value} (h : w.ownsRow B e sz v n xs) (hn : n = n2) (hx : xs = ys) : w.ownsRow B e sz v n2 ys := by subst hn; subst hx; exact h

theorem rdrop_no (w : World) (B0 B : Nat) (r : RK) (qs : List Int) (x : Ar) (R : RAt w B0 B r qs x) (hS : Sz qs x) (hok : okQ qs) (hlr : ∀ (i : Nat) l, x.free[i]? = some l → l.length ≤ 65536) (n g : Int) (hfd : x.find n g = none) : Cl Tryd.prog 36 [.pointer (some ⟨r.rp, 0, none⟩), .agg [.int .i64 n, .int .u64 g].toArray] w (fun q w' => q = .int .i64 (x.drop n g).2 ∧ RAt w' B0 B r qs (x.drop n g).1 ∧ Fr [r.cb, r.fb] w w') := by
  have F := Fr.refl [r.cb, r.fb] w
  have hwB := R.sB
  refine enter Tryd.func36 rfl Tryd.ntmps36 rfl ?_
  refine cl_seq rfl ?_
  refine cl_reg rfl ?_
  refine se rfl rfl rfl rfl (e_new (x_box (cs := [.int .i64 n, .int .u64 g]) rfl rfl)) ?_
  rintro _ w0 ⟨rfl, b0, fr, _⟩
  replace F := F.trans fr.of0
  replace R := R.fr0 fr
  have gb := b0.lt
  have gB := R.sB
  have gb2 : B ≤ w.heap.size := hwB
  have gb3 := Nat.le_refl w.heap.size
  generalize hbq : w.heap.size = bq at b0 gb gb2 gb3 ⊢
  clear fr
  refine st rfl rfl rfl rfl (x_asg rfl) ?_
  refine rl_end rfl ?_
  refine al_k ?_
  refine cl_seq rfl ?_
  refine cl_seq rfl ?_
  refine cl_reg rfl ?_
  refine st rfl rfl rfl rfl (x_move rfl) ?_
  refine st rfl rfl rfl rfl (x_ldn rfl Tryd.isAgg33 Tryd.sizeOf33 rfl (by intro j v hv; rw [Nat.zero_add]; exact b0.cell hv)) ?_
  refine sc rfl rfl rfl rfl (c_fn rfl Tryd.call44 (ralive_c _ B0 B r qs x R n g)) ?_
  rintro _ w1 ⟨rfl, fr⟩
  replace F := F.trans fr.of0
  replace R := R.fr0 fr
  replace b0 := b0.fr0 fr
  clear fr
  rw [hfd]
  refine st rfl rfl rfl rfl (x_not0 rfl) ?_
  refine rl_end rfl ?_
  refine al_k ?_
  refine cl_if1 rfl rfl ?_
  refine cl_seq rfl ?_
  refine cl_reg rfl ?_
  refine st rfl rfl rfl rfl (x_asg rfl) ?_
  refine rl_end rfl ?_
  refine al_k ?_
  refine cl_ret rfl ?_
  refine fin1 rfl rfl ?_
  have e1 : x.drop n g = (x, 62) := by unfold Ar.drop; rw [hfd]
  rw [e1]
  exact ⟨rfl, R, F⟩

theorem rdrop_ok (w : World) (B0 B : Nat) (r : RK) (qs : List Int) (x : Ar) (R : RAt w B0 B r qs x) (hS : Sz qs x) (hok : okQ qs) (hlr : ∀ (i : Nat) l, x.free[i]? = some l → l.length ≤ 65536) (n g : Int) (s : Sl) (hfd : x.find n g = some s) : Cl Tryd.prog 36 [.pointer (some ⟨r.rp, 0, none⟩), .agg [.int .i64 n, .int .u64 g].toArray] w (fun q w' => q = .int .i64 (x.drop n g).2 ∧ RAt w' B0 B r qs (x.drop n g).1 ∧ Fr [r.cb, r.fb] w w') := by
  have F := Fr.refl [r.cb, r.fb] w
  have hwB := R.sB
  refine enter Tryd.func36 rfl Tryd.ntmps36 rfl ?_
  refine cl_seq rfl ?_
  refine cl_reg rfl ?_
  refine se rfl rfl rfl rfl (e_new (x_box (cs := [.int .i64 n, .int .u64 g]) rfl rfl)) ?_
  rintro _ w0 ⟨rfl, b0, fr, _⟩
  replace F := F.trans fr.of0
  replace R := R.fr0 fr
  have gb := b0.lt
  have gB := R.sB
  have gb2 : B ≤ w.heap.size := hwB
  have gb3 := Nat.le_refl w.heap.size
  generalize hbq : w.heap.size = bq at b0 gb gb2 gb3 ⊢
  clear fr
  refine st rfl rfl rfl rfl (x_asg rfl) ?_
  refine rl_end rfl ?_
  refine al_k ?_
  refine cl_seq rfl ?_
  refine cl_seq rfl ?_
  refine cl_reg rfl ?_
  refine st rfl rfl rfl rfl (x_move rfl) ?_
  refine st rfl rfl rfl rfl (x_ldn rfl Tryd.isAgg33 Tryd.sizeOf33 rfl (by intro j v hv; rw [Nat.zero_add]; exact b0.cell hv)) ?_
  refine sc rfl rfl rfl rfl (c_fn rfl Tryd.call44 (ralive_c _ B0 B r qs x R n g)) ?_
  rintro _ w1 ⟨rfl, fr⟩
  replace F := F.trans fr.of0
  replace R := R.fr0 fr
  replace b0 := b0.fr0 fr
  clear fr
  rw [hfd]
  refine st rfl rfl rfl rfl (x_not1 rfl) ?_
  refine rl_end rfl ?_
  refine al_k ?_
  refine cl_if0 rfl rfl ?_
  refine cl_skip rfl ?_
  refine al_k ?_
  refine cl_seq rfl ?_
  obtain ⟨h0, hs, hh, hg⟩ := find_some hfd
  have hsl := (List.getElem?_eq_some_iff.1 hs).1
  have zB := R.zB
  subst hg
  have hpt := part_some h0 hs
  obtain ⟨p0, p1⟩ := hS.I.pt _ _ hs
  have hfl := hS.I.fl
  have hrow : x.free[s.part.toNat]? = some (Ls.rowAt x.free s.part) := rowAt_some ⟨p0, by omega⟩
  have hrl : (Ls.rowAt x.free s.part).length ≤ 65536 := hlr _ _ hrow
  have hpp := hS.I.pp
  have hs0 := hS.I.sl
  refine cl_reg rfl ?_
  refine st rfl rfl rfl rfl (x_move rfl) ?_
  refine st rfl rfl rfl rfl (x_fa rfl Tryd.underlying33 rfl Tryd.sizeOf3 0 rfl) ?_
  refine st rfl rfl rfl rfl (x_ld rfl Tryd.isAgg3 (b0.cell rfl)) ?_
  refine sc rfl rfl rfl rfl (c_fn rfl Tryd.call20 (rPart_c _ B0 B r qs x R hS hok n (by omega))) ?_
  rintro _ wk ⟨rfl, hwk⟩
  obtain rfl := hwk.symm
  rw [hpt]
  refine st rfl rfl rfl rfl (x_move rfl) ?_
  refine st rfl rfl rfl rfl (x_ext rfl rfl) ?_
  refine st rfl rfl rfl rfl (x_ext rfl rfl) ?_
  refine st rfl rfl rfl rfl (x_asg rfl) ?_
  refine st rfl rfl rfl rfl (x_asg rfl) ?_
  refine rl_end rfl ?_
  refine al_k ?_
  refine cl_seq rfl ?_
  refine cl_draw (by kernel_rfl) rfl [11] (fun w' => w'.heap = w1.heap) ?_
  rintro wd4 frd4 hpd4
  refine ⟨hpd4, ?_⟩
  refine dt (i := 0) rfl rfl rfl rfl (by kernel_rfl) (fun _ => x_move rfl) ?_
  refine dt (i := 1) rfl rfl rfl rfl (by kernel_rfl) (fun _ => x_nil rfl) ?_
  refine dt (i := 2) rfl rfl rfl rfl (by kernel_rfl) (fun _ => x_fa rfl Tryd.underlying79 rfl Tryd.sizeOf76 1 rfl) ?_
  refine dlt (i := 3) rfl rfl rfl rfl (by kernel_rfl) (by kernel_rfl) (fun w' hU => x_ld rfl Tryd.isAgg76 (heq hU (R.c1' (ne_of_at hs)))) ?_
  refine dt (i := 4) rfl rfl rfl rfl (by kernel_rfl) (fun _ => x_fa rfl Tryd.underlying33 rfl Tryd.sizeOf3 0 rfl) ?_
  refine dlt (i := 5) rfl rfl rfl rfl (by kernel_rfl) (by kernel_rfl) (fun w' hU => x_ld rfl Tryd.isAgg3 (heq hU (b0.cell rfl))) ?_
  refine dt (i := 6) rfl rfl rfl rfl (by kernel_rfl) (fun _ => x_fa rfl Tryd.underlying33 rfl Tryd.sizeOf31 1 rfl) ?_
  refine dlt (i := 7) rfl rfl rfl rfl (by kernel_rfl) (by kernel_rfl) (fun w' hU => x_ld rfl Tryd.isAgg31 (heq hU (b0.cell rfl))) ?_
  refine dt (i := 8) rfl rfl rfl rfl (by kernel_rfl) (fun _ => x_addw rfl rfl) ?_
  refine dt (i := 9) rfl rfl rfl rfl (by kernel_rfl) (fun _ => x_build rfl (bldC _ _)) ?_
  refine dt (i := 10) rfl rfl rfl rfl (by kernel_rfl) (fun _ => x_ia0 rfl rfl Tryd.underlying76 Tryd.sizeOf81 (by omega)) ?_
  replace F := F.trans frd4.of0
  replace R := R.fr0 frd4
  replace b0 := b0.fr0 frd4
  refine d1 (i := 11) (by kernel_rfl) ?_
  obtain ⟨eA, rest, bC⟩ := R.cl (ne_of_at hs)
  refine osv rfl rfl rfl (v_n (vs := encC { s with held := false, pay := 0, gen := IntKind.u64.wrap (s.gen + 1) }) rfl rfl (oneC _) Tryd.sizeOf81 rfl bC (by rw [List.length_append, flat_length lenC]; omega)) ?_
  rintro w4 ⟨bC2, fr⟩
  replace R := R.setC (s' := { s with held := false, pay := 0, gen := IntKind.u64.wrap (s.gen + 1) }) hs bC bC2 (fun rest e => by rw [e]; exact flatC_splice hsl _ rest) fr
  replace b0 := b0.fr fr (by simp; omega)
  replace F := F.trans (fr.mono (by simp))
  clear fr
  refine ⟨.inl (by kernel_rfl), ?_⟩
  refine dn (by kernel_rfl) ?_
  refine al_k ?_
  refine cl_seq rfl ?_
  obtain ⟨A1, c1, hc4, hrv⟩ := R.row hrow
  have hal := RowQ.all hrv
  have hal2 := hal.2
  refine cl_draw (by kernel_rfl) rfl [19] (fun w' => Fr [] w4 w') ?_
  rintro wd5 G hpd
  have gB := R.sB
  refine ⟨G, ?_⟩
  refine dt (i := 0) rfl rfl rfl rfl (by kernel_rfl) (fun _ => x_move rfl) ?_
  refine dt (i := 1) rfl rfl rfl rfl (by kernel_rfl) (fun _ => x_nil rfl) ?_
  refine dt (i := 2) rfl rfl rfl rfl (by kernel_rfl) (fun _ => x_fa rfl Tryd.underlying79 rfl Tryd.sizeOf77 2 rfl) ?_
  refine dlt (i := 3) rfl rfl rfl rfl (by kernel_rfl) (by kernel_rfl) (fun w' hU => x_ld rfl Tryd.isAgg77 ((R.fr0 hU).c2)) ?_
  refine dt (i := 4) rfl rfl rfl rfl (by kernel_rfl) (fun _ => x_move rfl) ?_
  refine dt (i := 6) rfl rfl rfl rfl (by kernel_rfl) (fun _ => x_move rfl) ?_
  refine dt (i := 7) rfl rfl rfl rfl (by kernel_rfl) (fun _ => x_nil rfl) ?_
  refine dt (i := 8) rfl rfl rfl rfl (by kernel_rfl) (fun _ => x_fa rfl Tryd.underlying79 rfl Tryd.sizeOf77 2 rfl) ?_
  refine dlt (i := 9) rfl rfl rfl rfl (by kernel_rfl) (by kernel_rfl) (fun w' hU => x_ld rfl Tryd.isAgg77 ((R.fr0 hU).c2)) ?_
  refine dt (i := 10) rfl rfl rfl rfl (by kernel_rfl) (fun _ => x_move rfl) ?_
  refine dt (i := 11) rfl rfl rfl rfl (by kernel_rfl) (fun _ => x_ia0 rfl rfl Tryd.underlying77 Tryd.sizeOf22 (by dsimp only; omega)) ?_
  refine dlt (i := 12) rfl rfl rfl rfl (by kernel_rfl) (by kernel_rfl) (fun w' hU => x_ld rfl Tryd.isAgg22 (hU.cell hc4 (by simp))) ?_
  refine dt (i := 14) rfl rfl rfl rfl (by kernel_rfl) (fun _ => x_fa rfl Tryd.underlying33 rfl Tryd.sizeOf3 0 rfl) ?_
  refine dlt (i := 15) rfl rfl rfl rfl (by kernel_rfl) (by kernel_rfl) (fun w' hU => x_ld rfl Tryd.isAgg3 ((b0.fr0 hU).cell rfl)) ?_
  refine d2 (i := 5) (j := 16) (by kernel_rfl) ?_ ?_
  · skip
    refine oe rfl rfl rfl rfl (e_new (x_bsl rfl (bsl0 Tryd.underlying22 Tryd.sizeOf3))) ?_
    rintro _ wn ⟨rfl, b5, fr, _⟩
    have HO := own_lit (base := (World.heap w4).size) (n := 0) (size := 1) b5 G.size rfl (by decide)
    have l5 := b5.lt
    clear b5
    replace G := G.trans fr
    clear fr
    refine ⟨.inr G, ?_⟩
    refine d2 (i := 13) (j := 16) (by kernel_rfl) ?_ ?_
    · skip
      refine oe rfl rfl rfl rfl (e_appv 1 8 (.int .i64 0) (ints (Ls.rowAt x.free s.part)) rfl rfl Tryd.underlying22 (by kernel_rfl) rfl (by decide) HO (ints_len _) hal.1 (fun ad e j u hu => G.cell (hal2 ad e j u hu) (by simp)) (oneI _) (by omega) (by omega) G.size) ?_
      rintro va wa ⟨HOa, hg, hat⟩
      have G1 := G.grown hg (own_ge HO)
      have fg1 := (Fr.of_grown hg).size
      replace G := G1
      clear G1 HO
      refine ⟨.inr G, ?_⟩
      refine d1 (i := 16) (by kernel_rfl) ?_
      refine oe rfl rfl rfl rfl (e_new (x_bsl rfl (bsl1 Tryd.underlying22 Tryd.sizeOf3 Tryd.zeroValue3 rfl rfl))) ?_
      rintro _ wl ⟨rfl, b16, fr, _⟩
      have l16 := b16.lt
      replace G := G.trans fr
      replace HOa := own_fr0 HOa fr
      clear fr
      refine ⟨.inr G, ?_⟩
      refine d1 (i := 17) (by kernel_rfl) ?_
      refine oe rfl rfl rfl rfl (e_app 1 8 (.int .i64 0) _ rfl rfl Tryd.underlying22 (by kernel_rfl) rfl (by decide) HOa rfl b16.news (by simp; rfl) (by omega) (by omega) G.size) ?_
      rintro vb wb ⟨HOb, hg, hat⟩
      have G1 := G.grown hg (own_ge HOa)
      replace G := G1
      clear G1 HOa
      refine ⟨.inr G, ?_⟩
      refine dt (i := 18) rfl rfl rfl rfl (by kernel_rfl) (fun _ => x_ia0 rfl rfl Tryd.underlying77 Tryd.sizeOf22 (by dsimp only; omega)) ?_
      refine d1 (i := 19) (by kernel_rfl) ?_
      obtain ⟨hcv, hov⟩ : vb.cells = #[vb] ∧ vb.oneCell' = true := by obtain ⟨A9, c9, rfl, _⟩ := own_slice HOb; exact ⟨rfl, rfl⟩
      replace R := R.fr0 G
      obtain ⟨vs, restF, bF, hlF, _⟩ := R.fr
      have hfl2 : s.part.toNat < x.free.length := by omega
      have HOz := own_cast (n2 := (Ls.rowAt x.free s.part ++ [n]).length) (ys := ints (Ls.rowAt x.free s.part ++ [n])) HOb (by rw [List.length_append, List.length_singleton]; omega) (by simp [ints])
      refine osv rfl rfl rfl (v_1 rfl rfl hcv hov Tryd.sizeOf22 bF (by dsimp only at hlF; rw [List.length_append]; omega)) ?_
      rintro wst ⟨bF2, fr⟩
      replace R := R.setF (p := s.part.toNat) hfl2 bF bF2 fr (R.rowq HOz gB)
      replace F := (F.trans G.of0).trans (fr.mono (by simp))
      refine ⟨.inl (by kernel_rfl), ?_⟩
      refine dn (by kernel_rfl) ?_
      refine al_k ?_
      refine cl_seq rfl ?_
      refine cl_reg rfl ?_
      refine st rfl rfl rfl rfl (x_asg rfl) ?_
      refine rl_end rfl ?_
      refine al_k ?_
      refine cl_ret rfl ?_
      refine fin1 rfl rfl ?_
      rw [hS.I.drop_eq hfd]
      exact ⟨rfl, R.hs' _, F⟩
    · skip
      refine oe rfl rfl rfl rfl (e_new (x_bsl rfl (bsl1 Tryd.underlying22 Tryd.sizeOf3 Tryd.zeroValue3 rfl rfl))) ?_
      rintro _ wl ⟨rfl, b16, fr, _⟩
      have n516 := Nat.ne_of_lt l5
      have l16 := b16.lt
      replace G := G.trans fr
      replace HO := own_fr0 HO fr
      replace l5 := Nat.lt_of_lt_of_le l5 fr.size
      clear fr
      refine ⟨.inr G, ?_⟩
      refine d1 (i := 13) (by kernel_rfl) ?_
      refine oe rfl rfl rfl rfl (e_appv 1 8 (.int .i64 0) (ints (Ls.rowAt x.free s.part)) rfl rfl Tryd.underlying22 (by kernel_rfl) rfl (by decide) HO (ints_len _) hal.1 (fun ad e j u hu => G.cell (hal2 ad e j u hu) (by simp)) (oneI _) (by omega) (by omega) G.size) ?_
      rintro va wa ⟨HOa, hg, hat⟩
      replace b16 := b16.fr (Fr.of_grown hg) (by intro hq; simp [Value.ownBlock] at hq; omega)
      have G1 := G.grown hg (own_ge HO)
      have fg1 := (Fr.of_grown hg).size
      replace G := G1
      clear G1 HO
      replace l16 := Nat.lt_of_lt_of_le l16 fg1
      refine ⟨.inr G, ?_⟩
      refine d1 (i := 17) (by kernel_rfl) ?_
      refine oe rfl rfl rfl rfl (e_app 1 8 (.int .i64 0) _ rfl rfl Tryd.underlying22 (by kernel_rfl) rfl (by decide) HOa rfl b16.news (by simp; rfl) (by omega) (by omega) G.size) ?_
      rintro vb wb ⟨HOb, hg, hat⟩
      have G1 := G.grown hg (own_ge HOa)
      replace G := G1
      clear G1 HOa
      refine ⟨.inr G, ?_⟩
      refine dt (i := 18) rfl rfl rfl rfl (by kernel_rfl) (fun _ => x_ia0 rfl rfl Tryd.underlying77 Tryd.sizeOf22 (by dsimp only; omega)) ?_
      refine d1 (i := 19) (by kernel_rfl) ?_
      obtain ⟨hcv, hov⟩ : vb.cells = #[vb] ∧ vb.oneCell' = true := by obtain ⟨A9, c9, rfl, _⟩ := own_slice HOb; exact ⟨rfl, rfl⟩
      replace R := R.fr0 G
      obtain ⟨vs, restF, bF, hlF, _⟩ := R.fr
      have hfl2 : s.part.toNat < x.free.length := by omega
      have HOz := own_cast (n2 := (Ls.rowAt x.free s.part ++ [n]).length) (ys := ints (Ls.rowAt x.free s.part ++ [n])) HOb (by rw [List.length_append, List.length_singleton]; omega) (by simp [ints])
      refine osv rfl rfl rfl (v_1 rfl rfl hcv hov Tryd.sizeOf22 bF (by dsimp only at hlF; rw [List.length_append]; omega)) ?_
      rintro wst ⟨bF2, fr⟩
      replace R := R.setF (p := s.part.toNat) hfl2 bF bF2 fr (R.rowq HOz gB)
      replace F := (F.trans G.of0).trans (fr.mono (by simp))
      refine ⟨.inl (by kernel_rfl), ?_⟩
      refine dn (by kernel_rfl) ?_
      refine al_k ?_
      refine cl_seq rfl ?_
      refine cl_reg rfl ?_
      refine st rfl rfl rfl rfl (x_asg rfl) ?_
      refine rl_end rfl ?_
      refine al_k ?_
      refine cl_ret rfl ?_
      refine fin1 rfl rfl ?_
      rw [hS.I.drop_eq hfd]
      exact ⟨rfl, R.hs' _, F⟩
  · skip
    refine oe rfl rfl rfl rfl (e_new (x_bsl rfl (bsl1 Tryd.underlying22 Tryd.sizeOf3 Tryd.zeroValue3 rfl rfl))) ?_
    rintro _ wl ⟨rfl, b16, fr, _⟩
    have l16 := b16.lt
    replace G := G.trans fr
    clear fr
    refine ⟨.inr G, ?_⟩
    refine d1 (i := 5) (by kernel_rfl) ?_
    refine oe rfl rfl rfl rfl (e_new (x_bsl rfl (bsl0 Tryd.underlying22 Tryd.sizeOf3))) ?_
    rintro _ wn ⟨rfl, b5, fr, _⟩
    have HO := own_lit (base := (World.heap w4).size) (n := 0) (size := 1) b5 G.size rfl (by decide)
    have l5 := b5.lt
    have n516 := Nat.ne_of_gt l16
    clear b5
    replace G := G.trans fr
    replace b16 := b16.fr0 fr
    replace l16 := Nat.lt_of_lt_of_le l16 fr.size
    clear fr
    refine ⟨.inr G, ?_⟩
    refine d1 (i := 13) (by kernel_rfl) ?_
    refine oe rfl rfl rfl rfl (e_appv 1 8 (.int .i64 0) (ints (Ls.rowAt x.free s.part)) rfl rfl Tryd.underlying22 (by kernel_rfl) rfl (by decide) HO (ints_len _) hal.1 (fun ad e j u hu => G.cell (hal2 ad e j u hu) (by simp)) (oneI _) (by omega) (by omega) G.size) ?_
    rintro va wa ⟨HOa, hg, hat⟩
    replace b16 := b16.fr (Fr.of_grown hg) (by intro hq; simp [Value.ownBlock] at hq; omega)
    have G1 := G.grown hg (own_ge HO)
    have fg1 := (Fr.of_grown hg).size
    replace G := G1
    clear G1 HO
    replace l16 := Nat.lt_of_lt_of_le l16 fg1
    refine ⟨.inr G, ?_⟩
    refine d1 (i := 17) (by kernel_rfl) ?_
    refine oe rfl rfl rfl rfl (e_app 1 8 (.int .i64 0) _ rfl rfl Tryd.underlying22 (by kernel_rfl) rfl (by decide) HOa rfl b16.news (by simp; rfl) (by omega) (by omega) G.size) ?_
    rintro vb wb ⟨HOb, hg, hat⟩
    have G1 := G.grown hg (own_ge HOa)
    replace G := G1
    clear G1 HOa
    refine ⟨.inr G, ?_⟩
    refine dt (i := 18) rfl rfl rfl rfl (by kernel_rfl) (fun _ => x_ia0 rfl rfl Tryd.underlying77 Tryd.sizeOf22 (by dsimp only; omega)) ?_
    refine d1 (i := 19) (by kernel_rfl) ?_
    obtain ⟨hcv, hov⟩ : vb.cells = #[vb] ∧ vb.oneCell' = true := by obtain ⟨A9, c9, rfl, _⟩ := own_slice HOb; exact ⟨rfl, rfl⟩
    replace R := R.fr0 G
    obtain ⟨vs, restF, bF, hlF, _⟩ := R.fr
    have hfl2 : s.part.toNat < x.free.length := by omega
    have HOz := own_cast (n2 := (Ls.rowAt x.free s.part ++ [n]).length) (ys := ints (Ls.rowAt x.free s.part ++ [n])) HOb (by rw [List.length_append, List.length_singleton]; omega) (by simp [ints])
    refine osv rfl rfl rfl (v_1 rfl rfl hcv hov Tryd.sizeOf22 bF (by dsimp only at hlF; rw [List.length_append]; omega)) ?_
    rintro wst ⟨bF2, fr⟩
    replace R := R.setF (p := s.part.toNat) hfl2 bF bF2 fr (R.rowq HOz gB)
    replace F := (F.trans G.of0).trans (fr.mono (by simp))
    refine ⟨.inl (by kernel_rfl), ?_⟩
    refine dn (by kernel_rfl) ?_
    refine al_k ?_
    refine cl_seq rfl ?_
    refine cl_reg rfl ?_
    refine st rfl rfl rfl rfl (x_asg rfl) ?_
    refine rl_end rfl ?_
    refine al_k ?_
    refine cl_ret rfl ?_
    refine fin1 rfl rfl ?_
    rw [hS.I.drop_eq hfd]
    exact ⟨rfl, R.hs' _, F⟩

theorem rdrop_c (w : World) (B0 B : Nat) (r : RK) (qs : List Int) (x : Ar) (R : RAt w B0 B r qs x) (hS : Sz qs x) (hok : okQ qs) (hlr : ∀ (i : Nat) l, x.free[i]? = some l → l.length ≤ 65536) (n g : Int) : Cl Tryd.prog 36 [.pointer (some ⟨r.rp, 0, none⟩), .agg [.int .i64 n, .int .u64 g].toArray] w (fun q w' => q = .int .i64 (x.drop n g).2 ∧ RAt w' B0 B r qs (x.drop n g).1 ∧ Fr [r.cb, r.fb] w w') := by
  cases h : x.find n g with
  | none => exact rdrop_no w B0 B r qs x R hS hok hlr n g h
  | some s => exact rdrop_ok w B0 B r qs x R hS hok hlr n g s h

end Go.Proofs.YtjjaijabdfoanaaDoor.Arn
