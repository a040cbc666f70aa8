/- The arena: the walks of what changes it. -/
import Derived.Test.YtjjaijabdfoanaaDoorArW1
set_option linter.unusedVariables false
namespace Go.Proofs.YtjjaijabdfoanaaDoor.Arn
open Go Go.RowKit Go.Proofs.YtjjaijabdfoanaaDoor.Sx Go.Proofs.YtjjaijabdfoanaaDoor.Ls Go.Proofs.YtjjaijabdfoanaaDoor
set_option maxRecDepth 100000

theorem alloc_neg (w : World) (k : AK) (x : Ar) (K : ArAt w k x) (part : Int) (h0 : part < 0) : Cl Tryd.prog 11 [.pointer (some ⟨k.ap, 0, none⟩), .int .i64 part] w (fun v w' => v = .tuple #[.agg [.int .i64 0, .int .u64 0].toArray, .int .i64 5] ∧ ArAt w' k x ∧ Fr [k.sb, k.ap, k.nb, k.hb] w w') := by
  have F := Fr.refl [k.sb, k.ap, k.nb, k.hb] w
  have hlt := K.lts
  have hpp := K.pp
  refine enter Tryd.func11 rfl Tryd.ntmps11 rfl ?_
  refine cl_seq rfl ?_
  refine cl_reg rfl ?_
  refine se rfl rfl rfl rfl (e_new (x_alloc Tryd.zeroValue33 rfl)) ?_
  rintro _ w0_0 ⟨rfl, b0_0, fr0_0, sz0_0⟩
  replace F := F.trans fr0_0.of0
  replace K := K.fr0 fr0_0
  refine st rfl rfl rfl rfl (x_asg rfl) ?_
  refine rl_end rfl ?_
  refine al_k ?_
  refine cl_seq rfl ?_
  refine cl_block rfl ?_
  refine cl_seq rfl ?_
  refine cl_reg rfl ?_
  refine st rfl rfl rfl rfl (x_move rfl) ?_
  refine sc rfl rfl rfl rfl (c_fn rfl Tryd.call28 (is_a _ k x K)) ?_
  rintro _ wk ⟨rfl, hwk⟩
  obtain rfl := hwk.symm
  refine st rfl rfl rfl rfl (x_not1 rfl) ?_
  refine st rfl rfl rfl rfl (x_asg rfl) ?_
  refine rl_end rfl ?_
  refine al_k ?_
  refine cl_if0 rfl rfl ?_
  refine cl_seq rfl ?_
  refine cl_reg rfl ?_
  refine st rfl rfl rfl rfl (x_move rfl) ?_
  refine st rfl rfl rfl rfl ((x_lss rfl rfl).b1 (by omega)) ?_
  refine st rfl rfl rfl rfl (x_move rfl) ?_
  refine so rfl rfl rfl rfl ?_
  refine so rfl rfl rfl rfl ?_
  refine so rfl rfl rfl rfl ?_
  refine so rfl rfl rfl rfl ?_
  refine so rfl rfl rfl rfl ?_
  refine so rfl rfl rfl rfl ?_
  refine st rfl rfl rfl rfl (x_pick1 rfl rfl) ?_
  refine st rfl rfl rfl rfl (x_asg rfl) ?_
  refine rl_end rfl ?_
  refine al_k ?_
  refine cl_if1 rfl rfl ?_
  refine cl_seq rfl ?_
  refine cl_reg rfl ?_
  refine st rfl rfl rfl rfl (x_build rfl (bldN0 _)) ?_
  refine sv rfl rfl rfl (v_n (vs := [.int .i64 0, .int .u64 0]) rfl rfl (by intro v hv; simp at hv; rcases hv with rfl | rfl <;> rfl) Tryd.sizeOf33 rfl b0_0 (by decide)) ?_
  rintro w4 ⟨bR, frR⟩
  replace F := F.trans_new frR (by intro q hq; simp at hq; subst hq; exact .inr (Nat.le_refl _))
  replace bR : Blk w4 _ 33 [.int .i64 0, .int .u64 0] := bR
  replace K := K.fr frR (by simp; omega) (fun h => by have := hlt.2 h; simp; omega) (by simp; omega) (by simp; omega) (by simp; omega) (by simp; omega)
  refine st rfl rfl rfl rfl (x_asg rfl) ?_
  refine rl_end rfl ?_
  refine al_k ?_
  refine cl_ret rfl ?_
  refine fin_ct rfl rfl (run_ldv Tryd.isAgg33 Tryd.sizeOf33 rfl bR) rfl ?_
  exact ⟨rfl, K, F⟩

theorem alloc_out (w : World) (k : AK) (x : Ar) (K : ArAt w k x) (part : Int) (h0 : 0 ≤ part) (h1 : (x.parts : Int) ≤ part) : Cl Tryd.prog 11 [.pointer (some ⟨k.ap, 0, none⟩), .int .i64 part] w (fun v w' => v = .tuple #[.agg [.int .i64 0, .int .u64 0].toArray, .int .i64 5] ∧ ArAt w' k x ∧ Fr [k.sb, k.ap, k.nb, k.hb] w w') := by
  have F := Fr.refl [k.sb, k.ap, k.nb, k.hb] w
  have hlt := K.lts
  have hpp := K.pp
  refine enter Tryd.func11 rfl Tryd.ntmps11 rfl ?_
  refine cl_seq rfl ?_
  refine cl_reg rfl ?_
  refine se rfl rfl rfl rfl (e_new (x_alloc Tryd.zeroValue33 rfl)) ?_
  rintro _ w0_0 ⟨rfl, b0_0, fr0_0, sz0_0⟩
  replace F := F.trans fr0_0.of0
  replace K := K.fr0 fr0_0
  refine st rfl rfl rfl rfl (x_asg rfl) ?_
  refine rl_end rfl ?_
  refine al_k ?_
  refine cl_seq rfl ?_
  refine cl_block rfl ?_
  refine cl_seq rfl ?_
  refine cl_reg rfl ?_
  refine st rfl rfl rfl rfl (x_move rfl) ?_
  refine sc rfl rfl rfl rfl (c_fn rfl Tryd.call28 (is_a _ k x K)) ?_
  rintro _ wk ⟨rfl, hwk⟩
  obtain rfl := hwk.symm
  refine st rfl rfl rfl rfl (x_not1 rfl) ?_
  refine st rfl rfl rfl rfl (x_asg rfl) ?_
  refine rl_end rfl ?_
  refine al_k ?_
  refine cl_if0 rfl rfl ?_
  refine cl_seq rfl ?_
  refine cl_reg rfl ?_
  refine st rfl rfl rfl rfl (x_move rfl) ?_
  refine st rfl rfl rfl rfl ((x_lss rfl rfl).b0 (by omega)) ?_
  refine st rfl rfl rfl rfl (x_move rfl) ?_
  refine st rfl rfl rfl rfl (x_move rfl) ?_
  refine st rfl rfl rfl rfl (x_move rfl) ?_
  refine st rfl rfl rfl rfl (x_nil rfl) ?_
  refine st rfl rfl rfl rfl (x_fa rfl Tryd.underlying64 rfl Tryd.sizeOf3 18 rfl) ?_
  refine st rfl rfl rfl rfl (x_ld rfl Tryd.isAgg3 K.cN) ?_
  refine st rfl rfl rfl rfl ((x_geq rfl rfl).b1 (by omega)) ?_
  refine st rfl rfl rfl rfl (x_pick0 rfl rfl) ?_
  refine st rfl rfl rfl rfl (x_asg rfl) ?_
  refine rl_end rfl ?_
  refine al_k ?_
  refine cl_if1 rfl rfl ?_
  refine cl_seq rfl ?_
  refine cl_reg rfl ?_
  refine st rfl rfl rfl rfl (x_build rfl (bldN0 _)) ?_
  refine sv rfl rfl rfl (v_n (vs := [.int .i64 0, .int .u64 0]) rfl rfl (by intro v hv; simp at hv; rcases hv with rfl | rfl <;> rfl) Tryd.sizeOf33 rfl b0_0 (by decide)) ?_
  rintro w4 ⟨bR, frR⟩
  replace F := F.trans_new frR (by intro q hq; simp at hq; subst hq; exact .inr (Nat.le_refl _))
  replace bR : Blk w4 _ 33 [.int .i64 0, .int .u64 0] := bR
  replace K := K.fr frR (by simp; omega) (fun h => by have := hlt.2 h; simp; omega) (by simp; omega) (by simp; omega) (by simp; omega) (by simp; omega)
  refine st rfl rfl rfl rfl (x_asg rfl) ?_
  refine rl_end rfl ?_
  refine al_k ?_
  refine cl_ret rfl ?_
  refine fin_ct rfl rfl (run_ldv Tryd.isAgg33 Tryd.sizeOf33 rfl bR) rfl ?_
  exact ⟨rfl, K, F⟩

theorem alloc_none (w : World) (k : AK) (x : Ar) (K : ArAt w k x) (part : Int) (h0 : 0 ≤ part) (h1 : part < x.parts) (hr : Ls.rowAt x.free part = []) : Cl Tryd.prog 11 [.pointer (some ⟨k.ap, 0, none⟩), .int .i64 part] w (fun v w' => v = .tuple #[.agg [.int .i64 0, .int .u64 0].toArray, .int .i64 61] ∧ ArAt w' k x ∧ Fr [k.sb, k.ap, k.nb, k.hb] w w') := by
  have F := Fr.refl [k.sb, k.ap, k.nb, k.hb] w
  have hlt := K.lts
  have hpp := K.pp
  refine enter Tryd.func11 rfl Tryd.ntmps11 rfl ?_
  refine cl_seq rfl ?_
  refine cl_reg rfl ?_
  refine se rfl rfl rfl rfl (e_new (x_alloc Tryd.zeroValue33 rfl)) ?_
  rintro _ w0_0 ⟨rfl, b0_0, fr0_0, sz0_0⟩
  replace F := F.trans fr0_0.of0
  replace K := K.fr0 fr0_0
  refine st rfl rfl rfl rfl (x_asg rfl) ?_
  refine rl_end rfl ?_
  refine al_k ?_
  refine cl_seq rfl ?_
  refine cl_block rfl ?_
  refine cl_seq rfl ?_
  refine cl_reg rfl ?_
  refine st rfl rfl rfl rfl (x_move rfl) ?_
  refine sc rfl rfl rfl rfl (c_fn rfl Tryd.call28 (is_a _ k x K)) ?_
  rintro _ wk ⟨rfl, hwk⟩
  obtain rfl := hwk.symm
  refine st rfl rfl rfl rfl (x_not1 rfl) ?_
  refine st rfl rfl rfl rfl (x_asg rfl) ?_
  refine rl_end rfl ?_
  refine al_k ?_
  refine cl_if0 rfl rfl ?_
  refine cl_seq rfl ?_
  refine cl_reg rfl ?_
  refine st rfl rfl rfl rfl (x_move rfl) ?_
  refine st rfl rfl rfl rfl ((x_lss rfl rfl).b0 (by omega)) ?_
  refine st rfl rfl rfl rfl (x_move rfl) ?_
  refine st rfl rfl rfl rfl (x_move rfl) ?_
  refine st rfl rfl rfl rfl (x_move rfl) ?_
  refine st rfl rfl rfl rfl (x_nil rfl) ?_
  refine st rfl rfl rfl rfl (x_fa rfl Tryd.underlying64 rfl Tryd.sizeOf3 18 rfl) ?_
  refine st rfl rfl rfl rfl (x_ld rfl Tryd.isAgg3 K.cN) ?_
  refine st rfl rfl rfl rfl ((x_geq rfl rfl).b0 (by omega)) ?_
  refine st rfl rfl rfl rfl (x_pick0 rfl rfl) ?_
  refine st rfl rfl rfl rfl (x_asg rfl) ?_
  refine rl_end rfl ?_
  refine al_k ?_
  refine cl_if0 rfl rfl ?_
  refine cl_skip rfl ?_
  refine al_k ?_
  refine cl_seq rfl ?_
  refine cl_reg rfl ?_
  refine st rfl rfl rfl rfl (x_move rfl) ?_
  refine st rfl rfl rfl rfl (x_nil rfl) ?_
  refine st rfl rfl rfl rfl (x_fa rfl Tryd.underlying64 rfl Tryd.sizeOf61 1 rfl) ?_
  refine st rfl rfl rfl rfl (x_ld rfl Tryd.isAgg61 K.cP) ?_
  refine st rfl rfl rfl rfl (x_move rfl) ?_
  refine sc rfl rfl rfl rfl (c_fn rfl Tryd.call29 ((pop_r K.Q part).mono (R' := fun v w' => v = .tuple #[.int .i64 0, .bool false] ∧ LsR w' k.p k.nb k.hb x.slots.length x.parts x.free ∧ Fr [k.nb, k.hb] _ w') (fun v w' h => by rw [show aPop x.free part = (x.free, 0, false) from by simp [aPop, (show okL x.free part from ⟨h0, by rw [K.Q.len]; exact h1⟩), hr]] at h; exact h))) ?_
  rintro _ w5 ⟨rfl, Q, fr⟩
  replace K := K.setF Q fr
  replace b0_0 := b0_0.fr fr (by simp; omega)
  replace F := F.trans (fr.mono (by simp))
  refine st rfl rfl rfl rfl (x_move rfl) ?_
  refine st rfl rfl rfl rfl (x_ext rfl rfl) ?_
  refine st rfl rfl rfl rfl (x_ext rfl rfl) ?_
  refine st rfl rfl rfl rfl (x_asg rfl) ?_
  refine st rfl rfl rfl rfl (x_asg rfl) ?_
  refine rl_end rfl ?_
  refine al_k ?_
  refine cl_seq rfl ?_
  refine cl_seq rfl ?_
  refine cl_reg rfl ?_
  refine st rfl rfl rfl rfl (x_move rfl) ?_
  refine st rfl rfl rfl rfl (x_not0 rfl) ?_
  refine rl_end rfl ?_
  refine al_k ?_
  refine cl_if1 rfl rfl ?_
  refine cl_seq rfl ?_
  refine cl_reg rfl ?_
  refine st rfl rfl rfl rfl (x_build rfl (bldN0 _)) ?_
  refine sv rfl rfl rfl (v_n (vs := [.int .i64 0, .int .u64 0]) rfl rfl (by intro v hv; simp at hv; rcases hv with rfl | rfl <;> rfl) Tryd.sizeOf33 rfl b0_0 (by decide)) ?_
  rintro w7 ⟨bR, frR⟩
  replace F := F.trans_new frR (by intro q hq; simp at hq; subst hq; exact .inr (Nat.le_refl _))
  replace bR : Blk w7 _ 33 [.int .i64 0, .int .u64 0] := bR
  replace K := K.fr frR (by simp; omega) (fun h => by have := hlt.2 h; simp; omega) (by simp; omega) (by simp; omega) (by simp; omega) (by simp; omega)
  refine st rfl rfl rfl rfl (x_asg rfl) ?_
  refine rl_end rfl ?_
  refine al_k ?_
  refine cl_ret rfl ?_
  refine fin_ct rfl rfl (run_ldv Tryd.isAgg33 Tryd.sizeOf33 rfl bR) rfl ?_
  exact ⟨rfl, K, F⟩

theorem alloc_ok (w : World) (k : AK) (x : Ar) (K : ArAt w k x) (part : Int) (h0 : 0 ≤ part) (h1 : part < x.parts) (n : Int) (r : List Int) (hr : Ls.rowAt x.free part = n :: r) (s : Sl) (hs : x.slots[n.toNat]? = some s) (hn : 0 ≤ n) (h : Int) (hh : x.hs[part.toNat]? = some h) (hb : -1000000 ≤ h ∧ h ≤ 1000000) : Cl Tryd.prog 11 [.pointer (some ⟨k.ap, 0, none⟩), .int .i64 part] w (fun v w' => v = .tuple #[.agg [.int .i64 n, .int .u64 s.gen].toArray, .int .i64 0] ∧ ArAt w' k { x with slots := x.slots.set n.toNat { s with held := true }, hs := x.hs.set part.toNat (h + 1), free := x.free.set part.toNat r } ∧ Fr [k.sb, k.ap, k.nb, k.hb] w w') := by
  have F := Fr.refl [k.sb, k.ap, k.nb, k.hb] w
  have hlt := K.lts
  have hpp := K.pp
  refine enter Tryd.func11 rfl Tryd.ntmps11 rfl ?_
  refine cl_seq rfl ?_
  refine cl_reg rfl ?_
  refine se rfl rfl rfl rfl (e_new (x_alloc Tryd.zeroValue33 rfl)) ?_
  rintro _ w0_0 ⟨rfl, b0_0, fr0_0, sz0_0⟩
  replace F := F.trans fr0_0.of0
  replace K := K.fr0 fr0_0
  refine st rfl rfl rfl rfl (x_asg rfl) ?_
  refine rl_end rfl ?_
  refine al_k ?_
  refine cl_seq rfl ?_
  refine cl_block rfl ?_
  refine cl_seq rfl ?_
  refine cl_reg rfl ?_
  refine st rfl rfl rfl rfl (x_move rfl) ?_
  refine sc rfl rfl rfl rfl (c_fn rfl Tryd.call28 (is_a _ k x K)) ?_
  rintro _ wk ⟨rfl, hwk⟩
  obtain rfl := hwk.symm
  refine st rfl rfl rfl rfl (x_not1 rfl) ?_
  refine st rfl rfl rfl rfl (x_asg rfl) ?_
  refine rl_end rfl ?_
  refine al_k ?_
  refine cl_if0 rfl rfl ?_
  refine cl_seq rfl ?_
  refine cl_reg rfl ?_
  refine st rfl rfl rfl rfl (x_move rfl) ?_
  refine st rfl rfl rfl rfl ((x_lss rfl rfl).b0 (by omega)) ?_
  refine st rfl rfl rfl rfl (x_move rfl) ?_
  refine st rfl rfl rfl rfl (x_move rfl) ?_
  refine st rfl rfl rfl rfl (x_move rfl) ?_
  refine st rfl rfl rfl rfl (x_nil rfl) ?_
  refine st rfl rfl rfl rfl (x_fa rfl Tryd.underlying64 rfl Tryd.sizeOf3 18 rfl) ?_
  refine st rfl rfl rfl rfl (x_ld rfl Tryd.isAgg3 K.cN) ?_
  refine st rfl rfl rfl rfl ((x_geq rfl rfl).b0 (by omega)) ?_
  refine st rfl rfl rfl rfl (x_pick0 rfl rfl) ?_
  refine st rfl rfl rfl rfl (x_asg rfl) ?_
  refine rl_end rfl ?_
  refine al_k ?_
  refine cl_if0 rfl rfl ?_
  refine cl_skip rfl ?_
  refine al_k ?_
  refine cl_seq rfl ?_
  refine cl_reg rfl ?_
  refine st rfl rfl rfl rfl (x_move rfl) ?_
  refine st rfl rfl rfl rfl (x_nil rfl) ?_
  refine st rfl rfl rfl rfl (x_fa rfl Tryd.underlying64 rfl Tryd.sizeOf61 1 rfl) ?_
  refine st rfl rfl rfl rfl (x_ld rfl Tryd.isAgg61 K.cP) ?_
  refine st rfl rfl rfl rfl (x_move rfl) ?_
  refine sc rfl rfl rfl rfl (c_fn rfl Tryd.call29 ((pop_r K.Q part).mono (R' := fun v w' => v = .tuple #[.int .i64 n, .bool true] ∧ LsR w' k.p k.nb k.hb x.slots.length x.parts (x.free.set part.toNat r) ∧ Fr [k.nb, k.hb] _ w') (fun v w' h => by rw [show aPop x.free part = (x.free.set part.toNat r, n, true) from by simp [aPop, (show okL x.free part from ⟨h0, by rw [K.Q.len]; exact h1⟩), hr]] at h; exact h))) ?_
  rintro _ w5 ⟨rfl, Q, fr⟩
  replace K := K.setF Q fr
  replace b0_0 := b0_0.fr fr (by simp; omega)
  replace F := F.trans (fr.mono (by simp))
  have hsl := (List.getElem?_eq_some_iff.1 hs).1
  refine st rfl rfl rfl rfl (x_move rfl) ?_
  refine st rfl rfl rfl rfl (x_ext rfl rfl) ?_
  refine st rfl rfl rfl rfl (x_ext rfl rfl) ?_
  refine st rfl rfl rfl rfl (x_asg rfl) ?_
  refine st rfl rfl rfl rfl (x_asg rfl) ?_
  refine rl_end rfl ?_
  refine al_k ?_
  refine cl_seq rfl ?_
  refine cl_seq rfl ?_
  refine cl_reg rfl ?_
  refine st rfl rfl rfl rfl (x_move rfl) ?_
  refine st rfl rfl rfl rfl (x_not1 rfl) ?_
  refine rl_end rfl ?_
  refine al_k ?_
  refine cl_if0 rfl rfl ?_
  refine cl_skip rfl ?_
  refine al_k ?_
  refine cl_seq rfl ?_
  refine cl_reg rfl ?_
  refine st rfl rfl rfl rfl (x_move rfl) ?_
  refine st rfl rfl rfl rfl (x_nil rfl) ?_
  refine st rfl rfl rfl rfl (x_fa rfl Tryd.underlying64 rfl Tryd.sizeOf60 0 rfl) ?_
  refine st rfl rfl rfl rfl (x_ld rfl Tryd.isAgg60 (K.cS1 (ne_of_at hs))) ?_
  refine st rfl rfl rfl rfl (x_move rfl) ?_
  refine st rfl rfl rfl rfl (x_ia0 rfl rfl Tryd.underlying60 Tryd.sizeOf68 (by dsimp only; omega)) ?_
  refine st rfl rfl rfl rfl (x_fa rfl Tryd.underlying68 rfl Tryd.sizeOf4 3 rfl) ?_
  obtain ⟨eA, rest, bS⟩ := K.sl (ne_of_at hs)
  have hsb := bS.lt
  have hsb0 := hlt.2 (ne_of_at hs)
  refine sv rfl rfl rfl (v_1 rfl rfl rfl rfl Tryd.sizeOf4 bS (by rw [List.length_append, flat_length lenS]; dsimp only; omega)) ?_
  rintro w8 ⟨bS2, fr8⟩
  replace K := K.setS (s' := { s with held := true }) hs (by decide) rfl bS bS2 fr8
  replace b0_0 := b0_0.fr fr8 (by simp; omega)
  replace F := F.trans (fr8.mono (by simp))
  refine rl_end rfl ?_
  refine al_k ?_
  refine cl_seq rfl ?_
  refine cl_draw (by kernel_rfl) rfl [10] (fun w' => w'.heap = w8.heap) ?_
  rintro wd9 frd9 hpd9
  refine ⟨hpd9, ?_⟩
  refine dt (i := 0) rfl rfl rfl rfl (by kernel_rfl) (fun _ => x_move rfl) ?_
  refine dt (i := 1) rfl rfl rfl rfl (by kernel_rfl) (fun _ => x_move rfl) ?_
  refine dt (i := 2) rfl rfl rfl rfl (by kernel_rfl) (fun _ => x_nil rfl) ?_
  refine dt (i := 3) rfl rfl rfl rfl (by kernel_rfl) (fun _ => x_fa rfl Tryd.underlying64 rfl Tryd.sizeOf62 2 rfl) ?_
  refine dt (i := 4) rfl rfl rfl rfl (by kernel_rfl) (fun _ => x_iaa rfl rfl Tryd.underlying62 Tryd.sizeOf3 (by omega)) ?_
  refine dl (i := 5) rfl rfl rfl rfl (by kernel_rfl) (by kernel_rfl) (fun w' hU => x_ld rfl Tryd.isAgg3 (heq hU (by simpa using K.cH hh))) ?_
  refine dt (i := 6) rfl rfl rfl rfl (by kernel_rfl) (fun _ => x_add rfl rfl (by omega)) ?_
  refine dt (i := 7) rfl rfl rfl rfl (by kernel_rfl) (fun _ => x_nil rfl) ?_
  refine dt (i := 8) rfl rfl rfl rfl (by kernel_rfl) (fun _ => x_fa rfl Tryd.underlying64 rfl Tryd.sizeOf62 2 rfl) ?_
  refine dt (i := 9) rfl rfl rfl rfl (by kernel_rfl) (fun _ => x_iaa rfl rfl Tryd.underlying62 Tryd.sizeOf3 (by omega)) ?_
  replace F := F.trans frd9.of0
  replace K := K.fr0 frd9
  replace b0_0 := b0_0.fr0 frd9
  refine d1 (i := 10) (by kernel_rfl) ?_
  refine osv rfl rfl rfl (v_1 rfl rfl rfl rfl Tryd.sizeOf3 K.top (by simp [topC, ints, K.hl]; omega)) ?_
  rintro w9 ⟨bT2, fr9⟩
  replace K := K.setH (i := part.toNat) (h := h + 1) (by omega) (by simpa using bT2) fr9
  replace b0_0 := b0_0.fr fr9 (by simp; omega)
  replace F := F.trans (fr9.mono (by simp))
  refine ⟨.inl (by kernel_rfl), ?_⟩
  refine dn (by kernel_rfl) ?_
  refine al_k ?_
  refine cl_seq rfl ?_
  refine cl_reg rfl ?_
  refine st rfl rfl rfl rfl (x_move rfl) ?_
  refine st rfl rfl rfl rfl (x_move rfl) ?_
  refine sc rfl rfl rfl rfl (c_fn rfl Tryd.call30 (name_a _ k _ K n hn { s with held := true } (by simp [hsl]))) ?_
  rintro _ w10 ⟨rfl, fr⟩
  replace F := F.trans fr.of0
  replace K := K.fr0 fr
  replace b0_0 := b0_0.fr0 fr
  refine sv rfl rfl rfl (v_n (vs := [.int .i64 n, .int .u64 s.gen]) rfl rfl (by intro v hv; simp at hv; rcases hv with rfl | rfl <;> rfl) Tryd.sizeOf33 rfl b0_0 (by decide)) ?_
  rintro w11 ⟨bR, frR⟩
  replace F := F.trans_new frR (by intro q hq; simp at hq; subst hq; exact .inr (Nat.le_refl _))
  replace bR : Blk w11 _ 33 [.int .i64 n, .int .u64 s.gen] := bR
  replace K := K.fr frR (by simp; omega) (fun _ => by simp; omega) (by simp; omega) (by simp; omega) (by simp; omega) (by simp; omega)
  refine st rfl rfl rfl rfl (x_asg rfl) ?_
  refine rl_end rfl ?_
  refine al_k ?_
  refine cl_ret rfl ?_
  refine fin_ct rfl rfl (run_ldv Tryd.isAgg33 Tryd.sizeOf33 rfl bR) rfl ?_
  exact ⟨rfl, K, F⟩

theorem write_no (w : World) (k : AK) (x : Ar) (K : ArAt w k x) (n g v : Int) (hfd : x.find n g = none) : Cl Tryd.prog 15 [.pointer (some ⟨k.ap, 0, none⟩), .agg [.int .i64 n, .int .u64 g].toArray, .int .u64 v] w (fun r w' => r = .int .i64 62 ∧ ArAt w' k x ∧ Fr [k.sb, k.ap, k.nb, k.hb] w w') := by
  have F := Fr.refl [k.sb, k.ap, k.nb, k.hb] w
  have hlt := K.lts
  have hpp := K.pp
  refine enter Tryd.func15 rfl Tryd.ntmps15 rfl ?_
  refine cl_seq rfl ?_
  refine cl_reg rfl ?_
  refine se rfl rfl rfl rfl (e_new (x_box (cs := [.int .i64 n, .int .u64 g]) rfl rfl)) ?_
  rintro _ w0 ⟨rfl, b0, fr, _⟩
  replace F := F.trans fr.of0
  replace K := K.fr0 fr
  generalize hbq : w.heap.size = bq at b0 hlt ⊢
  refine st rfl rfl rfl rfl (x_asg rfl) ?_
  refine rl_end rfl ?_
  refine al_k ?_
  refine cl_seq rfl ?_
  refine cl_seq rfl ?_
  refine cl_reg rfl ?_
  refine st rfl rfl rfl rfl (x_move rfl) ?_
  refine sc rfl rfl rfl rfl (c_fn rfl Tryd.call28 (is_a _ k x K)) ?_
  rintro _ wk ⟨rfl, hwk⟩
  obtain rfl := hwk.symm
  refine st rfl rfl rfl rfl (x_not1 rfl) ?_
  refine rl_end rfl ?_
  refine al_k ?_
  refine cl_if0 rfl rfl ?_
  refine cl_skip rfl ?_
  refine al_k ?_
  refine cl_seq rfl ?_
  refine cl_reg rfl ?_
  refine st rfl rfl rfl rfl (x_move rfl) ?_
  refine st rfl rfl rfl rfl (x_ldn rfl Tryd.isAgg33 Tryd.sizeOf33 rfl (by intro j v hv; rw [Nat.zero_add]; exact b0.cell hv)) ?_
  refine sc rfl rfl rfl rfl (c_fn rfl Tryd.call31 (find_a _ k x K n g)) ?_
  rintro _ w3 ⟨rfl, fr⟩
  replace F := F.trans fr.of0
  replace K := K.fr0 fr
  replace b0 := b0.fr0 fr
  rw [hfd]
  refine st rfl rfl rfl rfl (x_asg rfl) ?_
  refine rl_end rfl ?_
  refine al_k ?_
  refine cl_seq rfl ?_
  refine cl_seq rfl ?_
  refine cl_reg rfl ?_
  refine st rfl rfl rfl rfl (x_move rfl) ?_
  refine st rfl rfl rfl rfl (x_eqlp rfl rfl Tryd.underlying73) ?_
  refine rl_end rfl ?_
  refine al_k ?_
  refine cl_if1 rfl rfl ?_
  refine cl_seq rfl ?_
  refine cl_reg rfl ?_
  refine st rfl rfl rfl rfl (x_asg rfl) ?_
  refine rl_end rfl ?_
  refine al_k ?_
  refine cl_ret rfl ?_
  refine fin1 rfl rfl ?_
  exact ⟨rfl, K, F⟩

theorem write_ok (w : World) (k : AK) (x : Ar) (K : ArAt w k x) (n g v : Int) (s : Sl) (hfd : x.find n g = some s) : Cl Tryd.prog 15 [.pointer (some ⟨k.ap, 0, none⟩), .agg [.int .i64 n, .int .u64 g].toArray, .int .u64 v] w (fun r w' => r = .int .i64 0 ∧ ArAt w' k { x with slots := x.slots.set n.toNat { s with pay := v } } ∧ Fr [k.sb, k.ap, k.nb, k.hb] w w') := by
  have F := Fr.refl [k.sb, k.ap, k.nb, k.hb] w
  have hlt := K.lts
  have hpp := K.pp
  refine enter Tryd.func15 rfl Tryd.ntmps15 rfl ?_
  refine cl_seq rfl ?_
  refine cl_reg rfl ?_
  refine se rfl rfl rfl rfl (e_new (x_box (cs := [.int .i64 n, .int .u64 g]) rfl rfl)) ?_
  rintro _ w0 ⟨rfl, b0, fr, _⟩
  replace F := F.trans fr.of0
  replace K := K.fr0 fr
  generalize hbq : w.heap.size = bq at b0 hlt ⊢
  refine st rfl rfl rfl rfl (x_asg rfl) ?_
  refine rl_end rfl ?_
  refine al_k ?_
  refine cl_seq rfl ?_
  refine cl_seq rfl ?_
  refine cl_reg rfl ?_
  refine st rfl rfl rfl rfl (x_move rfl) ?_
  refine sc rfl rfl rfl rfl (c_fn rfl Tryd.call28 (is_a _ k x K)) ?_
  rintro _ wk ⟨rfl, hwk⟩
  obtain rfl := hwk.symm
  refine st rfl rfl rfl rfl (x_not1 rfl) ?_
  refine rl_end rfl ?_
  refine al_k ?_
  refine cl_if0 rfl rfl ?_
  refine cl_skip rfl ?_
  refine al_k ?_
  refine cl_seq rfl ?_
  refine cl_reg rfl ?_
  refine st rfl rfl rfl rfl (x_move rfl) ?_
  refine st rfl rfl rfl rfl (x_ldn rfl Tryd.isAgg33 Tryd.sizeOf33 rfl (by intro j v hv; rw [Nat.zero_add]; exact b0.cell hv)) ?_
  refine sc rfl rfl rfl rfl (c_fn rfl Tryd.call31 (find_a _ k x K n g)) ?_
  rintro _ w3 ⟨rfl, fr⟩
  replace F := F.trans fr.of0
  replace K := K.fr0 fr
  replace b0 := b0.fr0 fr
  rw [hfd]
  refine st rfl rfl rfl rfl (x_asg rfl) ?_
  refine rl_end rfl ?_
  refine al_k ?_
  refine cl_seq rfl ?_
  refine cl_seq rfl ?_
  refine cl_reg rfl ?_
  refine st rfl rfl rfl rfl (x_move rfl) ?_
  refine st rfl rfl rfl rfl (x_eqlp rfl rfl Tryd.underlying73) ?_
  refine rl_end rfl ?_
  refine al_k ?_
  refine cl_if0 rfl rfl ?_
  refine cl_skip rfl ?_
  refine al_k ?_
  refine cl_seq rfl ?_
  obtain ⟨h0, hs, hh, hg⟩ := find_some hfd
  have hsl := (List.getElem?_eq_some_iff.1 hs).1
  obtain ⟨eA, rest, bS⟩ := K.sl (ne_of_at hs)
  have hsb := bS.lt
  have hsb0 := hlt.2 (ne_of_at hs)
  refine cl_reg rfl ?_
  refine st rfl rfl rfl rfl (x_move rfl) ?_
  refine st rfl rfl rfl rfl (x_move rfl) ?_
  refine st rfl rfl rfl rfl (x_nil rfl) ?_
  refine st rfl rfl rfl rfl (x_fa rfl Tryd.underlying68 rfl Tryd.sizeOf31 2 rfl) ?_
  refine sv rfl rfl rfl (v_1 rfl rfl rfl rfl Tryd.sizeOf31 bS (by rw [List.length_append, flat_length lenS]; (try dsimp only); omega)) ?_
  rintro w6 ⟨bS2, fr6⟩
  replace K := K.setS (s' := { s with pay := v }) hs (by decide) rfl bS bS2 fr6
  replace F := F.trans (fr6.mono (by simp))
  refine rl_end rfl ?_
  refine al_k ?_
  refine cl_seq rfl ?_
  refine cl_reg rfl ?_
  refine st rfl rfl rfl rfl (x_asg rfl) ?_
  refine rl_end rfl ?_
  refine al_k ?_
  refine cl_ret rfl ?_
  refine fin1 rfl rfl ?_
  exact ⟨rfl, K, F⟩

theorem write_a (w : World) (k : AK) (x : Ar) (K : ArAt w k x) (n g v : Int) : Cl Tryd.prog 15 [.pointer (some ⟨k.ap, 0, none⟩), .agg [.int .i64 n, .int .u64 g].toArray, .int .u64 v] w (fun r w' => r = .int .i64 (x.write n g v).2 ∧ ArAt w' k (x.write n g v).1 ∧ Fr [k.sb, k.ap, k.nb, k.hb] w w') := by
  unfold Ar.write
  cases h : x.find n g with
  | none => exact write_no w k x K n g v h
  | some s => exact write_ok w k x K n g v s h

theorem read_no (w : World) (k : AK) (x : Ar) (K : ArAt w k x) (n g : Int) (hfd : x.find n g = none) : Cl Tryd.prog 13 [.pointer (some ⟨k.ap, 0, none⟩), .agg [.int .i64 n, .int .u64 g].toArray] w (fun r w' => r = .tuple #[.int .u64 0, .int .i64 62] ∧ Fr [] w w') := by
  have F := Fr.refl [] w
  refine enter Tryd.func13 rfl Tryd.ntmps13 rfl ?_
  refine cl_seq rfl ?_
  refine cl_reg rfl ?_
  refine se rfl rfl rfl rfl (e_new (x_box (cs := [.int .i64 n, .int .u64 g]) rfl rfl)) ?_
  rintro _ w0 ⟨rfl, b0, fr, _⟩
  replace F := F.trans fr
  replace K := K.fr0 fr
  generalize hbq : w.heap.size = bq at b0 ⊢
  refine st rfl rfl rfl rfl (x_asg rfl) ?_
  refine st rfl rfl rfl rfl (x_asg rfl) ?_
  refine rl_end rfl ?_
  refine al_k ?_
  refine cl_seq rfl ?_
  refine cl_seq rfl ?_
  refine cl_reg rfl ?_
  refine st rfl rfl rfl rfl (x_move rfl) ?_
  refine sc rfl rfl rfl rfl (c_fn rfl Tryd.call28 (is_a _ k x K)) ?_
  rintro _ wk ⟨rfl, hwk⟩
  obtain rfl := hwk.symm
  refine st rfl rfl rfl rfl (x_not1 rfl) ?_
  refine rl_end rfl ?_
  refine al_k ?_
  refine cl_if0 rfl rfl ?_
  refine cl_skip rfl ?_
  refine al_k ?_
  refine cl_seq rfl ?_
  refine cl_reg rfl ?_
  refine st rfl rfl rfl rfl (x_move rfl) ?_
  refine st rfl rfl rfl rfl (x_ldn rfl Tryd.isAgg33 Tryd.sizeOf33 rfl (by intro j v hv; rw [Nat.zero_add]; exact b0.cell hv)) ?_
  refine sc rfl rfl rfl rfl (c_fn rfl Tryd.call31 (find_a _ k x K n g)) ?_
  rintro _ w3 ⟨rfl, fr⟩
  replace F := F.trans fr
  replace K := K.fr0 fr
  replace b0 := b0.fr0 fr
  rw [hfd]
  refine st rfl rfl rfl rfl (x_asg rfl) ?_
  refine rl_end rfl ?_
  refine al_k ?_
  refine cl_seq rfl ?_
  refine cl_seq rfl ?_
  refine cl_reg rfl ?_
  refine st rfl rfl rfl rfl (x_move rfl) ?_
  refine st rfl rfl rfl rfl (x_eqlp rfl rfl Tryd.underlying73) ?_
  refine rl_end rfl ?_
  refine al_k ?_
  refine cl_if1 rfl rfl ?_
  refine cl_seq rfl ?_
  refine cl_reg rfl ?_
  refine st rfl rfl rfl rfl (x_asg rfl) ?_
  refine st rfl rfl rfl rfl (x_asg rfl) ?_
  refine rl_end rfl ?_
  refine al_k ?_
  refine cl_ret rfl ?_
  refine fin2 rfl rfl rfl ?_
  exact ⟨rfl, F⟩

theorem read_ok (w : World) (k : AK) (x : Ar) (K : ArAt w k x) (n g : Int) (s : Sl) (hfd : x.find n g = some s) : Cl Tryd.prog 13 [.pointer (some ⟨k.ap, 0, none⟩), .agg [.int .i64 n, .int .u64 g].toArray] w (fun r w' => r = .tuple #[.int .u64 s.pay, .int .i64 0] ∧ Fr [] w w') := by
  have F := Fr.refl [] w
  refine enter Tryd.func13 rfl Tryd.ntmps13 rfl ?_
  refine cl_seq rfl ?_
  refine cl_reg rfl ?_
  refine se rfl rfl rfl rfl (e_new (x_box (cs := [.int .i64 n, .int .u64 g]) rfl rfl)) ?_
  rintro _ w0 ⟨rfl, b0, fr, _⟩
  replace F := F.trans fr
  replace K := K.fr0 fr
  generalize hbq : w.heap.size = bq at b0 ⊢
  refine st rfl rfl rfl rfl (x_asg rfl) ?_
  refine st rfl rfl rfl rfl (x_asg rfl) ?_
  refine rl_end rfl ?_
  refine al_k ?_
  refine cl_seq rfl ?_
  refine cl_seq rfl ?_
  refine cl_reg rfl ?_
  refine st rfl rfl rfl rfl (x_move rfl) ?_
  refine sc rfl rfl rfl rfl (c_fn rfl Tryd.call28 (is_a _ k x K)) ?_
  rintro _ wk ⟨rfl, hwk⟩
  obtain rfl := hwk.symm
  refine st rfl rfl rfl rfl (x_not1 rfl) ?_
  refine rl_end rfl ?_
  refine al_k ?_
  refine cl_if0 rfl rfl ?_
  refine cl_skip rfl ?_
  refine al_k ?_
  refine cl_seq rfl ?_
  refine cl_reg rfl ?_
  refine st rfl rfl rfl rfl (x_move rfl) ?_
  refine st rfl rfl rfl rfl (x_ldn rfl Tryd.isAgg33 Tryd.sizeOf33 rfl (by intro j v hv; rw [Nat.zero_add]; exact b0.cell hv)) ?_
  refine sc rfl rfl rfl rfl (c_fn rfl Tryd.call31 (find_a _ k x K n g)) ?_
  rintro _ w3 ⟨rfl, fr⟩
  replace F := F.trans fr
  replace K := K.fr0 fr
  replace b0 := b0.fr0 fr
  rw [hfd]
  refine st rfl rfl rfl rfl (x_asg rfl) ?_
  refine rl_end rfl ?_
  refine al_k ?_
  refine cl_seq rfl ?_
  refine cl_seq rfl ?_
  refine cl_reg rfl ?_
  refine st rfl rfl rfl rfl (x_move rfl) ?_
  refine st rfl rfl rfl rfl (x_eqlp rfl rfl Tryd.underlying73) ?_
  refine rl_end rfl ?_
  refine al_k ?_
  refine cl_if0 rfl rfl ?_
  refine cl_skip rfl ?_
  refine al_k ?_
  refine cl_seq rfl ?_
  obtain ⟨h0, hs, hh, hg⟩ := find_some hfd
  have hsl := (List.getElem?_eq_some_iff.1 hs).1
  refine cl_reg rfl ?_
  refine st rfl rfl rfl rfl (x_move rfl) ?_
  refine st rfl rfl rfl rfl (x_nil rfl) ?_
  refine st rfl rfl rfl rfl (x_fa rfl Tryd.underlying68 rfl Tryd.sizeOf31 2 rfl) ?_
  refine st rfl rfl rfl rfl (x_ld rfl Tryd.isAgg31 (K.cSl hs rfl)) ?_
  refine st rfl rfl rfl rfl (x_asg rfl) ?_
  refine st rfl rfl rfl rfl (x_asg rfl) ?_
  refine rl_end rfl ?_
  refine al_k ?_
  refine cl_ret rfl ?_
  refine fin2 rfl rfl rfl ?_
  exact ⟨rfl, F⟩

theorem read_a (w : World) (k : AK) (x : Ar) (K : ArAt w k x) (n g : Int) : Cl Tryd.prog 13 [.pointer (some ⟨k.ap, 0, none⟩), .agg [.int .i64 n, .int .u64 g].toArray] w (fun r w' => r = .tuple #[.int .u64 (x.read n g).1, .int .i64 (x.read n g).2] ∧ Fr [] w w') := by
  unfold Ar.read
  cases h : x.find n g with
  | none => exact read_no w k x K n g h
  | some s => exact read_ok w k x K n g s h

theorem free_no (w : World) (k : AK) (x : Ar) (K : ArAt w k x) (n g : Int) (hfd : x.find n g = none) : Cl Tryd.prog 12 [.pointer (some ⟨k.ap, 0, none⟩), .agg [.int .i64 n, .int .u64 g].toArray] w (fun r w' => r = .int .i64 62 ∧ ArAt w' k x ∧ Fr [k.sb, k.ap, k.nb, k.hb] w w') := by
  have F := Fr.refl [k.sb, k.ap, k.nb, k.hb] w
  have hlt := K.lts
  have hpp := K.pp
  refine enter Tryd.func12 rfl Tryd.ntmps12 rfl ?_
  refine cl_seq rfl ?_
  refine cl_reg rfl ?_
  refine se rfl rfl rfl rfl (e_new (x_box (cs := [.int .i64 n, .int .u64 g]) rfl rfl)) ?_
  rintro _ w0 ⟨rfl, b0, fr, _⟩
  replace F := F.trans fr.of0
  replace K := K.fr0 fr
  generalize hbq : w.heap.size = bq at b0 hlt ⊢
  refine st rfl rfl rfl rfl (x_asg rfl) ?_
  refine rl_end rfl ?_
  refine al_k ?_
  refine cl_seq rfl ?_
  refine cl_seq rfl ?_
  refine cl_reg rfl ?_
  refine st rfl rfl rfl rfl (x_move rfl) ?_
  refine sc rfl rfl rfl rfl (c_fn rfl Tryd.call28 (is_a _ k x K)) ?_
  rintro _ wk ⟨rfl, hwk⟩
  obtain rfl := hwk.symm
  refine st rfl rfl rfl rfl (x_not1 rfl) ?_
  refine rl_end rfl ?_
  refine al_k ?_
  refine cl_if0 rfl rfl ?_
  refine cl_skip rfl ?_
  refine al_k ?_
  refine cl_seq rfl ?_
  refine cl_reg rfl ?_
  refine st rfl rfl rfl rfl (x_move rfl) ?_
  refine st rfl rfl rfl rfl (x_ldn rfl Tryd.isAgg33 Tryd.sizeOf33 rfl (by intro j v hv; rw [Nat.zero_add]; exact b0.cell hv)) ?_
  refine sc rfl rfl rfl rfl (c_fn rfl Tryd.call31 (find_a _ k x K n g)) ?_
  rintro _ w3 ⟨rfl, fr⟩
  replace F := F.trans fr.of0
  replace K := K.fr0 fr
  replace b0 := b0.fr0 fr
  rw [hfd]
  refine st rfl rfl rfl rfl (x_asg rfl) ?_
  refine rl_end rfl ?_
  refine al_k ?_
  refine cl_seq rfl ?_
  refine cl_seq rfl ?_
  refine cl_reg rfl ?_
  refine st rfl rfl rfl rfl (x_move rfl) ?_
  refine st rfl rfl rfl rfl (x_eqlp rfl rfl Tryd.underlying73) ?_
  refine rl_end rfl ?_
  refine al_k ?_
  refine cl_if1 rfl rfl ?_
  refine cl_seq rfl ?_
  refine cl_reg rfl ?_
  refine st rfl rfl rfl rfl (x_asg rfl) ?_
  refine rl_end rfl ?_
  refine al_k ?_
  refine cl_ret rfl ?_
  refine fin1 rfl rfl ?_
  exact ⟨rfl, K, F⟩

theorem free_ok (w : World) (k : AK) (x : Ar) (K : ArAt w k x) (n g : Int) (s : Sl) (hfd : x.find n g = some s) (hp0 : 0 ≤ s.part ∧ s.part < 16) (h : Int) (hpt : x.hs[s.part.toNat]? = some h) (hb : -1000000 ≤ h ∧ h ≤ 1000000) : Cl Tryd.prog 12 [.pointer (some ⟨k.ap, 0, none⟩), .agg [.int .i64 n, .int .u64 g].toArray] w (fun r w' => r = .int .i64 (aPush x.slots.length x.free s.part n false).2 ∧ ArAt w' k { x with slots := x.slots.set n.toNat { s with held := false, pay := 0, gen := IntKind.u64.wrap (s.gen + 1) }, hs := x.hs.set s.part.toNat (h - 1), free := (aPush x.slots.length x.free s.part n false).1 } ∧ Fr [k.sb, k.ap, k.nb, k.hb] w w') := by
  have F := Fr.refl [k.sb, k.ap, k.nb, k.hb] w
  have hlt := K.lts
  have hpp := K.pp
  refine enter Tryd.func12 rfl Tryd.ntmps12 rfl ?_
  refine cl_seq rfl ?_
  refine cl_reg rfl ?_
  refine se rfl rfl rfl rfl (e_new (x_box (cs := [.int .i64 n, .int .u64 g]) rfl rfl)) ?_
  rintro _ w0 ⟨rfl, b0, fr, _⟩
  replace F := F.trans fr.of0
  replace K := K.fr0 fr
  generalize hbq : w.heap.size = bq at b0 hlt ⊢
  refine st rfl rfl rfl rfl (x_asg rfl) ?_
  refine rl_end rfl ?_
  refine al_k ?_
  refine cl_seq rfl ?_
  refine cl_seq rfl ?_
  refine cl_reg rfl ?_
  refine st rfl rfl rfl rfl (x_move rfl) ?_
  refine sc rfl rfl rfl rfl (c_fn rfl Tryd.call28 (is_a _ k x K)) ?_
  rintro _ wk ⟨rfl, hwk⟩
  obtain rfl := hwk.symm
  refine st rfl rfl rfl rfl (x_not1 rfl) ?_
  refine rl_end rfl ?_
  refine al_k ?_
  refine cl_if0 rfl rfl ?_
  refine cl_skip rfl ?_
  refine al_k ?_
  refine cl_seq rfl ?_
  refine cl_reg rfl ?_
  refine st rfl rfl rfl rfl (x_move rfl) ?_
  refine st rfl rfl rfl rfl (x_ldn rfl Tryd.isAgg33 Tryd.sizeOf33 rfl (by intro j v hv; rw [Nat.zero_add]; exact b0.cell hv)) ?_
  refine sc rfl rfl rfl rfl (c_fn rfl Tryd.call31 (find_a _ k x K n g)) ?_
  rintro _ w3 ⟨rfl, fr⟩
  replace F := F.trans fr.of0
  replace K := K.fr0 fr
  replace b0 := b0.fr0 fr
  rw [hfd]
  refine st rfl rfl rfl rfl (x_asg rfl) ?_
  refine rl_end rfl ?_
  refine al_k ?_
  refine cl_seq rfl ?_
  refine cl_seq rfl ?_
  refine cl_reg rfl ?_
  refine st rfl rfl rfl rfl (x_move rfl) ?_
  refine st rfl rfl rfl rfl (x_eqlp rfl rfl Tryd.underlying73) ?_
  refine rl_end rfl ?_
  refine al_k ?_
  refine cl_if0 rfl rfl ?_
  refine cl_skip rfl ?_
  refine al_k ?_
  refine cl_seq rfl ?_
  obtain ⟨h0, hs, hh, hg⟩ := find_some hfd
  have hsl := (List.getElem?_eq_some_iff.1 hs).1
  obtain ⟨eA, rest, bS⟩ := K.sl (ne_of_at hs)
  have hsb := bS.lt
  have hsb0 := hlt.2 (ne_of_at hs)
  have hs1 : (x.slots.set n.toNat { s with held := false })[n.toNat]? = some { s with held := false } := by simp [hsl]
  have hs2 : ((x.slots.set n.toNat { s with held := false }).set n.toNat { s with held := false, pay := 0 })[n.toNat]? = some { s with held := false, pay := 0 } := by simp [hsl]
  have hs3 : (((x.slots.set n.toNat { s with held := false }).set n.toNat { s with held := false, pay := 0 }).set n.toNat { s with held := false, pay := 0, gen := IntKind.u64.wrap (s.gen + 1) })[n.toNat]? = some { s with held := false, pay := 0, gen := IntKind.u64.wrap (s.gen + 1) } := by simp [hsl]
  refine cl_reg rfl ?_
  refine st rfl rfl rfl rfl (x_move rfl) ?_
  refine st rfl rfl rfl rfl (x_move rfl) ?_
  refine st rfl rfl rfl rfl (x_nil rfl) ?_
  refine st rfl rfl rfl rfl (x_fa rfl Tryd.underlying68 rfl Tryd.sizeOf4 3 rfl) ?_
  obtain ⟨_, rest61, bS61⟩ := K.sl (ne_of_at hs)
  refine sv rfl rfl rfl (v_1 rfl rfl rfl rfl Tryd.sizeOf4 bS61 (by rw [List.length_append, flat_length lenS]; (try simp only [List.length_set]); omega)) ?_
  rintro w61 ⟨bT61, fr61⟩
  replace K := K.setS (s' := { s with held := false }) hs (by decide) rfl bS61 bT61 fr61
  replace b0 := b0.fr fr61 (by simp; omega)
  replace F := F.trans (fr61.mono (by simp))
  refine st rfl rfl rfl rfl (x_nil rfl) ?_
  refine st rfl rfl rfl rfl (x_fa rfl Tryd.underlying68 rfl Tryd.sizeOf31 2 rfl) ?_
  obtain ⟨_, rest62, bS62⟩ := K.sl (ne_of_at hs1)
  refine sv rfl rfl rfl (v_1 rfl rfl rfl rfl Tryd.sizeOf31 bS62 (by rw [List.length_append, flat_length lenS]; (try simp only [List.length_set]); omega)) ?_
  rintro w62 ⟨bT62, fr62⟩
  replace K := K.setS (s' := { s with held := false, pay := 0 }) hs1 (by decide) rfl bS62 bT62 fr62
  replace b0 := b0.fr fr62 (by simp; omega)
  replace F := F.trans (fr62.mono (by simp))
  refine rl_end rfl ?_
  refine al_k ?_
  refine cl_seq rfl ?_
  refine cl_reg rfl ?_
  refine st rfl rfl rfl rfl (x_move rfl) ?_
  refine st rfl rfl rfl rfl (x_nil rfl) ?_
  refine st rfl rfl rfl rfl (x_fa rfl Tryd.underlying68 rfl Tryd.sizeOf31 1 rfl) ?_
  refine st rfl rfl rfl rfl (x_ld rfl Tryd.isAgg31 (K.cSl hs2 rfl)) ?_
  refine st rfl rfl rfl rfl (x_addw rfl rfl) ?_
  refine st rfl rfl rfl rfl (x_nil rfl) ?_
  refine st rfl rfl rfl rfl (x_fa rfl Tryd.underlying68 rfl Tryd.sizeOf31 1 rfl) ?_
  obtain ⟨_, rest71, bS71⟩ := K.sl (ne_of_at hs2)
  refine sv rfl rfl rfl (v_1 rfl rfl rfl rfl Tryd.sizeOf31 bS71 (by rw [List.length_append, flat_length lenS]; (try simp only [List.length_set]); omega)) ?_
  rintro w71 ⟨bT71, fr71⟩
  replace K := K.setS (s' := { s with held := false, pay := 0, gen := IntKind.u64.wrap (s.gen + 1) }) hs2 (by decide) rfl bS71 bT71 fr71
  replace b0 := b0.fr fr71 (by simp; omega)
  replace F := F.trans (fr71.mono (by simp))
  refine rl_end rfl ?_
  refine al_k ?_
  refine cl_seq rfl ?_
  refine cl_draw (by kernel_rfl) rfl [13] (fun w' => w'.heap = w71.heap) ?_
  rintro wd8 frd8 hpd8
  refine ⟨hpd8, ?_⟩
  refine dt (i := 0) rfl rfl rfl rfl (by kernel_rfl) (fun _ => x_move rfl) ?_
  refine dt (i := 1) rfl rfl rfl rfl (by kernel_rfl) (fun _ => x_move rfl) ?_
  refine dt (i := 2) rfl rfl rfl rfl (by kernel_rfl) (fun _ => x_nil rfl) ?_
  refine dt (i := 3) rfl rfl rfl rfl (by kernel_rfl) (fun _ => x_fa rfl Tryd.underlying68 rfl Tryd.sizeOf3 0 rfl) ?_
  refine dl (i := 4) rfl rfl rfl rfl (by kernel_rfl) (by kernel_rfl) (fun w' hU => x_ld rfl Tryd.isAgg3 (heq hU (K.cSl hs3 rfl))) ?_
  refine dt (i := 5) rfl rfl rfl rfl (by kernel_rfl) (fun _ => x_nil rfl) ?_
  refine dt (i := 6) rfl rfl rfl rfl (by kernel_rfl) (fun _ => x_fa rfl Tryd.underlying64 rfl Tryd.sizeOf62 2 rfl) ?_
  refine dt (i := 7) rfl rfl rfl rfl (by kernel_rfl) (fun _ => x_iaa rfl rfl Tryd.underlying62 Tryd.sizeOf3 (by omega)) ?_
  refine dl (i := 8) rfl rfl rfl rfl (by kernel_rfl) (by kernel_rfl) (fun w' hU => x_ld rfl Tryd.isAgg3 (heq hU (by simpa using K.cH hpt))) ?_
  refine dt (i := 9) rfl rfl rfl rfl (by kernel_rfl) (fun _ => x_sub rfl rfl (by omega)) ?_
  refine dt (i := 10) rfl rfl rfl rfl (by kernel_rfl) (fun _ => x_nil rfl) ?_
  refine dt (i := 11) rfl rfl rfl rfl (by kernel_rfl) (fun _ => x_fa rfl Tryd.underlying64 rfl Tryd.sizeOf62 2 rfl) ?_
  refine dt (i := 12) rfl rfl rfl rfl (by kernel_rfl) (fun _ => x_iaa rfl rfl Tryd.underlying62 Tryd.sizeOf3 (by omega)) ?_
  replace F := F.trans frd8.of0
  replace K := K.fr0 frd8
  replace b0 := b0.fr0 frd8
  refine d1 (i := 13) (by kernel_rfl) ?_
  refine osv rfl rfl rfl (v_1 rfl rfl rfl rfl Tryd.sizeOf3 K.top (by simp [topC, ints, K.hl]; omega)) ?_
  rintro w8 ⟨bT2, fr8⟩
  replace K := K.setH (i := s.part.toNat) (h := h - 1) (by omega) (by simpa using bT2) fr8
  replace b0 := b0.fr fr8 (by simp; omega)
  replace F := F.trans (fr8.mono (by simp))
  refine ⟨.inl (by kernel_rfl), ?_⟩
  refine dn (by kernel_rfl) ?_
  refine al_k ?_
  refine cl_seq rfl ?_
  refine cl_draw (by kernel_rfl) rfl [10] (fun w' => w'.heap = w8.heap) ?_
  rintro wd9 frd9 hpd9
  refine ⟨hpd9, ?_⟩
  refine dt (i := 0) rfl rfl rfl rfl (by kernel_rfl) (fun _ => x_move rfl) ?_
  refine dt (i := 1) rfl rfl rfl rfl (by kernel_rfl) (fun _ => x_nil rfl) ?_
  refine dt (i := 2) rfl rfl rfl rfl (by kernel_rfl) (fun _ => x_fa rfl Tryd.underlying64 rfl Tryd.sizeOf61 1 rfl) ?_
  refine dl (i := 3) rfl rfl rfl rfl (by kernel_rfl) (by kernel_rfl) (fun w' hU => x_ld rfl Tryd.isAgg61 (heq hU K.cP)) ?_
  refine dt (i := 4) rfl rfl rfl rfl (by kernel_rfl) (fun _ => x_move rfl) ?_
  refine dt (i := 5) rfl rfl rfl rfl (by kernel_rfl) (fun _ => x_nil rfl) ?_
  refine dt (i := 6) rfl rfl rfl rfl (by kernel_rfl) (fun _ => x_fa rfl Tryd.underlying68 rfl Tryd.sizeOf3 0 rfl) ?_
  refine dl (i := 7) rfl rfl rfl rfl (by kernel_rfl) (by kernel_rfl) (fun w' hU => x_ld rfl Tryd.isAgg3 (heq hU (K.cSl hs3 rfl))) ?_
  refine dt (i := 8) rfl rfl rfl rfl (by kernel_rfl) (fun _ => x_fa rfl Tryd.underlying33 rfl Tryd.sizeOf3 0 rfl) ?_
  refine dl (i := 9) rfl rfl rfl rfl (by kernel_rfl) (by kernel_rfl) (fun w' hU => x_ld rfl Tryd.isAgg3 (heq hU (b0.cell rfl))) ?_
  replace F := F.trans frd9.of0
  replace K := K.fr0 frd9
  replace b0 := b0.fr0 frd9
  refine d1 (i := 10) (by kernel_rfl) ?_
  refine oc rfl rfl rfl rfl (c_fn rfl Tryd.call27 (push_r K.Q s.part n)) ?_
  rintro _ w9 ⟨rfl, Q, fr⟩
  replace K := K.setF Q fr
  replace F := F.trans (fr.mono (by simp))
  refine ⟨.inl (by kernel_rfl), ?_⟩
  refine dt (i := 11) rfl rfl rfl rfl (by kernel_rfl) (fun _ => x_asg rfl) ?_
  refine dn (by kernel_rfl) ?_
  refine al_k ?_
  refine cl_ret rfl ?_
  refine fin1 rfl rfl ?_
  simp only [List.length_set, List.set_set] at K
  exact ⟨by simp only [List.length_set], K, F⟩

end Go.Proofs.YtjjaijabdfoanaaDoor.Arn
