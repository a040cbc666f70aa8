/- The reference of the lists: the walks of what changes them. -/
import Derived.Test.YtnnhpbjibhnhnabDoorLsW9
set_option linter.unusedVariables false
namespace Go.Proofs.YtnnhpbjibhnhnabDoor.Ls
open Go Go.RowKit Go.Proofs.YtnnhpbjibhnhnabDoor.Sx Go.Proofs.YtnnhpbjibhnhnabDoor
set_option maxRecDepth 100000

theorem rpush_true (w : World) (B0 B rp lb N : Nat) (ls : Rows) (R : RefAt w B0 B rp lb N ls) (hB : ∀ (i : Nat) l, ls[i]? = some l → l.length ≤ 65536) (li nd : Int) : Cl Tryd.prog 31 [.pointer (some ⟨rp, 0, none⟩), .int .i64 li, .int .i64 nd, .bool true] w (fun v w' => v = .int .i64 (aPush N ls li nd true).2 ∧ RefAt w' B0 B rp lb N (aPush N ls li nd true).1 ∧ Fr [lb] w w') := by
  have F := Fr.refl [lb] w
  refine enter Tryd.func31 rfl Tryd.ntmps31 rfl ?_
  refine cl_seq rfl ?_
  refine cl_reg rfl ?_
  refine st rfl rfl rfl rfl (x_asg rfl) ?_
  refine rl_end rfl ?_
  refine al_k ?_
  refine cl_seq rfl ?_
  refine cl_seq rfl ?_
  refine cl_reg rfl ?_
  refine st rfl rfl rfl rfl (x_move rfl) ?_
  refine st rfl rfl rfl rfl (x_move rfl) ?_
  refine sc rfl rfl rfl rfl (c_fn rfl Tryd.call36 (ris_c _ B0 B rp lb N ls R li)) ?_
  rintro _ wk ⟨rfl, hwk⟩
  obtain rfl := hwk.symm
  cases hf1_2 : (decide (okL ls li))
  · skip
    refine st rfl rfl rfl rfl (x_not0 rfl) ?_
    refine st rfl rfl rfl rfl (x_move rfl) ?_
    refine so rfl rfl rfl rfl ?_
    refine so rfl rfl rfl rfl ?_
    refine so rfl rfl rfl rfl ?_
    refine so rfl rfl rfl rfl ?_
    refine st rfl rfl rfl rfl (x_pick1 rfl rfl) ?_
    refine rl_end rfl ?_
    refine al_k ?_
    refine cl_if1 rfl rfl ?_
    refine cl_seq rfl ?_
    refine cl_reg rfl ?_
    refine st rfl rfl rfl rfl (x_asg rfl) ?_
    refine rl_end rfl ?_
    refine al_k ?_
    refine cl_ret rfl ?_
    refine fin1 rfl rfl ?_
    rw [show aPush N ls li nd true = (ls, 5) from if_neg (fun h => by rw [decide_eq_true h.1] at hf1_2; cases hf1_2)]
    exact ⟨rfl, R, F⟩
  · skip
    refine st rfl rfl rfl rfl (x_not1 rfl) ?_
    refine st rfl rfl rfl rfl (x_move rfl) ?_
    refine st rfl rfl rfl rfl (x_move rfl) ?_
    refine st rfl rfl rfl rfl (x_move rfl) ?_
    refine sc rfl rfl rfl rfl (c_fn rfl Tryd.call46 (rnode_c _ B0 B rp lb N ls R nd)) ?_
    rintro _ wk ⟨rfl, hwk⟩
    obtain rfl := hwk.symm
    cases hf1_7 : (decide (okN N nd))
    · skip
      refine st rfl rfl rfl rfl (x_not0 rfl) ?_
      refine st rfl rfl rfl rfl (x_pick0 rfl rfl) ?_
      refine rl_end rfl ?_
      refine al_k ?_
      refine cl_if1 rfl rfl ?_
      refine cl_seq rfl ?_
      refine cl_reg rfl ?_
      refine st rfl rfl rfl rfl (x_asg rfl) ?_
      refine rl_end rfl ?_
      refine al_k ?_
      refine cl_ret rfl ?_
      refine fin1 rfl rfl ?_
      rw [show aPush N ls li nd true = (ls, 5) from if_neg (fun h => by rw [decide_eq_true h.2] at hf1_7; cases hf1_7)]
      exact ⟨rfl, R, F⟩
    · skip
      refine st rfl rfl rfl rfl (x_not1 rfl) ?_
      refine st rfl rfl rfl rfl (x_pick0 rfl rfl) ?_
      refine rl_end rfl ?_
      refine al_k ?_
      refine cl_if0 rfl rfl ?_
      refine cl_skip rfl ?_
      refine al_k ?_
      refine cl_seq rfl ?_
      refine cl_seq rfl ?_
      refine cl_reg rfl ?_
      refine st rfl rfl rfl rfl (x_move rfl) ?_
      refine st rfl rfl rfl rfl (x_move rfl) ?_
      refine sc rfl rfl rfl rfl (c_fn rfl Tryd.call47 (rat_c _ B0 B rp lb N ls R hB nd)) ?_
      rintro _ wk ⟨rfl, hwk⟩
      obtain rfl := hwk.symm
      refine sf rfl rfl rfl rfl (x_geq rfl rfl) (fun c3_3 => ?_) (fun c3_3 => ?_)
      · skip
        refine rl_end rfl ?_
        refine al_k ?_
        refine cl_if1 rfl rfl ?_
        refine cl_seq rfl ?_
        refine cl_reg rfl ?_
        refine st rfl rfl rfl rfl (x_asg rfl) ?_
        refine rl_end rfl ?_
        refine al_k ?_
        refine cl_ret rfl ?_
        refine fin1 rfl rfl ?_
        have hok : okL ls li ∧ okN N nd := ⟨of_decide_eq_true hf1_2, of_decide_eq_true hf1_7⟩
        obtain ⟨i, l, hi, _, _⟩ := atI_in (ls := ls) (n := nd) (by omega)
        rw [show aPush N ls li nd true = (ls, 50) from by simp [aPush, hok, hi]]
        exact ⟨rfl, R, F⟩
      · skip
        refine rl_end rfl ?_
        refine al_k ?_
        refine cl_if0 rfl rfl ?_
        refine cl_skip rfl ?_
        refine al_k ?_
        refine cl_seq rfl ?_
        refine cl_seq rfl ?_
        refine cl_reg rfl ?_
        refine st rfl rfl rfl rfl (x_move rfl) ?_
        refine rl_end rfl ?_
        refine al_k ?_
        refine cl_if1 rfl rfl ?_
        have hok : okL ls li ∧ okN N nd := ⟨of_decide_eq_true hf1_2, of_decide_eq_true hf1_7⟩
        have hi := atI_out (n := nd) (ls := ls) (by omega)
        have hl := rowAt_some hok.1
        have hll := hB _ _ hl
        obtain ⟨hok1, hok2⟩ := hok.1
        have hok3 := hok.2
        obtain ⟨A0, c0, C⟩ := R.rowc hl
        refine cl_draw (by kernel_rfl) rfl [16] (fun w' => RowC w' B0 B rp lb N ls (li.toNat * 1) A0 c0 (rowAt ls li)) ?_
        rintro wd6 frd6 hpd6
        replace C := C.fr0 frd6
        replace F := F.trans frd6.of0
        replace R := C.R
        have Cd := C
        have Fe := F
        have Fd := Fr.refl [] wd6
        refine ⟨C, ?_⟩
        refine dt (i := 0) rfl rfl rfl rfl (by kernel_rfl) (fun _ => x_move rfl) ?_
        refine dt (i := 1) rfl rfl rfl rfl (by kernel_rfl) (fun _ => x_nil rfl) ?_
        refine dt (i := 2) rfl rfl rfl rfl (by kernel_rfl) (fun _ => x_fa rfl Tryd.underlying69 rfl Tryd.sizeOf67 1 rfl) ?_
        refine dl (i := 3) rfl rfl rfl rfl (by kernel_rfl) (by kernel_rfl) (fun w' hU => x_ld rfl Tryd.isAgg67 (hU.R.top.cell rfl)) ?_
        refine dt (i := 4) rfl rfl rfl rfl (by kernel_rfl) (fun _ => x_move rfl) ?_
        refine dt (i := 5) rfl rfl rfl rfl (by kernel_rfl) (fun _ => x_move rfl) ?_
        refine dt (i := 7) rfl rfl rfl rfl (by kernel_rfl) (fun _ => x_move rfl) ?_
        refine dt (i := 8) rfl rfl rfl rfl (by kernel_rfl) (fun _ => x_nil rfl) ?_
        refine dt (i := 9) rfl rfl rfl rfl (by kernel_rfl) (fun _ => x_fa rfl Tryd.underlying69 rfl Tryd.sizeOf67 1 rfl) ?_
        refine dl (i := 10) rfl rfl rfl rfl (by kernel_rfl) (by kernel_rfl) (fun w' hU => x_ld rfl Tryd.isAgg67 (hU.R.top.cell rfl)) ?_
        refine dt (i := 11) rfl rfl rfl rfl (by kernel_rfl) (fun _ => x_move rfl) ?_
        refine dt (i := 12) rfl rfl rfl rfl (by kernel_rfl) (fun _ => x_ia0 rfl rfl Tryd.underlying67 Tryd.sizeOf40 (by omega)) ?_
        refine dl (i := 13) rfl rfl rfl rfl (by kernel_rfl) (by kernel_rfl) (fun w' hU => x_ld rfl Tryd.isAgg40 hU.cell) ?_
        refine d1 (i := 6) (by kernel_rfl) ?_
        have gd := Fd.size
        refine oe rfl rfl rfl rfl (e_new (x_bsl rfl (bsl1 Tryd.underlying40 Tryd.sizeOf3 Tryd.zeroValue3 rfl rfl))) ?_
        rintro _ w6_6 ⟨rfl, b6_6, fr6_6, sz6_6⟩
        replace F := F.trans fr6_6.of0
        replace R := R.fr0 fr6_6
        replace C := C.fr0 fr6_6
        replace Fd := Fd.trans fr6_6
        refine ⟨.inr C, ?_⟩
        refine d1 (i := 14) (by kernel_rfl) ?_
        have HOL := own_lit (base := World.heap wd6 |>.size) (n := 1) (size := 1) b6_6 gd rfl (by decide)
        refine oe rfl rfl rfl rfl (e_appv 1 8 (.int .i64 0) (ints (rowAt ls li)) rfl rfl Tryd.underlying40 (by kernel_rfl) rfl (by decide) HOL (ints_len _) C.nil C.row (ints_one _) (by omega) (by omega) Fd.size) ?_
        rintro v6_14 w6_14 ⟨HO, hg, hat⟩
        replace Fd := Fd.grown hg (own_ge HOL)
        replace C := Cd.fr0 Fd
        replace F := Fe.trans Fd.of0
        replace R := C.R
        refine ⟨.inr C, ?_⟩
        refine dt (i := 15) rfl rfl rfl rfl (by kernel_rfl) (fun _ => x_ia0 rfl rfl Tryd.underlying67 Tryd.sizeOf40 (by omega)) ?_
        refine d1 (i := 16) (by kernel_rfl) ?_
        rw [Nat.add_comm, ints1] at HO
        obtain ⟨A1, c1, rfl, _⟩ := own_slice HO
        obtain ⟨vs, hb, hvl, _⟩ := C.R.rows
        refine osv rfl rfl rfl (v_1 rfl rfl rfl rfl Tryd.sizeOf40 hb (by rw [hvl, Nat.mul_one]; (exact (List.getElem?_eq_some_iff.1 hl).1))) ?_
        rintro ws6 ⟨hS, frS⟩
        replace R := C.R.set (l := nd :: rowAt ls li) hb hS frS ((RowV.own HO Cd.R.sB).fr frS (by simpa using C.R.lB))
        replace F := F.trans frS
        refine ⟨.inl (by kernel_rfl), ?_⟩
        refine dn (by kernel_rfl) ?_
        refine al_k ?_
        refine cl_seq rfl ?_
        refine cl_reg rfl ?_
        refine st rfl rfl rfl rfl (x_asg rfl) ?_
        refine rl_end rfl ?_
        refine al_k ?_
        refine cl_ret rfl ?_
        refine fin1 rfl rfl ?_
        rw [show aPush N ls li nd true = (ls.set li.toNat (nd :: rowAt ls li), 0) from by simp [aPush, hok, hi]]
        exact ⟨rfl, R, F⟩

theorem rpush_false (w : World) (B0 B rp lb N : Nat) (ls : Rows) (R : RefAt w B0 B rp lb N ls) (hB : ∀ (i : Nat) l, ls[i]? = some l → l.length ≤ 65536) (li nd : Int) : Cl Tryd.prog 31 [.pointer (some ⟨rp, 0, none⟩), .int .i64 li, .int .i64 nd, .bool false] w (fun v w' => v = .int .i64 (aPush N ls li nd false).2 ∧ RefAt w' B0 B rp lb N (aPush N ls li nd false).1 ∧ Fr [lb] w w') := by
  have F := Fr.refl [lb] w
  refine enter Tryd.func31 rfl Tryd.ntmps31 rfl ?_
  refine cl_seq rfl ?_
  refine cl_reg rfl ?_
  refine st rfl rfl rfl rfl (x_asg rfl) ?_
  refine rl_end rfl ?_
  refine al_k ?_
  refine cl_seq rfl ?_
  refine cl_seq rfl ?_
  refine cl_reg rfl ?_
  refine st rfl rfl rfl rfl (x_move rfl) ?_
  refine st rfl rfl rfl rfl (x_move rfl) ?_
  refine sc rfl rfl rfl rfl (c_fn rfl Tryd.call36 (ris_c _ B0 B rp lb N ls R li)) ?_
  rintro _ wk ⟨rfl, hwk⟩
  obtain rfl := hwk.symm
  cases hf1_2 : (decide (okL ls li))
  · skip
    refine st rfl rfl rfl rfl (x_not0 rfl) ?_
    refine st rfl rfl rfl rfl (x_move rfl) ?_
    refine so rfl rfl rfl rfl ?_
    refine so rfl rfl rfl rfl ?_
    refine so rfl rfl rfl rfl ?_
    refine so rfl rfl rfl rfl ?_
    refine st rfl rfl rfl rfl (x_pick1 rfl rfl) ?_
    refine rl_end rfl ?_
    refine al_k ?_
    refine cl_if1 rfl rfl ?_
    refine cl_seq rfl ?_
    refine cl_reg rfl ?_
    refine st rfl rfl rfl rfl (x_asg rfl) ?_
    refine rl_end rfl ?_
    refine al_k ?_
    refine cl_ret rfl ?_
    refine fin1 rfl rfl ?_
    rw [show aPush N ls li nd false = (ls, 5) from if_neg (fun h => by rw [decide_eq_true h.1] at hf1_2; cases hf1_2)]
    exact ⟨rfl, R, F⟩
  · skip
    refine st rfl rfl rfl rfl (x_not1 rfl) ?_
    refine st rfl rfl rfl rfl (x_move rfl) ?_
    refine st rfl rfl rfl rfl (x_move rfl) ?_
    refine st rfl rfl rfl rfl (x_move rfl) ?_
    refine sc rfl rfl rfl rfl (c_fn rfl Tryd.call46 (rnode_c _ B0 B rp lb N ls R nd)) ?_
    rintro _ wk ⟨rfl, hwk⟩
    obtain rfl := hwk.symm
    cases hf1_7 : (decide (okN N nd))
    · skip
      refine st rfl rfl rfl rfl (x_not0 rfl) ?_
      refine st rfl rfl rfl rfl (x_pick0 rfl rfl) ?_
      refine rl_end rfl ?_
      refine al_k ?_
      refine cl_if1 rfl rfl ?_
      refine cl_seq rfl ?_
      refine cl_reg rfl ?_
      refine st rfl rfl rfl rfl (x_asg rfl) ?_
      refine rl_end rfl ?_
      refine al_k ?_
      refine cl_ret rfl ?_
      refine fin1 rfl rfl ?_
      rw [show aPush N ls li nd false = (ls, 5) from if_neg (fun h => by rw [decide_eq_true h.2] at hf1_7; cases hf1_7)]
      exact ⟨rfl, R, F⟩
    · skip
      refine st rfl rfl rfl rfl (x_not1 rfl) ?_
      refine st rfl rfl rfl rfl (x_pick0 rfl rfl) ?_
      refine rl_end rfl ?_
      refine al_k ?_
      refine cl_if0 rfl rfl ?_
      refine cl_skip rfl ?_
      refine al_k ?_
      refine cl_seq rfl ?_
      refine cl_seq rfl ?_
      refine cl_reg rfl ?_
      refine st rfl rfl rfl rfl (x_move rfl) ?_
      refine st rfl rfl rfl rfl (x_move rfl) ?_
      refine sc rfl rfl rfl rfl (c_fn rfl Tryd.call47 (rat_c _ B0 B rp lb N ls R hB nd)) ?_
      rintro _ wk ⟨rfl, hwk⟩
      obtain rfl := hwk.symm
      refine sf rfl rfl rfl rfl (x_geq rfl rfl) (fun c3_3 => ?_) (fun c3_3 => ?_)
      · skip
        refine rl_end rfl ?_
        refine al_k ?_
        refine cl_if1 rfl rfl ?_
        refine cl_seq rfl ?_
        refine cl_reg rfl ?_
        refine st rfl rfl rfl rfl (x_asg rfl) ?_
        refine rl_end rfl ?_
        refine al_k ?_
        refine cl_ret rfl ?_
        refine fin1 rfl rfl ?_
        have hok : okL ls li ∧ okN N nd := ⟨of_decide_eq_true hf1_2, of_decide_eq_true hf1_7⟩
        obtain ⟨i, l, hi, _, _⟩ := atI_in (ls := ls) (n := nd) (by omega)
        rw [show aPush N ls li nd false = (ls, 50) from by simp [aPush, hok, hi]]
        exact ⟨rfl, R, F⟩
      · skip
        refine rl_end rfl ?_
        refine al_k ?_
        refine cl_if0 rfl rfl ?_
        refine cl_skip rfl ?_
        refine al_k ?_
        refine cl_seq rfl ?_
        refine cl_seq rfl ?_
        refine cl_reg rfl ?_
        refine st rfl rfl rfl rfl (x_move rfl) ?_
        refine rl_end rfl ?_
        refine al_k ?_
        refine cl_if0 rfl rfl ?_
        have hok : okL ls li ∧ okN N nd := ⟨of_decide_eq_true hf1_2, of_decide_eq_true hf1_7⟩
        have hi := atI_out (n := nd) (ls := ls) (by omega)
        have hl := rowAt_some hok.1
        have hll := hB _ _ hl
        obtain ⟨hok1, hok2⟩ := hok.1
        have hok3 := hok.2
        obtain ⟨A0, c0, C⟩ := R.rowc hl
        refine cl_draw (by kernel_rfl) rfl [18] (fun w' => RowC w' B0 B rp lb N ls (li.toNat * 1) A0 c0 (rowAt ls li)) ?_
        rintro wd7 frd7 hpd7
        replace C := C.fr0 frd7
        replace F := F.trans frd7.of0
        replace R := C.R
        have Cd := C
        have Fe := F
        have Fd := Fr.refl [] wd7
        refine ⟨C, ?_⟩
        refine dt (i := 0) rfl rfl rfl rfl (by kernel_rfl) (fun _ => x_move rfl) ?_
        refine dt (i := 1) rfl rfl rfl rfl (by kernel_rfl) (fun _ => x_nil rfl) ?_
        refine dt (i := 2) rfl rfl rfl rfl (by kernel_rfl) (fun _ => x_fa rfl Tryd.underlying69 rfl Tryd.sizeOf67 1 rfl) ?_
        refine dl (i := 3) rfl rfl rfl rfl (by kernel_rfl) (by kernel_rfl) (fun w' hU => x_ld rfl Tryd.isAgg67 (hU.R.top.cell rfl)) ?_
        refine dt (i := 4) rfl rfl rfl rfl (by kernel_rfl) (fun _ => x_move rfl) ?_
        refine dt (i := 6) rfl rfl rfl rfl (by kernel_rfl) (fun _ => x_move rfl) ?_
        refine dt (i := 7) rfl rfl rfl rfl (by kernel_rfl) (fun _ => x_nil rfl) ?_
        refine dt (i := 8) rfl rfl rfl rfl (by kernel_rfl) (fun _ => x_fa rfl Tryd.underlying69 rfl Tryd.sizeOf67 1 rfl) ?_
        refine dl (i := 9) rfl rfl rfl rfl (by kernel_rfl) (by kernel_rfl) (fun w' hU => x_ld rfl Tryd.isAgg67 (hU.R.top.cell rfl)) ?_
        refine dt (i := 10) rfl rfl rfl rfl (by kernel_rfl) (fun _ => x_move rfl) ?_
        refine dt (i := 11) rfl rfl rfl rfl (by kernel_rfl) (fun _ => x_ia0 rfl rfl Tryd.underlying67 Tryd.sizeOf40 (by omega)) ?_
        refine dl (i := 12) rfl rfl rfl rfl (by kernel_rfl) (by kernel_rfl) (fun w' hU => x_ld rfl Tryd.isAgg40 hU.cell) ?_
        refine dt (i := 14) rfl rfl rfl rfl (by kernel_rfl) (fun _ => x_move rfl) ?_
        refine d2 (i := 5) (j := 15) (by kernel_rfl) ?_ ?_
        · skip
          have gd := Fd.size
          refine oe rfl rfl rfl rfl (e_new (x_bsl rfl (bsl0 Tryd.underlying40 Tryd.sizeOf3))) ?_
          rintro _ w7_5 ⟨rfl, b7_5, fr7_5, sz7_5⟩
          replace F := F.trans fr7_5.of0
          replace R := R.fr0 fr7_5
          replace C := C.fr0 fr7_5
          replace Fd := Fd.trans fr7_5
          refine ⟨.inr C, ?_⟩
          refine d2 (i := 13) (j := 15) (by kernel_rfl) ?_ ?_
          · skip
            have HOL := own_lit (base := World.heap wd7 |>.size) (n := 0) (size := 1) b7_5 gd rfl (by decide)
            refine oe rfl rfl rfl rfl (e_appv 1 8 (.int .i64 0) (ints (rowAt ls li)) rfl rfl Tryd.underlying40 (by kernel_rfl) rfl (by decide) HOL (ints_len _) C.nil C.row (ints_one _) (by omega) (by omega) Fd.size) ?_
            rintro v7_13 w7_13 ⟨HO, hg, hat⟩
            replace Fd := Fd.grown hg (own_ge HOL)
            replace C := Cd.fr0 Fd
            replace F := Fe.trans Fd.of0
            replace R := C.R
            rw [Nat.zero_add, List.nil_append] at HO
            refine ⟨.inr C, ?_⟩
            refine d1 (i := 15) (by kernel_rfl) ?_
            refine oe rfl rfl rfl rfl (e_new (x_bsl rfl (bsl1 Tryd.underlying40 Tryd.sizeOf3 Tryd.zeroValue3 rfl rfl))) ?_
            rintro _ w7_15 ⟨rfl, b7_15, fr7_15, sz7_15⟩
            replace F := F.trans fr7_15.of0
            replace R := R.fr0 fr7_15
            replace C := C.fr0 fr7_15
            replace Fd := Fd.trans fr7_15
            replace HO := own_fr0 HO fr7_15
            refine ⟨.inr C, ?_⟩
            refine d1 (i := 16) (by kernel_rfl) ?_
            refine oe rfl rfl rfl rfl (e_app 1 8 (.int .i64 0) [.int .i64 nd] rfl rfl Tryd.underlying40 (by kernel_rfl) rfl (by decide) HO rfl b7_15.news (by simp; rfl) (by omega) (by omega) Fd.size) ?_
            rintro v7_16 w7_16 ⟨HO1, hg, hat⟩
            replace Fd := Fd.grown hg (own_ge HO)
            replace C := Cd.fr0 Fd
            replace F := Fe.trans Fd.of0
            replace R := C.R
            rw [ints2] at HO1
            replace HO : World.ownsRow w7_16 (World.heap wd7).size 3 1 v7_16 ((rowAt ls li) ++ [nd]).length (ints ((rowAt ls li) ++ [nd])) := by rw [List.length_append]; exact HO1
            refine ⟨.inr C, ?_⟩
            refine dt (i := 17) rfl rfl rfl rfl (by kernel_rfl) (fun _ => x_ia0 rfl rfl Tryd.underlying67 Tryd.sizeOf40 (by omega)) ?_
            refine d1 (i := 18) (by kernel_rfl) ?_
            obtain ⟨A1, c1, rfl, _⟩ := own_slice HO
            obtain ⟨vs, hb, hvl, _⟩ := C.R.rows
            refine osv rfl rfl rfl (v_1 rfl rfl rfl rfl Tryd.sizeOf40 hb (by rw [hvl, Nat.mul_one]; (exact (List.getElem?_eq_some_iff.1 hl).1))) ?_
            rintro ws7 ⟨hS, frS⟩
            replace R := C.R.set (l := rowAt ls li ++ [nd]) hb hS frS ((RowV.own HO Cd.R.sB).fr frS (by simpa using C.R.lB))
            replace F := F.trans frS
            refine ⟨.inl (by kernel_rfl), ?_⟩
            refine dn (by kernel_rfl) ?_
            refine al_k ?_
            refine cl_seq rfl ?_
            refine cl_reg rfl ?_
            refine st rfl rfl rfl rfl (x_asg rfl) ?_
            refine rl_end rfl ?_
            refine al_k ?_
            refine cl_ret rfl ?_
            refine fin1 rfl rfl ?_
            rw [show aPush N ls li nd false = (ls.set li.toNat (rowAt ls li ++ [nd]), 0) from by simp [aPush, hok, hi]]
            exact ⟨rfl, R, F⟩
          · skip
            refine oe rfl rfl rfl rfl (e_new (x_bsl rfl (bsl1 Tryd.underlying40 Tryd.sizeOf3 Tryd.zeroValue3 rfl rfl))) ?_
            rintro _ w7_15 ⟨rfl, b7_15, fr7_15, sz7_15⟩
            replace F := F.trans fr7_15.of0
            replace R := R.fr0 fr7_15
            replace C := C.fr0 fr7_15
            replace Fd := Fd.trans fr7_15
            replace b7_5 := b7_5.fr0 fr7_15
            refine ⟨.inr C, ?_⟩
            refine d1 (i := 13) (by kernel_rfl) ?_
            have HOL := own_lit (base := World.heap wd7 |>.size) (n := 0) (size := 1) b7_5 gd rfl (by decide)
            refine oe rfl rfl rfl rfl (e_appv 1 8 (.int .i64 0) (ints (rowAt ls li)) rfl rfl Tryd.underlying40 (by kernel_rfl) rfl (by decide) HOL (ints_len _) C.nil C.row (ints_one _) (by omega) (by omega) Fd.size) ?_
            rintro v7_13 w7_13 ⟨HO, hg, hat⟩
            replace b7_15 := b7_15.fr (Fr.of_grown hg) (by simp [Value.ownBlock]; omega)
            replace Fd := Fd.grown hg (own_ge HOL)
            replace C := Cd.fr0 Fd
            replace F := Fe.trans Fd.of0
            replace R := C.R
            rw [Nat.zero_add, List.nil_append] at HO
            refine ⟨.inr C, ?_⟩
            refine d1 (i := 16) (by kernel_rfl) ?_
            refine oe rfl rfl rfl rfl (e_app 1 8 (.int .i64 0) [.int .i64 nd] rfl rfl Tryd.underlying40 (by kernel_rfl) rfl (by decide) HO rfl b7_15.news (by simp; rfl) (by omega) (by omega) Fd.size) ?_
            rintro v7_16 w7_16 ⟨HO1, hg, hat⟩
            replace Fd := Fd.grown hg (own_ge HO)
            replace C := Cd.fr0 Fd
            replace F := Fe.trans Fd.of0
            replace R := C.R
            rw [ints2] at HO1
            replace HO : World.ownsRow w7_16 (World.heap wd7).size 3 1 v7_16 ((rowAt ls li) ++ [nd]).length (ints ((rowAt ls li) ++ [nd])) := by rw [List.length_append]; exact HO1
            refine ⟨.inr C, ?_⟩
            refine dt (i := 17) rfl rfl rfl rfl (by kernel_rfl) (fun _ => x_ia0 rfl rfl Tryd.underlying67 Tryd.sizeOf40 (by omega)) ?_
            refine d1 (i := 18) (by kernel_rfl) ?_
            obtain ⟨A1, c1, rfl, _⟩ := own_slice HO
            obtain ⟨vs, hb, hvl, _⟩ := C.R.rows
            refine osv rfl rfl rfl (v_1 rfl rfl rfl rfl Tryd.sizeOf40 hb (by rw [hvl, Nat.mul_one]; (exact (List.getElem?_eq_some_iff.1 hl).1))) ?_
            rintro ws7 ⟨hS, frS⟩
            replace R := C.R.set (l := rowAt ls li ++ [nd]) hb hS frS ((RowV.own HO Cd.R.sB).fr frS (by simpa using C.R.lB))
            replace F := F.trans frS
            refine ⟨.inl (by kernel_rfl), ?_⟩
            refine dn (by kernel_rfl) ?_
            refine al_k ?_
            refine cl_seq rfl ?_
            refine cl_reg rfl ?_
            refine st rfl rfl rfl rfl (x_asg rfl) ?_
            refine rl_end rfl ?_
            refine al_k ?_
            refine cl_ret rfl ?_
            refine fin1 rfl rfl ?_
            rw [show aPush N ls li nd false = (ls.set li.toNat (rowAt ls li ++ [nd]), 0) from by simp [aPush, hok, hi]]
            exact ⟨rfl, R, F⟩
        · skip
          refine oe rfl rfl rfl rfl (e_new (x_bsl rfl (bsl1 Tryd.underlying40 Tryd.sizeOf3 Tryd.zeroValue3 rfl rfl))) ?_
          rintro _ w7_15 ⟨rfl, b7_15, fr7_15, sz7_15⟩
          replace F := F.trans fr7_15.of0
          replace R := R.fr0 fr7_15
          replace C := C.fr0 fr7_15
          replace Fd := Fd.trans fr7_15
          refine ⟨.inr C, ?_⟩
          refine d1 (i := 5) (by kernel_rfl) ?_
          have gd := Fd.size
          refine oe rfl rfl rfl rfl (e_new (x_bsl rfl (bsl0 Tryd.underlying40 Tryd.sizeOf3))) ?_
          rintro _ w7_5 ⟨rfl, b7_5, fr7_5, sz7_5⟩
          replace F := F.trans fr7_5.of0
          replace R := R.fr0 fr7_5
          replace C := C.fr0 fr7_5
          replace Fd := Fd.trans fr7_5
          replace b7_15 := b7_15.fr0 fr7_5
          refine ⟨.inr C, ?_⟩
          refine d1 (i := 13) (by kernel_rfl) ?_
          have HOL := own_lit (base := World.heap wd7 |>.size) (n := 0) (size := 1) b7_5 gd rfl (by decide)
          refine oe rfl rfl rfl rfl (e_appv 1 8 (.int .i64 0) (ints (rowAt ls li)) rfl rfl Tryd.underlying40 (by kernel_rfl) rfl (by decide) HOL (ints_len _) C.nil C.row (ints_one _) (by omega) (by omega) Fd.size) ?_
          rintro v7_13 w7_13 ⟨HO, hg, hat⟩
          replace b7_15 := b7_15.fr (Fr.of_grown hg) (by simp [Value.ownBlock]; omega)
          replace Fd := Fd.grown hg (own_ge HOL)
          replace C := Cd.fr0 Fd
          replace F := Fe.trans Fd.of0
          replace R := C.R
          rw [Nat.zero_add, List.nil_append] at HO
          refine ⟨.inr C, ?_⟩
          refine d1 (i := 16) (by kernel_rfl) ?_
          refine oe rfl rfl rfl rfl (e_app 1 8 (.int .i64 0) [.int .i64 nd] rfl rfl Tryd.underlying40 (by kernel_rfl) rfl (by decide) HO rfl b7_15.news (by simp; rfl) (by omega) (by omega) Fd.size) ?_
          rintro v7_16 w7_16 ⟨HO1, hg, hat⟩
          replace Fd := Fd.grown hg (own_ge HO)
          replace C := Cd.fr0 Fd
          replace F := Fe.trans Fd.of0
          replace R := C.R
          rw [ints2] at HO1
          replace HO : World.ownsRow w7_16 (World.heap wd7).size 3 1 v7_16 ((rowAt ls li) ++ [nd]).length (ints ((rowAt ls li) ++ [nd])) := by rw [List.length_append]; exact HO1
          refine ⟨.inr C, ?_⟩
          refine dt (i := 17) rfl rfl rfl rfl (by kernel_rfl) (fun _ => x_ia0 rfl rfl Tryd.underlying67 Tryd.sizeOf40 (by omega)) ?_
          refine d1 (i := 18) (by kernel_rfl) ?_
          obtain ⟨A1, c1, rfl, _⟩ := own_slice HO
          obtain ⟨vs, hb, hvl, _⟩ := C.R.rows
          refine osv rfl rfl rfl (v_1 rfl rfl rfl rfl Tryd.sizeOf40 hb (by rw [hvl, Nat.mul_one]; (exact (List.getElem?_eq_some_iff.1 hl).1))) ?_
          rintro ws7 ⟨hS, frS⟩
          replace R := C.R.set (l := rowAt ls li ++ [nd]) hb hS frS ((RowV.own HO Cd.R.sB).fr frS (by simpa using C.R.lB))
          replace F := F.trans frS
          refine ⟨.inl (by kernel_rfl), ?_⟩
          refine dn (by kernel_rfl) ?_
          refine al_k ?_
          refine cl_seq rfl ?_
          refine cl_reg rfl ?_
          refine st rfl rfl rfl rfl (x_asg rfl) ?_
          refine rl_end rfl ?_
          refine al_k ?_
          refine cl_ret rfl ?_
          refine fin1 rfl rfl ?_
          rw [show aPush N ls li nd false = (ls.set li.toNat (rowAt ls li ++ [nd]), 0) from by simp [aPush, hok, hi]]
          exact ⟨rfl, R, F⟩

theorem rpop_c (w : World) (B0 B rp lb N : Nat) (ls : Rows) (R : RefAt w B0 B rp lb N ls) (hB : ∀ (i : Nat) l, ls[i]? = some l → l.length ≤ 65536) (hN : ∀ (i : Nat) l, ls[i]? = some l → l.Nodup) (li : Int) : Cl Tryd.prog 32 [.pointer (some ⟨rp, 0, none⟩), .int .i64 li] w (fun v w' => v = .tuple #[.int .i64 (aPop ls li).2.1, .bool (aPop ls li).2.2] ∧ RefAt w' B0 B rp lb N (aPop ls li).1 ∧ Fr [lb] w w') := by
  have F := Fr.refl [lb] w
  refine enter Tryd.func32 rfl Tryd.ntmps32 rfl ?_
  refine cl_seq rfl ?_
  refine cl_reg rfl ?_
  refine st rfl rfl rfl rfl (x_asg rfl) ?_
  refine st rfl rfl rfl rfl (x_asg rfl) ?_
  refine rl_end rfl ?_
  refine al_k ?_
  refine cl_seq rfl ?_
  refine cl_seq rfl ?_
  refine cl_reg rfl ?_
  refine st rfl rfl rfl rfl (x_move rfl) ?_
  refine st rfl rfl rfl rfl (x_move rfl) ?_
  refine sc rfl rfl rfl rfl (c_fn rfl Tryd.call36 (ris_c _ B0 B rp lb N ls R li)) ?_
  rintro _ wk ⟨rfl, hwk⟩
  obtain rfl := hwk.symm
  cases hf1_2 : (decide (okL ls li))
  · skip
    refine st rfl rfl rfl rfl (x_not0 rfl) ?_
    refine st rfl rfl rfl rfl (x_move rfl) ?_
    refine so rfl rfl rfl rfl ?_
    refine so rfl rfl rfl rfl ?_
    refine so rfl rfl rfl rfl ?_
    refine so rfl rfl rfl rfl ?_
    refine so rfl rfl rfl rfl ?_
    refine so rfl rfl rfl rfl ?_
    refine so rfl rfl rfl rfl ?_
    refine so rfl rfl rfl rfl ?_
    refine so rfl rfl rfl rfl ?_
    refine st rfl rfl rfl rfl (x_pick1 rfl rfl) ?_
    refine rl_end rfl ?_
    refine al_k ?_
    refine cl_if1 rfl rfl ?_
    refine cl_seq rfl ?_
    refine cl_reg rfl ?_
    refine st rfl rfl rfl rfl (x_asg rfl) ?_
    refine st rfl rfl rfl rfl (x_asg rfl) ?_
    refine rl_end rfl ?_
    refine al_k ?_
    refine cl_ret rfl ?_
    refine fin2 rfl rfl rfl ?_
    rw [show aPop ls li = (ls, 0, false) from if_neg (fun h => by rw [decide_eq_true h] at hf1_2; cases hf1_2)]
    exact ⟨rfl, R, F⟩
  · skip
    refine st rfl rfl rfl rfl (x_not1 rfl) ?_
    refine st rfl rfl rfl rfl (x_move rfl) ?_
    have hok := of_decide_eq_true hf1_2
    obtain ⟨hok1, hok2⟩ := hok
    have hl := rowAt_some (i := li) ⟨hok1, hok2⟩
    have hll := hB _ _ hl
    obtain ⟨A0, c0, C⟩ := R.rowc (i := li) (l := rowAt ls li) hl
    refine st rfl rfl rfl rfl (x_move rfl) ?_
    refine st rfl rfl rfl rfl (x_nil rfl) ?_
    refine st rfl rfl rfl rfl (x_fa rfl Tryd.underlying69 rfl Tryd.sizeOf67 1 rfl) ?_
    refine st rfl rfl rfl rfl (x_ld rfl Tryd.isAgg67 (R.top.cell rfl)) ?_
    refine st rfl rfl rfl rfl (x_move rfl) ?_
    refine st rfl rfl rfl rfl (x_ia0 rfl rfl Tryd.underlying67 Tryd.sizeOf40 (by omega)) ?_
    refine st rfl rfl rfl rfl (x_ld rfl Tryd.isAgg40 C.cell) ?_
    refine st rfl rfl rfl rfl (x_len rfl Tryd.underlying40) ?_
    refine sf rfl rfl rfl rfl (x_eql rfl rfl) (fun c1_13 => ?_) (fun c1_13 => ?_)
    · skip
      refine st rfl rfl rfl rfl (x_pick0 rfl rfl) ?_
      refine rl_end rfl ?_
      refine al_k ?_
      refine cl_if1 rfl rfl ?_
      refine cl_seq rfl ?_
      refine cl_reg rfl ?_
      refine st rfl rfl rfl rfl (x_asg rfl) ?_
      refine st rfl rfl rfl rfl (x_asg rfl) ?_
      refine rl_end rfl ?_
      refine al_k ?_
      refine cl_ret rfl ?_
      refine fin2 rfl rfl rfl ?_
      have hr : rowAt ls li = [] := List.eq_nil_of_length_eq_zero (by omega)
      rw [show aPop ls li = (ls, 0, false) from by simp [aPop, hok1, hok2, okL, hr]]
      exact ⟨rfl, R, F⟩
    · skip
      refine st rfl rfl rfl rfl (x_pick0 rfl rfl) ?_
      refine rl_end rfl ?_
      refine al_k ?_
      refine cl_if0 rfl rfl ?_
      refine cl_skip rfl ?_
      refine al_k ?_
      refine cl_seq rfl ?_
      obtain ⟨z, r, hr⟩ : ∃ z r, rowAt ls li = z :: r := by cases h : rowAt ls li with | nil => rw [h] at c1_13; exact absurd rfl c1_13 | cons z r => exact ⟨z, r, rfl⟩
      rw [hr] at C hll hl
      obtain ⟨b, rfl, _, _, hc⟩ := C.at_ 0 z rfl
      have hwo := without_head (hN _ _ hl)
      refine cl_reg rfl ?_
      refine st rfl rfl rfl rfl (x_move rfl) ?_
      refine st rfl rfl rfl rfl (x_nil rfl) ?_
      refine st rfl rfl rfl rfl (x_fa rfl Tryd.underlying69 rfl Tryd.sizeOf67 1 rfl) ?_
      refine st rfl rfl rfl rfl (x_ld rfl Tryd.isAgg67 (R.top.cell rfl)) ?_
      refine st rfl rfl rfl rfl (x_move rfl) ?_
      refine st rfl rfl rfl rfl (x_ia0 rfl rfl Tryd.underlying67 Tryd.sizeOf40 (by omega)) ?_
      refine st rfl rfl rfl rfl (x_ld rfl Tryd.isAgg40 C.cell) ?_
      refine st rfl rfl rfl rfl (x_ia0 rfl rfl Tryd.underlying40 Tryd.sizeOf3 (by simp only [List.length_cons]; omega)) ?_
      refine st rfl rfl rfl rfl (x_ld rfl Tryd.isAgg3 (by simpa using hc)) ?_
      refine st rfl rfl rfl rfl (x_asg rfl) ?_
      refine rl_end rfl ?_
      refine al_k ?_
      refine cl_seq rfl ?_
      refine cl_draw (by kernel_rfl) rfl [15] (fun w' => RowC w' B0 B rp lb N ls (li.toNat * 1) (some ⟨b, 0, none⟩) c0 (z :: r)) ?_
      rintro wd4 frd4 hpd4
      replace C := C.fr0 frd4
      replace F := F.trans frd4.of0
      replace R := C.R
      have Cd := C
      have Fe := F
      have Fd := Fr.refl [] wd4
      refine ⟨C, ?_⟩
      refine dt (i := 0) rfl rfl rfl rfl (by kernel_rfl) (fun _ => x_move rfl) ?_
      refine dt (i := 1) rfl rfl rfl rfl (by kernel_rfl) (fun _ => x_nil rfl) ?_
      refine dt (i := 2) rfl rfl rfl rfl (by kernel_rfl) (fun _ => x_fa rfl Tryd.underlying69 rfl Tryd.sizeOf67 1 rfl) ?_
      refine dl (i := 3) rfl rfl rfl rfl (by kernel_rfl) (by kernel_rfl) (fun w' hU => x_ld rfl Tryd.isAgg67 (hU.R.top.cell rfl)) ?_
      refine dt (i := 4) rfl rfl rfl rfl (by kernel_rfl) (fun _ => x_move rfl) ?_
      refine dt (i := 5) rfl rfl rfl rfl (by kernel_rfl) (fun _ => x_move rfl) ?_
      refine dt (i := 6) rfl rfl rfl rfl (by kernel_rfl) (fun _ => x_nil rfl) ?_
      refine dt (i := 7) rfl rfl rfl rfl (by kernel_rfl) (fun _ => x_fa rfl Tryd.underlying69 rfl Tryd.sizeOf67 1 rfl) ?_
      refine dl (i := 8) rfl rfl rfl rfl (by kernel_rfl) (by kernel_rfl) (fun w' hU => x_ld rfl Tryd.isAgg67 (hU.R.top.cell rfl)) ?_
      refine dt (i := 9) rfl rfl rfl rfl (by kernel_rfl) (fun _ => x_move rfl) ?_
      refine dt (i := 10) rfl rfl rfl rfl (by kernel_rfl) (fun _ => x_ia0 rfl rfl Tryd.underlying67 Tryd.sizeOf40 (by omega)) ?_
      refine dl (i := 11) rfl rfl rfl rfl (by kernel_rfl) (by kernel_rfl) (fun w' hU => x_ld rfl Tryd.isAgg40 hU.cell) ?_
      refine dt (i := 12) rfl rfl rfl rfl (by kernel_rfl) (fun _ => x_move rfl) ?_
      refine d1 (i := 13) (by kernel_rfl) ?_
      refine oc rfl rfl rfl rfl (c_fn rfl Tryd.call48 (rwithout_c _ (some ⟨b, 0, none⟩) c0 (z :: r) z (by omega) (fun k z hz => let ⟨b, e, _, _, h⟩ := C.at_ k z hz; ⟨b, e, h⟩))) ?_
      rintro v4_13 w4_13 ⟨HO, fr⟩
      replace C := C.fr0 fr
      replace F := F.trans fr.of0
      replace R := C.R
      refine ⟨.inr C, ?_⟩
      refine dt (i := 14) rfl rfl rfl rfl (by kernel_rfl) (fun _ => x_ia0 rfl rfl Tryd.underlying67 Tryd.sizeOf40 (by omega)) ?_
      refine d1 (i := 15) (by kernel_rfl) ?_
      obtain ⟨A1, c1, rfl, _⟩ := own_slice HO
      obtain ⟨vs, hb, hvl, _⟩ := C.R.rows
      refine osv rfl rfl rfl (v_1 rfl rfl rfl rfl Tryd.sizeOf40 hb (by rw [hvl, Nat.mul_one]; (exact (List.getElem?_eq_some_iff.1 hl).1))) ?_
      rintro ws4 ⟨hS, frS⟩
      replace R := C.R.set (l := without (z :: r) z) hb hS frS ((RowV.own HO Cd.R.sB).fr frS (by simpa using C.R.lB))
      replace F := F.trans frS
      refine ⟨.inl (by kernel_rfl), ?_⟩
      refine dn (by kernel_rfl) ?_
      refine al_k ?_
      refine cl_seq rfl ?_
      refine cl_reg rfl ?_
      refine st rfl rfl rfl rfl (x_move rfl) ?_
      refine st rfl rfl rfl rfl (x_asg rfl) ?_
      refine st rfl rfl rfl rfl (x_asg rfl) ?_
      refine rl_end rfl ?_
      refine al_k ?_
      refine cl_ret rfl ?_
      refine fin2 rfl rfl rfl ?_
      rw [hwo] at R
      rw [show aPop ls li = (ls.set li.toNat r, z, true) from by simp [aPop, hok1, hok2, okL, hr]]
      exact ⟨rfl, R, F⟩

theorem rdrop_c (w : World) (B0 B rp lb N : Nat) (ls : Rows) (R : RefAt w B0 B rp lb N ls) (hB : ∀ (i : Nat) l, ls[i]? = some l → l.length ≤ 65536) (nd : Int) : Cl Tryd.prog 33 [.pointer (some ⟨rp, 0, none⟩), .int .i64 nd] w (fun v w' => v = .int .i64 (aDrop N ls nd).2 ∧ RefAt w' B0 B rp lb N (aDrop N ls nd).1 ∧ Fr [lb] w w') := by
  have F := Fr.refl [lb] w
  refine enter Tryd.func33 rfl Tryd.ntmps33 rfl ?_
  refine cl_seq rfl ?_
  refine cl_reg rfl ?_
  refine st rfl rfl rfl rfl (x_asg rfl) ?_
  refine rl_end rfl ?_
  refine al_k ?_
  refine cl_seq rfl ?_
  refine cl_seq rfl ?_
  refine cl_reg rfl ?_
  refine st rfl rfl rfl rfl (x_move rfl) ?_
  refine st rfl rfl rfl rfl (x_move rfl) ?_
  refine sc rfl rfl rfl rfl (c_fn rfl Tryd.call46 (rnode_c _ B0 B rp lb N ls R nd)) ?_
  rintro _ wk ⟨rfl, hwk⟩
  obtain rfl := hwk.symm
  cases hf1_2 : (decide (okN N nd))
  · skip
    refine st rfl rfl rfl rfl (x_not0 rfl) ?_
    refine rl_end rfl ?_
    refine al_k ?_
    refine cl_if1 rfl rfl ?_
    refine cl_seq rfl ?_
    refine cl_reg rfl ?_
    refine st rfl rfl rfl rfl (x_asg rfl) ?_
    refine rl_end rfl ?_
    refine al_k ?_
    refine cl_ret rfl ?_
    refine fin1 rfl rfl ?_
    rw [show aDrop N ls nd = (ls, 5) from if_neg (fun h => by rw [decide_eq_true h] at hf1_2; cases hf1_2)]
    exact ⟨rfl, R, F⟩
  · skip
    refine st rfl rfl rfl rfl (x_not1 rfl) ?_
    refine rl_end rfl ?_
    refine al_k ?_
    refine cl_if0 rfl rfl ?_
    refine cl_skip rfl ?_
    refine al_k ?_
    refine cl_seq rfl ?_
    refine cl_reg rfl ?_
    refine st rfl rfl rfl rfl (x_move rfl) ?_
    refine st rfl rfl rfl rfl (x_move rfl) ?_
    refine sc rfl rfl rfl rfl (c_fn rfl Tryd.call47 (rat_c _ B0 B rp lb N ls R hB nd)) ?_
    rintro _ wk ⟨rfl, hwk⟩
    obtain rfl := hwk.symm
    refine st rfl rfl rfl rfl (x_asg rfl) ?_
    refine rl_end rfl ?_
    refine al_k ?_
    refine cl_seq rfl ?_
    refine cl_seq rfl ?_
    refine cl_reg rfl ?_
    refine st rfl rfl rfl rfl (x_move rfl) ?_
    refine sf rfl rfl rfl rfl (x_lss rfl rfl) (fun c4_1 => ?_) (fun c4_1 => ?_)
    · skip
      refine rl_end rfl ?_
      refine al_k ?_
      refine cl_if1 rfl rfl ?_
      refine cl_seq rfl ?_
      refine cl_reg rfl ?_
      refine st rfl rfl rfl rfl (x_asg rfl) ?_
      refine rl_end rfl ?_
      refine al_k ?_
      refine cl_ret rfl ?_
      refine fin1 rfl rfl ?_
      have hok := of_decide_eq_true hf1_2
      rw [show aDrop N ls nd = (ls, 51) from by simp [aDrop, hok, atI_out c4_1]]
      exact ⟨rfl, R, F⟩
    · skip
      refine rl_end rfl ?_
      refine al_k ?_
      refine cl_if0 rfl rfl ?_
      refine cl_skip rfl ?_
      refine al_k ?_
      refine cl_seq rfl ?_
      obtain ⟨i, l, hi, hati, hli⟩ := atI_in (ls := ls) (n := nd) (by omega)
      have hra := rowAt_nat hli
      have hil := (List.getElem?_eq_some_iff.1 hli).1
      have hl := (show ls[(atI ls nd).toNat]? = some l by rw [hati]; simpa using hli)
      have hll := hB _ _ hl
      obtain ⟨A0, c0, C⟩ := R.rowc (i := atI ls nd) (l := l) hl
      refine cl_draw (by kernel_rfl) rfl [15] (fun w' => RowC w' B0 B rp lb N ls ((atI ls nd).toNat * 1) A0 c0 l) ?_
      rintro wd6 frd6 hpd6
      replace C := C.fr0 frd6
      replace F := F.trans frd6.of0
      replace R := C.R
      have Cd := C
      have Fe := F
      have Fd := Fr.refl [] wd6
      refine ⟨C, ?_⟩
      refine dt (i := 0) rfl rfl rfl rfl (by kernel_rfl) (fun _ => x_move rfl) ?_
      refine dt (i := 1) rfl rfl rfl rfl (by kernel_rfl) (fun _ => x_nil rfl) ?_
      refine dt (i := 2) rfl rfl rfl rfl (by kernel_rfl) (fun _ => x_fa rfl Tryd.underlying69 rfl Tryd.sizeOf67 1 rfl) ?_
      refine dl (i := 3) rfl rfl rfl rfl (by kernel_rfl) (by kernel_rfl) (fun w' hU => x_ld rfl Tryd.isAgg67 (hU.R.top.cell rfl)) ?_
      refine dt (i := 4) rfl rfl rfl rfl (by kernel_rfl) (fun _ => x_move rfl) ?_
      refine dt (i := 5) rfl rfl rfl rfl (by kernel_rfl) (fun _ => x_move rfl) ?_
      refine dt (i := 6) rfl rfl rfl rfl (by kernel_rfl) (fun _ => x_nil rfl) ?_
      refine dt (i := 7) rfl rfl rfl rfl (by kernel_rfl) (fun _ => x_fa rfl Tryd.underlying69 rfl Tryd.sizeOf67 1 rfl) ?_
      refine dl (i := 8) rfl rfl rfl rfl (by kernel_rfl) (by kernel_rfl) (fun w' hU => x_ld rfl Tryd.isAgg67 (hU.R.top.cell rfl)) ?_
      refine dt (i := 9) rfl rfl rfl rfl (by kernel_rfl) (fun _ => x_move rfl) ?_
      refine dt (i := 10) rfl rfl rfl rfl (by kernel_rfl) (fun _ => x_ia0 rfl rfl Tryd.underlying67 Tryd.sizeOf40 (by omega)) ?_
      refine dl (i := 11) rfl rfl rfl rfl (by kernel_rfl) (by kernel_rfl) (fun w' hU => x_ld rfl Tryd.isAgg40 hU.cell) ?_
      refine dt (i := 12) rfl rfl rfl rfl (by kernel_rfl) (fun _ => x_move rfl) ?_
      refine d1 (i := 13) (by kernel_rfl) ?_
      refine oc rfl rfl rfl rfl (c_fn rfl Tryd.call48 (rwithout_c _ A0 c0 l nd (by omega) (fun k z hz => let ⟨b, e, _, _, h⟩ := C.at_ k z hz; ⟨b, e, h⟩))) ?_
      rintro v6_13 w6_13 ⟨HO, fr⟩
      replace C := C.fr0 fr
      replace F := F.trans fr.of0
      replace R := C.R
      refine ⟨.inr C, ?_⟩
      refine dt (i := 14) rfl rfl rfl rfl (by kernel_rfl) (fun _ => x_ia0 rfl rfl Tryd.underlying67 Tryd.sizeOf40 (by omega)) ?_
      refine d1 (i := 15) (by kernel_rfl) ?_
      obtain ⟨A1, c1, rfl, _⟩ := own_slice HO
      obtain ⟨vs, hb, hvl, _⟩ := C.R.rows
      refine osv rfl rfl rfl (v_1 rfl rfl rfl rfl Tryd.sizeOf40 hb (by rw [hvl, Nat.mul_one]; (rw [hati]; simpa using hil))) ?_
      rintro ws6 ⟨hS, frS⟩
      replace R := C.R.set (l := without l nd) hb hS frS ((RowV.own HO Cd.R.sB).fr frS (by simpa using C.R.lB))
      replace F := F.trans frS
      refine ⟨.inl (by kernel_rfl), ?_⟩
      refine dn (by kernel_rfl) ?_
      refine al_k ?_
      refine cl_seq rfl ?_
      refine cl_reg rfl ?_
      refine st rfl rfl rfl rfl (x_asg rfl) ?_
      refine rl_end rfl ?_
      refine al_k ?_
      refine cl_ret rfl ?_
      refine fin1 rfl rfl ?_
      have hok := of_decide_eq_true hf1_2
      rw [hati, Int.toNat_natCast] at R
      rw [show aDrop N ls nd = (ls.set i (without l nd), 0) from by simp [aDrop, hok, hi, hra]]
      exact ⟨rfl, R, F⟩

theorem out_bound {ls : Rows} {nd : Int} {M : Nat} (hB : ∀ (i : Nat) l, ls[i]? = some l → l.length ≤ M) : ∀ (i : Nat) l, (outOf ls nd)[i]? = some l → l.length ≤ M := by
  intro i l h
  unfold outOf at h
  cases e : isIn ls nd with
  | none => rw [e] at h; exact hB i l h
  | some j =>
    rw [e] at h
    obtain ⟨m, hm, _⟩ := isIn_some e
    dsimp only at h
    rw [List.getElem?_set] at h
    split at h
    · split at h
      · obtain rfl := Option.some.inj h
        have h1 := List.length_filter_le (fun z => z != nd) (rowAt ls j)
        have h2 := hB j m hm
        rw [rowAt_nat hm] at *
        exact Nat.le_trans h1 h2
      · cases h
    · exact hB i l h
theorem out_len (ls : Rows) (nd : Int) : (outOf ls nd).length = ls.length := by
  unfold outOf
  split <;> simp
theorem out_none {ls : Rows} {nd : Int} (h : isIn ls nd = none) : outOf ls nd = ls := by unfold outOf; rw [h]
theorem out_some {ls : Rows} {nd : Int} {i : Nat} {l : List Int} (h : isIn ls nd = some i) (hl : ls[i]? = some l) : outOf ls nd = ls.set i (without l nd) := by unfold outOf; rw [h]; dsimp only; rw [rowAt_nat hl]

theorem rmove_c (w : World) (B0 B rp lb N : Nat) (ls : Rows) (R : RefAt w B0 B rp lb N ls) (hB : ∀ (i : Nat) l, ls[i]? = some l → l.length ≤ 65536) (li nd : Int) : Cl Tryd.prog 34 [.pointer (some ⟨rp, 0, none⟩), .int .i64 li, .int .i64 nd] w (fun v w' => v = .int .i64 (aMove N ls li nd).2 ∧ RefAt w' B0 B rp lb N (aMove N ls li nd).1 ∧ Fr [lb] w w') := by
  have F := Fr.refl [lb] w
  refine enter Tryd.func34 rfl Tryd.ntmps34 rfl ?_
  refine cl_seq rfl ?_
  refine cl_reg rfl ?_
  refine st rfl rfl rfl rfl (x_asg rfl) ?_
  refine rl_end rfl ?_
  refine al_k ?_
  refine cl_seq rfl ?_
  refine cl_seq rfl ?_
  refine cl_reg rfl ?_
  refine st rfl rfl rfl rfl (x_move rfl) ?_
  refine st rfl rfl rfl rfl (x_move rfl) ?_
  refine sc rfl rfl rfl rfl (c_fn rfl Tryd.call36 (ris_c _ B0 B rp lb N ls R li)) ?_
  rintro _ wk ⟨rfl, hwk⟩
  obtain rfl := hwk.symm
  cases hf1_2 : (decide (okL ls li))
  · skip
    refine st rfl rfl rfl rfl (x_not0 rfl) ?_
    refine st rfl rfl rfl rfl (x_move rfl) ?_
    refine so rfl rfl rfl rfl ?_
    refine so rfl rfl rfl rfl ?_
    refine so rfl rfl rfl rfl ?_
    refine so rfl rfl rfl rfl ?_
    refine st rfl rfl rfl rfl (x_pick1 rfl rfl) ?_
    refine rl_end rfl ?_
    refine al_k ?_
    refine cl_if1 rfl rfl ?_
    refine cl_seq rfl ?_
    refine cl_reg rfl ?_
    refine st rfl rfl rfl rfl (x_asg rfl) ?_
    refine rl_end rfl ?_
    refine al_k ?_
    refine cl_ret rfl ?_
    refine fin1 rfl rfl ?_
    rw [show aMove N ls li nd = (ls, 5) from if_neg (fun h => by rw [decide_eq_true h.1] at hf1_2; cases hf1_2)]
    exact ⟨rfl, R, F⟩
  · skip
    refine st rfl rfl rfl rfl (x_not1 rfl) ?_
    refine st rfl rfl rfl rfl (x_move rfl) ?_
    refine st rfl rfl rfl rfl (x_move rfl) ?_
    refine st rfl rfl rfl rfl (x_move rfl) ?_
    refine sc rfl rfl rfl rfl (c_fn rfl Tryd.call46 (rnode_c _ B0 B rp lb N ls R nd)) ?_
    rintro _ wk ⟨rfl, hwk⟩
    obtain rfl := hwk.symm
    cases hf1_7 : (decide (okN N nd))
    · skip
      refine st rfl rfl rfl rfl (x_not0 rfl) ?_
      refine st rfl rfl rfl rfl (x_pick0 rfl rfl) ?_
      refine rl_end rfl ?_
      refine al_k ?_
      refine cl_if1 rfl rfl ?_
      refine cl_seq rfl ?_
      refine cl_reg rfl ?_
      refine st rfl rfl rfl rfl (x_asg rfl) ?_
      refine rl_end rfl ?_
      refine al_k ?_
      refine cl_ret rfl ?_
      refine fin1 rfl rfl ?_
      rw [show aMove N ls li nd = (ls, 5) from if_neg (fun h => by rw [decide_eq_true h.2] at hf1_7; cases hf1_7)]
      exact ⟨rfl, R, F⟩
    · skip
      refine st rfl rfl rfl rfl (x_not1 rfl) ?_
      refine st rfl rfl rfl rfl (x_pick0 rfl rfl) ?_
      refine rl_end rfl ?_
      refine al_k ?_
      refine cl_if0 rfl rfl ?_
      refine cl_skip rfl ?_
      refine al_k ?_
      refine cl_seq rfl ?_
      refine cl_reg rfl ?_
      refine st rfl rfl rfl rfl (x_move rfl) ?_
      refine st rfl rfl rfl rfl (x_move rfl) ?_
      refine sc rfl rfl rfl rfl (c_fn rfl Tryd.call47 (rat_c _ B0 B rp lb N ls R hB nd)) ?_
      rintro _ wk ⟨rfl, hwk⟩
      obtain rfl := hwk.symm
      refine st rfl rfl rfl rfl (x_asg rfl) ?_
      refine rl_end rfl ?_
      refine al_k ?_
      refine cl_seq rfl ?_
      refine cl_seq rfl ?_
      refine cl_reg rfl ?_
      refine st rfl rfl rfl rfl (x_move rfl) ?_
      refine sf rfl rfl rfl rfl (x_geq rfl rfl) (fun c4_1 => ?_) (fun c4_1 => ?_)
      · skip
        refine rl_end rfl ?_
        refine al_k ?_
        refine cl_if1 rfl rfl ?_
        obtain ⟨i, l, hi, hati, hli⟩ := atI_in (ls := ls) (n := nd) (by omega)
        have hra := rowAt_nat hli
        have hil := (List.getElem?_eq_some_iff.1 hli).1
        have hl := (show ls[(atI ls nd).toNat]? = some l by rw [hati]; simpa using hli)
        have hll := hB _ _ hl
        obtain ⟨A0, c0, C⟩ := R.rowc (i := atI ls nd) (l := l) hl
        refine cl_draw (by kernel_rfl) rfl [15] (fun w' => RowC w' B0 B rp lb N ls ((atI ls nd).toNat * 1) A0 c0 l) ?_
        rintro wd5 frd5 hpd5
        replace C := C.fr0 frd5
        replace F := F.trans frd5.of0
        replace R := C.R
        have Cd := C
        have Fe := F
        have Fd := Fr.refl [] wd5
        refine ⟨C, ?_⟩
        refine dt (i := 0) rfl rfl rfl rfl (by kernel_rfl) (fun _ => x_move rfl) ?_
        refine dt (i := 1) rfl rfl rfl rfl (by kernel_rfl) (fun _ => x_nil rfl) ?_
        refine dt (i := 2) rfl rfl rfl rfl (by kernel_rfl) (fun _ => x_fa rfl Tryd.underlying69 rfl Tryd.sizeOf67 1 rfl) ?_
        refine dl (i := 3) rfl rfl rfl rfl (by kernel_rfl) (by kernel_rfl) (fun w' hU => x_ld rfl Tryd.isAgg67 (hU.R.top.cell rfl)) ?_
        refine dt (i := 4) rfl rfl rfl rfl (by kernel_rfl) (fun _ => x_move rfl) ?_
        refine dt (i := 5) rfl rfl rfl rfl (by kernel_rfl) (fun _ => x_move rfl) ?_
        refine dt (i := 6) rfl rfl rfl rfl (by kernel_rfl) (fun _ => x_nil rfl) ?_
        refine dt (i := 7) rfl rfl rfl rfl (by kernel_rfl) (fun _ => x_fa rfl Tryd.underlying69 rfl Tryd.sizeOf67 1 rfl) ?_
        refine dl (i := 8) rfl rfl rfl rfl (by kernel_rfl) (by kernel_rfl) (fun w' hU => x_ld rfl Tryd.isAgg67 (hU.R.top.cell rfl)) ?_
        refine dt (i := 9) rfl rfl rfl rfl (by kernel_rfl) (fun _ => x_move rfl) ?_
        refine dt (i := 10) rfl rfl rfl rfl (by kernel_rfl) (fun _ => x_ia0 rfl rfl Tryd.underlying67 Tryd.sizeOf40 (by omega)) ?_
        refine dl (i := 11) rfl rfl rfl rfl (by kernel_rfl) (by kernel_rfl) (fun w' hU => x_ld rfl Tryd.isAgg40 hU.cell) ?_
        refine dt (i := 12) rfl rfl rfl rfl (by kernel_rfl) (fun _ => x_move rfl) ?_
        refine d1 (i := 13) (by kernel_rfl) ?_
        refine oc rfl rfl rfl rfl (c_fn rfl Tryd.call48 (rwithout_c _ A0 c0 l nd (by omega) (fun k z hz => let ⟨b, e, _, _, h⟩ := C.at_ k z hz; ⟨b, e, h⟩))) ?_
        rintro v5_13 w5_13 ⟨HO, fr⟩
        replace C := C.fr0 fr
        replace F := F.trans fr.of0
        replace R := C.R
        refine ⟨.inr C, ?_⟩
        refine dt (i := 14) rfl rfl rfl rfl (by kernel_rfl) (fun _ => x_ia0 rfl rfl Tryd.underlying67 Tryd.sizeOf40 (by omega)) ?_
        refine d1 (i := 15) (by kernel_rfl) ?_
        obtain ⟨A1, c1, rfl, _⟩ := own_slice HO
        obtain ⟨vs, hb, hvl, _⟩ := C.R.rows
        refine osv rfl rfl rfl (v_1 rfl rfl rfl rfl Tryd.sizeOf40 hb (by rw [hvl, Nat.mul_one]; (rw [hati]; simpa using hil))) ?_
        rintro ws5 ⟨hS, frS⟩
        replace R := C.R.set (l := without l nd) hb hS frS ((RowV.own HO Cd.R.sB).fr frS (by simpa using C.R.lB))
        replace F := F.trans frS
        refine ⟨.inl (by kernel_rfl), ?_⟩
        refine dn (by kernel_rfl) ?_
        refine al_k ?_
        refine cl_seq rfl ?_
        rw [hati, Int.toNat_natCast, ← out_some hi hli] at R
        clear C
        have hok : okL ls li ∧ okN N nd := ⟨of_decide_eq_true hf1_2, of_decide_eq_true hf1_7⟩
        have hok4 : okL (outOf ls nd) li := by unfold okL; rw [out_len]; exact hok.1
        have hl := rowAt_some hok4
        have hll := out_bound hB _ _ hl
        obtain ⟨hok1, hok2⟩ := hok4
        have hok3 := hok.2
        obtain ⟨A0, c0, C⟩ := R.rowc hl
        refine cl_draw (by kernel_rfl) rfl [18] (fun w' => RowC w' B0 B rp lb N (outOf ls nd) (li.toNat * 1) A0 c0 (rowAt (outOf ls nd) li)) ?_
        rintro wd6 frd6 hpd6
        replace C := C.fr0 frd6
        replace F := F.trans frd6.of0
        replace R := C.R
        have Cd := C
        have Fe := F
        have Fd := Fr.refl [] wd6
        refine ⟨C, ?_⟩
        refine dt (i := 0) rfl rfl rfl rfl (by kernel_rfl) (fun _ => x_move rfl) ?_
        refine dt (i := 1) rfl rfl rfl rfl (by kernel_rfl) (fun _ => x_nil rfl) ?_
        refine dt (i := 2) rfl rfl rfl rfl (by kernel_rfl) (fun _ => x_fa rfl Tryd.underlying69 rfl Tryd.sizeOf67 1 rfl) ?_
        refine dl (i := 3) rfl rfl rfl rfl (by kernel_rfl) (by kernel_rfl) (fun w' hU => x_ld rfl Tryd.isAgg67 (hU.R.top.cell rfl)) ?_
        refine dt (i := 4) rfl rfl rfl rfl (by kernel_rfl) (fun _ => x_move rfl) ?_
        refine dt (i := 6) rfl rfl rfl rfl (by kernel_rfl) (fun _ => x_move rfl) ?_
        refine dt (i := 7) rfl rfl rfl rfl (by kernel_rfl) (fun _ => x_nil rfl) ?_
        refine dt (i := 8) rfl rfl rfl rfl (by kernel_rfl) (fun _ => x_fa rfl Tryd.underlying69 rfl Tryd.sizeOf67 1 rfl) ?_
        refine dl (i := 9) rfl rfl rfl rfl (by kernel_rfl) (by kernel_rfl) (fun w' hU => x_ld rfl Tryd.isAgg67 (hU.R.top.cell rfl)) ?_
        refine dt (i := 10) rfl rfl rfl rfl (by kernel_rfl) (fun _ => x_move rfl) ?_
        refine dt (i := 11) rfl rfl rfl rfl (by kernel_rfl) (fun _ => x_ia0 rfl rfl Tryd.underlying67 Tryd.sizeOf40 (by omega)) ?_
        refine dl (i := 12) rfl rfl rfl rfl (by kernel_rfl) (by kernel_rfl) (fun w' hU => x_ld rfl Tryd.isAgg40 hU.cell) ?_
        refine dt (i := 14) rfl rfl rfl rfl (by kernel_rfl) (fun _ => x_move rfl) ?_
        refine d2 (i := 5) (j := 15) (by kernel_rfl) ?_ ?_
        · skip
          have gd := Fd.size
          refine oe rfl rfl rfl rfl (e_new (x_bsl rfl (bsl0 Tryd.underlying40 Tryd.sizeOf3))) ?_
          rintro _ w6_5 ⟨rfl, b6_5, fr6_5, sz6_5⟩
          replace F := F.trans fr6_5.of0
          replace R := R.fr0 fr6_5
          replace C := C.fr0 fr6_5
          replace Fd := Fd.trans fr6_5
          refine ⟨.inr C, ?_⟩
          refine d2 (i := 13) (j := 15) (by kernel_rfl) ?_ ?_
          · skip
            have HOL := own_lit (base := World.heap wd6 |>.size) (n := 0) (size := 1) b6_5 gd rfl (by decide)
            refine oe rfl rfl rfl rfl (e_appv 1 8 (.int .i64 0) (ints (rowAt (outOf ls nd) li)) rfl rfl Tryd.underlying40 (by kernel_rfl) rfl (by decide) HOL (ints_len _) C.nil C.row (ints_one _) (by omega) (by omega) Fd.size) ?_
            rintro v6_13 w6_13 ⟨HO, hg, hat⟩
            replace Fd := Fd.grown hg (own_ge HOL)
            replace C := Cd.fr0 Fd
            replace F := Fe.trans Fd.of0
            replace R := C.R
            rw [Nat.zero_add, List.nil_append] at HO
            refine ⟨.inr C, ?_⟩
            refine d1 (i := 15) (by kernel_rfl) ?_
            refine oe rfl rfl rfl rfl (e_new (x_bsl rfl (bsl1 Tryd.underlying40 Tryd.sizeOf3 Tryd.zeroValue3 rfl rfl))) ?_
            rintro _ w6_15 ⟨rfl, b6_15, fr6_15, sz6_15⟩
            replace F := F.trans fr6_15.of0
            replace R := R.fr0 fr6_15
            replace C := C.fr0 fr6_15
            replace Fd := Fd.trans fr6_15
            replace HO := own_fr0 HO fr6_15
            refine ⟨.inr C, ?_⟩
            refine d1 (i := 16) (by kernel_rfl) ?_
            refine oe rfl rfl rfl rfl (e_app 1 8 (.int .i64 0) [.int .i64 nd] rfl rfl Tryd.underlying40 (by kernel_rfl) rfl (by decide) HO rfl b6_15.news (by simp; rfl) (by omega) (by omega) Fd.size) ?_
            rintro v6_16 w6_16 ⟨HO1, hg, hat⟩
            replace Fd := Fd.grown hg (own_ge HO)
            replace C := Cd.fr0 Fd
            replace F := Fe.trans Fd.of0
            replace R := C.R
            rw [ints2] at HO1
            replace HO : World.ownsRow w6_16 (World.heap wd6).size 3 1 v6_16 ((rowAt (outOf ls nd) li) ++ [nd]).length (ints ((rowAt (outOf ls nd) li) ++ [nd])) := by rw [List.length_append]; exact HO1
            refine ⟨.inr C, ?_⟩
            refine dt (i := 17) rfl rfl rfl rfl (by kernel_rfl) (fun _ => x_ia0 rfl rfl Tryd.underlying67 Tryd.sizeOf40 (by omega)) ?_
            refine d1 (i := 18) (by kernel_rfl) ?_
            obtain ⟨A1, c1, rfl, _⟩ := own_slice HO
            obtain ⟨vs, hb, hvl, _⟩ := C.R.rows
            refine osv rfl rfl rfl (v_1 rfl rfl rfl rfl Tryd.sizeOf40 hb (by rw [hvl, Nat.mul_one]; (exact (List.getElem?_eq_some_iff.1 hl).1))) ?_
            rintro ws6 ⟨hS, frS⟩
            replace R := C.R.set (l := rowAt (outOf ls nd) li ++ [nd]) hb hS frS ((RowV.own HO Cd.R.sB).fr frS (by simpa using C.R.lB))
            replace F := F.trans frS
            refine ⟨.inl (by kernel_rfl), ?_⟩
            refine dn (by kernel_rfl) ?_
            refine al_k ?_
            refine cl_seq rfl ?_
            refine cl_reg rfl ?_
            refine st rfl rfl rfl rfl (x_asg rfl) ?_
            refine rl_end rfl ?_
            refine al_k ?_
            refine cl_ret rfl ?_
            refine fin1 rfl rfl ?_
            rw [show aMove N ls li nd = _ from if_pos hok]
            exact ⟨rfl, R, F⟩
          · skip
            refine oe rfl rfl rfl rfl (e_new (x_bsl rfl (bsl1 Tryd.underlying40 Tryd.sizeOf3 Tryd.zeroValue3 rfl rfl))) ?_
            rintro _ w6_15 ⟨rfl, b6_15, fr6_15, sz6_15⟩
            replace F := F.trans fr6_15.of0
            replace R := R.fr0 fr6_15
            replace C := C.fr0 fr6_15
            replace Fd := Fd.trans fr6_15
            replace b6_5 := b6_5.fr0 fr6_15
            refine ⟨.inr C, ?_⟩
            refine d1 (i := 13) (by kernel_rfl) ?_
            have HOL := own_lit (base := World.heap wd6 |>.size) (n := 0) (size := 1) b6_5 gd rfl (by decide)
            refine oe rfl rfl rfl rfl (e_appv 1 8 (.int .i64 0) (ints (rowAt (outOf ls nd) li)) rfl rfl Tryd.underlying40 (by kernel_rfl) rfl (by decide) HOL (ints_len _) C.nil C.row (ints_one _) (by omega) (by omega) Fd.size) ?_
            rintro v6_13 w6_13 ⟨HO, hg, hat⟩
            replace b6_15 := b6_15.fr (Fr.of_grown hg) (by simp [Value.ownBlock]; omega)
            replace Fd := Fd.grown hg (own_ge HOL)
            replace C := Cd.fr0 Fd
            replace F := Fe.trans Fd.of0
            replace R := C.R
            rw [Nat.zero_add, List.nil_append] at HO
            refine ⟨.inr C, ?_⟩
            refine d1 (i := 16) (by kernel_rfl) ?_
            refine oe rfl rfl rfl rfl (e_app 1 8 (.int .i64 0) [.int .i64 nd] rfl rfl Tryd.underlying40 (by kernel_rfl) rfl (by decide) HO rfl b6_15.news (by simp; rfl) (by omega) (by omega) Fd.size) ?_
            rintro v6_16 w6_16 ⟨HO1, hg, hat⟩
            replace Fd := Fd.grown hg (own_ge HO)
            replace C := Cd.fr0 Fd
            replace F := Fe.trans Fd.of0
            replace R := C.R
            rw [ints2] at HO1
            replace HO : World.ownsRow w6_16 (World.heap wd6).size 3 1 v6_16 ((rowAt (outOf ls nd) li) ++ [nd]).length (ints ((rowAt (outOf ls nd) li) ++ [nd])) := by rw [List.length_append]; exact HO1
            refine ⟨.inr C, ?_⟩
            refine dt (i := 17) rfl rfl rfl rfl (by kernel_rfl) (fun _ => x_ia0 rfl rfl Tryd.underlying67 Tryd.sizeOf40 (by omega)) ?_
            refine d1 (i := 18) (by kernel_rfl) ?_
            obtain ⟨A1, c1, rfl, _⟩ := own_slice HO
            obtain ⟨vs, hb, hvl, _⟩ := C.R.rows
            refine osv rfl rfl rfl (v_1 rfl rfl rfl rfl Tryd.sizeOf40 hb (by rw [hvl, Nat.mul_one]; (exact (List.getElem?_eq_some_iff.1 hl).1))) ?_
            rintro ws6 ⟨hS, frS⟩
            replace R := C.R.set (l := rowAt (outOf ls nd) li ++ [nd]) hb hS frS ((RowV.own HO Cd.R.sB).fr frS (by simpa using C.R.lB))
            replace F := F.trans frS
            refine ⟨.inl (by kernel_rfl), ?_⟩
            refine dn (by kernel_rfl) ?_
            refine al_k ?_
            refine cl_seq rfl ?_
            refine cl_reg rfl ?_
            refine st rfl rfl rfl rfl (x_asg rfl) ?_
            refine rl_end rfl ?_
            refine al_k ?_
            refine cl_ret rfl ?_
            refine fin1 rfl rfl ?_
            rw [show aMove N ls li nd = _ from if_pos hok]
            exact ⟨rfl, R, F⟩
        · skip
          refine oe rfl rfl rfl rfl (e_new (x_bsl rfl (bsl1 Tryd.underlying40 Tryd.sizeOf3 Tryd.zeroValue3 rfl rfl))) ?_
          rintro _ w6_15 ⟨rfl, b6_15, fr6_15, sz6_15⟩
          replace F := F.trans fr6_15.of0
          replace R := R.fr0 fr6_15
          replace C := C.fr0 fr6_15
          replace Fd := Fd.trans fr6_15
          refine ⟨.inr C, ?_⟩
          refine d1 (i := 5) (by kernel_rfl) ?_
          have gd := Fd.size
          refine oe rfl rfl rfl rfl (e_new (x_bsl rfl (bsl0 Tryd.underlying40 Tryd.sizeOf3))) ?_
          rintro _ w6_5 ⟨rfl, b6_5, fr6_5, sz6_5⟩
          replace F := F.trans fr6_5.of0
          replace R := R.fr0 fr6_5
          replace C := C.fr0 fr6_5
          replace Fd := Fd.trans fr6_5
          replace b6_15 := b6_15.fr0 fr6_5
          refine ⟨.inr C, ?_⟩
          refine d1 (i := 13) (by kernel_rfl) ?_
          have HOL := own_lit (base := World.heap wd6 |>.size) (n := 0) (size := 1) b6_5 gd rfl (by decide)
          refine oe rfl rfl rfl rfl (e_appv 1 8 (.int .i64 0) (ints (rowAt (outOf ls nd) li)) rfl rfl Tryd.underlying40 (by kernel_rfl) rfl (by decide) HOL (ints_len _) C.nil C.row (ints_one _) (by omega) (by omega) Fd.size) ?_
          rintro v6_13 w6_13 ⟨HO, hg, hat⟩
          replace b6_15 := b6_15.fr (Fr.of_grown hg) (by simp [Value.ownBlock]; omega)
          replace Fd := Fd.grown hg (own_ge HOL)
          replace C := Cd.fr0 Fd
          replace F := Fe.trans Fd.of0
          replace R := C.R
          rw [Nat.zero_add, List.nil_append] at HO
          refine ⟨.inr C, ?_⟩
          refine d1 (i := 16) (by kernel_rfl) ?_
          refine oe rfl rfl rfl rfl (e_app 1 8 (.int .i64 0) [.int .i64 nd] rfl rfl Tryd.underlying40 (by kernel_rfl) rfl (by decide) HO rfl b6_15.news (by simp; rfl) (by omega) (by omega) Fd.size) ?_
          rintro v6_16 w6_16 ⟨HO1, hg, hat⟩
          replace Fd := Fd.grown hg (own_ge HO)
          replace C := Cd.fr0 Fd
          replace F := Fe.trans Fd.of0
          replace R := C.R
          rw [ints2] at HO1
          replace HO : World.ownsRow w6_16 (World.heap wd6).size 3 1 v6_16 ((rowAt (outOf ls nd) li) ++ [nd]).length (ints ((rowAt (outOf ls nd) li) ++ [nd])) := by rw [List.length_append]; exact HO1
          refine ⟨.inr C, ?_⟩
          refine dt (i := 17) rfl rfl rfl rfl (by kernel_rfl) (fun _ => x_ia0 rfl rfl Tryd.underlying67 Tryd.sizeOf40 (by omega)) ?_
          refine d1 (i := 18) (by kernel_rfl) ?_
          obtain ⟨A1, c1, rfl, _⟩ := own_slice HO
          obtain ⟨vs, hb, hvl, _⟩ := C.R.rows
          refine osv rfl rfl rfl (v_1 rfl rfl rfl rfl Tryd.sizeOf40 hb (by rw [hvl, Nat.mul_one]; (exact (List.getElem?_eq_some_iff.1 hl).1))) ?_
          rintro ws6 ⟨hS, frS⟩
          replace R := C.R.set (l := rowAt (outOf ls nd) li ++ [nd]) hb hS frS ((RowV.own HO Cd.R.sB).fr frS (by simpa using C.R.lB))
          replace F := F.trans frS
          refine ⟨.inl (by kernel_rfl), ?_⟩
          refine dn (by kernel_rfl) ?_
          refine al_k ?_
          refine cl_seq rfl ?_
          refine cl_reg rfl ?_
          refine st rfl rfl rfl rfl (x_asg rfl) ?_
          refine rl_end rfl ?_
          refine al_k ?_
          refine cl_ret rfl ?_
          refine fin1 rfl rfl ?_
          rw [show aMove N ls li nd = _ from if_pos hok]
          exact ⟨rfl, R, F⟩
      · skip
        refine rl_end rfl ?_
        refine al_k ?_
        refine cl_if0 rfl rfl ?_
        refine cl_skip rfl ?_
        refine al_k ?_
        refine cl_seq rfl ?_
        rw [← out_none (atI_out (n := nd) (ls := ls) (by omega))] at R
        have hok : okL ls li ∧ okN N nd := ⟨of_decide_eq_true hf1_2, of_decide_eq_true hf1_7⟩
        have hok4 : okL (outOf ls nd) li := by unfold okL; rw [out_len]; exact hok.1
        have hl := rowAt_some hok4
        have hll := out_bound hB _ _ hl
        obtain ⟨hok1, hok2⟩ := hok4
        have hok3 := hok.2
        obtain ⟨A0, c0, C⟩ := R.rowc hl
        refine cl_draw (by kernel_rfl) rfl [18] (fun w' => RowC w' B0 B rp lb N (outOf ls nd) (li.toNat * 1) A0 c0 (rowAt (outOf ls nd) li)) ?_
        rintro wd6 frd6 hpd6
        replace C := C.fr0 frd6
        replace F := F.trans frd6.of0
        replace R := C.R
        have Cd := C
        have Fe := F
        have Fd := Fr.refl [] wd6
        refine ⟨C, ?_⟩
        refine dt (i := 0) rfl rfl rfl rfl (by kernel_rfl) (fun _ => x_move rfl) ?_
        refine dt (i := 1) rfl rfl rfl rfl (by kernel_rfl) (fun _ => x_nil rfl) ?_
        refine dt (i := 2) rfl rfl rfl rfl (by kernel_rfl) (fun _ => x_fa rfl Tryd.underlying69 rfl Tryd.sizeOf67 1 rfl) ?_
        refine dl (i := 3) rfl rfl rfl rfl (by kernel_rfl) (by kernel_rfl) (fun w' hU => x_ld rfl Tryd.isAgg67 (hU.R.top.cell rfl)) ?_
        refine dt (i := 4) rfl rfl rfl rfl (by kernel_rfl) (fun _ => x_move rfl) ?_
        refine dt (i := 6) rfl rfl rfl rfl (by kernel_rfl) (fun _ => x_move rfl) ?_
        refine dt (i := 7) rfl rfl rfl rfl (by kernel_rfl) (fun _ => x_nil rfl) ?_
        refine dt (i := 8) rfl rfl rfl rfl (by kernel_rfl) (fun _ => x_fa rfl Tryd.underlying69 rfl Tryd.sizeOf67 1 rfl) ?_
        refine dl (i := 9) rfl rfl rfl rfl (by kernel_rfl) (by kernel_rfl) (fun w' hU => x_ld rfl Tryd.isAgg67 (hU.R.top.cell rfl)) ?_
        refine dt (i := 10) rfl rfl rfl rfl (by kernel_rfl) (fun _ => x_move rfl) ?_
        refine dt (i := 11) rfl rfl rfl rfl (by kernel_rfl) (fun _ => x_ia0 rfl rfl Tryd.underlying67 Tryd.sizeOf40 (by omega)) ?_
        refine dl (i := 12) rfl rfl rfl rfl (by kernel_rfl) (by kernel_rfl) (fun w' hU => x_ld rfl Tryd.isAgg40 hU.cell) ?_
        refine dt (i := 14) rfl rfl rfl rfl (by kernel_rfl) (fun _ => x_move rfl) ?_
        refine d2 (i := 5) (j := 15) (by kernel_rfl) ?_ ?_
        · skip
          have gd := Fd.size
          refine oe rfl rfl rfl rfl (e_new (x_bsl rfl (bsl0 Tryd.underlying40 Tryd.sizeOf3))) ?_
          rintro _ w6_5 ⟨rfl, b6_5, fr6_5, sz6_5⟩
          replace F := F.trans fr6_5.of0
          replace R := R.fr0 fr6_5
          replace C := C.fr0 fr6_5
          replace Fd := Fd.trans fr6_5
          refine ⟨.inr C, ?_⟩
          refine d2 (i := 13) (j := 15) (by kernel_rfl) ?_ ?_
          · skip
            have HOL := own_lit (base := World.heap wd6 |>.size) (n := 0) (size := 1) b6_5 gd rfl (by decide)
            refine oe rfl rfl rfl rfl (e_appv 1 8 (.int .i64 0) (ints (rowAt (outOf ls nd) li)) rfl rfl Tryd.underlying40 (by kernel_rfl) rfl (by decide) HOL (ints_len _) C.nil C.row (ints_one _) (by omega) (by omega) Fd.size) ?_
            rintro v6_13 w6_13 ⟨HO, hg, hat⟩
            replace Fd := Fd.grown hg (own_ge HOL)
            replace C := Cd.fr0 Fd
            replace F := Fe.trans Fd.of0
            replace R := C.R
            rw [Nat.zero_add, List.nil_append] at HO
            refine ⟨.inr C, ?_⟩
            refine d1 (i := 15) (by kernel_rfl) ?_
            refine oe rfl rfl rfl rfl (e_new (x_bsl rfl (bsl1 Tryd.underlying40 Tryd.sizeOf3 Tryd.zeroValue3 rfl rfl))) ?_
            rintro _ w6_15 ⟨rfl, b6_15, fr6_15, sz6_15⟩
            replace F := F.trans fr6_15.of0
            replace R := R.fr0 fr6_15
            replace C := C.fr0 fr6_15
            replace Fd := Fd.trans fr6_15
            replace HO := own_fr0 HO fr6_15
            refine ⟨.inr C, ?_⟩
            refine d1 (i := 16) (by kernel_rfl) ?_
            refine oe rfl rfl rfl rfl (e_app 1 8 (.int .i64 0) [.int .i64 nd] rfl rfl Tryd.underlying40 (by kernel_rfl) rfl (by decide) HO rfl b6_15.news (by simp; rfl) (by omega) (by omega) Fd.size) ?_
            rintro v6_16 w6_16 ⟨HO1, hg, hat⟩
            replace Fd := Fd.grown hg (own_ge HO)
            replace C := Cd.fr0 Fd
            replace F := Fe.trans Fd.of0
            replace R := C.R
            rw [ints2] at HO1
            replace HO : World.ownsRow w6_16 (World.heap wd6).size 3 1 v6_16 ((rowAt (outOf ls nd) li) ++ [nd]).length (ints ((rowAt (outOf ls nd) li) ++ [nd])) := by rw [List.length_append]; exact HO1
            refine ⟨.inr C, ?_⟩
            refine dt (i := 17) rfl rfl rfl rfl (by kernel_rfl) (fun _ => x_ia0 rfl rfl Tryd.underlying67 Tryd.sizeOf40 (by omega)) ?_
            refine d1 (i := 18) (by kernel_rfl) ?_
            obtain ⟨A1, c1, rfl, _⟩ := own_slice HO
            obtain ⟨vs, hb, hvl, _⟩ := C.R.rows
            refine osv rfl rfl rfl (v_1 rfl rfl rfl rfl Tryd.sizeOf40 hb (by rw [hvl, Nat.mul_one]; (exact (List.getElem?_eq_some_iff.1 hl).1))) ?_
            rintro ws6 ⟨hS, frS⟩
            replace R := C.R.set (l := rowAt (outOf ls nd) li ++ [nd]) hb hS frS ((RowV.own HO Cd.R.sB).fr frS (by simpa using C.R.lB))
            replace F := F.trans frS
            refine ⟨.inl (by kernel_rfl), ?_⟩
            refine dn (by kernel_rfl) ?_
            refine al_k ?_
            refine cl_seq rfl ?_
            refine cl_reg rfl ?_
            refine st rfl rfl rfl rfl (x_asg rfl) ?_
            refine rl_end rfl ?_
            refine al_k ?_
            refine cl_ret rfl ?_
            refine fin1 rfl rfl ?_
            rw [show aMove N ls li nd = _ from if_pos hok]
            exact ⟨rfl, R, F⟩
          · skip
            refine oe rfl rfl rfl rfl (e_new (x_bsl rfl (bsl1 Tryd.underlying40 Tryd.sizeOf3 Tryd.zeroValue3 rfl rfl))) ?_
            rintro _ w6_15 ⟨rfl, b6_15, fr6_15, sz6_15⟩
            replace F := F.trans fr6_15.of0
            replace R := R.fr0 fr6_15
            replace C := C.fr0 fr6_15
            replace Fd := Fd.trans fr6_15
            replace b6_5 := b6_5.fr0 fr6_15
            refine ⟨.inr C, ?_⟩
            refine d1 (i := 13) (by kernel_rfl) ?_
            have HOL := own_lit (base := World.heap wd6 |>.size) (n := 0) (size := 1) b6_5 gd rfl (by decide)
            refine oe rfl rfl rfl rfl (e_appv 1 8 (.int .i64 0) (ints (rowAt (outOf ls nd) li)) rfl rfl Tryd.underlying40 (by kernel_rfl) rfl (by decide) HOL (ints_len _) C.nil C.row (ints_one _) (by omega) (by omega) Fd.size) ?_
            rintro v6_13 w6_13 ⟨HO, hg, hat⟩
            replace b6_15 := b6_15.fr (Fr.of_grown hg) (by simp [Value.ownBlock]; omega)
            replace Fd := Fd.grown hg (own_ge HOL)
            replace C := Cd.fr0 Fd
            replace F := Fe.trans Fd.of0
            replace R := C.R
            rw [Nat.zero_add, List.nil_append] at HO
            refine ⟨.inr C, ?_⟩
            refine d1 (i := 16) (by kernel_rfl) ?_
            refine oe rfl rfl rfl rfl (e_app 1 8 (.int .i64 0) [.int .i64 nd] rfl rfl Tryd.underlying40 (by kernel_rfl) rfl (by decide) HO rfl b6_15.news (by simp; rfl) (by omega) (by omega) Fd.size) ?_
            rintro v6_16 w6_16 ⟨HO1, hg, hat⟩
            replace Fd := Fd.grown hg (own_ge HO)
            replace C := Cd.fr0 Fd
            replace F := Fe.trans Fd.of0
            replace R := C.R
            rw [ints2] at HO1
            replace HO : World.ownsRow w6_16 (World.heap wd6).size 3 1 v6_16 ((rowAt (outOf ls nd) li) ++ [nd]).length (ints ((rowAt (outOf ls nd) li) ++ [nd])) := by rw [List.length_append]; exact HO1
            refine ⟨.inr C, ?_⟩
            refine dt (i := 17) rfl rfl rfl rfl (by kernel_rfl) (fun _ => x_ia0 rfl rfl Tryd.underlying67 Tryd.sizeOf40 (by omega)) ?_
            refine d1 (i := 18) (by kernel_rfl) ?_
            obtain ⟨A1, c1, rfl, _⟩ := own_slice HO
            obtain ⟨vs, hb, hvl, _⟩ := C.R.rows
            refine osv rfl rfl rfl (v_1 rfl rfl rfl rfl Tryd.sizeOf40 hb (by rw [hvl, Nat.mul_one]; (exact (List.getElem?_eq_some_iff.1 hl).1))) ?_
            rintro ws6 ⟨hS, frS⟩
            replace R := C.R.set (l := rowAt (outOf ls nd) li ++ [nd]) hb hS frS ((RowV.own HO Cd.R.sB).fr frS (by simpa using C.R.lB))
            replace F := F.trans frS
            refine ⟨.inl (by kernel_rfl), ?_⟩
            refine dn (by kernel_rfl) ?_
            refine al_k ?_
            refine cl_seq rfl ?_
            refine cl_reg rfl ?_
            refine st rfl rfl rfl rfl (x_asg rfl) ?_
            refine rl_end rfl ?_
            refine al_k ?_
            refine cl_ret rfl ?_
            refine fin1 rfl rfl ?_
            rw [show aMove N ls li nd = _ from if_pos hok]
            exact ⟨rfl, R, F⟩
        · skip
          refine oe rfl rfl rfl rfl (e_new (x_bsl rfl (bsl1 Tryd.underlying40 Tryd.sizeOf3 Tryd.zeroValue3 rfl rfl))) ?_
          rintro _ w6_15 ⟨rfl, b6_15, fr6_15, sz6_15⟩
          replace F := F.trans fr6_15.of0
          replace R := R.fr0 fr6_15
          replace C := C.fr0 fr6_15
          replace Fd := Fd.trans fr6_15
          refine ⟨.inr C, ?_⟩
          refine d1 (i := 5) (by kernel_rfl) ?_
          have gd := Fd.size
          refine oe rfl rfl rfl rfl (e_new (x_bsl rfl (bsl0 Tryd.underlying40 Tryd.sizeOf3))) ?_
          rintro _ w6_5 ⟨rfl, b6_5, fr6_5, sz6_5⟩
          replace F := F.trans fr6_5.of0
          replace R := R.fr0 fr6_5
          replace C := C.fr0 fr6_5
          replace Fd := Fd.trans fr6_5
          replace b6_15 := b6_15.fr0 fr6_5
          refine ⟨.inr C, ?_⟩
          refine d1 (i := 13) (by kernel_rfl) ?_
          have HOL := own_lit (base := World.heap wd6 |>.size) (n := 0) (size := 1) b6_5 gd rfl (by decide)
          refine oe rfl rfl rfl rfl (e_appv 1 8 (.int .i64 0) (ints (rowAt (outOf ls nd) li)) rfl rfl Tryd.underlying40 (by kernel_rfl) rfl (by decide) HOL (ints_len _) C.nil C.row (ints_one _) (by omega) (by omega) Fd.size) ?_
          rintro v6_13 w6_13 ⟨HO, hg, hat⟩
          replace b6_15 := b6_15.fr (Fr.of_grown hg) (by simp [Value.ownBlock]; omega)
          replace Fd := Fd.grown hg (own_ge HOL)
          replace C := Cd.fr0 Fd
          replace F := Fe.trans Fd.of0
          replace R := C.R
          rw [Nat.zero_add, List.nil_append] at HO
          refine ⟨.inr C, ?_⟩
          refine d1 (i := 16) (by kernel_rfl) ?_
          refine oe rfl rfl rfl rfl (e_app 1 8 (.int .i64 0) [.int .i64 nd] rfl rfl Tryd.underlying40 (by kernel_rfl) rfl (by decide) HO rfl b6_15.news (by simp; rfl) (by omega) (by omega) Fd.size) ?_
          rintro v6_16 w6_16 ⟨HO1, hg, hat⟩
          replace Fd := Fd.grown hg (own_ge HO)
          replace C := Cd.fr0 Fd
          replace F := Fe.trans Fd.of0
          replace R := C.R
          rw [ints2] at HO1
          replace HO : World.ownsRow w6_16 (World.heap wd6).size 3 1 v6_16 ((rowAt (outOf ls nd) li) ++ [nd]).length (ints ((rowAt (outOf ls nd) li) ++ [nd])) := by rw [List.length_append]; exact HO1
          refine ⟨.inr C, ?_⟩
          refine dt (i := 17) rfl rfl rfl rfl (by kernel_rfl) (fun _ => x_ia0 rfl rfl Tryd.underlying67 Tryd.sizeOf40 (by omega)) ?_
          refine d1 (i := 18) (by kernel_rfl) ?_
          obtain ⟨A1, c1, rfl, _⟩ := own_slice HO
          obtain ⟨vs, hb, hvl, _⟩ := C.R.rows
          refine osv rfl rfl rfl (v_1 rfl rfl rfl rfl Tryd.sizeOf40 hb (by rw [hvl, Nat.mul_one]; (exact (List.getElem?_eq_some_iff.1 hl).1))) ?_
          rintro ws6 ⟨hS, frS⟩
          replace R := C.R.set (l := rowAt (outOf ls nd) li ++ [nd]) hb hS frS ((RowV.own HO Cd.R.sB).fr frS (by simpa using C.R.lB))
          replace F := F.trans frS
          refine ⟨.inl (by kernel_rfl), ?_⟩
          refine dn (by kernel_rfl) ?_
          refine al_k ?_
          refine cl_seq rfl ?_
          refine cl_reg rfl ?_
          refine st rfl rfl rfl rfl (x_asg rfl) ?_
          refine rl_end rfl ?_
          refine al_k ?_
          refine cl_ret rfl ?_
          refine fin1 rfl rfl ?_
          rw [show aMove N ls li nd = _ from if_pos hok]
          exact ⟨rfl, R, F⟩

theorem rof_c (w : World) (B0 B rp lb N : Nat) (ls : Rows) (R : RefAt w B0 B rp lb N ls) (hB : ∀ (i : Nat) l, ls[i]? = some l → l.length ≤ 65536) (nd : Int) : Cl Tryd.prog 39 [.pointer (some ⟨rp, 0, none⟩), .int .i64 nd] w (fun v w' => v = .tuple #[.int .i64 (aOf N ls nd).1, .bool (aOf N ls nd).2] ∧ w' = w) := by
  refine enter Tryd.func39 rfl Tryd.ntmps39 rfl ?_
  refine cl_seq rfl ?_
  refine cl_reg rfl ?_
  refine st rfl rfl rfl rfl (x_asg rfl) ?_
  refine st rfl rfl rfl rfl (x_asg rfl) ?_
  refine rl_end rfl ?_
  refine al_k ?_
  refine cl_seq rfl ?_
  refine cl_seq rfl ?_
  refine cl_reg rfl ?_
  refine st rfl rfl rfl rfl (x_move rfl) ?_
  refine st rfl rfl rfl rfl (x_move rfl) ?_
  refine sc rfl rfl rfl rfl (c_fn rfl Tryd.call46 (rnode_c _ B0 B rp lb N ls R nd)) ?_
  rintro _ wk ⟨rfl, hwk⟩
  obtain rfl := hwk.symm
  cases hf1_2 : (decide (okN N nd))
  · skip
    refine st rfl rfl rfl rfl (x_not0 rfl) ?_
    refine rl_end rfl ?_
    refine al_k ?_
    refine cl_if1 rfl rfl ?_
    refine cl_seq rfl ?_
    refine cl_reg rfl ?_
    refine st rfl rfl rfl rfl (x_asg rfl) ?_
    refine st rfl rfl rfl rfl (x_asg rfl) ?_
    refine rl_end rfl ?_
    refine al_k ?_
    refine cl_ret rfl ?_
    refine fin2 rfl rfl rfl ?_
    rw [show aOf N ls nd = (0, false) from if_neg (fun h => by rw [decide_eq_true h] at hf1_2; cases hf1_2)]
    exact ⟨rfl, rfl⟩
  · skip
    refine st rfl rfl rfl rfl (x_not1 rfl) ?_
    refine rl_end rfl ?_
    refine al_k ?_
    refine cl_if0 rfl rfl ?_
    refine cl_skip rfl ?_
    refine al_k ?_
    refine cl_seq rfl ?_
    refine cl_reg rfl ?_
    refine st rfl rfl rfl rfl (x_move rfl) ?_
    refine st rfl rfl rfl rfl (x_move rfl) ?_
    refine sc rfl rfl rfl rfl (c_fn rfl Tryd.call47 (rat_c _ B0 B rp lb N ls R hB nd)) ?_
    rintro _ wk ⟨rfl, hwk⟩
    obtain rfl := hwk.symm
    refine st rfl rfl rfl rfl (x_asg rfl) ?_
    refine rl_end rfl ?_
    refine al_k ?_
    refine cl_seq rfl ?_
    refine cl_seq rfl ?_
    refine cl_reg rfl ?_
    refine st rfl rfl rfl rfl (x_move rfl) ?_
    refine sf rfl rfl rfl rfl (x_lss rfl rfl) (fun c4_1 => ?_) (fun c4_1 => ?_)
    · skip
      refine rl_end rfl ?_
      refine al_k ?_
      refine cl_if1 rfl rfl ?_
      refine cl_seq rfl ?_
      refine cl_reg rfl ?_
      refine st rfl rfl rfl rfl (x_asg rfl) ?_
      refine st rfl rfl rfl rfl (x_asg rfl) ?_
      refine rl_end rfl ?_
      refine al_k ?_
      refine cl_ret rfl ?_
      refine fin2 rfl rfl rfl ?_
      have hok := of_decide_eq_true hf1_2
      rw [show aOf N ls nd = (0, false) from by simp [aOf, hok, atI_out c4_1]]
      exact ⟨rfl, rfl⟩
    · skip
      refine rl_end rfl ?_
      refine al_k ?_
      refine cl_if0 rfl rfl ?_
      refine cl_skip rfl ?_
      refine al_k ?_
      refine cl_seq rfl ?_
      refine cl_reg rfl ?_
      refine st rfl rfl rfl rfl (x_move rfl) ?_
      refine st rfl rfl rfl rfl (x_asg rfl) ?_
      refine st rfl rfl rfl rfl (x_asg rfl) ?_
      refine rl_end rfl ?_
      refine al_k ?_
      refine cl_ret rfl ?_
      refine fin2 rfl rfl rfl ?_
      have hok := of_decide_eq_true hf1_2
      obtain ⟨i, l, hi, hati, hli⟩ := atI_in (ls := ls) (n := nd) (by omega)
      rw [show aOf N ls nd = ((i : Int), true) from by simp [aOf, hok, hi], hati]
      exact ⟨rfl, rfl⟩

theorem rall_c (w : World) (B0 B rp lb N : Nat) (ls : Rows) (R : RefAt w B0 B rp lb N ls) (li : Int) : Cl Tryd.prog 15 [.pointer (some ⟨rp, 0, none⟩), .int .i64 li] w (fun v w' => RowV w B v (aAll ls li) ∧ w' = w) := by
  refine enter Tryd.func15 rfl Tryd.ntmps15 rfl ?_
  refine cl_seq rfl ?_
  refine cl_reg rfl ?_
  refine st rfl rfl rfl rfl (x_asg rfl) ?_
  refine rl_end rfl ?_
  refine al_k ?_
  refine cl_seq rfl ?_
  refine cl_seq rfl ?_
  refine cl_reg rfl ?_
  refine st rfl rfl rfl rfl (x_move rfl) ?_
  refine st rfl rfl rfl rfl (x_move rfl) ?_
  refine sc rfl rfl rfl rfl (c_fn rfl Tryd.call36 (ris_c _ B0 B rp lb N ls R li)) ?_
  rintro _ wk ⟨rfl, hwk⟩
  obtain rfl := hwk.symm
  cases hf1_2 : (decide (okL ls li))
  · skip
    refine st rfl rfl rfl rfl (x_not0 rfl) ?_
    refine rl_end rfl ?_
    refine al_k ?_
    refine cl_if1 rfl rfl ?_
    refine cl_seq rfl ?_
    refine cl_reg rfl ?_
    refine st rfl rfl rfl rfl (x_asg rfl) ?_
    refine rl_end rfl ?_
    refine al_k ?_
    refine cl_ret rfl ?_
    refine fin1 rfl rfl ?_
    rw [show aAll ls li = [] from if_neg (fun h => by rw [decide_eq_true h] at hf1_2; cases hf1_2)]
    exact ⟨RowV.nil _ _, rfl⟩
  · skip
    refine st rfl rfl rfl rfl (x_not1 rfl) ?_
    refine rl_end rfl ?_
    refine al_k ?_
    refine cl_if0 rfl rfl ?_
    refine cl_skip rfl ?_
    refine al_k ?_
    refine cl_seq rfl ?_
    have hok := of_decide_eq_true hf1_2
    have hl := rowAt_some hok
    obtain ⟨hok1, hok2⟩ := hok
    obtain ⟨v, hc, hv⟩ := R.rowv hl
    refine cl_reg rfl ?_
    refine st rfl rfl rfl rfl (x_move rfl) ?_
    refine st rfl rfl rfl rfl (x_nil rfl) ?_
    refine st rfl rfl rfl rfl (x_fa rfl Tryd.underlying69 rfl Tryd.sizeOf67 1 rfl) ?_
    refine st rfl rfl rfl rfl (x_ld rfl Tryd.isAgg67 (R.top.cell rfl)) ?_
    refine st rfl rfl rfl rfl (x_move rfl) ?_
    refine st rfl rfl rfl rfl (x_ia0 rfl rfl Tryd.underlying67 Tryd.sizeOf40 (by omega)) ?_
    refine st rfl rfl rfl rfl (x_ld rfl Tryd.isAgg40 hc) ?_
    refine st rfl rfl rfl rfl (x_asg rfl) ?_
    refine rl_end rfl ?_
    refine al_k ?_
    refine cl_ret rfl ?_
    refine fin1 rfl rfl ?_
    rw [show aAll ls li = rowAt ls li from if_pos ⟨hok1, hok2⟩]
    exact ⟨hv, rfl⟩

theorem rtake_c (w : World) (B0 B rp lb N : Nat) (ls : Rows) (R : RefAt w B0 B rp lb N ls) (hB : ∀ (i : Nat) l, ls[i]? = some l → l.length ≤ 65536) (to fr : Int) : Cl Tryd.prog 35 [.pointer (some ⟨rp, 0, none⟩), .int .i64 to, .int .i64 fr] w (fun v w' => v = .int .i64 (aTake ls to fr).2 ∧ RefAt w' B0 B rp lb N (aTake ls to fr).1 ∧ Fr [lb] w w') := by
  have F := Fr.refl [lb] w
  refine enter Tryd.func35 rfl Tryd.ntmps35 rfl ?_
  refine cl_seq rfl ?_
  refine cl_reg rfl ?_
  refine st rfl rfl rfl rfl (x_asg rfl) ?_
  refine rl_end rfl ?_
  refine al_k ?_
  refine cl_seq rfl ?_
  refine cl_seq rfl ?_
  refine cl_reg rfl ?_
  refine st rfl rfl rfl rfl (x_move rfl) ?_
  refine st rfl rfl rfl rfl (x_move rfl) ?_
  refine sc rfl rfl rfl rfl (c_fn rfl Tryd.call36 (ris_c _ B0 B rp lb N ls R to)) ?_
  rintro _ wk ⟨rfl, hwk⟩
  obtain rfl := hwk.symm
  cases hf1_2 : (decide (okL ls to))
  · skip
    refine st rfl rfl rfl rfl (x_not0 rfl) ?_
    refine st rfl rfl rfl rfl (x_move rfl) ?_
    refine so rfl rfl rfl rfl ?_
    refine so rfl rfl rfl rfl ?_
    refine so rfl rfl rfl rfl ?_
    refine so rfl rfl rfl rfl ?_
    refine st rfl rfl rfl rfl (x_pick1 rfl rfl) ?_
    refine rl_end rfl ?_
    refine al_k ?_
    refine cl_if1 rfl rfl ?_
    refine cl_seq rfl ?_
    refine cl_reg rfl ?_
    refine st rfl rfl rfl rfl (x_asg rfl) ?_
    refine rl_end rfl ?_
    refine al_k ?_
    refine cl_ret rfl ?_
    refine fin1 rfl rfl ?_
    rw [show aTake ls to fr = (ls, 5) from if_neg (fun h => by rw [decide_eq_true h.1] at hf1_2; cases hf1_2)]
    exact ⟨rfl, R, F⟩
  · skip
    refine st rfl rfl rfl rfl (x_not1 rfl) ?_
    refine st rfl rfl rfl rfl (x_move rfl) ?_
    refine st rfl rfl rfl rfl (x_move rfl) ?_
    refine st rfl rfl rfl rfl (x_move rfl) ?_
    refine sc rfl rfl rfl rfl (c_fn rfl Tryd.call36 (ris_c _ B0 B rp lb N ls R fr)) ?_
    rintro _ wk ⟨rfl, hwk⟩
    obtain rfl := hwk.symm
    cases hf1_7 : (decide (okL ls fr))
    · skip
      refine st rfl rfl rfl rfl (x_not0 rfl) ?_
      refine st rfl rfl rfl rfl (x_pick0 rfl rfl) ?_
      refine rl_end rfl ?_
      refine al_k ?_
      refine cl_if1 rfl rfl ?_
      refine cl_seq rfl ?_
      refine cl_reg rfl ?_
      refine st rfl rfl rfl rfl (x_asg rfl) ?_
      refine rl_end rfl ?_
      refine al_k ?_
      refine cl_ret rfl ?_
      refine fin1 rfl rfl ?_
      rw [show aTake ls to fr = (ls, 5) from if_neg (fun h => by rw [decide_eq_true h.2] at hf1_7; cases hf1_7)]
      exact ⟨rfl, R, F⟩
    · skip
      refine st rfl rfl rfl rfl (x_not1 rfl) ?_
      refine st rfl rfl rfl rfl (x_pick0 rfl rfl) ?_
      refine rl_end rfl ?_
      refine al_k ?_
      refine cl_if0 rfl rfl ?_
      refine cl_skip rfl ?_
      refine al_k ?_
      refine cl_seq rfl ?_
      refine cl_seq rfl ?_
      refine cl_reg rfl ?_
      refine st rfl rfl rfl rfl (x_move rfl) ?_
      refine st rfl rfl rfl rfl (x_move rfl) ?_
      refine sf rfl rfl rfl rfl (x_neq rfl rfl) (fun c3_2 => ?_) (fun c3_2 => ?_)
      · skip
        refine rl_end rfl ?_
        refine al_k ?_
        refine cl_if1 rfl rfl ?_
        refine cl_seq rfl ?_
        have hok : okL ls to ∧ okL ls fr := ⟨of_decide_eq_true hf1_2, of_decide_eq_true hf1_7⟩
        have hl := rowAt_some hok.1
        have hl2 := rowAt_some hok.2
        have hll := hB _ _ hl
        have hll2 := hB _ _ hl2
        obtain ⟨⟨hok1, hok2⟩, hok3, hok4⟩ := hok
        obtain ⟨A0, c0, C⟩ := R.rowc hl
        obtain ⟨A2, c2, C2⟩ := R.rowc hl2
        refine cl_draw (by kernel_rfl) rfl [23] (fun w' => RowC w' B0 B rp lb N ls (to.toNat * 1) A0 c0 (rowAt ls to) ∧ RowC w' B0 B rp lb N ls (fr.toNat * 1) A2 c2 (rowAt ls fr)) ?_
        rintro wd4 frd4 hpd4
        replace C := C.fr0 frd4
        replace F := F.trans frd4.of0
        replace R := C.R
        have Cd := C
        have Fe := F
        have Fd := Fr.refl [] wd4
        replace C2 := C2.fr0 frd4
        have Cd2 := C2
        refine ⟨⟨C, C2⟩, ?_⟩
        refine dt (i := 0) rfl rfl rfl rfl (by kernel_rfl) (fun _ => x_move rfl) ?_
        refine dt (i := 1) rfl rfl rfl rfl (by kernel_rfl) (fun _ => x_nil rfl) ?_
        refine dt (i := 2) rfl rfl rfl rfl (by kernel_rfl) (fun _ => x_fa rfl Tryd.underlying69 rfl Tryd.sizeOf67 1 rfl) ?_
        refine dl (i := 3) rfl rfl rfl rfl (by kernel_rfl) (by kernel_rfl) (fun w' hU => x_ld rfl Tryd.isAgg67 (hU.1.R.top.cell rfl)) ?_
        refine dt (i := 4) rfl rfl rfl rfl (by kernel_rfl) (fun _ => x_move rfl) ?_
        refine dt (i := 6) rfl rfl rfl rfl (by kernel_rfl) (fun _ => x_move rfl) ?_
        refine dt (i := 7) rfl rfl rfl rfl (by kernel_rfl) (fun _ => x_nil rfl) ?_
        refine dt (i := 8) rfl rfl rfl rfl (by kernel_rfl) (fun _ => x_fa rfl Tryd.underlying69 rfl Tryd.sizeOf67 1 rfl) ?_
        refine dl (i := 9) rfl rfl rfl rfl (by kernel_rfl) (by kernel_rfl) (fun w' hU => x_ld rfl Tryd.isAgg67 (hU.1.R.top.cell rfl)) ?_
        refine dt (i := 10) rfl rfl rfl rfl (by kernel_rfl) (fun _ => x_move rfl) ?_
        refine dt (i := 11) rfl rfl rfl rfl (by kernel_rfl) (fun _ => x_ia0 rfl rfl Tryd.underlying67 Tryd.sizeOf40 (by omega)) ?_
        refine dl (i := 12) rfl rfl rfl rfl (by kernel_rfl) (by kernel_rfl) (fun w' hU => x_ld rfl Tryd.isAgg40 hU.1.cell) ?_
        refine dt (i := 14) rfl rfl rfl rfl (by kernel_rfl) (fun _ => x_move rfl) ?_
        refine dt (i := 15) rfl rfl rfl rfl (by kernel_rfl) (fun _ => x_nil rfl) ?_
        refine dt (i := 16) rfl rfl rfl rfl (by kernel_rfl) (fun _ => x_fa rfl Tryd.underlying69 rfl Tryd.sizeOf67 1 rfl) ?_
        refine dl (i := 17) rfl rfl rfl rfl (by kernel_rfl) (by kernel_rfl) (fun w' hU => x_ld rfl Tryd.isAgg67 (hU.1.R.top.cell rfl)) ?_
        refine dt (i := 18) rfl rfl rfl rfl (by kernel_rfl) (fun _ => x_move rfl) ?_
        refine dt (i := 19) rfl rfl rfl rfl (by kernel_rfl) (fun _ => x_ia0 rfl rfl Tryd.underlying67 Tryd.sizeOf40 (by omega)) ?_
        refine dl (i := 20) rfl rfl rfl rfl (by kernel_rfl) (by kernel_rfl) (fun w' hU => x_ld rfl Tryd.isAgg40 hU.2.cell) ?_
        refine d1 (i := 5) (by kernel_rfl) ?_
        have gd := Fd.size
        refine oe rfl rfl rfl rfl (e_new (x_bsl rfl (bsl0 Tryd.underlying40 Tryd.sizeOf3))) ?_
        rintro _ w4_5 ⟨rfl, b4_5, fr4_5, sz4_5⟩
        replace F := F.trans fr4_5.of0
        replace R := R.fr0 fr4_5
        replace C := C.fr0 fr4_5
        replace Fd := Fd.trans fr4_5
        replace C2 := C2.fr0 fr4_5
        refine ⟨.inr ⟨C, C2⟩, ?_⟩
        refine d1 (i := 13) (by kernel_rfl) ?_
        have HOL := own_lit (base := World.heap wd4 |>.size) (n := 0) (size := 1) b4_5 gd rfl (by decide)
        refine oe rfl rfl rfl rfl (e_appv 1 8 (.int .i64 0) (ints (rowAt ls to)) rfl rfl Tryd.underlying40 (by kernel_rfl) rfl (by decide) HOL (ints_len _) C.nil C.row (ints_one _) (by omega) (by omega) Fd.size) ?_
        rintro v4_13 w4_13 ⟨HO, hg, hat⟩
        replace Fd := Fd.grown hg (own_ge HOL)
        replace C := Cd.fr0 Fd
        replace F := Fe.trans Fd.of0
        replace R := C.R
        replace C2 := Cd2.fr0 Fd
        rw [Nat.zero_add, List.nil_append] at HO
        refine ⟨.inr ⟨C, C2⟩, ?_⟩
        refine d1 (i := 21) (by kernel_rfl) ?_
        refine oe rfl rfl rfl rfl (e_appv 1 8 (.int .i64 0) (ints (rowAt ls fr)) rfl rfl Tryd.underlying40 (by kernel_rfl) rfl (by decide) HO (ints_len _) C2.nil C2.row (ints_one _) (by omega) (by omega) Fd.size) ?_
        rintro v4_21 w4_21 ⟨HO1, hg, hat⟩
        replace Fd := Fd.grown hg (own_ge HO)
        replace C := Cd.fr0 Fd
        replace C2 := Cd2.fr0 Fd
        replace F := Fe.trans Fd.of0
        replace R := C.R
        rw [ints3] at HO1
        replace HO : World.ownsRow w4_21 (World.heap wd4).size 3 1 v4_21 (rowAt ls to ++ rowAt ls fr).length (ints (rowAt ls to ++ rowAt ls fr)) := by rw [List.length_append]; exact HO1
        refine ⟨.inr ⟨C, C2⟩, ?_⟩
        refine dt (i := 22) rfl rfl rfl rfl (by kernel_rfl) (fun _ => x_ia0 rfl rfl Tryd.underlying67 Tryd.sizeOf40 (by omega)) ?_
        refine d1 (i := 23) (by kernel_rfl) ?_
        obtain ⟨A1, c1, rfl, _⟩ := own_slice HO
        obtain ⟨vs, hb, hvl, _⟩ := C.R.rows
        refine osv rfl rfl rfl (v_1 rfl rfl rfl rfl Tryd.sizeOf40 hb (by rw [hvl, Nat.mul_one]; (exact (List.getElem?_eq_some_iff.1 hl).1))) ?_
        rintro ws4 ⟨hS, frS⟩
        replace R := C.R.set (l := rowAt ls to ++ rowAt ls fr) hb hS frS ((RowV.own HO Cd.R.sB).fr frS (by simpa using C.R.lB))
        replace F := F.trans frS
        refine ⟨.inl (by kernel_rfl), ?_⟩
        refine dn (by kernel_rfl) ?_
        refine al_k ?_
        obtain ⟨vs, hb, hvl, _⟩ := R.rows
        have hle : (ls.set to.toNat (rowAt ls to ++ rowAt ls fr)).length = ls.length := by simp
        refine cl_reg rfl ?_
        refine st rfl rfl rfl rfl (x_move rfl) ?_
        refine st rfl rfl rfl rfl (x_nil rfl) ?_
        refine st rfl rfl rfl rfl (x_fa rfl Tryd.underlying69 rfl Tryd.sizeOf67 1 rfl) ?_
        refine st rfl rfl rfl rfl (x_ld rfl Tryd.isAgg67 (R.top.cell rfl)) ?_
        refine st rfl rfl rfl rfl (x_move rfl) ?_
        refine st rfl rfl rfl rfl (x_ia0 rfl rfl Tryd.underlying67 Tryd.sizeOf40 (by rw [hle]; omega)) ?_
        refine sv rfl rfl rfl (v_1 rfl rfl rfl rfl Tryd.sizeOf40 hb (by rw [hvl, Nat.mul_one, hle]; exact (List.getElem?_eq_some_iff.1 hl2).1)) ?_
        rintro ws5 ⟨hS, frS⟩
        replace R := R.set (l := []) hb hS frS (RowV.nil _ _)
        replace F := F.trans frS
        refine rl_end rfl ?_
        refine al_k ?_
        refine cl_seq rfl ?_
        refine cl_reg rfl ?_
        refine st rfl rfl rfl rfl (x_asg rfl) ?_
        refine rl_end rfl ?_
        refine al_k ?_
        refine cl_ret rfl ?_
        refine fin1 rfl rfl ?_
        rw [show aTake ls to fr = ((ls.set to.toNat (rowAt ls to ++ rowAt ls fr)).set fr.toNat [], 0) from by unfold aTake; rw [if_pos ⟨⟨hok1, hok2⟩, hok3, hok4⟩, if_neg c3_2]]
        exact ⟨rfl, R, F⟩
      · skip
        refine rl_end rfl ?_
        refine al_k ?_
        refine cl_if0 rfl rfl ?_
        refine cl_skip rfl ?_
        refine al_k ?_
        refine cl_seq rfl ?_
        refine cl_reg rfl ?_
        refine st rfl rfl rfl rfl (x_asg rfl) ?_
        refine rl_end rfl ?_
        refine al_k ?_
        refine cl_ret rfl ?_
        refine fin1 rfl rfl ?_
        have hok : okL ls to ∧ okL ls fr := ⟨of_decide_eq_true hf1_2, of_decide_eq_true hf1_7⟩
        rw [show aTake ls to fr = (ls, 0) from by unfold aTake; rw [if_pos hok, if_pos (Decidable.not_not.1 c3_2)]]
        exact ⟨rfl, R, F⟩

end Go.Proofs.YtnnhpbjibhnhnabDoor.Ls
