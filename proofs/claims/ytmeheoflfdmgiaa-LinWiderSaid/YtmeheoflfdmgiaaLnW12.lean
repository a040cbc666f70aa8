/- The law of wider deeds. -/
import Derived.Test.YtmeheoflfdmgiaaLnW11
import Derived.Test.YtmeheoflfdmgiaaLnR
set_option linter.unusedVariables false
namespace Go.Proofs.Ytmeheoflfdmgiaa.Lin
open Go Go.RowKit Go.Proofs.Ytmeheoflfdmgiaa.Sx Go.Proofs.Ytmeheoflfdmgiaa
set_option maxRecDepth 100000

theorem wider_core (w : World) (A : Option Addr) (c : Nat) (l : List D) (HR : RowG encD 6 w A l) (hcp : l.length ≤ c) (A2 : Option Addr) (c2 : Nat) (row : List Int) (HI : RowG encI 1 w A2 row) (hcr : row.length ≤ c2) (hwf : ∀ d ∈ l, wfD d) (As : Option Addr) (cs : Nat) (sn : List Int) (HS : RowG encB 1 w As sn) (hso : ∀ z ∈ sn, 0 ≤ z ∧ z ≤ 255) (Al : Option Addr) (cl : Nat) (la : List Int) (HLa : RowG encB 1 w Al la) (hla : ∀ z ∈ la, 0 ≤ z ∧ z ≤ 255) : Cl Try.prog 6 [.slice A l.length c, .slice A2 row.length c2, .slice As sn.length cs, .slice Al la.length cl] w (fun v w' => v = .bool true ∧ Fr [] w w') := by
  have F := Fr.refl [] w
  refine enter Try.func6 rfl Try.ntmps6 rfl ?_
  refine cl_seq rfl ?_
  refine cl_reg rfl ?_
  refine st rfl rfl rfl rfl (x_asg rfl) ?_
  refine rl_end rfl ?_
  refine al_k ?_
  refine cl_seq rfl ?_
  refine cl_reg rfl ?_
  refine st rfl rfl rfl rfl (x_move rfl) ?_
  refine sc rfl rfl rfl rfl (c_fn rfl Try.call8 (few_r _ A c l (HR.fr0 F) 24 (by omega) hcp)) ?_
  rintro _ wf ⟨L, rfl, HL, hL, hL25, hLc, fr⟩
  replace F := F.trans fr
  clear fr
  refine st rfl rfl rfl rfl (x_asg rfl) ?_
  refine rl_end rfl ?_
  refine al_k ?_
  refine cl_seq rfl ?_
  refine cl_seq rfl ?_
  refine cl_reg rfl ?_
  refine st rfl rfl rfl rfl (x_move rfl) ?_
  refine st rfl rfl rfl rfl (x_len rfl Try.underlying24) ?_
  refine sf rfl rfl rfl rfl (x_gtr rfl rfl) (fun c2_2 => ?_) (fun c2_2 => ?_)
  · skip
    refine rl_end rfl ?_
    refine al_k ?_
    refine cl_if1 rfl rfl ?_
    refine cl_reg rfl ?_
    refine st rfl rfl rfl rfl (x_move rfl) ?_
    refine st rfl rfl rfl rfl (x_slt (m := (row.take 40).length) rfl rfl Try.underlying24 Try.sizeOf3 (by omega) (by rw [List.length_take]; omega)) ?_
    have HI4 := HI.take 40
    have hr40 : (row.take 40).length ≤ 40 := by rw [List.length_take]; omega
    have hcr4 : (row.take 40).length ≤ c2 := by rw [List.length_take]; omega
    clear HI hcr c2_2
    generalize row.take 40 = row at *
    rename RowG encI 1 _ A2 row => HI
    rename row.length ≤ c2 => hcr
    refine st rfl rfl rfl rfl (x_asg rfl) ?_
    refine rl_end rfl ?_
    refine al_k ?_
    refine cl_seq rfl ?_
    have hr40 : row.length ≤ 40 := by omega
    refine cl_reg rfl ?_
    refine st rfl rfl rfl rfl (x_move rfl) ?_
    refine st rfl rfl rfl rfl (x_move rfl) ?_
    refine sc rfl rfl rfl rfl (c_fn rfl Try.call17 (Right_c _ A c L HL A2 c2 row (HI.fr0 F) (by omega) (by omega) hcr)) ?_
    rintro _ w42 ⟨rfl, fr⟩
    replace F := F.trans fr
    replace HL := HL.fr0 fr
    clear fr
    refine st rfl rfl rfl rfl (x_move rfl) ?_
    refine st rfl rfl rfl rfl (x_ext rfl rfl) ?_
    cases hf4_4 : ((rightR L row).1)
    · skip
      refine st rfl rfl rfl rfl (x_ext rfl rfl) ?_
      refine st rfl rfl rfl rfl (x_asg rfl) ?_
      refine st rfl rfl rfl rfl (x_asg rfl) ?_
      refine rl_end rfl ?_
      refine al_k ?_
      refine cl_seq rfl ?_
      refine cl_seq rfl ?_
      refine cl_reg rfl ?_
      refine st rfl rfl rfl rfl (x_move rfl) ?_
      refine sf rfl rfl rfl rfl (x_neq rfl rfl) (fun c5_1 => ?_) (fun c5_1 => ?_)
      · skip
        refine st rfl rfl rfl rfl (x_move rfl) ?_
        refine so rfl rfl rfl rfl ?_
        refine so rfl rfl rfl rfl ?_
        refine st rfl rfl rfl rfl (x_pick1 rfl rfl) ?_
        refine rl_end rfl ?_
        refine al_k ?_
        refine cl_if1 rfl rfl ?_
        refine cl_seq rfl ?_
        refine cl_reg rfl ?_
        refine sc rfl rfl rfl rfl (c_fn rfl Try.call12 (alive_c _)) ?_
        rintro _ w60 ⟨rfl, fr⟩
        replace F := F.trans fr
        replace HL := HL.fr0 fr
        clear fr
        refine st rfl rfl rfl rfl (x_asg rfl) ?_
        refine rl_end rfl ?_
        refine al_k ?_
        refine cl_ret rfl ?_
        refine fin1 rfl rfl ?_
        exact ⟨rfl, F⟩
      · skip
        refine st rfl rfl rfl rfl (x_move rfl) ?_
        refine st rfl rfl rfl rfl (x_move rfl) ?_
        refine st rfl rfl rfl rfl (x_not0 rfl) ?_
        refine st rfl rfl rfl rfl (x_pick0 rfl rfl) ?_
        refine rl_end rfl ?_
        refine al_k ?_
        refine cl_if1 rfl rfl ?_
        refine cl_seq rfl ?_
        refine cl_reg rfl ?_
        refine sc rfl rfl rfl rfl (c_fn rfl Try.call12 (alive_c _)) ?_
        rintro _ w60 ⟨rfl, fr⟩
        replace F := F.trans fr
        replace HL := HL.fr0 fr
        clear fr
        refine st rfl rfl rfl rfl (x_asg rfl) ?_
        refine rl_end rfl ?_
        refine al_k ?_
        refine cl_ret rfl ?_
        refine fin1 rfl rfl ?_
        exact ⟨rfl, F⟩
    · skip
      refine st rfl rfl rfl rfl (x_ext rfl rfl) ?_
      refine st rfl rfl rfl rfl (x_asg rfl) ?_
      refine st rfl rfl rfl rfl (x_asg rfl) ?_
      refine rl_end rfl ?_
      refine al_k ?_
      refine cl_seq rfl ?_
      refine cl_seq rfl ?_
      refine cl_reg rfl ?_
      refine st rfl rfl rfl rfl (x_move rfl) ?_
      refine sf rfl rfl rfl rfl (x_neq rfl rfl) (fun c5_1 => ?_) (fun c5_1 => ?_)
      · skip
        refine st rfl rfl rfl rfl (x_move rfl) ?_
        refine so rfl rfl rfl rfl ?_
        refine so rfl rfl rfl rfl ?_
        refine st rfl rfl rfl rfl (x_pick1 rfl rfl) ?_
        refine rl_end rfl ?_
        refine al_k ?_
        refine cl_if1 rfl rfl ?_
        refine cl_seq rfl ?_
        refine cl_reg rfl ?_
        refine sc rfl rfl rfl rfl (c_fn rfl Try.call12 (alive_c _)) ?_
        rintro _ w60 ⟨rfl, fr⟩
        replace F := F.trans fr
        replace HL := HL.fr0 fr
        clear fr
        refine st rfl rfl rfl rfl (x_asg rfl) ?_
        refine rl_end rfl ?_
        refine al_k ?_
        refine cl_ret rfl ?_
        refine fin1 rfl rfl ?_
        exact ⟨rfl, F⟩
      · skip
        refine st rfl rfl rfl rfl (x_move rfl) ?_
        refine st rfl rfl rfl rfl (x_move rfl) ?_
        refine st rfl rfl rfl rfl (x_not1 rfl) ?_
        refine st rfl rfl rfl rfl (x_pick0 rfl rfl) ?_
        refine rl_end rfl ?_
        refine al_k ?_
        refine cl_if0 rfl rfl ?_
        refine cl_skip rfl ?_
        refine al_k ?_
        refine cl_seq rfl ?_
        obtain ⟨hH, hO, hR⟩ := right_of hf4_4
        refine cl_reg rfl ?_
        refine se rfl rfl rfl rfl (e_new (x_bsl rfl (bsl0 Try.underlying22 Try.sizeOf40))) ?_
        rintro _ wn ⟨rfl, b5, fr, _⟩
        have HO := own_lit (base := (World.heap w).size) (n := 0) (size := 6) b5 F.size rfl (by decide)
        have l5 := b5.lt
        clear b5
        replace F := F.trans fr
        replace HL := HL.fr0 fr
        clear fr
        refine st rfl rfl rfl rfl (x_move rfl) ?_
        refine se rfl rfl rfl rfl (e_appv 6 48 (.agg #[.int .i64 0, .int .i64 0, .int .u64 0, .int .i64 0, .int .i64 0, .bool false]) (flat encD L) rfl rfl Try.underlying22 (by kernel_rfl) rfl (by decide) HO (by rw [flat_length lenD]; (try rfl); (try simp)) (fun e => RowG.none HL e) (fun ad e j u hu => RowG.all (by decide) lenD HL ad e j u hu) (flat_mem1 oneD _) (by omega) (by omega) F.size) ?_
        rintro va wa ⟨HOa, hg, hat⟩
        have fg1 := (Fr.of_grown hg).size
        have hge := own_ge HO
        replace F := F.grown hg hge
        clear hge
        clear HO
        refine st rfl rfl rfl rfl (x_asg rfl) ?_
        refine rl_end rfl ?_
        refine al_k ?_
        refine cl_seq rfl ?_
        refine cl_seq rfl ?_
        have HO := own_cast HOa (n2 := L.length) (ys := flat encD L) (by simp) (by simp)
        obtain ⟨Am, cm, rfl, _⟩ := own_slice HO
        have hcm := own_cap HO
        have HB := OwnB.of lenD (by decide) HO
        have hwL : ∀ d ∈ L, wfD d := fun d hd => hwf d (by rw [hL] at hd; exact List.mem_of_mem_take hd)
        refine cl_reg rfl ?_
        refine st rfl rfl rfl rfl (x_asg rfl) ?_
        refine rl_end rfl ?_
        refine al_k ?_
        refine cl_block rfl ?_
        refine cl_loop (fun s : Nat × List D => [(12, .int .i64 s.1), (11, .slice Am L.length cm), (2, .slice As sn.length cs), (3, .slice Al la.length cl), (0, .slice A L.length c), (1, .slice A2 row.length c2)]) (fun s w' => (s.1 ≤ L.length ∧ Wid L s.2 s.1) ∧ OwnB w.heap.size 40 encD w' Am s.2 ∧ Fr [] w w') (fun s => L.length - s.1) (0, L) rfl ⟨rfl, rfl, rfl, rfl, rfl, rfl, trivial⟩ ?_ ?_
        · exact ⟨⟨Nat.zero_le _, Wid.start L⟩, HB, F⟩
        · skip
          rintro ⟨i, M⟩ wr ⟨⟨hi, hWd⟩, HB, F⟩
          dsimp only at hi hWd HB ⊢
          refine cl_seq rfl ?_
          refine cl_seq rfl ?_
          refine cl_reg rfl ?_
          refine st rfl rfl rfl rfl (x_move rfl) ?_
          refine st rfl rfl rfl rfl (x_move rfl) ?_
          refine st rfl rfl rfl rfl (x_len rfl Try.underlying22) ?_
          refine sf rfl rfl rfl rfl (x_lss rfl rfl) (fun c9_3 => ?_) (fun c9_3 => ?_)
          · skip
            refine rl_end rfl ?_
            refine al_k ?_
            refine cl_if1 rfl rfl ?_
            refine cl_skip rfl ?_
            refine al_k ?_
            refine cl_seq rfl ?_
            refine cl_block rfl ?_
            refine cl_seq rfl ?_
            refine cl_seq rfl ?_
            obtain ⟨x, hx⟩ : ∃ x, L[i]? = some x := ⟨_, List.getElem?_eq_getElem (by omega)⟩
            have hMx : M[i]? = some x := (hWd.2.2 i (Nat.le_refl _)).trans hx
            obtain ⟨⟨hw1, hw2⟩, ⟨hw3, hw4⟩⟩ := hwL x (List.mem_of_getElem? hx)
            obtain ⟨b, rest, rfl, hbB, hb⟩ := HB.blk hMx
            refine cl_reg rfl ?_
            refine st rfl rfl rfl rfl (x_move rfl) ?_
            refine st rfl rfl rfl rfl (x_move rfl) ?_
            refine st rfl rfl rfl rfl (x_len rfl Try.underlying43) ?_
            refine sf rfl rfl rfl rfl (x_lss rfl rfl) (fun c11_3 => ?_) (fun c11_3 => ?_)
            · skip
              refine st rfl rfl rfl rfl (x_move rfl) ?_
              refine st rfl rfl rfl rfl (x_move rfl) ?_
              refine st rfl rfl rfl rfl (x_move rfl) ?_
              refine st rfl rfl rfl rfl (x_ia0 rfl rfl Try.underlying22 Try.sizeOf40 (by omega)) ?_
              refine st rfl rfl rfl rfl (x_fa rfl Try.underlying40 rfl Try.sizeOf3 3 rfl) ?_
              refine st rfl rfl rfl rfl (x_ld rfl Try.isAgg3 (cellR lenD hb hMx 3 _ rfl)) ?_
              refine sf rfl rfl rfl rfl (x_gtr rfl rfl) (fun c11_10 => ?_) (fun c11_10 => ?_)
              · skip
                refine st rfl rfl rfl rfl (x_pick1 rfl rfl) ?_
                refine rl_end rfl ?_
                refine al_k ?_
                refine cl_if1 rfl rfl ?_
                obtain ⟨s1, hs1⟩ : ∃ z, sn[i]? = some z := ⟨_, List.getElem?_eq_getElem (by omega)⟩
                obtain ⟨as1, rfl, hcs⟩ := RowB.at_ HS hs1
                have hs1r := hso s1 (List.mem_of_getElem? hs1)
                refine cl_draw (by kernel_rfl) rfl [15] (fun w' => w'.heap = wr.heap) ?_
                rintro wd12 frd12 hpd12
                refine ⟨hpd12, ?_⟩
                refine dt (i := 0) rfl rfl rfl rfl (by kernel_rfl) (fun _ => x_move rfl) ?_
                refine dt (i := 1) rfl rfl rfl rfl (by kernel_rfl) (fun _ => x_move rfl) ?_
                refine dt (i := 2) rfl rfl rfl rfl (by kernel_rfl) (fun _ => x_move rfl) ?_
                refine dt (i := 3) rfl rfl rfl rfl (by kernel_rfl) (fun _ => x_move rfl) ?_
                refine dt (i := 4) rfl rfl rfl rfl (by kernel_rfl) (fun _ => x_ia0 rfl rfl Try.underlying22 Try.sizeOf40 (by omega)) ?_
                refine dt (i := 5) rfl rfl rfl rfl (by kernel_rfl) (fun _ => x_fa rfl Try.underlying40 rfl Try.sizeOf3 3 rfl) ?_
                refine dlt (i := 6) rfl rfl rfl rfl (by kernel_rfl) (by kernel_rfl) (fun w' hU => x_ld rfl Try.isAgg3 (heq hU (cellR lenD hb hMx 3 _ rfl))) ?_
                refine dt (i := 7) rfl rfl rfl rfl (by kernel_rfl) (fun _ => x_move rfl) ?_
                refine dt (i := 8) rfl rfl rfl rfl (by kernel_rfl) (fun _ => x_move rfl) ?_
                refine dt (i := 9) rfl rfl rfl rfl (by kernel_rfl) (fun _ => x_iag rfl rfl Try.underlying43 Try.sizeOf5 (by omega)) ?_
                refine dlt (i := 10) rfl rfl rfl rfl (by kernel_rfl) (by kernel_rfl) (fun w' hU => x_ld rfl Try.isAgg5 (heq hU (F.cell hcs (by simp)))) ?_
                refine dt (i := 11) rfl rfl rfl rfl (by kernel_rfl) (fun _ => x_cvs rfl Try.underlying5 Try.underlying3 hs1r) ?_
                refine dt (i := 12) rfl rfl rfl rfl (by kernel_rfl) (fun _ => x_sub rfl rfl (by omega)) ?_
                refine dt (i := 13) rfl rfl rfl rfl (by kernel_rfl) (fun _ => x_ia0 rfl rfl Try.underlying22 Try.sizeOf40 (by omega)) ?_
                refine dt (i := 14) rfl rfl rfl rfl (by kernel_rfl) (fun _ => x_fa rfl Try.underlying40 rfl Try.sizeOf3 3 rfl) ?_
                replace F := F.trans frd12
                replace hb := hb.fr0 frd12
                refine d1 (i := 15) (by kernel_rfl) ?_
                refine osv rfl rfl rfl (v_rf lenD (i := i) (j := 3) (u := x) (M := M) { x with frm := x.frm - s1 } rfl rfl rfl rfl Try.sizeOf3 hb hMx (by decide) rfl) ?_
                rintro w12s ⟨hb2, fr⟩
                replace hb := hb2
                replace F := F.trans_new fr (by intro q hq; simp at hq; subst hq; exact .inr hbB)
                clear fr hb2
                refine ⟨.inl (by kernel_rfl), ?_⟩
                refine dn (by kernel_rfl) ?_
                refine al_k ?_
                refine cl_seq rfl ?_
                obtain ⟨x1, M1, hM1, hx1w, hx1t, hb⟩ : ∃ (x1 : D) (M1 : List D), M1 = M.set i x1 ∧ wider x x1 ∧ x1.til = x.til ∧ Blk w12s b 40 (flat encD M1 ++ rest) := ⟨{ x with frm := x.frm - s1 }, _, rfl, ⟨rfl, rfl, rfl, rfl, by show x.frm - s1 ≤ x.frm; omega, Int.le_refl _⟩, rfl, hb⟩
                have hM1x : M1[i]? = some x1 := by rw [hM1, List.getElem?_set_self (by have := hWd.1; omega)]
                refine cl_reg rfl ?_
                refine st rfl rfl rfl rfl (x_move rfl) ?_
                refine st rfl rfl rfl rfl (x_move rfl) ?_
                refine st rfl rfl rfl rfl (x_len rfl Try.underlying43) ?_
                refine sf rfl rfl rfl rfl (x_lss rfl rfl) (fun c13_3 => ?_) (fun c13_3 => ?_)
                · skip
                  refine st rfl rfl rfl rfl (x_move rfl) ?_
                  refine st rfl rfl rfl rfl (x_move rfl) ?_
                  refine st rfl rfl rfl rfl (x_move rfl) ?_
                  refine st rfl rfl rfl rfl (x_ia0 rfl rfl Try.underlying22 Try.sizeOf40 (by omega)) ?_
                  refine st rfl rfl rfl rfl (x_fa rfl Try.underlying40 rfl Try.sizeOf3 4 rfl) ?_
                  refine st rfl rfl rfl rfl (x_ld rfl Try.isAgg3 (cellR lenD hb hM1x 4 _ rfl)) ?_
                  refine sf rfl rfl rfl rfl (x_lss rfl rfl) (fun c13_10 => ?_) (fun c13_10 => ?_)
                  · skip
                    refine st rfl rfl rfl rfl (x_pick1 rfl rfl) ?_
                    refine rl_end rfl ?_
                    refine al_k ?_
                    refine cl_if1 rfl rfl ?_
                    obtain ⟨s2, hs2⟩ : ∃ z, la[i]? = some z := ⟨_, List.getElem?_eq_getElem (by omega)⟩
                    obtain ⟨al1, rfl, hcl⟩ := RowB.at_ HLa hs2
                    have hs2r := hla s2 (List.mem_of_getElem? hs2)
                    skip
                    refine cl_draw (by kernel_rfl) rfl [15] (fun w' => w'.heap = w12s.heap) ?_
                    rintro wd14 frd14 hpd14
                    refine ⟨hpd14, ?_⟩
                    refine dt (i := 0) rfl rfl rfl rfl (by kernel_rfl) (fun _ => x_move rfl) ?_
                    refine dt (i := 1) rfl rfl rfl rfl (by kernel_rfl) (fun _ => x_move rfl) ?_
                    refine dt (i := 2) rfl rfl rfl rfl (by kernel_rfl) (fun _ => x_move rfl) ?_
                    refine dt (i := 3) rfl rfl rfl rfl (by kernel_rfl) (fun _ => x_move rfl) ?_
                    refine dt (i := 4) rfl rfl rfl rfl (by kernel_rfl) (fun _ => x_ia0 rfl rfl Try.underlying22 Try.sizeOf40 (by omega)) ?_
                    refine dt (i := 5) rfl rfl rfl rfl (by kernel_rfl) (fun _ => x_fa rfl Try.underlying40 rfl Try.sizeOf3 4 rfl) ?_
                    refine dlt (i := 6) rfl rfl rfl rfl (by kernel_rfl) (by kernel_rfl) (fun w' hU => x_ld rfl Try.isAgg3 (heq hU (cellR lenD hb hM1x 4 _ rfl))) ?_
                    refine dt (i := 7) rfl rfl rfl rfl (by kernel_rfl) (fun _ => x_move rfl) ?_
                    refine dt (i := 8) rfl rfl rfl rfl (by kernel_rfl) (fun _ => x_move rfl) ?_
                    refine dt (i := 9) rfl rfl rfl rfl (by kernel_rfl) (fun _ => x_iag rfl rfl Try.underlying43 Try.sizeOf5 (by omega)) ?_
                    refine dlt (i := 10) rfl rfl rfl rfl (by kernel_rfl) (by kernel_rfl) (fun w' hU => x_ld rfl Try.isAgg5 (heq hU (F.cell hcl (by simp)))) ?_
                    refine dt (i := 11) rfl rfl rfl rfl (by kernel_rfl) (fun _ => x_cvs rfl Try.underlying5 Try.underlying3 hs2r) ?_
                    refine dt (i := 12) rfl rfl rfl rfl (by kernel_rfl) (fun _ => x_add rfl rfl (by rw [hx1t] at c13_10 ⊢; omega)) ?_
                    refine dt (i := 13) rfl rfl rfl rfl (by kernel_rfl) (fun _ => x_ia0 rfl rfl Try.underlying22 Try.sizeOf40 (by omega)) ?_
                    refine dt (i := 14) rfl rfl rfl rfl (by kernel_rfl) (fun _ => x_fa rfl Try.underlying40 rfl Try.sizeOf3 4 rfl) ?_
                    replace F := F.trans frd14
                    replace hb := hb.fr0 frd14
                    refine d1 (i := 15) (by kernel_rfl) ?_
                    refine osv rfl rfl rfl (v_rf lenD (i := i) (j := 4) (u := x1) (M := M1) { x1 with til := x1.til + s2 } rfl rfl rfl rfl Try.sizeOf3 hb hM1x (by decide) rfl) ?_
                    rintro w14s ⟨hb2, fr⟩
                    replace hb := hb2
                    replace F := F.trans_new fr (by intro q hq; simp at hq; subst hq; exact .inr hbB)
                    clear fr hb2
                    refine ⟨.inl (by kernel_rfl), ?_⟩
                    refine dn (by kernel_rfl) ?_
                    refine al_k ?_
                    refine cl_reg rfl ?_
                    refine st rfl rfl rfl rfl (x_move rfl) ?_
                    refine st rfl rfl rfl rfl (x_add rfl rfl (by omega)) ?_
                    refine st rfl rfl rfl rfl (x_asg rfl) ?_
                    refine rl_end rfl ?_
                    have hM2 : M1.set i { x1 with til := x1.til + s2 } = M.set i { x1 with til := x1.til + s2 } := by rw [hM1, List.set_set]
                    rw [hM2] at hb
                    refine again (i + 1, M.set i { x1 with til := x1.til + s2 }) (show L.length - (i + 1) < L.length - i by omega) ⟨rfl, rfl, rfl, rfl, rfl, rfl, trivial⟩ ⟨⟨by dsimp only; omega, hWd.step hx ?_⟩, .inr ⟨b, rest, rfl, hbB, hb⟩, F⟩
                    exact ⟨hx1w.1, hx1w.2.1, hx1w.2.2.1, hx1w.2.2.2.1, hx1w.2.2.2.2.1, by show x.til ≤ x1.til + s2; omega⟩
                  · skip
                    refine st rfl rfl rfl rfl (x_pick1 rfl rfl) ?_
                    refine rl_end rfl ?_
                    refine al_k ?_
                    refine cl_if0 rfl rfl ?_
                    refine cl_skip rfl ?_
                    refine al_k ?_
                    refine cl_reg rfl ?_
                    refine st rfl rfl rfl rfl (x_move rfl) ?_
                    refine st rfl rfl rfl rfl (x_add rfl rfl (by omega)) ?_
                    refine st rfl rfl rfl rfl (x_asg rfl) ?_
                    refine rl_end rfl ?_
                    rw [hM1] at hb
                    refine again (i + 1, M.set i x1) (show L.length - (i + 1) < L.length - i by omega) ⟨rfl, rfl, rfl, rfl, rfl, rfl, trivial⟩ ⟨⟨by dsimp only; omega, hWd.step hx ?_⟩, .inr ⟨b, rest, rfl, hbB, hb⟩, F⟩
                    exact hx1w
                · skip
                  refine st rfl rfl rfl rfl (x_move rfl) ?_
                  refine so rfl rfl rfl rfl ?_
                  refine so rfl rfl rfl rfl ?_
                  refine so rfl rfl rfl rfl ?_
                  refine so rfl rfl rfl rfl ?_
                  refine so rfl rfl rfl rfl ?_
                  refine so rfl rfl rfl rfl ?_
                  refine st rfl rfl rfl rfl (x_pick0 rfl rfl) ?_
                  refine rl_end rfl ?_
                  refine al_k ?_
                  refine cl_if0 rfl rfl ?_
                  refine cl_skip rfl ?_
                  refine al_k ?_
                  refine cl_reg rfl ?_
                  refine st rfl rfl rfl rfl (x_move rfl) ?_
                  refine st rfl rfl rfl rfl (x_add rfl rfl (by omega)) ?_
                  refine st rfl rfl rfl rfl (x_asg rfl) ?_
                  refine rl_end rfl ?_
                  rw [hM1] at hb
                  refine again (i + 1, M.set i x1) (show L.length - (i + 1) < L.length - i by omega) ⟨rfl, rfl, rfl, rfl, rfl, rfl, trivial⟩ ⟨⟨by dsimp only; omega, hWd.step hx ?_⟩, .inr ⟨b, rest, rfl, hbB, hb⟩, F⟩
                  exact hx1w
              · skip
                refine st rfl rfl rfl rfl (x_pick1 rfl rfl) ?_
                refine rl_end rfl ?_
                refine al_k ?_
                refine cl_if0 rfl rfl ?_
                refine cl_skip rfl ?_
                refine al_k ?_
                refine cl_seq rfl ?_
                obtain ⟨x1, M1, hM1, hx1w, hx1t, hb⟩ : ∃ (x1 : D) (M1 : List D), M1 = M.set i x1 ∧ wider x x1 ∧ x1.til = x.til ∧ Blk wr b 40 (flat encD M1 ++ rest) := ⟨x, M, (set_same hMx).symm, wider_refl x, rfl, hb⟩
                have hM1x : M1[i]? = some x1 := by rw [hM1, List.getElem?_set_self (by have := hWd.1; omega)]
                refine cl_reg rfl ?_
                refine st rfl rfl rfl rfl (x_move rfl) ?_
                refine st rfl rfl rfl rfl (x_move rfl) ?_
                refine st rfl rfl rfl rfl (x_len rfl Try.underlying43) ?_
                refine sf rfl rfl rfl rfl (x_lss rfl rfl) (fun c13_3 => ?_) (fun c13_3 => ?_)
                · skip
                  refine st rfl rfl rfl rfl (x_move rfl) ?_
                  refine st rfl rfl rfl rfl (x_move rfl) ?_
                  refine st rfl rfl rfl rfl (x_move rfl) ?_
                  refine st rfl rfl rfl rfl (x_ia0 rfl rfl Try.underlying22 Try.sizeOf40 (by omega)) ?_
                  refine st rfl rfl rfl rfl (x_fa rfl Try.underlying40 rfl Try.sizeOf3 4 rfl) ?_
                  refine st rfl rfl rfl rfl (x_ld rfl Try.isAgg3 (cellR lenD hb hM1x 4 _ rfl)) ?_
                  refine sf rfl rfl rfl rfl (x_lss rfl rfl) (fun c13_10 => ?_) (fun c13_10 => ?_)
                  · skip
                    refine st rfl rfl rfl rfl (x_pick1 rfl rfl) ?_
                    refine rl_end rfl ?_
                    refine al_k ?_
                    refine cl_if1 rfl rfl ?_
                    obtain ⟨s2, hs2⟩ : ∃ z, la[i]? = some z := ⟨_, List.getElem?_eq_getElem (by omega)⟩
                    obtain ⟨al1, rfl, hcl⟩ := RowB.at_ HLa hs2
                    have hs2r := hla s2 (List.mem_of_getElem? hs2)
                    skip
                    refine cl_draw (by kernel_rfl) rfl [15] (fun w' => w'.heap = wr.heap) ?_
                    rintro wd14 frd14 hpd14
                    refine ⟨hpd14, ?_⟩
                    refine dt (i := 0) rfl rfl rfl rfl (by kernel_rfl) (fun _ => x_move rfl) ?_
                    refine dt (i := 1) rfl rfl rfl rfl (by kernel_rfl) (fun _ => x_move rfl) ?_
                    refine dt (i := 2) rfl rfl rfl rfl (by kernel_rfl) (fun _ => x_move rfl) ?_
                    refine dt (i := 3) rfl rfl rfl rfl (by kernel_rfl) (fun _ => x_move rfl) ?_
                    refine dt (i := 4) rfl rfl rfl rfl (by kernel_rfl) (fun _ => x_ia0 rfl rfl Try.underlying22 Try.sizeOf40 (by omega)) ?_
                    refine dt (i := 5) rfl rfl rfl rfl (by kernel_rfl) (fun _ => x_fa rfl Try.underlying40 rfl Try.sizeOf3 4 rfl) ?_
                    refine dlt (i := 6) rfl rfl rfl rfl (by kernel_rfl) (by kernel_rfl) (fun w' hU => x_ld rfl Try.isAgg3 (heq hU (cellR lenD hb hM1x 4 _ rfl))) ?_
                    refine dt (i := 7) rfl rfl rfl rfl (by kernel_rfl) (fun _ => x_move rfl) ?_
                    refine dt (i := 8) rfl rfl rfl rfl (by kernel_rfl) (fun _ => x_move rfl) ?_
                    refine dt (i := 9) rfl rfl rfl rfl (by kernel_rfl) (fun _ => x_iag rfl rfl Try.underlying43 Try.sizeOf5 (by omega)) ?_
                    refine dlt (i := 10) rfl rfl rfl rfl (by kernel_rfl) (by kernel_rfl) (fun w' hU => x_ld rfl Try.isAgg5 (heq hU (F.cell hcl (by simp)))) ?_
                    refine dt (i := 11) rfl rfl rfl rfl (by kernel_rfl) (fun _ => x_cvs rfl Try.underlying5 Try.underlying3 hs2r) ?_
                    refine dt (i := 12) rfl rfl rfl rfl (by kernel_rfl) (fun _ => x_add rfl rfl (by rw [hx1t] at c13_10 ⊢; omega)) ?_
                    refine dt (i := 13) rfl rfl rfl rfl (by kernel_rfl) (fun _ => x_ia0 rfl rfl Try.underlying22 Try.sizeOf40 (by omega)) ?_
                    refine dt (i := 14) rfl rfl rfl rfl (by kernel_rfl) (fun _ => x_fa rfl Try.underlying40 rfl Try.sizeOf3 4 rfl) ?_
                    replace F := F.trans frd14
                    replace hb := hb.fr0 frd14
                    refine d1 (i := 15) (by kernel_rfl) ?_
                    refine osv rfl rfl rfl (v_rf lenD (i := i) (j := 4) (u := x1) (M := M1) { x1 with til := x1.til + s2 } rfl rfl rfl rfl Try.sizeOf3 hb hM1x (by decide) rfl) ?_
                    rintro w14s ⟨hb2, fr⟩
                    replace hb := hb2
                    replace F := F.trans_new fr (by intro q hq; simp at hq; subst hq; exact .inr hbB)
                    clear fr hb2
                    refine ⟨.inl (by kernel_rfl), ?_⟩
                    refine dn (by kernel_rfl) ?_
                    refine al_k ?_
                    refine cl_reg rfl ?_
                    refine st rfl rfl rfl rfl (x_move rfl) ?_
                    refine st rfl rfl rfl rfl (x_add rfl rfl (by omega)) ?_
                    refine st rfl rfl rfl rfl (x_asg rfl) ?_
                    refine rl_end rfl ?_
                    have hM2 : M1.set i { x1 with til := x1.til + s2 } = M.set i { x1 with til := x1.til + s2 } := by rw [hM1, List.set_set]
                    rw [hM2] at hb
                    refine again (i + 1, M.set i { x1 with til := x1.til + s2 }) (show L.length - (i + 1) < L.length - i by omega) ⟨rfl, rfl, rfl, rfl, rfl, rfl, trivial⟩ ⟨⟨by dsimp only; omega, hWd.step hx ?_⟩, .inr ⟨b, rest, rfl, hbB, hb⟩, F⟩
                    exact ⟨hx1w.1, hx1w.2.1, hx1w.2.2.1, hx1w.2.2.2.1, hx1w.2.2.2.2.1, by show x.til ≤ x1.til + s2; omega⟩
                  · skip
                    refine st rfl rfl rfl rfl (x_pick1 rfl rfl) ?_
                    refine rl_end rfl ?_
                    refine al_k ?_
                    refine cl_if0 rfl rfl ?_
                    refine cl_skip rfl ?_
                    refine al_k ?_
                    refine cl_reg rfl ?_
                    refine st rfl rfl rfl rfl (x_move rfl) ?_
                    refine st rfl rfl rfl rfl (x_add rfl rfl (by omega)) ?_
                    refine st rfl rfl rfl rfl (x_asg rfl) ?_
                    refine rl_end rfl ?_
                    rw [hM1] at hb
                    refine again (i + 1, M.set i x1) (show L.length - (i + 1) < L.length - i by omega) ⟨rfl, rfl, rfl, rfl, rfl, rfl, trivial⟩ ⟨⟨by dsimp only; omega, hWd.step hx ?_⟩, .inr ⟨b, rest, rfl, hbB, hb⟩, F⟩
                    exact hx1w
                · skip
                  refine st rfl rfl rfl rfl (x_move rfl) ?_
                  refine so rfl rfl rfl rfl ?_
                  refine so rfl rfl rfl rfl ?_
                  refine so rfl rfl rfl rfl ?_
                  refine so rfl rfl rfl rfl ?_
                  refine so rfl rfl rfl rfl ?_
                  refine so rfl rfl rfl rfl ?_
                  refine st rfl rfl rfl rfl (x_pick0 rfl rfl) ?_
                  refine rl_end rfl ?_
                  refine al_k ?_
                  refine cl_if0 rfl rfl ?_
                  refine cl_skip rfl ?_
                  refine al_k ?_
                  refine cl_reg rfl ?_
                  refine st rfl rfl rfl rfl (x_move rfl) ?_
                  refine st rfl rfl rfl rfl (x_add rfl rfl (by omega)) ?_
                  refine st rfl rfl rfl rfl (x_asg rfl) ?_
                  refine rl_end rfl ?_
                  rw [hM1] at hb
                  refine again (i + 1, M.set i x1) (show L.length - (i + 1) < L.length - i by omega) ⟨rfl, rfl, rfl, rfl, rfl, rfl, trivial⟩ ⟨⟨by dsimp only; omega, hWd.step hx ?_⟩, .inr ⟨b, rest, rfl, hbB, hb⟩, F⟩
                  exact hx1w
            · skip
              refine st rfl rfl rfl rfl (x_move rfl) ?_
              refine so rfl rfl rfl rfl ?_
              refine so rfl rfl rfl rfl ?_
              refine so rfl rfl rfl rfl ?_
              refine so rfl rfl rfl rfl ?_
              refine so rfl rfl rfl rfl ?_
              refine so rfl rfl rfl rfl ?_
              refine st rfl rfl rfl rfl (x_pick0 rfl rfl) ?_
              refine rl_end rfl ?_
              refine al_k ?_
              refine cl_if0 rfl rfl ?_
              refine cl_skip rfl ?_
              refine al_k ?_
              refine cl_seq rfl ?_
              obtain ⟨x1, M1, hM1, hx1w, hx1t, hb⟩ : ∃ (x1 : D) (M1 : List D), M1 = M.set i x1 ∧ wider x x1 ∧ x1.til = x.til ∧ Blk wr b 40 (flat encD M1 ++ rest) := ⟨x, M, (set_same hMx).symm, wider_refl x, rfl, hb⟩
              have hM1x : M1[i]? = some x1 := by rw [hM1, List.getElem?_set_self (by have := hWd.1; omega)]
              refine cl_reg rfl ?_
              refine st rfl rfl rfl rfl (x_move rfl) ?_
              refine st rfl rfl rfl rfl (x_move rfl) ?_
              refine st rfl rfl rfl rfl (x_len rfl Try.underlying43) ?_
              refine sf rfl rfl rfl rfl (x_lss rfl rfl) (fun c13_3 => ?_) (fun c13_3 => ?_)
              · skip
                refine st rfl rfl rfl rfl (x_move rfl) ?_
                refine st rfl rfl rfl rfl (x_move rfl) ?_
                refine st rfl rfl rfl rfl (x_move rfl) ?_
                refine st rfl rfl rfl rfl (x_ia0 rfl rfl Try.underlying22 Try.sizeOf40 (by omega)) ?_
                refine st rfl rfl rfl rfl (x_fa rfl Try.underlying40 rfl Try.sizeOf3 4 rfl) ?_
                refine st rfl rfl rfl rfl (x_ld rfl Try.isAgg3 (cellR lenD hb hM1x 4 _ rfl)) ?_
                refine sf rfl rfl rfl rfl (x_lss rfl rfl) (fun c13_10 => ?_) (fun c13_10 => ?_)
                · skip
                  refine st rfl rfl rfl rfl (x_pick1 rfl rfl) ?_
                  refine rl_end rfl ?_
                  refine al_k ?_
                  refine cl_if1 rfl rfl ?_
                  obtain ⟨s2, hs2⟩ : ∃ z, la[i]? = some z := ⟨_, List.getElem?_eq_getElem (by omega)⟩
                  obtain ⟨al1, rfl, hcl⟩ := RowB.at_ HLa hs2
                  have hs2r := hla s2 (List.mem_of_getElem? hs2)
                  skip
                  refine cl_draw (by kernel_rfl) rfl [15] (fun w' => w'.heap = wr.heap) ?_
                  rintro wd14 frd14 hpd14
                  refine ⟨hpd14, ?_⟩
                  refine dt (i := 0) rfl rfl rfl rfl (by kernel_rfl) (fun _ => x_move rfl) ?_
                  refine dt (i := 1) rfl rfl rfl rfl (by kernel_rfl) (fun _ => x_move rfl) ?_
                  refine dt (i := 2) rfl rfl rfl rfl (by kernel_rfl) (fun _ => x_move rfl) ?_
                  refine dt (i := 3) rfl rfl rfl rfl (by kernel_rfl) (fun _ => x_move rfl) ?_
                  refine dt (i := 4) rfl rfl rfl rfl (by kernel_rfl) (fun _ => x_ia0 rfl rfl Try.underlying22 Try.sizeOf40 (by omega)) ?_
                  refine dt (i := 5) rfl rfl rfl rfl (by kernel_rfl) (fun _ => x_fa rfl Try.underlying40 rfl Try.sizeOf3 4 rfl) ?_
                  refine dlt (i := 6) rfl rfl rfl rfl (by kernel_rfl) (by kernel_rfl) (fun w' hU => x_ld rfl Try.isAgg3 (heq hU (cellR lenD hb hM1x 4 _ rfl))) ?_
                  refine dt (i := 7) rfl rfl rfl rfl (by kernel_rfl) (fun _ => x_move rfl) ?_
                  refine dt (i := 8) rfl rfl rfl rfl (by kernel_rfl) (fun _ => x_move rfl) ?_
                  refine dt (i := 9) rfl rfl rfl rfl (by kernel_rfl) (fun _ => x_iag rfl rfl Try.underlying43 Try.sizeOf5 (by omega)) ?_
                  refine dlt (i := 10) rfl rfl rfl rfl (by kernel_rfl) (by kernel_rfl) (fun w' hU => x_ld rfl Try.isAgg5 (heq hU (F.cell hcl (by simp)))) ?_
                  refine dt (i := 11) rfl rfl rfl rfl (by kernel_rfl) (fun _ => x_cvs rfl Try.underlying5 Try.underlying3 hs2r) ?_
                  refine dt (i := 12) rfl rfl rfl rfl (by kernel_rfl) (fun _ => x_add rfl rfl (by rw [hx1t] at c13_10 ⊢; omega)) ?_
                  refine dt (i := 13) rfl rfl rfl rfl (by kernel_rfl) (fun _ => x_ia0 rfl rfl Try.underlying22 Try.sizeOf40 (by omega)) ?_
                  refine dt (i := 14) rfl rfl rfl rfl (by kernel_rfl) (fun _ => x_fa rfl Try.underlying40 rfl Try.sizeOf3 4 rfl) ?_
                  replace F := F.trans frd14
                  replace hb := hb.fr0 frd14
                  refine d1 (i := 15) (by kernel_rfl) ?_
                  refine osv rfl rfl rfl (v_rf lenD (i := i) (j := 4) (u := x1) (M := M1) { x1 with til := x1.til + s2 } rfl rfl rfl rfl Try.sizeOf3 hb hM1x (by decide) rfl) ?_
                  rintro w14s ⟨hb2, fr⟩
                  replace hb := hb2
                  replace F := F.trans_new fr (by intro q hq; simp at hq; subst hq; exact .inr hbB)
                  clear fr hb2
                  refine ⟨.inl (by kernel_rfl), ?_⟩
                  refine dn (by kernel_rfl) ?_
                  refine al_k ?_
                  refine cl_reg rfl ?_
                  refine st rfl rfl rfl rfl (x_move rfl) ?_
                  refine st rfl rfl rfl rfl (x_add rfl rfl (by omega)) ?_
                  refine st rfl rfl rfl rfl (x_asg rfl) ?_
                  refine rl_end rfl ?_
                  have hM2 : M1.set i { x1 with til := x1.til + s2 } = M.set i { x1 with til := x1.til + s2 } := by rw [hM1, List.set_set]
                  rw [hM2] at hb
                  refine again (i + 1, M.set i { x1 with til := x1.til + s2 }) (show L.length - (i + 1) < L.length - i by omega) ⟨rfl, rfl, rfl, rfl, rfl, rfl, trivial⟩ ⟨⟨by dsimp only; omega, hWd.step hx ?_⟩, .inr ⟨b, rest, rfl, hbB, hb⟩, F⟩
                  exact ⟨hx1w.1, hx1w.2.1, hx1w.2.2.1, hx1w.2.2.2.1, hx1w.2.2.2.2.1, by show x.til ≤ x1.til + s2; omega⟩
                · skip
                  refine st rfl rfl rfl rfl (x_pick1 rfl rfl) ?_
                  refine rl_end rfl ?_
                  refine al_k ?_
                  refine cl_if0 rfl rfl ?_
                  refine cl_skip rfl ?_
                  refine al_k ?_
                  refine cl_reg rfl ?_
                  refine st rfl rfl rfl rfl (x_move rfl) ?_
                  refine st rfl rfl rfl rfl (x_add rfl rfl (by omega)) ?_
                  refine st rfl rfl rfl rfl (x_asg rfl) ?_
                  refine rl_end rfl ?_
                  rw [hM1] at hb
                  refine again (i + 1, M.set i x1) (show L.length - (i + 1) < L.length - i by omega) ⟨rfl, rfl, rfl, rfl, rfl, rfl, trivial⟩ ⟨⟨by dsimp only; omega, hWd.step hx ?_⟩, .inr ⟨b, rest, rfl, hbB, hb⟩, F⟩
                  exact hx1w
              · skip
                refine st rfl rfl rfl rfl (x_move rfl) ?_
                refine so rfl rfl rfl rfl ?_
                refine so rfl rfl rfl rfl ?_
                refine so rfl rfl rfl rfl ?_
                refine so rfl rfl rfl rfl ?_
                refine so rfl rfl rfl rfl ?_
                refine so rfl rfl rfl rfl ?_
                refine st rfl rfl rfl rfl (x_pick0 rfl rfl) ?_
                refine rl_end rfl ?_
                refine al_k ?_
                refine cl_if0 rfl rfl ?_
                refine cl_skip rfl ?_
                refine al_k ?_
                refine cl_reg rfl ?_
                refine st rfl rfl rfl rfl (x_move rfl) ?_
                refine st rfl rfl rfl rfl (x_add rfl rfl (by omega)) ?_
                refine st rfl rfl rfl rfl (x_asg rfl) ?_
                refine rl_end rfl ?_
                rw [hM1] at hb
                refine again (i + 1, M.set i x1) (show L.length - (i + 1) < L.length - i by omega) ⟨rfl, rfl, rfl, rfl, rfl, rfl, trivial⟩ ⟨⟨by dsimp only; omega, hWd.step hx ?_⟩, .inr ⟨b, rest, rfl, hbB, hb⟩, F⟩
                exact hx1w
          · skip
            refine rl_end rfl ?_
            refine al_k ?_
            refine cl_if0 rfl rfl ?_
            refine cl_exit rfl ?_
            refine upd_self ?_
            refine al_k ?_
            refine cl_seq rfl ?_
            obtain rfl : i = L.length := by omega
            have hM := hWd.1
            rw [← hM]
            have hHM := hWd.wider.hist hH
            have hRM := hWd.wider.right hO hR
            refine cl_reg rfl ?_
            refine st rfl rfl rfl rfl (x_move rfl) ?_
            refine st rfl rfl rfl rfl (x_move rfl) ?_
            refine sc rfl rfl rfl rfl (c_fn rfl Try.call17 (Right_c _ Am cm M (OwnB.row lenD HB) A2 c2 row (HI.fr0 F) (by omega) (by omega) hcr)) ?_
            rintro _ w152 ⟨rfl, fr⟩
            rw [rightR_ok hHM hRM.2, dc_true hRM.1]
            replace F := F.trans fr
            replace HB := HB.fr0 fr
            clear fr
            refine st rfl rfl rfl rfl (x_move rfl) ?_
            refine st rfl rfl rfl rfl (x_ext rfl rfl) ?_
            refine st rfl rfl rfl rfl (x_ext rfl rfl) ?_
            refine st rfl rfl rfl rfl (x_asg rfl) ?_
            refine st rfl rfl rfl rfl (x_asg rfl) ?_
            refine rl_end rfl ?_
            refine al_k ?_
            refine cl_seq rfl ?_
            refine cl_reg rfl ?_
            refine st rfl rfl rfl rfl (x_move rfl) ?_
            refine sc rfl rfl rfl rfl (c_fn rfl Try.call8 (few_r _ Am cm M (OwnB.row lenD HB) 14 (by omega) (by omega))) ?_
            rintro _ wf2 ⟨L2, rfl, HL2, hL2, hL225, _, fr⟩
            replace F := F.trans fr
            replace HB := HB.fr0 fr
            clear fr
            refine sc rfl rfl rfl rfl (c_fn rfl Try.call9 (Order_c _ Am cm L2 HL2 (by omega))) ?_
            rintro _ w162 ⟨⟨v16, rfl, hs16⟩, fr⟩
            replace F := F.trans fr
            replace HB := HB.fr0 fr
            replace HL2 := HL2.fr0 fr
            clear fr
            have hH2 : Hist L2 := by rw [hL2]; exact hist_take hHM _
            rw [orderR_err, if_pos hH2]
            refine st rfl rfl rfl rfl (x_move rfl) ?_
            refine st rfl rfl rfl rfl (x_ext rfl rfl) ?_
            refine st rfl rfl rfl rfl (x_ext rfl rfl) ?_
            cases hf16_5 : ((orderR L2).1.isSome)
            · skip
              refine st rfl rfl rfl rfl (x_ext rfl rfl) ?_
              refine st rfl rfl rfl rfl (x_asg rfl) ?_
              refine st rfl rfl rfl rfl (x_asg rfl) ?_
              refine st rfl rfl rfl rfl (x_asg rfl) ?_
              refine rl_end rfl ?_
              refine al_k ?_
              refine cl_seq rfl ?_
              refine cl_reg rfl ?_
              refine st rfl rfl rfl rfl (x_move rfl) ?_
              refine st rfl rfl rfl rfl ((x_eql rfl rfl).b1 rfl) ?_
              refine st rfl rfl rfl rfl (x_move rfl) ?_
              refine st rfl rfl rfl rfl (x_move rfl) ?_
              refine st rfl rfl rfl rfl ((x_eql rfl rfl).b1 rfl) ?_
              refine st rfl rfl rfl rfl (x_pick1 rfl rfl) ?_
              refine st rfl rfl rfl rfl (x_move rfl) ?_
              refine st rfl rfl rfl rfl (x_move rfl) ?_
              refine st rfl rfl rfl rfl (x_pick1 rfl rfl) ?_
              refine st rfl rfl rfl rfl (x_move rfl) ?_
              refine st rfl rfl rfl rfl (x_move rfl) ?_
              refine st rfl rfl rfl rfl (x_move rfl) ?_
              refine st rfl rfl rfl rfl (x_move rfl) ?_
              refine st rfl rfl rfl rfl (x_len rfl Try.underlying22) ?_
              have hbig : 14 < M.length := by
                rcases Nat.lt_or_ge 14 M.length with h | h
                · exact h
                · rw [few_all h, List.take_length] at hL2
                  subst hL2
                  obtain ⟨a, h4, _⟩ := order_finds hHM hRM.2 hRM.1
                  rw [h4] at hf16_5; cases hf16_5
              refine st rfl rfl rfl rfl ((x_gtr rfl rfl).b1 (by omega)) ?_
              refine st rfl rfl rfl rfl (x_pick0 rfl rfl) ?_
              refine st rfl rfl rfl rfl (x_pick1 rfl rfl) ?_
              refine st rfl rfl rfl rfl (x_move rfl) ?_
              refine sc rfl rfl rfl rfl (c_fn rfl Try.call12 (alive_c _)) ?_
              rintro _ w1718 ⟨rfl, fr⟩
              replace F := F.trans fr
              replace HB := HB.fr0 fr
              replace HL2 := HL2.fr0 fr
              clear fr
              refine st rfl rfl rfl rfl (x_pick1 rfl rfl) ?_
              refine st rfl rfl rfl rfl (x_asg rfl) ?_
              refine rl_end rfl ?_
              refine al_k ?_
              refine cl_ret rfl ?_
              refine fin1 rfl rfl ?_
              exact ⟨rfl, F⟩
            · skip
              refine st rfl rfl rfl rfl (x_ext rfl rfl) ?_
              refine st rfl rfl rfl rfl (x_asg rfl) ?_
              refine st rfl rfl rfl rfl (x_asg rfl) ?_
              refine st rfl rfl rfl rfl (x_asg rfl) ?_
              refine rl_end rfl ?_
              refine al_k ?_
              refine cl_seq rfl ?_
              refine cl_reg rfl ?_
              refine st rfl rfl rfl rfl (x_move rfl) ?_
              refine st rfl rfl rfl rfl ((x_eql rfl rfl).b1 rfl) ?_
              refine st rfl rfl rfl rfl (x_move rfl) ?_
              refine st rfl rfl rfl rfl (x_move rfl) ?_
              refine st rfl rfl rfl rfl ((x_eql rfl rfl).b1 rfl) ?_
              refine st rfl rfl rfl rfl (x_pick1 rfl rfl) ?_
              refine st rfl rfl rfl rfl (x_move rfl) ?_
              refine st rfl rfl rfl rfl (x_move rfl) ?_
              refine st rfl rfl rfl rfl (x_pick1 rfl rfl) ?_
              refine st rfl rfl rfl rfl (x_move rfl) ?_
              refine st rfl rfl rfl rfl (x_move rfl) ?_
              refine st rfl rfl rfl rfl (x_move rfl) ?_
              refine so rfl rfl rfl rfl ?_
              refine so rfl rfl rfl rfl ?_
              refine so rfl rfl rfl rfl ?_
              refine st rfl rfl rfl rfl (x_pick1 rfl rfl) ?_
              refine st rfl rfl rfl rfl (x_pick1 rfl rfl) ?_
              refine st rfl rfl rfl rfl (x_move rfl) ?_
              refine sc rfl rfl rfl rfl (c_fn rfl Try.call12 (alive_c _)) ?_
              rintro _ w1718 ⟨rfl, fr⟩
              replace F := F.trans fr
              replace HB := HB.fr0 fr
              replace HL2 := HL2.fr0 fr
              clear fr
              refine st rfl rfl rfl rfl (x_pick1 rfl rfl) ?_
              refine st rfl rfl rfl rfl (x_asg rfl) ?_
              refine rl_end rfl ?_
              refine al_k ?_
              refine cl_ret rfl ?_
              refine fin1 rfl rfl ?_
              exact ⟨rfl, F⟩
  · skip
    refine rl_end rfl ?_
    refine al_k ?_
    refine cl_if0 rfl rfl ?_
    refine cl_skip rfl ?_
    refine al_k ?_
    refine cl_seq rfl ?_
    have hr40 : row.length ≤ 40 := by omega
    refine cl_reg rfl ?_
    refine st rfl rfl rfl rfl (x_move rfl) ?_
    refine st rfl rfl rfl rfl (x_move rfl) ?_
    refine sc rfl rfl rfl rfl (c_fn rfl Try.call17 (Right_c _ A c L HL A2 c2 row (HI.fr0 F) (by omega) (by omega) hcr)) ?_
    rintro _ w42 ⟨rfl, fr⟩
    replace F := F.trans fr
    replace HL := HL.fr0 fr
    clear fr
    refine st rfl rfl rfl rfl (x_move rfl) ?_
    refine st rfl rfl rfl rfl (x_ext rfl rfl) ?_
    cases hf4_4 : ((rightR L row).1)
    · skip
      refine st rfl rfl rfl rfl (x_ext rfl rfl) ?_
      refine st rfl rfl rfl rfl (x_asg rfl) ?_
      refine st rfl rfl rfl rfl (x_asg rfl) ?_
      refine rl_end rfl ?_
      refine al_k ?_
      refine cl_seq rfl ?_
      refine cl_seq rfl ?_
      refine cl_reg rfl ?_
      refine st rfl rfl rfl rfl (x_move rfl) ?_
      refine sf rfl rfl rfl rfl (x_neq rfl rfl) (fun c5_1 => ?_) (fun c5_1 => ?_)
      · skip
        refine st rfl rfl rfl rfl (x_move rfl) ?_
        refine so rfl rfl rfl rfl ?_
        refine so rfl rfl rfl rfl ?_
        refine st rfl rfl rfl rfl (x_pick1 rfl rfl) ?_
        refine rl_end rfl ?_
        refine al_k ?_
        refine cl_if1 rfl rfl ?_
        refine cl_seq rfl ?_
        refine cl_reg rfl ?_
        refine sc rfl rfl rfl rfl (c_fn rfl Try.call12 (alive_c _)) ?_
        rintro _ w60 ⟨rfl, fr⟩
        replace F := F.trans fr
        replace HL := HL.fr0 fr
        clear fr
        refine st rfl rfl rfl rfl (x_asg rfl) ?_
        refine rl_end rfl ?_
        refine al_k ?_
        refine cl_ret rfl ?_
        refine fin1 rfl rfl ?_
        exact ⟨rfl, F⟩
      · skip
        refine st rfl rfl rfl rfl (x_move rfl) ?_
        refine st rfl rfl rfl rfl (x_move rfl) ?_
        refine st rfl rfl rfl rfl (x_not0 rfl) ?_
        refine st rfl rfl rfl rfl (x_pick0 rfl rfl) ?_
        refine rl_end rfl ?_
        refine al_k ?_
        refine cl_if1 rfl rfl ?_
        refine cl_seq rfl ?_
        refine cl_reg rfl ?_
        refine sc rfl rfl rfl rfl (c_fn rfl Try.call12 (alive_c _)) ?_
        rintro _ w60 ⟨rfl, fr⟩
        replace F := F.trans fr
        replace HL := HL.fr0 fr
        clear fr
        refine st rfl rfl rfl rfl (x_asg rfl) ?_
        refine rl_end rfl ?_
        refine al_k ?_
        refine cl_ret rfl ?_
        refine fin1 rfl rfl ?_
        exact ⟨rfl, F⟩
    · skip
      refine st rfl rfl rfl rfl (x_ext rfl rfl) ?_
      refine st rfl rfl rfl rfl (x_asg rfl) ?_
      refine st rfl rfl rfl rfl (x_asg rfl) ?_
      refine rl_end rfl ?_
      refine al_k ?_
      refine cl_seq rfl ?_
      refine cl_seq rfl ?_
      refine cl_reg rfl ?_
      refine st rfl rfl rfl rfl (x_move rfl) ?_
      refine sf rfl rfl rfl rfl (x_neq rfl rfl) (fun c5_1 => ?_) (fun c5_1 => ?_)
      · skip
        refine st rfl rfl rfl rfl (x_move rfl) ?_
        refine so rfl rfl rfl rfl ?_
        refine so rfl rfl rfl rfl ?_
        refine st rfl rfl rfl rfl (x_pick1 rfl rfl) ?_
        refine rl_end rfl ?_
        refine al_k ?_
        refine cl_if1 rfl rfl ?_
        refine cl_seq rfl ?_
        refine cl_reg rfl ?_
        refine sc rfl rfl rfl rfl (c_fn rfl Try.call12 (alive_c _)) ?_
        rintro _ w60 ⟨rfl, fr⟩
        replace F := F.trans fr
        replace HL := HL.fr0 fr
        clear fr
        refine st rfl rfl rfl rfl (x_asg rfl) ?_
        refine rl_end rfl ?_
        refine al_k ?_
        refine cl_ret rfl ?_
        refine fin1 rfl rfl ?_
        exact ⟨rfl, F⟩
      · skip
        refine st rfl rfl rfl rfl (x_move rfl) ?_
        refine st rfl rfl rfl rfl (x_move rfl) ?_
        refine st rfl rfl rfl rfl (x_not1 rfl) ?_
        refine st rfl rfl rfl rfl (x_pick0 rfl rfl) ?_
        refine rl_end rfl ?_
        refine al_k ?_
        refine cl_if0 rfl rfl ?_
        refine cl_skip rfl ?_
        refine al_k ?_
        refine cl_seq rfl ?_
        obtain ⟨hH, hO, hR⟩ := right_of hf4_4
        refine cl_reg rfl ?_
        refine se rfl rfl rfl rfl (e_new (x_bsl rfl (bsl0 Try.underlying22 Try.sizeOf40))) ?_
        rintro _ wn ⟨rfl, b5, fr, _⟩
        have HO := own_lit (base := (World.heap w).size) (n := 0) (size := 6) b5 F.size rfl (by decide)
        have l5 := b5.lt
        clear b5
        replace F := F.trans fr
        replace HL := HL.fr0 fr
        clear fr
        refine st rfl rfl rfl rfl (x_move rfl) ?_
        refine se rfl rfl rfl rfl (e_appv 6 48 (.agg #[.int .i64 0, .int .i64 0, .int .u64 0, .int .i64 0, .int .i64 0, .bool false]) (flat encD L) rfl rfl Try.underlying22 (by kernel_rfl) rfl (by decide) HO (by rw [flat_length lenD]; (try rfl); (try simp)) (fun e => RowG.none HL e) (fun ad e j u hu => RowG.all (by decide) lenD HL ad e j u hu) (flat_mem1 oneD _) (by omega) (by omega) F.size) ?_
        rintro va wa ⟨HOa, hg, hat⟩
        have fg1 := (Fr.of_grown hg).size
        have hge := own_ge HO
        replace F := F.grown hg hge
        clear hge
        clear HO
        refine st rfl rfl rfl rfl (x_asg rfl) ?_
        refine rl_end rfl ?_
        refine al_k ?_
        refine cl_seq rfl ?_
        refine cl_seq rfl ?_
        have HO := own_cast HOa (n2 := L.length) (ys := flat encD L) (by simp) (by simp)
        obtain ⟨Am, cm, rfl, _⟩ := own_slice HO
        have hcm := own_cap HO
        have HB := OwnB.of lenD (by decide) HO
        have hwL : ∀ d ∈ L, wfD d := fun d hd => hwf d (by rw [hL] at hd; exact List.mem_of_mem_take hd)
        refine cl_reg rfl ?_
        refine st rfl rfl rfl rfl (x_asg rfl) ?_
        refine rl_end rfl ?_
        refine al_k ?_
        refine cl_block rfl ?_
        refine cl_loop (fun s : Nat × List D => [(12, .int .i64 s.1), (11, .slice Am L.length cm), (2, .slice As sn.length cs), (3, .slice Al la.length cl), (0, .slice A L.length c), (1, .slice A2 row.length c2)]) (fun s w' => (s.1 ≤ L.length ∧ Wid L s.2 s.1) ∧ OwnB w.heap.size 40 encD w' Am s.2 ∧ Fr [] w w') (fun s => L.length - s.1) (0, L) rfl ⟨rfl, rfl, rfl, rfl, rfl, rfl, trivial⟩ ?_ ?_
        · exact ⟨⟨Nat.zero_le _, Wid.start L⟩, HB, F⟩
        · skip
          rintro ⟨i, M⟩ wr ⟨⟨hi, hWd⟩, HB, F⟩
          dsimp only at hi hWd HB ⊢
          refine cl_seq rfl ?_
          refine cl_seq rfl ?_
          refine cl_reg rfl ?_
          refine st rfl rfl rfl rfl (x_move rfl) ?_
          refine st rfl rfl rfl rfl (x_move rfl) ?_
          refine st rfl rfl rfl rfl (x_len rfl Try.underlying22) ?_
          refine sf rfl rfl rfl rfl (x_lss rfl rfl) (fun c9_3 => ?_) (fun c9_3 => ?_)
          · skip
            refine rl_end rfl ?_
            refine al_k ?_
            refine cl_if1 rfl rfl ?_
            refine cl_skip rfl ?_
            refine al_k ?_
            refine cl_seq rfl ?_
            refine cl_block rfl ?_
            refine cl_seq rfl ?_
            refine cl_seq rfl ?_
            obtain ⟨x, hx⟩ : ∃ x, L[i]? = some x := ⟨_, List.getElem?_eq_getElem (by omega)⟩
            have hMx : M[i]? = some x := (hWd.2.2 i (Nat.le_refl _)).trans hx
            obtain ⟨⟨hw1, hw2⟩, ⟨hw3, hw4⟩⟩ := hwL x (List.mem_of_getElem? hx)
            obtain ⟨b, rest, rfl, hbB, hb⟩ := HB.blk hMx
            refine cl_reg rfl ?_
            refine st rfl rfl rfl rfl (x_move rfl) ?_
            refine st rfl rfl rfl rfl (x_move rfl) ?_
            refine st rfl rfl rfl rfl (x_len rfl Try.underlying43) ?_
            refine sf rfl rfl rfl rfl (x_lss rfl rfl) (fun c11_3 => ?_) (fun c11_3 => ?_)
            · skip
              refine st rfl rfl rfl rfl (x_move rfl) ?_
              refine st rfl rfl rfl rfl (x_move rfl) ?_
              refine st rfl rfl rfl rfl (x_move rfl) ?_
              refine st rfl rfl rfl rfl (x_ia0 rfl rfl Try.underlying22 Try.sizeOf40 (by omega)) ?_
              refine st rfl rfl rfl rfl (x_fa rfl Try.underlying40 rfl Try.sizeOf3 3 rfl) ?_
              refine st rfl rfl rfl rfl (x_ld rfl Try.isAgg3 (cellR lenD hb hMx 3 _ rfl)) ?_
              refine sf rfl rfl rfl rfl (x_gtr rfl rfl) (fun c11_10 => ?_) (fun c11_10 => ?_)
              · skip
                refine st rfl rfl rfl rfl (x_pick1 rfl rfl) ?_
                refine rl_end rfl ?_
                refine al_k ?_
                refine cl_if1 rfl rfl ?_
                obtain ⟨s1, hs1⟩ : ∃ z, sn[i]? = some z := ⟨_, List.getElem?_eq_getElem (by omega)⟩
                obtain ⟨as1, rfl, hcs⟩ := RowB.at_ HS hs1
                have hs1r := hso s1 (List.mem_of_getElem? hs1)
                refine cl_draw (by kernel_rfl) rfl [15] (fun w' => w'.heap = wr.heap) ?_
                rintro wd12 frd12 hpd12
                refine ⟨hpd12, ?_⟩
                refine dt (i := 0) rfl rfl rfl rfl (by kernel_rfl) (fun _ => x_move rfl) ?_
                refine dt (i := 1) rfl rfl rfl rfl (by kernel_rfl) (fun _ => x_move rfl) ?_
                refine dt (i := 2) rfl rfl rfl rfl (by kernel_rfl) (fun _ => x_move rfl) ?_
                refine dt (i := 3) rfl rfl rfl rfl (by kernel_rfl) (fun _ => x_move rfl) ?_
                refine dt (i := 4) rfl rfl rfl rfl (by kernel_rfl) (fun _ => x_ia0 rfl rfl Try.underlying22 Try.sizeOf40 (by omega)) ?_
                refine dt (i := 5) rfl rfl rfl rfl (by kernel_rfl) (fun _ => x_fa rfl Try.underlying40 rfl Try.sizeOf3 3 rfl) ?_
                refine dlt (i := 6) rfl rfl rfl rfl (by kernel_rfl) (by kernel_rfl) (fun w' hU => x_ld rfl Try.isAgg3 (heq hU (cellR lenD hb hMx 3 _ rfl))) ?_
                refine dt (i := 7) rfl rfl rfl rfl (by kernel_rfl) (fun _ => x_move rfl) ?_
                refine dt (i := 8) rfl rfl rfl rfl (by kernel_rfl) (fun _ => x_move rfl) ?_
                refine dt (i := 9) rfl rfl rfl rfl (by kernel_rfl) (fun _ => x_iag rfl rfl Try.underlying43 Try.sizeOf5 (by omega)) ?_
                refine dlt (i := 10) rfl rfl rfl rfl (by kernel_rfl) (by kernel_rfl) (fun w' hU => x_ld rfl Try.isAgg5 (heq hU (F.cell hcs (by simp)))) ?_
                refine dt (i := 11) rfl rfl rfl rfl (by kernel_rfl) (fun _ => x_cvs rfl Try.underlying5 Try.underlying3 hs1r) ?_
                refine dt (i := 12) rfl rfl rfl rfl (by kernel_rfl) (fun _ => x_sub rfl rfl (by omega)) ?_
                refine dt (i := 13) rfl rfl rfl rfl (by kernel_rfl) (fun _ => x_ia0 rfl rfl Try.underlying22 Try.sizeOf40 (by omega)) ?_
                refine dt (i := 14) rfl rfl rfl rfl (by kernel_rfl) (fun _ => x_fa rfl Try.underlying40 rfl Try.sizeOf3 3 rfl) ?_
                replace F := F.trans frd12
                replace hb := hb.fr0 frd12
                refine d1 (i := 15) (by kernel_rfl) ?_
                refine osv rfl rfl rfl (v_rf lenD (i := i) (j := 3) (u := x) (M := M) { x with frm := x.frm - s1 } rfl rfl rfl rfl Try.sizeOf3 hb hMx (by decide) rfl) ?_
                rintro w12s ⟨hb2, fr⟩
                replace hb := hb2
                replace F := F.trans_new fr (by intro q hq; simp at hq; subst hq; exact .inr hbB)
                clear fr hb2
                refine ⟨.inl (by kernel_rfl), ?_⟩
                refine dn (by kernel_rfl) ?_
                refine al_k ?_
                refine cl_seq rfl ?_
                obtain ⟨x1, M1, hM1, hx1w, hx1t, hb⟩ : ∃ (x1 : D) (M1 : List D), M1 = M.set i x1 ∧ wider x x1 ∧ x1.til = x.til ∧ Blk w12s b 40 (flat encD M1 ++ rest) := ⟨{ x with frm := x.frm - s1 }, _, rfl, ⟨rfl, rfl, rfl, rfl, by show x.frm - s1 ≤ x.frm; omega, Int.le_refl _⟩, rfl, hb⟩
                have hM1x : M1[i]? = some x1 := by rw [hM1, List.getElem?_set_self (by have := hWd.1; omega)]
                refine cl_reg rfl ?_
                refine st rfl rfl rfl rfl (x_move rfl) ?_
                refine st rfl rfl rfl rfl (x_move rfl) ?_
                refine st rfl rfl rfl rfl (x_len rfl Try.underlying43) ?_
                refine sf rfl rfl rfl rfl (x_lss rfl rfl) (fun c13_3 => ?_) (fun c13_3 => ?_)
                · skip
                  refine st rfl rfl rfl rfl (x_move rfl) ?_
                  refine st rfl rfl rfl rfl (x_move rfl) ?_
                  refine st rfl rfl rfl rfl (x_move rfl) ?_
                  refine st rfl rfl rfl rfl (x_ia0 rfl rfl Try.underlying22 Try.sizeOf40 (by omega)) ?_
                  refine st rfl rfl rfl rfl (x_fa rfl Try.underlying40 rfl Try.sizeOf3 4 rfl) ?_
                  refine st rfl rfl rfl rfl (x_ld rfl Try.isAgg3 (cellR lenD hb hM1x 4 _ rfl)) ?_
                  refine sf rfl rfl rfl rfl (x_lss rfl rfl) (fun c13_10 => ?_) (fun c13_10 => ?_)
                  · skip
                    refine st rfl rfl rfl rfl (x_pick1 rfl rfl) ?_
                    refine rl_end rfl ?_
                    refine al_k ?_
                    refine cl_if1 rfl rfl ?_
                    obtain ⟨s2, hs2⟩ : ∃ z, la[i]? = some z := ⟨_, List.getElem?_eq_getElem (by omega)⟩
                    obtain ⟨al1, rfl, hcl⟩ := RowB.at_ HLa hs2
                    have hs2r := hla s2 (List.mem_of_getElem? hs2)
                    skip
                    refine cl_draw (by kernel_rfl) rfl [15] (fun w' => w'.heap = w12s.heap) ?_
                    rintro wd14 frd14 hpd14
                    refine ⟨hpd14, ?_⟩
                    refine dt (i := 0) rfl rfl rfl rfl (by kernel_rfl) (fun _ => x_move rfl) ?_
                    refine dt (i := 1) rfl rfl rfl rfl (by kernel_rfl) (fun _ => x_move rfl) ?_
                    refine dt (i := 2) rfl rfl rfl rfl (by kernel_rfl) (fun _ => x_move rfl) ?_
                    refine dt (i := 3) rfl rfl rfl rfl (by kernel_rfl) (fun _ => x_move rfl) ?_
                    refine dt (i := 4) rfl rfl rfl rfl (by kernel_rfl) (fun _ => x_ia0 rfl rfl Try.underlying22 Try.sizeOf40 (by omega)) ?_
                    refine dt (i := 5) rfl rfl rfl rfl (by kernel_rfl) (fun _ => x_fa rfl Try.underlying40 rfl Try.sizeOf3 4 rfl) ?_
                    refine dlt (i := 6) rfl rfl rfl rfl (by kernel_rfl) (by kernel_rfl) (fun w' hU => x_ld rfl Try.isAgg3 (heq hU (cellR lenD hb hM1x 4 _ rfl))) ?_
                    refine dt (i := 7) rfl rfl rfl rfl (by kernel_rfl) (fun _ => x_move rfl) ?_
                    refine dt (i := 8) rfl rfl rfl rfl (by kernel_rfl) (fun _ => x_move rfl) ?_
                    refine dt (i := 9) rfl rfl rfl rfl (by kernel_rfl) (fun _ => x_iag rfl rfl Try.underlying43 Try.sizeOf5 (by omega)) ?_
                    refine dlt (i := 10) rfl rfl rfl rfl (by kernel_rfl) (by kernel_rfl) (fun w' hU => x_ld rfl Try.isAgg5 (heq hU (F.cell hcl (by simp)))) ?_
                    refine dt (i := 11) rfl rfl rfl rfl (by kernel_rfl) (fun _ => x_cvs rfl Try.underlying5 Try.underlying3 hs2r) ?_
                    refine dt (i := 12) rfl rfl rfl rfl (by kernel_rfl) (fun _ => x_add rfl rfl (by rw [hx1t] at c13_10 ⊢; omega)) ?_
                    refine dt (i := 13) rfl rfl rfl rfl (by kernel_rfl) (fun _ => x_ia0 rfl rfl Try.underlying22 Try.sizeOf40 (by omega)) ?_
                    refine dt (i := 14) rfl rfl rfl rfl (by kernel_rfl) (fun _ => x_fa rfl Try.underlying40 rfl Try.sizeOf3 4 rfl) ?_
                    replace F := F.trans frd14
                    replace hb := hb.fr0 frd14
                    refine d1 (i := 15) (by kernel_rfl) ?_
                    refine osv rfl rfl rfl (v_rf lenD (i := i) (j := 4) (u := x1) (M := M1) { x1 with til := x1.til + s2 } rfl rfl rfl rfl Try.sizeOf3 hb hM1x (by decide) rfl) ?_
                    rintro w14s ⟨hb2, fr⟩
                    replace hb := hb2
                    replace F := F.trans_new fr (by intro q hq; simp at hq; subst hq; exact .inr hbB)
                    clear fr hb2
                    refine ⟨.inl (by kernel_rfl), ?_⟩
                    refine dn (by kernel_rfl) ?_
                    refine al_k ?_
                    refine cl_reg rfl ?_
                    refine st rfl rfl rfl rfl (x_move rfl) ?_
                    refine st rfl rfl rfl rfl (x_add rfl rfl (by omega)) ?_
                    refine st rfl rfl rfl rfl (x_asg rfl) ?_
                    refine rl_end rfl ?_
                    have hM2 : M1.set i { x1 with til := x1.til + s2 } = M.set i { x1 with til := x1.til + s2 } := by rw [hM1, List.set_set]
                    rw [hM2] at hb
                    refine again (i + 1, M.set i { x1 with til := x1.til + s2 }) (show L.length - (i + 1) < L.length - i by omega) ⟨rfl, rfl, rfl, rfl, rfl, rfl, trivial⟩ ⟨⟨by dsimp only; omega, hWd.step hx ?_⟩, .inr ⟨b, rest, rfl, hbB, hb⟩, F⟩
                    exact ⟨hx1w.1, hx1w.2.1, hx1w.2.2.1, hx1w.2.2.2.1, hx1w.2.2.2.2.1, by show x.til ≤ x1.til + s2; omega⟩
                  · skip
                    refine st rfl rfl rfl rfl (x_pick1 rfl rfl) ?_
                    refine rl_end rfl ?_
                    refine al_k ?_
                    refine cl_if0 rfl rfl ?_
                    refine cl_skip rfl ?_
                    refine al_k ?_
                    refine cl_reg rfl ?_
                    refine st rfl rfl rfl rfl (x_move rfl) ?_
                    refine st rfl rfl rfl rfl (x_add rfl rfl (by omega)) ?_
                    refine st rfl rfl rfl rfl (x_asg rfl) ?_
                    refine rl_end rfl ?_
                    rw [hM1] at hb
                    refine again (i + 1, M.set i x1) (show L.length - (i + 1) < L.length - i by omega) ⟨rfl, rfl, rfl, rfl, rfl, rfl, trivial⟩ ⟨⟨by dsimp only; omega, hWd.step hx ?_⟩, .inr ⟨b, rest, rfl, hbB, hb⟩, F⟩
                    exact hx1w
                · skip
                  refine st rfl rfl rfl rfl (x_move rfl) ?_
                  refine so rfl rfl rfl rfl ?_
                  refine so rfl rfl rfl rfl ?_
                  refine so rfl rfl rfl rfl ?_
                  refine so rfl rfl rfl rfl ?_
                  refine so rfl rfl rfl rfl ?_
                  refine so rfl rfl rfl rfl ?_
                  refine st rfl rfl rfl rfl (x_pick0 rfl rfl) ?_
                  refine rl_end rfl ?_
                  refine al_k ?_
                  refine cl_if0 rfl rfl ?_
                  refine cl_skip rfl ?_
                  refine al_k ?_
                  refine cl_reg rfl ?_
                  refine st rfl rfl rfl rfl (x_move rfl) ?_
                  refine st rfl rfl rfl rfl (x_add rfl rfl (by omega)) ?_
                  refine st rfl rfl rfl rfl (x_asg rfl) ?_
                  refine rl_end rfl ?_
                  rw [hM1] at hb
                  refine again (i + 1, M.set i x1) (show L.length - (i + 1) < L.length - i by omega) ⟨rfl, rfl, rfl, rfl, rfl, rfl, trivial⟩ ⟨⟨by dsimp only; omega, hWd.step hx ?_⟩, .inr ⟨b, rest, rfl, hbB, hb⟩, F⟩
                  exact hx1w
              · skip
                refine st rfl rfl rfl rfl (x_pick1 rfl rfl) ?_
                refine rl_end rfl ?_
                refine al_k ?_
                refine cl_if0 rfl rfl ?_
                refine cl_skip rfl ?_
                refine al_k ?_
                refine cl_seq rfl ?_
                obtain ⟨x1, M1, hM1, hx1w, hx1t, hb⟩ : ∃ (x1 : D) (M1 : List D), M1 = M.set i x1 ∧ wider x x1 ∧ x1.til = x.til ∧ Blk wr b 40 (flat encD M1 ++ rest) := ⟨x, M, (set_same hMx).symm, wider_refl x, rfl, hb⟩
                have hM1x : M1[i]? = some x1 := by rw [hM1, List.getElem?_set_self (by have := hWd.1; omega)]
                refine cl_reg rfl ?_
                refine st rfl rfl rfl rfl (x_move rfl) ?_
                refine st rfl rfl rfl rfl (x_move rfl) ?_
                refine st rfl rfl rfl rfl (x_len rfl Try.underlying43) ?_
                refine sf rfl rfl rfl rfl (x_lss rfl rfl) (fun c13_3 => ?_) (fun c13_3 => ?_)
                · skip
                  refine st rfl rfl rfl rfl (x_move rfl) ?_
                  refine st rfl rfl rfl rfl (x_move rfl) ?_
                  refine st rfl rfl rfl rfl (x_move rfl) ?_
                  refine st rfl rfl rfl rfl (x_ia0 rfl rfl Try.underlying22 Try.sizeOf40 (by omega)) ?_
                  refine st rfl rfl rfl rfl (x_fa rfl Try.underlying40 rfl Try.sizeOf3 4 rfl) ?_
                  refine st rfl rfl rfl rfl (x_ld rfl Try.isAgg3 (cellR lenD hb hM1x 4 _ rfl)) ?_
                  refine sf rfl rfl rfl rfl (x_lss rfl rfl) (fun c13_10 => ?_) (fun c13_10 => ?_)
                  · skip
                    refine st rfl rfl rfl rfl (x_pick1 rfl rfl) ?_
                    refine rl_end rfl ?_
                    refine al_k ?_
                    refine cl_if1 rfl rfl ?_
                    obtain ⟨s2, hs2⟩ : ∃ z, la[i]? = some z := ⟨_, List.getElem?_eq_getElem (by omega)⟩
                    obtain ⟨al1, rfl, hcl⟩ := RowB.at_ HLa hs2
                    have hs2r := hla s2 (List.mem_of_getElem? hs2)
                    skip
                    refine cl_draw (by kernel_rfl) rfl [15] (fun w' => w'.heap = wr.heap) ?_
                    rintro wd14 frd14 hpd14
                    refine ⟨hpd14, ?_⟩
                    refine dt (i := 0) rfl rfl rfl rfl (by kernel_rfl) (fun _ => x_move rfl) ?_
                    refine dt (i := 1) rfl rfl rfl rfl (by kernel_rfl) (fun _ => x_move rfl) ?_
                    refine dt (i := 2) rfl rfl rfl rfl (by kernel_rfl) (fun _ => x_move rfl) ?_
                    refine dt (i := 3) rfl rfl rfl rfl (by kernel_rfl) (fun _ => x_move rfl) ?_
                    refine dt (i := 4) rfl rfl rfl rfl (by kernel_rfl) (fun _ => x_ia0 rfl rfl Try.underlying22 Try.sizeOf40 (by omega)) ?_
                    refine dt (i := 5) rfl rfl rfl rfl (by kernel_rfl) (fun _ => x_fa rfl Try.underlying40 rfl Try.sizeOf3 4 rfl) ?_
                    refine dlt (i := 6) rfl rfl rfl rfl (by kernel_rfl) (by kernel_rfl) (fun w' hU => x_ld rfl Try.isAgg3 (heq hU (cellR lenD hb hM1x 4 _ rfl))) ?_
                    refine dt (i := 7) rfl rfl rfl rfl (by kernel_rfl) (fun _ => x_move rfl) ?_
                    refine dt (i := 8) rfl rfl rfl rfl (by kernel_rfl) (fun _ => x_move rfl) ?_
                    refine dt (i := 9) rfl rfl rfl rfl (by kernel_rfl) (fun _ => x_iag rfl rfl Try.underlying43 Try.sizeOf5 (by omega)) ?_
                    refine dlt (i := 10) rfl rfl rfl rfl (by kernel_rfl) (by kernel_rfl) (fun w' hU => x_ld rfl Try.isAgg5 (heq hU (F.cell hcl (by simp)))) ?_
                    refine dt (i := 11) rfl rfl rfl rfl (by kernel_rfl) (fun _ => x_cvs rfl Try.underlying5 Try.underlying3 hs2r) ?_
                    refine dt (i := 12) rfl rfl rfl rfl (by kernel_rfl) (fun _ => x_add rfl rfl (by rw [hx1t] at c13_10 ⊢; omega)) ?_
                    refine dt (i := 13) rfl rfl rfl rfl (by kernel_rfl) (fun _ => x_ia0 rfl rfl Try.underlying22 Try.sizeOf40 (by omega)) ?_
                    refine dt (i := 14) rfl rfl rfl rfl (by kernel_rfl) (fun _ => x_fa rfl Try.underlying40 rfl Try.sizeOf3 4 rfl) ?_
                    replace F := F.trans frd14
                    replace hb := hb.fr0 frd14
                    refine d1 (i := 15) (by kernel_rfl) ?_
                    refine osv rfl rfl rfl (v_rf lenD (i := i) (j := 4) (u := x1) (M := M1) { x1 with til := x1.til + s2 } rfl rfl rfl rfl Try.sizeOf3 hb hM1x (by decide) rfl) ?_
                    rintro w14s ⟨hb2, fr⟩
                    replace hb := hb2
                    replace F := F.trans_new fr (by intro q hq; simp at hq; subst hq; exact .inr hbB)
                    clear fr hb2
                    refine ⟨.inl (by kernel_rfl), ?_⟩
                    refine dn (by kernel_rfl) ?_
                    refine al_k ?_
                    refine cl_reg rfl ?_
                    refine st rfl rfl rfl rfl (x_move rfl) ?_
                    refine st rfl rfl rfl rfl (x_add rfl rfl (by omega)) ?_
                    refine st rfl rfl rfl rfl (x_asg rfl) ?_
                    refine rl_end rfl ?_
                    have hM2 : M1.set i { x1 with til := x1.til + s2 } = M.set i { x1 with til := x1.til + s2 } := by rw [hM1, List.set_set]
                    rw [hM2] at hb
                    refine again (i + 1, M.set i { x1 with til := x1.til + s2 }) (show L.length - (i + 1) < L.length - i by omega) ⟨rfl, rfl, rfl, rfl, rfl, rfl, trivial⟩ ⟨⟨by dsimp only; omega, hWd.step hx ?_⟩, .inr ⟨b, rest, rfl, hbB, hb⟩, F⟩
                    exact ⟨hx1w.1, hx1w.2.1, hx1w.2.2.1, hx1w.2.2.2.1, hx1w.2.2.2.2.1, by show x.til ≤ x1.til + s2; omega⟩
                  · skip
                    refine st rfl rfl rfl rfl (x_pick1 rfl rfl) ?_
                    refine rl_end rfl ?_
                    refine al_k ?_
                    refine cl_if0 rfl rfl ?_
                    refine cl_skip rfl ?_
                    refine al_k ?_
                    refine cl_reg rfl ?_
                    refine st rfl rfl rfl rfl (x_move rfl) ?_
                    refine st rfl rfl rfl rfl (x_add rfl rfl (by omega)) ?_
                    refine st rfl rfl rfl rfl (x_asg rfl) ?_
                    refine rl_end rfl ?_
                    rw [hM1] at hb
                    refine again (i + 1, M.set i x1) (show L.length - (i + 1) < L.length - i by omega) ⟨rfl, rfl, rfl, rfl, rfl, rfl, trivial⟩ ⟨⟨by dsimp only; omega, hWd.step hx ?_⟩, .inr ⟨b, rest, rfl, hbB, hb⟩, F⟩
                    exact hx1w
                · skip
                  refine st rfl rfl rfl rfl (x_move rfl) ?_
                  refine so rfl rfl rfl rfl ?_
                  refine so rfl rfl rfl rfl ?_
                  refine so rfl rfl rfl rfl ?_
                  refine so rfl rfl rfl rfl ?_
                  refine so rfl rfl rfl rfl ?_
                  refine so rfl rfl rfl rfl ?_
                  refine st rfl rfl rfl rfl (x_pick0 rfl rfl) ?_
                  refine rl_end rfl ?_
                  refine al_k ?_
                  refine cl_if0 rfl rfl ?_
                  refine cl_skip rfl ?_
                  refine al_k ?_
                  refine cl_reg rfl ?_
                  refine st rfl rfl rfl rfl (x_move rfl) ?_
                  refine st rfl rfl rfl rfl (x_add rfl rfl (by omega)) ?_
                  refine st rfl rfl rfl rfl (x_asg rfl) ?_
                  refine rl_end rfl ?_
                  rw [hM1] at hb
                  refine again (i + 1, M.set i x1) (show L.length - (i + 1) < L.length - i by omega) ⟨rfl, rfl, rfl, rfl, rfl, rfl, trivial⟩ ⟨⟨by dsimp only; omega, hWd.step hx ?_⟩, .inr ⟨b, rest, rfl, hbB, hb⟩, F⟩
                  exact hx1w
            · skip
              refine st rfl rfl rfl rfl (x_move rfl) ?_
              refine so rfl rfl rfl rfl ?_
              refine so rfl rfl rfl rfl ?_
              refine so rfl rfl rfl rfl ?_
              refine so rfl rfl rfl rfl ?_
              refine so rfl rfl rfl rfl ?_
              refine so rfl rfl rfl rfl ?_
              refine st rfl rfl rfl rfl (x_pick0 rfl rfl) ?_
              refine rl_end rfl ?_
              refine al_k ?_
              refine cl_if0 rfl rfl ?_
              refine cl_skip rfl ?_
              refine al_k ?_
              refine cl_seq rfl ?_
              obtain ⟨x1, M1, hM1, hx1w, hx1t, hb⟩ : ∃ (x1 : D) (M1 : List D), M1 = M.set i x1 ∧ wider x x1 ∧ x1.til = x.til ∧ Blk wr b 40 (flat encD M1 ++ rest) := ⟨x, M, (set_same hMx).symm, wider_refl x, rfl, hb⟩
              have hM1x : M1[i]? = some x1 := by rw [hM1, List.getElem?_set_self (by have := hWd.1; omega)]
              refine cl_reg rfl ?_
              refine st rfl rfl rfl rfl (x_move rfl) ?_
              refine st rfl rfl rfl rfl (x_move rfl) ?_
              refine st rfl rfl rfl rfl (x_len rfl Try.underlying43) ?_
              refine sf rfl rfl rfl rfl (x_lss rfl rfl) (fun c13_3 => ?_) (fun c13_3 => ?_)
              · skip
                refine st rfl rfl rfl rfl (x_move rfl) ?_
                refine st rfl rfl rfl rfl (x_move rfl) ?_
                refine st rfl rfl rfl rfl (x_move rfl) ?_
                refine st rfl rfl rfl rfl (x_ia0 rfl rfl Try.underlying22 Try.sizeOf40 (by omega)) ?_
                refine st rfl rfl rfl rfl (x_fa rfl Try.underlying40 rfl Try.sizeOf3 4 rfl) ?_
                refine st rfl rfl rfl rfl (x_ld rfl Try.isAgg3 (cellR lenD hb hM1x 4 _ rfl)) ?_
                refine sf rfl rfl rfl rfl (x_lss rfl rfl) (fun c13_10 => ?_) (fun c13_10 => ?_)
                · skip
                  refine st rfl rfl rfl rfl (x_pick1 rfl rfl) ?_
                  refine rl_end rfl ?_
                  refine al_k ?_
                  refine cl_if1 rfl rfl ?_
                  obtain ⟨s2, hs2⟩ : ∃ z, la[i]? = some z := ⟨_, List.getElem?_eq_getElem (by omega)⟩
                  obtain ⟨al1, rfl, hcl⟩ := RowB.at_ HLa hs2
                  have hs2r := hla s2 (List.mem_of_getElem? hs2)
                  skip
                  refine cl_draw (by kernel_rfl) rfl [15] (fun w' => w'.heap = wr.heap) ?_
                  rintro wd14 frd14 hpd14
                  refine ⟨hpd14, ?_⟩
                  refine dt (i := 0) rfl rfl rfl rfl (by kernel_rfl) (fun _ => x_move rfl) ?_
                  refine dt (i := 1) rfl rfl rfl rfl (by kernel_rfl) (fun _ => x_move rfl) ?_
                  refine dt (i := 2) rfl rfl rfl rfl (by kernel_rfl) (fun _ => x_move rfl) ?_
                  refine dt (i := 3) rfl rfl rfl rfl (by kernel_rfl) (fun _ => x_move rfl) ?_
                  refine dt (i := 4) rfl rfl rfl rfl (by kernel_rfl) (fun _ => x_ia0 rfl rfl Try.underlying22 Try.sizeOf40 (by omega)) ?_
                  refine dt (i := 5) rfl rfl rfl rfl (by kernel_rfl) (fun _ => x_fa rfl Try.underlying40 rfl Try.sizeOf3 4 rfl) ?_
                  refine dlt (i := 6) rfl rfl rfl rfl (by kernel_rfl) (by kernel_rfl) (fun w' hU => x_ld rfl Try.isAgg3 (heq hU (cellR lenD hb hM1x 4 _ rfl))) ?_
                  refine dt (i := 7) rfl rfl rfl rfl (by kernel_rfl) (fun _ => x_move rfl) ?_
                  refine dt (i := 8) rfl rfl rfl rfl (by kernel_rfl) (fun _ => x_move rfl) ?_
                  refine dt (i := 9) rfl rfl rfl rfl (by kernel_rfl) (fun _ => x_iag rfl rfl Try.underlying43 Try.sizeOf5 (by omega)) ?_
                  refine dlt (i := 10) rfl rfl rfl rfl (by kernel_rfl) (by kernel_rfl) (fun w' hU => x_ld rfl Try.isAgg5 (heq hU (F.cell hcl (by simp)))) ?_
                  refine dt (i := 11) rfl rfl rfl rfl (by kernel_rfl) (fun _ => x_cvs rfl Try.underlying5 Try.underlying3 hs2r) ?_
                  refine dt (i := 12) rfl rfl rfl rfl (by kernel_rfl) (fun _ => x_add rfl rfl (by rw [hx1t] at c13_10 ⊢; omega)) ?_
                  refine dt (i := 13) rfl rfl rfl rfl (by kernel_rfl) (fun _ => x_ia0 rfl rfl Try.underlying22 Try.sizeOf40 (by omega)) ?_
                  refine dt (i := 14) rfl rfl rfl rfl (by kernel_rfl) (fun _ => x_fa rfl Try.underlying40 rfl Try.sizeOf3 4 rfl) ?_
                  replace F := F.trans frd14
                  replace hb := hb.fr0 frd14
                  refine d1 (i := 15) (by kernel_rfl) ?_
                  refine osv rfl rfl rfl (v_rf lenD (i := i) (j := 4) (u := x1) (M := M1) { x1 with til := x1.til + s2 } rfl rfl rfl rfl Try.sizeOf3 hb hM1x (by decide) rfl) ?_
                  rintro w14s ⟨hb2, fr⟩
                  replace hb := hb2
                  replace F := F.trans_new fr (by intro q hq; simp at hq; subst hq; exact .inr hbB)
                  clear fr hb2
                  refine ⟨.inl (by kernel_rfl), ?_⟩
                  refine dn (by kernel_rfl) ?_
                  refine al_k ?_
                  refine cl_reg rfl ?_
                  refine st rfl rfl rfl rfl (x_move rfl) ?_
                  refine st rfl rfl rfl rfl (x_add rfl rfl (by omega)) ?_
                  refine st rfl rfl rfl rfl (x_asg rfl) ?_
                  refine rl_end rfl ?_
                  have hM2 : M1.set i { x1 with til := x1.til + s2 } = M.set i { x1 with til := x1.til + s2 } := by rw [hM1, List.set_set]
                  rw [hM2] at hb
                  refine again (i + 1, M.set i { x1 with til := x1.til + s2 }) (show L.length - (i + 1) < L.length - i by omega) ⟨rfl, rfl, rfl, rfl, rfl, rfl, trivial⟩ ⟨⟨by dsimp only; omega, hWd.step hx ?_⟩, .inr ⟨b, rest, rfl, hbB, hb⟩, F⟩
                  exact ⟨hx1w.1, hx1w.2.1, hx1w.2.2.1, hx1w.2.2.2.1, hx1w.2.2.2.2.1, by show x.til ≤ x1.til + s2; omega⟩
                · skip
                  refine st rfl rfl rfl rfl (x_pick1 rfl rfl) ?_
                  refine rl_end rfl ?_
                  refine al_k ?_
                  refine cl_if0 rfl rfl ?_
                  refine cl_skip rfl ?_
                  refine al_k ?_
                  refine cl_reg rfl ?_
                  refine st rfl rfl rfl rfl (x_move rfl) ?_
                  refine st rfl rfl rfl rfl (x_add rfl rfl (by omega)) ?_
                  refine st rfl rfl rfl rfl (x_asg rfl) ?_
                  refine rl_end rfl ?_
                  rw [hM1] at hb
                  refine again (i + 1, M.set i x1) (show L.length - (i + 1) < L.length - i by omega) ⟨rfl, rfl, rfl, rfl, rfl, rfl, trivial⟩ ⟨⟨by dsimp only; omega, hWd.step hx ?_⟩, .inr ⟨b, rest, rfl, hbB, hb⟩, F⟩
                  exact hx1w
              · skip
                refine st rfl rfl rfl rfl (x_move rfl) ?_
                refine so rfl rfl rfl rfl ?_
                refine so rfl rfl rfl rfl ?_
                refine so rfl rfl rfl rfl ?_
                refine so rfl rfl rfl rfl ?_
                refine so rfl rfl rfl rfl ?_
                refine so rfl rfl rfl rfl ?_
                refine st rfl rfl rfl rfl (x_pick0 rfl rfl) ?_
                refine rl_end rfl ?_
                refine al_k ?_
                refine cl_if0 rfl rfl ?_
                refine cl_skip rfl ?_
                refine al_k ?_
                refine cl_reg rfl ?_
                refine st rfl rfl rfl rfl (x_move rfl) ?_
                refine st rfl rfl rfl rfl (x_add rfl rfl (by omega)) ?_
                refine st rfl rfl rfl rfl (x_asg rfl) ?_
                refine rl_end rfl ?_
                rw [hM1] at hb
                refine again (i + 1, M.set i x1) (show L.length - (i + 1) < L.length - i by omega) ⟨rfl, rfl, rfl, rfl, rfl, rfl, trivial⟩ ⟨⟨by dsimp only; omega, hWd.step hx ?_⟩, .inr ⟨b, rest, rfl, hbB, hb⟩, F⟩
                exact hx1w
          · skip
            refine rl_end rfl ?_
            refine al_k ?_
            refine cl_if0 rfl rfl ?_
            refine cl_exit rfl ?_
            refine upd_self ?_
            refine al_k ?_
            refine cl_seq rfl ?_
            obtain rfl : i = L.length := by omega
            have hM := hWd.1
            rw [← hM]
            have hHM := hWd.wider.hist hH
            have hRM := hWd.wider.right hO hR
            refine cl_reg rfl ?_
            refine st rfl rfl rfl rfl (x_move rfl) ?_
            refine st rfl rfl rfl rfl (x_move rfl) ?_
            refine sc rfl rfl rfl rfl (c_fn rfl Try.call17 (Right_c _ Am cm M (OwnB.row lenD HB) A2 c2 row (HI.fr0 F) (by omega) (by omega) hcr)) ?_
            rintro _ w152 ⟨rfl, fr⟩
            rw [rightR_ok hHM hRM.2, dc_true hRM.1]
            replace F := F.trans fr
            replace HB := HB.fr0 fr
            clear fr
            refine st rfl rfl rfl rfl (x_move rfl) ?_
            refine st rfl rfl rfl rfl (x_ext rfl rfl) ?_
            refine st rfl rfl rfl rfl (x_ext rfl rfl) ?_
            refine st rfl rfl rfl rfl (x_asg rfl) ?_
            refine st rfl rfl rfl rfl (x_asg rfl) ?_
            refine rl_end rfl ?_
            refine al_k ?_
            refine cl_seq rfl ?_
            refine cl_reg rfl ?_
            refine st rfl rfl rfl rfl (x_move rfl) ?_
            refine sc rfl rfl rfl rfl (c_fn rfl Try.call8 (few_r _ Am cm M (OwnB.row lenD HB) 14 (by omega) (by omega))) ?_
            rintro _ wf2 ⟨L2, rfl, HL2, hL2, hL225, _, fr⟩
            replace F := F.trans fr
            replace HB := HB.fr0 fr
            clear fr
            refine sc rfl rfl rfl rfl (c_fn rfl Try.call9 (Order_c _ Am cm L2 HL2 (by omega))) ?_
            rintro _ w162 ⟨⟨v16, rfl, hs16⟩, fr⟩
            replace F := F.trans fr
            replace HB := HB.fr0 fr
            replace HL2 := HL2.fr0 fr
            clear fr
            have hH2 : Hist L2 := by rw [hL2]; exact hist_take hHM _
            rw [orderR_err, if_pos hH2]
            refine st rfl rfl rfl rfl (x_move rfl) ?_
            refine st rfl rfl rfl rfl (x_ext rfl rfl) ?_
            refine st rfl rfl rfl rfl (x_ext rfl rfl) ?_
            cases hf16_5 : ((orderR L2).1.isSome)
            · skip
              refine st rfl rfl rfl rfl (x_ext rfl rfl) ?_
              refine st rfl rfl rfl rfl (x_asg rfl) ?_
              refine st rfl rfl rfl rfl (x_asg rfl) ?_
              refine st rfl rfl rfl rfl (x_asg rfl) ?_
              refine rl_end rfl ?_
              refine al_k ?_
              refine cl_seq rfl ?_
              refine cl_reg rfl ?_
              refine st rfl rfl rfl rfl (x_move rfl) ?_
              refine st rfl rfl rfl rfl ((x_eql rfl rfl).b1 rfl) ?_
              refine st rfl rfl rfl rfl (x_move rfl) ?_
              refine st rfl rfl rfl rfl (x_move rfl) ?_
              refine st rfl rfl rfl rfl ((x_eql rfl rfl).b1 rfl) ?_
              refine st rfl rfl rfl rfl (x_pick1 rfl rfl) ?_
              refine st rfl rfl rfl rfl (x_move rfl) ?_
              refine st rfl rfl rfl rfl (x_move rfl) ?_
              refine st rfl rfl rfl rfl (x_pick1 rfl rfl) ?_
              refine st rfl rfl rfl rfl (x_move rfl) ?_
              refine st rfl rfl rfl rfl (x_move rfl) ?_
              refine st rfl rfl rfl rfl (x_move rfl) ?_
              refine st rfl rfl rfl rfl (x_move rfl) ?_
              refine st rfl rfl rfl rfl (x_len rfl Try.underlying22) ?_
              have hbig : 14 < M.length := by
                rcases Nat.lt_or_ge 14 M.length with h | h
                · exact h
                · rw [few_all h, List.take_length] at hL2
                  subst hL2
                  obtain ⟨a, h4, _⟩ := order_finds hHM hRM.2 hRM.1
                  rw [h4] at hf16_5; cases hf16_5
              refine st rfl rfl rfl rfl ((x_gtr rfl rfl).b1 (by omega)) ?_
              refine st rfl rfl rfl rfl (x_pick0 rfl rfl) ?_
              refine st rfl rfl rfl rfl (x_pick1 rfl rfl) ?_
              refine st rfl rfl rfl rfl (x_move rfl) ?_
              refine sc rfl rfl rfl rfl (c_fn rfl Try.call12 (alive_c _)) ?_
              rintro _ w1718 ⟨rfl, fr⟩
              replace F := F.trans fr
              replace HB := HB.fr0 fr
              replace HL2 := HL2.fr0 fr
              clear fr
              refine st rfl rfl rfl rfl (x_pick1 rfl rfl) ?_
              refine st rfl rfl rfl rfl (x_asg rfl) ?_
              refine rl_end rfl ?_
              refine al_k ?_
              refine cl_ret rfl ?_
              refine fin1 rfl rfl ?_
              exact ⟨rfl, F⟩
            · skip
              refine st rfl rfl rfl rfl (x_ext rfl rfl) ?_
              refine st rfl rfl rfl rfl (x_asg rfl) ?_
              refine st rfl rfl rfl rfl (x_asg rfl) ?_
              refine st rfl rfl rfl rfl (x_asg rfl) ?_
              refine rl_end rfl ?_
              refine al_k ?_
              refine cl_seq rfl ?_
              refine cl_reg rfl ?_
              refine st rfl rfl rfl rfl (x_move rfl) ?_
              refine st rfl rfl rfl rfl ((x_eql rfl rfl).b1 rfl) ?_
              refine st rfl rfl rfl rfl (x_move rfl) ?_
              refine st rfl rfl rfl rfl (x_move rfl) ?_
              refine st rfl rfl rfl rfl ((x_eql rfl rfl).b1 rfl) ?_
              refine st rfl rfl rfl rfl (x_pick1 rfl rfl) ?_
              refine st rfl rfl rfl rfl (x_move rfl) ?_
              refine st rfl rfl rfl rfl (x_move rfl) ?_
              refine st rfl rfl rfl rfl (x_pick1 rfl rfl) ?_
              refine st rfl rfl rfl rfl (x_move rfl) ?_
              refine st rfl rfl rfl rfl (x_move rfl) ?_
              refine st rfl rfl rfl rfl (x_move rfl) ?_
              refine so rfl rfl rfl rfl ?_
              refine so rfl rfl rfl rfl ?_
              refine so rfl rfl rfl rfl ?_
              refine st rfl rfl rfl rfl (x_pick1 rfl rfl) ?_
              refine st rfl rfl rfl rfl (x_pick1 rfl rfl) ?_
              refine st rfl rfl rfl rfl (x_move rfl) ?_
              refine sc rfl rfl rfl rfl (c_fn rfl Try.call12 (alive_c _)) ?_
              rintro _ w1718 ⟨rfl, fr⟩
              replace F := F.trans fr
              replace HB := HB.fr0 fr
              replace HL2 := HL2.fr0 fr
              clear fr
              refine st rfl rfl rfl rfl (x_pick1 rfl rfl) ?_
              refine st rfl rfl rfl rfl (x_asg rfl) ?_
              refine rl_end rfl ?_
              refine al_k ?_
              refine cl_ret rfl ?_
              refine fin1 rfl rfl ?_
              exact ⟨rfl, F⟩

theorem wider_c (W : World) (a : Option Addr) (len cap : Nat) (hlen : len ≤ 9223372036854775807) (hf : ∀ j : Nat, j < len → ∃ (x : Addr) (z0 : Int) (z1 : Int) (z2 : Int) (z3 : Int) (z4 : Int) (z5 : Bool), a = some x ∧ (∀ i v, [(.int .i64 z0 : Value), .int .i64 z1, .int .u64 z2, .int .i64 z3, .int .i64 z4, .bool z5][i]? = some v → W.cell? ((x.add (((j : Nat) : Int).toNat * 6)).add i) = some v) ∧ (Lit.int .i64 z0).wf = true ∧ (Lit.int .i64 z1).wf = true ∧ (Lit.int .u64 z2).wf = true ∧ (Lit.int .i64 z3).wf = true ∧ (Lit.int .i64 z4).wf = true) (hq : len ≤ cap) (a2 : Option Addr) (len2 cap2 : Nat) (hlen2 : len2 ≤ 9223372036854775807) (hf2 : ∀ j : Nat, j < len2 → ∃ (x : Addr) (z : Int), a2 = some x ∧ W.cell? (x.add (((j : Nat) : Int).toNat * 1)) = some (.int .i64 z) ∧ (Lit.int .i64 z).wf = true) (hq2 : len2 ≤ cap2) (a3 : Option Addr) (len3 cap3 : Nat) (hlen3 : len3 ≤ 9223372036854775807) (hf3 : ∀ j : Nat, j < len3 → ∃ (x : Addr) (z : Int), a3 = some x ∧ W.cell? (x.add (((j : Nat) : Int).toNat * 1)) = some (.int .u8 z) ∧ (Lit.int .u8 z).wf = true) (hq3 : len3 ≤ cap3) (a4 : Option Addr) (len4 cap4 : Nat) (hlen4 : len4 ≤ 9223372036854775807) (hf4 : ∀ j : Nat, j < len4 → ∃ (x : Addr) (z : Int), a4 = some x ∧ W.cell? (x.add (((j : Nat) : Int).toNat * 1)) = some (.int .u8 z) ∧ (Lit.int .u8 z).wf = true) (hq4 : len4 ≤ cap4) : Cl Try.prog 6 [.slice a len cap, .slice a2 len2 cap2, .slice a3 len3 cap3, .slice a4 len4 cap4] W (fun v W' => v = .bool true ∧ Fr [] W W') := by
  obtain ⟨l, rfl, HR, hw⟩ := rowD_in hf
  obtain ⟨row, rfl, HI⟩ := rowI_in hf2
  obtain ⟨sn, rfl, HS, hso⟩ := rowB_in hf3
  obtain ⟨la, rfl, HL, hla⟩ := rowB_in hf4
  exact wider_core W a cap l HR hq a2 cap2 row HI hq2 hw a3 cap3 sn HS hso a4 cap4 la HL hla

end Go.Proofs.Ytmeheoflfdmgiaa.Lin
