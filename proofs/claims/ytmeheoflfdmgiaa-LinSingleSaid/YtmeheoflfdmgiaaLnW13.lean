/- The law of deeds one by one. -/
import Derived.Test.YtmeheoflfdmgiaaLnW11
import Derived.Test.YtmeheoflfdmgiaaLnR
set_option linter.unusedVariables false
namespace Go.Proofs.Ytmeheoflfdmgiaa.Lin
open Go Go.RowKit Go.Proofs.Ytmeheoflfdmgiaa.Sx Go.Proofs.Ytmeheoflfdmgiaa
set_option maxRecDepth 100000

theorem single_core (w : World) (A : Option Addr) (c : Nat) (l : List D) (HR : RowG encD 6 w A l) (hcp : l.length ≤ c) : Cl Try.prog 5 [.slice A l.length c] w (fun v w' => v = .bool true ∧ Fr [] w w') := by
  have F := Fr.refl [] w
  refine enter Try.func5 rfl Try.ntmps5 rfl ?_
  refine cl_seq rfl ?_
  refine cl_reg rfl ?_
  refine st rfl rfl rfl rfl (x_asg rfl) ?_
  refine rl_end rfl ?_
  refine al_k ?_
  refine cl_seq rfl ?_
  refine cl_reg rfl ?_
  refine se rfl rfl rfl rfl (e_new (x_bsl rfl (bsl0 Try.underlying22 Try.sizeOf40))) ?_
  rintro _ wn ⟨rfl, b5, fr, _⟩
  have HO := own_lit (base := (World.heap w).size) (n := 0) (size := 6) b5 F.size rfl (by decide)
  have l5 := b5.lt
  clear b5
  replace F := F.trans fr
  clear fr
  refine st rfl rfl rfl rfl (x_move rfl) ?_
  refine sc rfl rfl rfl rfl (c_fn rfl Try.call8 (few_r _ A c l (HR.fr0 F) 24 (by omega) hcp)) ?_
  rintro _ wf ⟨L, rfl, HL, hL, hL25, hLc, fr⟩
  replace F := F.trans fr
  replace HO := own_fr0 HO fr
  replace l5 := Nat.lt_of_lt_of_le l5 fr.size
  clear fr
  refine se rfl rfl rfl rfl (e_appv 6 48 (.agg #[.int .i64 0, .int .i64 0, .int .u64 0, .int .i64 0, .int .i64 0, .bool false]) (flat encD L) rfl rfl Try.underlying22 (by kernel_rfl) rfl (by decide) HO (by rw [flat_length lenD]; (try rfl); (try simp)) (fun e => RowG.none HL e) (fun ad e j u hu => RowG.all (by decide) lenD HL ad e j u hu) (flat_mem1 oneD _) (by omega) (by omega) F.size) ?_
  rintro va wa ⟨HOa, hg, hat⟩
  have fg1 := (Fr.of_grown hg).size
  have hge := own_ge HO
  replace F := F.grown hg hge
  clear hge
  clear HO
  refine st rfl rfl rfl rfl (x_asg rfl) ?_
  refine rl_end rfl ?_
  refine al_k ?_
  refine cl_seq rfl ?_
  have HO := own_cast HOa (n2 := L.length) (ys := flat encD L) (by simp) (by simp)
  obtain ⟨Am, cm, rfl, hAm⟩ := own_slice HO
  have hcm := own_cap HO
  have HB := OwnB.of lenD (by decide) HO
  have hblt : ∀ a, Am = some a → L ≠ [] → a.block < wa.heap.size := fun a ha hne => by
    obtain ⟨b9, rest9, e9, _, hb9, _, _⟩ := own_blk lenD HO hne (by decide)
    rw [ha] at e9; injection e9 with e9; subst e9; exact hb9.lt
  have HBs := Nat.le_refl (World.heap wa).size
  have Hw := F.size
  refine cl_reg rfl ?_
  refine st rfl rfl rfl rfl (x_asg rfl) ?_
  refine rl_end rfl ?_
  refine al_k ?_
  refine cl_seq rfl ?_
  refine cl_seq rfl ?_
  refine cl_reg rfl ?_
  refine st rfl rfl rfl rfl (x_asg rfl) ?_
  refine rl_end rfl ?_
  refine al_k ?_
  refine cl_block rfl ?_
  refine cl_loop (fun s : Nat × List D × Value => [(4, .int .i64 s.1), (3, s.2.2), (0, .slice Am L.length cm)]) (fun s w' => (s.1 ≤ L.length ∧ Sing L s.2.1 s.1) ∧ OwnB w.heap.size 40 encD w' Am s.2.1 ∧ w'.ownsRow wa.heap.size 3 1 s.2.2 s.1 (flat encI (rng s.1)) ∧ wa.heap.size ≤ w'.heap.size ∧ Fr [] w w') (fun s => L.length - s.1) (0, L, .slice none 0 0) rfl ⟨rfl, rfl, rfl, trivial⟩ ?_ ?_
  · exact ⟨⟨Nat.zero_le _, Sing.start L⟩, HB, own_nil _ _ _, HBs, F⟩
  · skip
    rintro ⟨i, M, v3⟩ wr ⟨⟨hi, hSg⟩, HB, HOr, HBs, F⟩
    dsimp only at hi hSg HB HOr ⊢
    refine cl_seq rfl ?_
    refine cl_seq rfl ?_
    refine cl_reg rfl ?_
    refine st rfl rfl rfl rfl (x_move rfl) ?_
    refine st rfl rfl rfl rfl (x_move rfl) ?_
    refine st rfl rfl rfl rfl (x_len rfl Try.underlying22) ?_
    refine sf rfl rfl rfl rfl (x_lss rfl rfl) (fun c4_3 => ?_) (fun c4_3 => ?_)
    · skip
      refine rl_end rfl ?_
      refine al_k ?_
      refine cl_if1 rfl rfl ?_
      refine cl_skip rfl ?_
      refine al_k ?_
      refine cl_seq rfl ?_
      refine cl_block rfl ?_
      refine cl_seq rfl ?_
      obtain ⟨x, hx⟩ : ∃ x, M[i]? = some x := ⟨_, List.getElem?_eq_getElem (by have := hSg.1; omega)⟩
      obtain ⟨b, rest, rfl, hbB, hb⟩ := HB.blk hx
      have hbl := hblt _ rfl (by intro e; subst e; simp at c4_3; omega)
      dsimp only at hbl
      refine cl_reg rfl ?_
      refine st rfl rfl rfl rfl (x_move rfl) ?_
      refine st rfl rfl rfl rfl (x_move rfl) ?_
      refine st rfl rfl rfl rfl (x_move rfl) ?_
      refine st rfl rfl rfl rfl (x_move rfl) ?_
      refine st rfl rfl rfl rfl (x_move rfl) ?_
      refine st rfl rfl rfl rfl (x_move rfl) ?_
      refine st rfl rfl rfl rfl (x_move rfl) ?_
      refine st rfl rfl rfl rfl (x_mul rfl rfl (by omega)) ?_
      refine st rfl rfl rfl rfl (x_move rfl) ?_
      refine st rfl rfl rfl rfl (x_mul rfl rfl (by omega)) ?_
      refine st rfl rfl rfl rfl (x_ia0 rfl rfl Try.underlying22 Try.sizeOf40 (by omega)) ?_
      refine st rfl rfl rfl rfl (x_fa rfl Try.underlying40 rfl Try.sizeOf3 3 rfl) ?_
      refine sv rfl rfl rfl (v_rf lenD (i := i) (j := 3) (u := x) (M := M) { x with frm := 2 * (i : Int) } rfl rfl rfl rfl Try.sizeOf3 hb hx (by decide) rfl) ?_
      rintro w6s1 ⟨hb2, fr⟩
      replace hb := hb2
      replace HOr := own_fr HOr fr (by simpa using hbl)
      replace F := F.trans_new fr (by intro q hq; simp at hq; subst hq; exact .inr hbB)
      replace HBs := Nat.le_trans HBs fr.size
      clear fr hb2
      refine st rfl rfl rfl rfl (x_ia0 rfl rfl Try.underlying22 Try.sizeOf40 (by omega)) ?_
      refine st rfl rfl rfl rfl (x_fa rfl Try.underlying40 rfl Try.sizeOf3 4 rfl) ?_
      refine sv rfl rfl rfl (v_rf lenD (i := i) (j := 4) (u := { x with frm := 2 * (i : Int) }) (M := (M.set i { x with frm := 2 * (i : Int) })) { x with frm := 2 * (i : Int), til := 2 * (i : Int) } rfl rfl rfl rfl Try.sizeOf3 hb (by rw [List.getElem?_set_self (by have := hSg.1; omega)]) (by decide) rfl) ?_
      rintro w6s2 ⟨hb2, fr⟩
      replace hb := hb2
      replace HOr := own_fr HOr fr (by simpa using hbl)
      replace F := F.trans_new fr (by intro q hq; simp at hq; subst hq; exact .inr hbB)
      replace HBs := Nat.le_trans HBs fr.size
      clear fr hb2
      refine st rfl rfl rfl rfl (x_ia0 rfl rfl Try.underlying22 Try.sizeOf40 (by omega)) ?_
      refine st rfl rfl rfl rfl (x_fa rfl Try.underlying40 rfl Try.sizeOf4 5 rfl) ?_
      refine sv rfl rfl rfl (v_rf lenD (i := i) (j := 5) (u := { x with frm := 2 * (i : Int), til := 2 * (i : Int) }) (M := ((M.set i { x with frm := 2 * (i : Int) }).set i { x with frm := 2 * (i : Int), til := 2 * (i : Int) })) { x with frm := 2 * (i : Int), til := 2 * (i : Int), opn := false } rfl rfl rfl rfl Try.sizeOf4 hb (by rw [List.getElem?_set_self (by rw [List.length_set]; have := hSg.1; omega)]) (by decide) rfl) ?_
      rintro w6s3 ⟨hb2, fr⟩
      replace hb := hb2
      replace HOr := own_fr HOr fr (by simpa using hbl)
      replace F := F.trans_new fr (by intro q hq; simp at hq; subst hq; exact .inr hbB)
      replace HBs := Nat.le_trans HBs fr.size
      clear fr hb2
      refine rl_end rfl ?_
      refine al_k ?_
      have hM3 : M.set i { x with frm := 2 * (i : Int) } = M.set i { x with frm := 2 * (i : Int) } := rfl
      rw [List.set_set, List.set_set] at hb
      refine cl_reg rfl ?_
      refine st rfl rfl rfl rfl (x_move rfl) ?_
      refine st rfl rfl rfl rfl (x_move rfl) ?_
      refine se rfl rfl rfl rfl (e_new (x_bsl rfl (bslI _ _))) ?_
      rintro _ w72 ⟨rfl, b16, fr, _⟩
      replace F := F.trans fr
      replace HOr := own_fr0 HOr fr
      replace HBs := Nat.le_trans HBs fr.size
      replace hb := hb.fr0 fr
      clear fr
      refine se rfl rfl rfl rfl (e_app 1 8 (.int .i64 0) (encI (i : Int)) rfl rfl Try.underlying24 (by kernel_rfl) rfl (by decide) HOr (by rw [lenI]) b16.news (oneIn _) (by omega) (by omega) HBs) ?_
      rintro vr wz ⟨HOz, hg, hat⟩
      have hge := own_ge HOr
      replace hb := hb.fr (Fr.of_grown hg) (by intro hm; cases hvo : v3.ownBlock with | none => (rw [hvo] at hm; simp at hm) | some z => (rw [hvo] at hm; simp at hm; subst hm; have := hge _ hvo; omega))
      replace F := F.grown hg (fun z hz => by have := hge z hz; omega)
      replace HBs := Nat.le_trans HBs (Fr.of_grown hg).size
      refine st rfl rfl rfl rfl (x_asg rfl) ?_
      refine rl_end rfl ?_
      refine al_k ?_
      refine cl_reg rfl ?_
      refine st rfl rfl rfl rfl (x_move rfl) ?_
      refine st rfl rfl rfl rfl (x_add rfl rfl (by omega)) ?_
      refine st rfl rfl rfl rfl (x_asg rfl) ?_
      refine rl_end rfl ?_
      refine again (i + 1, M.set i { x with frm := 2 * (i : Int), til := 2 * (i : Int), opn := false }, vr) (show L.length - (i + 1) < L.length - i by omega) ⟨rfl, rfl, rfl, trivial⟩ ⟨⟨by dsimp only; omega, hSg.step ⟨rfl, rfl, rfl⟩⟩, .inr ⟨b, rest, rfl, hbB, hb⟩, own_cast HOz rfl (by rw [rng_succ, flat_app2, flat_one']), HBs, F⟩
    · skip
      refine rl_end rfl ?_
      refine al_k ?_
      refine cl_if0 rfl rfl ?_
      refine cl_exit rfl ?_
      refine upd_self ?_
      refine al_k ?_
      refine cl_seq rfl ?_
      obtain rfl : i = L.length := by omega
      have hM := hSg.1
      rw [← hM]
      have hC := hSg.chain
      rw [← hM] at HOr
      obtain ⟨A3, c3, rfl, HI3, hc3⟩ := SlG.own (l := rng M.length) (by decide) lenI HOr (by rw [rng_len]) rfl
      refine cl_reg rfl ?_
      refine st rfl rfl rfl rfl (x_move rfl) ?_
      refine sc rfl rfl rfl rfl (c_fn rfl Try.call9 (Order_c _ Am cm M (OwnB.row lenD HB) (by omega))) ?_
      rintro _ w81 ⟨⟨v8, rfl, hs8⟩, fr⟩
      replace F := F.trans fr
      replace HB := HB.fr0 fr
      replace HBs := Nat.le_trans HBs fr.size
      replace HI3 := HI3.fr0 fr
      clear fr
      refine st rfl rfl rfl rfl (x_move rfl) ?_
      refine st rfl rfl rfl rfl (x_ext rfl rfl) ?_
      refine st rfl rfl rfl rfl (x_ext rfl rfl) ?_
      cases hf8_4 : ((orderR M).1.isSome)
      · skip
        refine st rfl rfl rfl rfl (x_ext rfl rfl) ?_
        refine st rfl rfl rfl rfl (x_asg rfl) ?_
        refine st rfl rfl rfl rfl (x_asg rfl) ?_
        refine st rfl rfl rfl rfl (x_asg rfl) ?_
        refine rl_end rfl ?_
        refine al_k ?_
        refine cl_seq rfl ?_
        refine cl_seq rfl ?_
        refine cl_reg rfl ?_
        refine st rfl rfl rfl rfl (x_move rfl) ?_
        refine sf rfl rfl rfl rfl (x_neq rfl rfl) (fun c9_1 => ?_) (fun c9_1 => ?_)
        · skip
          refine rl_end rfl ?_
          refine al_k ?_
          refine cl_if1 rfl rfl ?_
          refine cl_seq rfl ?_
          refine cl_reg rfl ?_
          refine st rfl rfl rfl rfl (x_move rfl) ?_
          refine sc rfl rfl rfl rfl (c_fn rfl Try.call13 (rcheck_c _ Am cm M (OwnB.row lenD HB) (by omega))) ?_
          rintro _ w101 ⟨rfl, fr⟩
          replace F := F.trans fr
          replace HB := HB.fr0 fr
          replace HBs := Nat.le_trans HBs fr.size
          replace HI3 := HI3.fr0 fr
          replace hs8 := hs8.fr0 fr
          clear fr
          refine st rfl rfl rfl rfl ((x_neq rfl rfl).b1 (by rw [orderR_err] at c9_1; exact c9_1)) ?_
          refine st rfl rfl rfl rfl (x_move rfl) ?_
          refine sc rfl rfl rfl rfl (c_fn rfl Try.call12 (alive_c _)) ?_
          rintro _ w104 ⟨rfl, fr⟩
          replace F := F.trans fr
          replace HB := HB.fr0 fr
          replace HBs := Nat.le_trans HBs fr.size
          replace HI3 := HI3.fr0 fr
          replace hs8 := hs8.fr0 fr
          clear fr
          refine st rfl rfl rfl rfl (x_pick1 rfl rfl) ?_
          refine st rfl rfl rfl rfl (x_asg rfl) ?_
          refine rl_end rfl ?_
          refine al_k ?_
          refine cl_ret rfl ?_
          refine fin1 rfl rfl ?_
          exact ⟨rfl, F⟩
        · skip
          refine rl_end rfl ?_
          refine al_k ?_
          refine cl_if0 rfl rfl ?_
          refine cl_skip rfl ?_
          refine al_k ?_
          refine cl_seq rfl ?_
          have hH : Hist M := Decidable.by_contra (fun h => by rw [orderR_err, if_neg h] at c9_1; exact c9_1 (by decide))
          refine cl_reg rfl ?_
          refine st rfl rfl rfl rfl (x_move rfl) ?_
          refine st rfl rfl rfl rfl (x_move rfl) ?_
          refine sc rfl rfl rfl rfl (c_fn rfl Try.call16 (rPlay_c _ Am cm M (OwnB.row lenD HB) A3 c3 (rng M.length) HI3 (by omega) (by rw [rng_len]; omega))) ?_
          rintro _ w112 ⟨⟨v11, rfl, hs11⟩, fr⟩
          have hps : (playR M (rng M.length)).1.isSome = false := by rw [playR_ok hH (rng_ok M)]; exact (single hC hH).1.symm.trans hf8_4
          have hp2 : (playR M (rng M.length)).2 = 0 := by rw [playR_ok hH (rng_ok M)]
          rw [hps, hp2]
          replace F := F.trans fr
          replace HB := HB.fr0 fr
          replace HBs := Nat.le_trans HBs fr.size
          replace HI3 := HI3.fr0 fr
          replace hs8 := hs8.fr0 fr
          clear fr
          refine st rfl rfl rfl rfl (x_move rfl) ?_
          refine st rfl rfl rfl rfl (x_ext rfl rfl) ?_
          refine st rfl rfl rfl rfl (x_ext rfl rfl) ?_
          refine st rfl rfl rfl rfl (x_ext rfl rfl) ?_
          refine st rfl rfl rfl rfl (x_asg rfl) ?_
          refine st rfl rfl rfl rfl (x_asg rfl) ?_
          refine st rfl rfl rfl rfl (x_asg rfl) ?_
          refine rl_end rfl ?_
          refine al_k ?_
          refine cl_seq rfl ?_
          refine cl_reg rfl ?_
          refine st rfl rfl rfl rfl (x_move rfl) ?_
          refine st rfl rfl rfl rfl ((x_eql rfl rfl).b1 rfl) ?_
          refine st rfl rfl rfl rfl (x_move rfl) ?_
          refine st rfl rfl rfl rfl (x_move rfl) ?_
          refine st rfl rfl rfl rfl (x_move rfl) ?_
          refine st rfl rfl rfl rfl (x_eqlb rfl rfl Try.underlying4) ?_
          refine st rfl rfl rfl rfl (x_pick1 rfl rfl) ?_
          refine st rfl rfl rfl rfl (x_move rfl) ?_
          refine st rfl rfl rfl rfl (x_move rfl) ?_
          refine st rfl rfl rfl rfl (x_not0 rfl) ?_
          refine st rfl rfl rfl rfl (x_move rfl) ?_
          refine so rfl rfl rfl rfl ?_
          refine so rfl rfl rfl rfl ?_
          refine so rfl rfl rfl rfl ?_
          refine st rfl rfl rfl rfl (x_pick1 rfl rfl) ?_
          refine st rfl rfl rfl rfl (x_pick1 rfl rfl) ?_
          refine st rfl rfl rfl rfl (x_move rfl) ?_
          refine sc rfl rfl rfl rfl (c_fn rfl Try.call12 (alive_c _)) ?_
          rintro _ w1217 ⟨rfl, fr⟩
          replace F := F.trans fr
          replace HB := HB.fr0 fr
          replace HBs := Nat.le_trans HBs fr.size
          replace HI3 := HI3.fr0 fr
          clear fr
          refine st rfl rfl rfl rfl (x_pick1 rfl rfl) ?_
          refine st rfl rfl rfl rfl (x_asg rfl) ?_
          refine rl_end rfl ?_
          refine al_k ?_
          refine cl_ret rfl ?_
          refine fin1 rfl rfl ?_
          exact ⟨rfl, F⟩
      · skip
        refine st rfl rfl rfl rfl (x_ext rfl rfl) ?_
        refine st rfl rfl rfl rfl (x_asg rfl) ?_
        refine st rfl rfl rfl rfl (x_asg rfl) ?_
        refine st rfl rfl rfl rfl (x_asg rfl) ?_
        refine rl_end rfl ?_
        refine al_k ?_
        refine cl_seq rfl ?_
        refine cl_seq rfl ?_
        refine cl_reg rfl ?_
        refine st rfl rfl rfl rfl (x_move rfl) ?_
        refine sf rfl rfl rfl rfl (x_neq rfl rfl) (fun c9_1 => ?_) (fun c9_1 => ?_)
        · skip
          refine rl_end rfl ?_
          refine al_k ?_
          refine cl_if1 rfl rfl ?_
          refine cl_seq rfl ?_
          refine cl_reg rfl ?_
          refine st rfl rfl rfl rfl (x_move rfl) ?_
          refine sc rfl rfl rfl rfl (c_fn rfl Try.call13 (rcheck_c _ Am cm M (OwnB.row lenD HB) (by omega))) ?_
          rintro _ w101 ⟨rfl, fr⟩
          replace F := F.trans fr
          replace HB := HB.fr0 fr
          replace HBs := Nat.le_trans HBs fr.size
          replace HI3 := HI3.fr0 fr
          replace hs8 := hs8.fr0 fr
          clear fr
          refine st rfl rfl rfl rfl ((x_neq rfl rfl).b1 (by rw [orderR_err] at c9_1; exact c9_1)) ?_
          refine st rfl rfl rfl rfl (x_move rfl) ?_
          refine sc rfl rfl rfl rfl (c_fn rfl Try.call12 (alive_c _)) ?_
          rintro _ w104 ⟨rfl, fr⟩
          replace F := F.trans fr
          replace HB := HB.fr0 fr
          replace HBs := Nat.le_trans HBs fr.size
          replace HI3 := HI3.fr0 fr
          replace hs8 := hs8.fr0 fr
          clear fr
          refine st rfl rfl rfl rfl (x_pick1 rfl rfl) ?_
          refine st rfl rfl rfl rfl (x_asg rfl) ?_
          refine rl_end rfl ?_
          refine al_k ?_
          refine cl_ret rfl ?_
          refine fin1 rfl rfl ?_
          exact ⟨rfl, F⟩
        · skip
          refine rl_end rfl ?_
          refine al_k ?_
          refine cl_if0 rfl rfl ?_
          refine cl_skip rfl ?_
          refine al_k ?_
          refine cl_seq rfl ?_
          have hH : Hist M := Decidable.by_contra (fun h => by rw [orderR_err, if_neg h] at c9_1; exact c9_1 (by decide))
          refine cl_reg rfl ?_
          refine st rfl rfl rfl rfl (x_move rfl) ?_
          refine st rfl rfl rfl rfl (x_move rfl) ?_
          refine sc rfl rfl rfl rfl (c_fn rfl Try.call16 (rPlay_c _ Am cm M (OwnB.row lenD HB) A3 c3 (rng M.length) HI3 (by omega) (by rw [rng_len]; omega))) ?_
          rintro _ w112 ⟨⟨v11, rfl, hs11⟩, fr⟩
          have hps : (playR M (rng M.length)).1.isSome = true := by rw [playR_ok hH (rng_ok M)]; exact (single hC hH).1.symm.trans hf8_4
          have hp2 : (playR M (rng M.length)).2 = 0 := by rw [playR_ok hH (rng_ok M)]
          rw [hps, hp2]
          replace F := F.trans fr
          replace HB := HB.fr0 fr
          replace HBs := Nat.le_trans HBs fr.size
          replace HI3 := HI3.fr0 fr
          replace hs8 := hs8.fr0 fr
          clear fr
          refine st rfl rfl rfl rfl (x_move rfl) ?_
          refine st rfl rfl rfl rfl (x_ext rfl rfl) ?_
          refine st rfl rfl rfl rfl (x_ext rfl rfl) ?_
          refine st rfl rfl rfl rfl (x_ext rfl rfl) ?_
          refine st rfl rfl rfl rfl (x_asg rfl) ?_
          refine st rfl rfl rfl rfl (x_asg rfl) ?_
          refine st rfl rfl rfl rfl (x_asg rfl) ?_
          refine rl_end rfl ?_
          refine al_k ?_
          refine cl_seq rfl ?_
          obtain ⟨a, ha⟩ := some_of hf8_4
          have hae := (single hC hH).2 a ha
          rw [ha] at hs8
          obtain ⟨A8, c8, rfl, HS8, _⟩ := hs8
          subst hae
          refine cl_reg rfl ?_
          refine st rfl rfl rfl rfl (x_move rfl) ?_
          refine st rfl rfl rfl rfl ((x_eql rfl rfl).b1 rfl) ?_
          refine st rfl rfl rfl rfl (x_move rfl) ?_
          refine st rfl rfl rfl rfl (x_move rfl) ?_
          refine st rfl rfl rfl rfl (x_move rfl) ?_
          refine st rfl rfl rfl rfl (x_eqlb rfl rfl Try.underlying4) ?_
          refine st rfl rfl rfl rfl (x_pick1 rfl rfl) ?_
          refine st rfl rfl rfl rfl (x_move rfl) ?_
          refine st rfl rfl rfl rfl (x_move rfl) ?_
          refine st rfl rfl rfl rfl (x_not1 rfl) ?_
          refine st rfl rfl rfl rfl (x_move rfl) ?_
          refine st rfl rfl rfl rfl (x_move rfl) ?_
          refine st rfl rfl rfl rfl (x_move rfl) ?_
          refine sc rfl rfl rfl rfl (c_fn rfl Try.call11 (same_self _ A8 c8 _ HS8 A3 c3 HI3 (by show (rng M.length).length ≤ _; rw [rng_len]; omega))) ?_
          rintro _ w1213 ⟨rfl, fr⟩
          replace F := F.trans fr
          replace HB := HB.fr0 fr
          replace HBs := Nat.le_trans HBs fr.size
          replace HI3 := HI3.fr0 fr
          replace HS8 := HS8.fr0 fr
          clear fr
          refine st rfl rfl rfl rfl (x_pick0 rfl rfl) ?_
          refine st rfl rfl rfl rfl (x_pick1 rfl rfl) ?_
          refine st rfl rfl rfl rfl (x_move rfl) ?_
          refine sc rfl rfl rfl rfl (c_fn rfl Try.call12 (alive_c _)) ?_
          rintro _ w1217 ⟨rfl, fr⟩
          replace F := F.trans fr
          replace HB := HB.fr0 fr
          replace HBs := Nat.le_trans HBs fr.size
          replace HI3 := HI3.fr0 fr
          replace HS8 := HS8.fr0 fr
          clear fr
          refine st rfl rfl rfl rfl (x_pick1 rfl rfl) ?_
          refine st rfl rfl rfl rfl (x_asg rfl) ?_
          refine rl_end rfl ?_
          refine al_k ?_
          refine cl_ret rfl ?_
          refine fin1 rfl rfl ?_
          exact ⟨rfl, F⟩

theorem single_c (W : World) (a : Option Addr) (len cap : Nat) (hlen : len ≤ 9223372036854775807) (hf : ∀ j : Nat, j < len → ∃ (x : Addr) (z0 : Int) (z1 : Int) (z2 : Int) (z3 : Int) (z4 : Int) (z5 : Bool), a = some x ∧ (∀ i v, [(.int .i64 z0 : Value), .int .i64 z1, .int .u64 z2, .int .i64 z3, .int .i64 z4, .bool z5][i]? = some v → W.cell? ((x.add (((j : Nat) : Int).toNat * 6)).add i) = some v) ∧ (Lit.int .i64 z0).wf = true ∧ (Lit.int .i64 z1).wf = true ∧ (Lit.int .u64 z2).wf = true ∧ (Lit.int .i64 z3).wf = true ∧ (Lit.int .i64 z4).wf = true) (hq : len ≤ cap) : Cl Try.prog 5 [.slice a len cap] W (fun v W' => v = .bool true ∧ Fr [] W W') := by
  obtain ⟨l, rfl, HR, _⟩ := rowD_in hf
  exact single_core W a cap l HR hq

end Go.Proofs.Ytmeheoflfdmgiaa.Lin
