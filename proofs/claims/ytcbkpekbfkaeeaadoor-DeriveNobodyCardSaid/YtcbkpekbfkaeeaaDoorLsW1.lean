/- Lists by links: the walks of insert, remove, add and what they ask. -/
import Derived.Test.YtcbkpekbfkaeeaaDoorLsBase
set_option linter.unusedVariables false
namespace Go.Proofs.YtcbkpekbfkaeeaaDoor.Ls
open Go Go.RowKit Go.Proofs.YtcbkpekbfkaeeaaDoor.Sx Go.Proofs.YtcbkpekbfkaeeaaDoor
set_option maxRecDepth 100000

theorem get_set {α : Type} {xs : List α} {i : Nat} {u v : α} (h : xs[i]? = some u) : (xs.set i v)[i]? = some v := by
  have := (List.getElem?_eq_some_iff.1 h).1
  simp [this]

theorem insert_11 (w : World) (p nb hb N H : Nat) (x : LS) (L : LsAt w p nb hb N H x) (li nd pv nx : Int) (u : Head) (hu : x.heads[li.toNat]? = some u) (hl : 0 ≤ li ∧ li < H) (hn : 0 ≤ nd ∧ nd < N) (hpv : pv = -1) (hnx : nx = -1) (hc : 0 ≤ u.cnt ∧ u.cnt ≤ 1000000) :
    Cl Tryd.prog 56 [.pointer (some ⟨p, 0, none⟩), .int .i64 li, .int .i64 nd, .int .i64 pv, .int .i64 nx] w (fun v w' => v = .tuple #[] ∧ LsAt w' p nb hb N H (x.insert li nd pv nx) ∧ Fr [nb, hb] w w') := by
  have F := Fr.refl [nb, hb] w
  refine enter Tryd.func56 rfl Tryd.ntmps56 rfl ?_
  refine cl_seq rfl ?_
  refine cl_reg rfl ?_
  refine st rfl rfl rfl rfl (x_move rfl) ?_
  refine st rfl rfl rfl rfl (x_nil rfl) ?_
  refine st rfl rfl rfl rfl (x_fa rfl Tryd.underlying80 rfl Tryd.sizeOf78 1 rfl) ?_
  refine st rfl rfl rfl rfl (x_ld rfl Tryd.isAgg78 (L.top.cell rfl)) ?_
  refine st rfl rfl rfl rfl (x_move rfl) ?_
  refine st rfl rfl rfl rfl (x_ia0 rfl rfl Tryd.underlying78 Tryd.sizeOf84 (by omega)) ?_
  refine st rfl rfl rfl rfl (x_asg rfl) ?_
  refine rl_end rfl ?_
  refine al_k ?_
  refine cl_seq rfl ?_
  refine cl_reg rfl ?_
  refine st rfl rfl rfl rfl (x_move rfl) ?_
  refine st rfl rfl rfl rfl (x_nil rfl) ?_
  refine st rfl rfl rfl rfl (x_fa rfl Tryd.underlying80 rfl Tryd.sizeOf77 0 rfl) ?_
  refine st rfl rfl rfl rfl (x_ld rfl Tryd.isAgg77 (L.top.cell rfl)) ?_
  refine st rfl rfl rfl rfl (x_move rfl) ?_
  refine st rfl rfl rfl rfl (x_move rfl) ?_
  refine st rfl rfl rfl rfl (x_move rfl) ?_
  refine st rfl rfl rfl rfl (x_move rfl) ?_
  refine st rfl rfl rfl rfl (x_build rfl (bldL _ _ _ _)) ?_
  refine st rfl rfl rfl rfl (x_ia0 rfl rfl Tryd.underlying77 Tryd.sizeOf82 (by omega)) ?_
  refine sv rfl rfl rfl (v_e lenL ⟨li, pv, nx⟩ rfl rfl rfl rfl (oneL _) Tryd.sizeOf82 L.nod (by have := L.lenN; omega)) ?_
  rintro w1 ⟨hN1, fr1⟩
  replace L := L.setN hN1 fr1 (by simpa using L.lenN)
  replace F := F.trans (fr1.mono (by simp))
  refine rl_end rfl ?_
  refine al_k ?_
  refine cl_seq rfl ?_
  refine cl_seq rfl ?_
  refine cl_reg rfl ?_
  refine st rfl rfl rfl rfl (x_move rfl) ?_
  refine st rfl rfl rfl rfl ((x_eql rfl rfl).b1 (by omega)) ?_
  refine rl_end rfl ?_
  refine al_k ?_
  refine cl_if1 rfl rfl ?_
  refine cl_reg rfl ?_
  refine st rfl rfl rfl rfl (x_move rfl) ?_
  refine st rfl rfl rfl rfl (x_move rfl) ?_
  refine st rfl rfl rfl rfl (x_nil rfl) ?_
  refine st rfl rfl rfl rfl (x_fa rfl Tryd.underlying84 rfl Tryd.sizeOf3 0 rfl) ?_
  refine sv rfl rfl rfl (v_f lenH { u with fst := nd } rfl rfl rfl rfl rfl Tryd.sizeOf3 L.hed hu (by decide) rfl) ?_
  rintro w2 ⟨hH2, fr2⟩
  replace L := L.setH hH2 fr2 (by simpa using L.lenH)
  replace F := F.trans (fr2.mono (by simp))
  have hu2 := get_set (v := { u with fst := nd }) hu
  refine rl_end rfl ?_
  refine al_k ?_
  refine cl_seq rfl ?_
  refine cl_seq rfl ?_
  refine cl_reg rfl ?_
  refine st rfl rfl rfl rfl (x_move rfl) ?_
  refine st rfl rfl rfl rfl ((x_eql rfl rfl).b1 (by omega)) ?_
  refine rl_end rfl ?_
  refine al_k ?_
  refine cl_if1 rfl rfl ?_
  refine cl_reg rfl ?_
  refine st rfl rfl rfl rfl (x_move rfl) ?_
  refine st rfl rfl rfl rfl (x_move rfl) ?_
  refine st rfl rfl rfl rfl (x_nil rfl) ?_
  refine st rfl rfl rfl rfl (x_fa rfl Tryd.underlying84 rfl Tryd.sizeOf3 1 rfl) ?_
  refine sv rfl rfl rfl (v_f lenH { { u with fst := nd } with lst := nd } rfl rfl rfl rfl rfl Tryd.sizeOf3 L.hed hu2 (by decide) rfl) ?_
  rintro w3 ⟨hH3, fr3⟩
  replace L := L.setH hH3 fr3 (by simpa using L.lenH)
  replace F := F.trans (fr3.mono (by simp))
  have hu3 := get_set (v := { { u with fst := nd } with lst := nd }) hu2
  refine rl_end rfl ?_
  refine al_k ?_
  refine cl_reg rfl ?_
  refine st rfl rfl rfl rfl (x_move rfl) ?_
  refine st rfl rfl rfl rfl (x_nil rfl) ?_
  refine st rfl rfl rfl rfl (x_fa rfl Tryd.underlying84 rfl Tryd.sizeOf3 2 rfl) ?_
  refine st rfl rfl rfl rfl (x_ld rfl Tryd.isAgg3 (cell_f lenH L.hed hu3 rfl (by decide) rfl)) ?_
  refine st rfl rfl rfl rfl (x_add rfl rfl (by constructor <;> (try dsimp only) <;> omega)) ?_
  refine st rfl rfl rfl rfl (x_nil rfl) ?_
  refine st rfl rfl rfl rfl (x_fa rfl Tryd.underlying84 rfl Tryd.sizeOf3 2 rfl) ?_
  refine sv rfl rfl rfl (v_f lenH { { { u with fst := nd } with lst := nd } with cnt := u.cnt + 1 } rfl rfl rfl rfl rfl Tryd.sizeOf3 L.hed hu3 (by decide) rfl) ?_
  rintro w4 ⟨hH4, fr4⟩
  replace L := L.setH hH4 fr4 (by simpa using L.lenH)
  replace F := F.trans (fr4.mono (by simp))
  refine rl_end rfl ?_
  refine fin0n rfl ?_
  refine ⟨rfl, ?_, F⟩
  simp only [LS.insert, if_pos hpv, if_pos hnx, upd_some _ hu, upd_some _ hu2, upd_some _ hu3]
  exact L

theorem insert_10 (w : World) (p nb hb N H : Nat) (x : LS) (L : LsAt w p nb hb N H x) (li nd pv nx : Int) (u : Head) (hu : x.heads[li.toNat]? = some u) (hl : 0 ≤ li ∧ li < H) (hn : 0 ≤ nd ∧ nd < N) (hpv : pv = -1) (hnx : ¬ nx = -1) (hx : 0 ≤ nx ∧ nx < N) (hc : 0 ≤ u.cnt ∧ u.cnt ≤ 1000000) :
    Cl Tryd.prog 56 [.pointer (some ⟨p, 0, none⟩), .int .i64 li, .int .i64 nd, .int .i64 pv, .int .i64 nx] w (fun v w' => v = .tuple #[] ∧ LsAt w' p nb hb N H (x.insert li nd pv nx) ∧ Fr [nb, hb] w w') := by
  have F := Fr.refl [nb, hb] w
  refine enter Tryd.func56 rfl Tryd.ntmps56 rfl ?_
  refine cl_seq rfl ?_
  refine cl_reg rfl ?_
  refine st rfl rfl rfl rfl (x_move rfl) ?_
  refine st rfl rfl rfl rfl (x_nil rfl) ?_
  refine st rfl rfl rfl rfl (x_fa rfl Tryd.underlying80 rfl Tryd.sizeOf78 1 rfl) ?_
  refine st rfl rfl rfl rfl (x_ld rfl Tryd.isAgg78 (L.top.cell rfl)) ?_
  refine st rfl rfl rfl rfl (x_move rfl) ?_
  refine st rfl rfl rfl rfl (x_ia0 rfl rfl Tryd.underlying78 Tryd.sizeOf84 (by omega)) ?_
  refine st rfl rfl rfl rfl (x_asg rfl) ?_
  refine rl_end rfl ?_
  refine al_k ?_
  refine cl_seq rfl ?_
  refine cl_reg rfl ?_
  refine st rfl rfl rfl rfl (x_move rfl) ?_
  refine st rfl rfl rfl rfl (x_nil rfl) ?_
  refine st rfl rfl rfl rfl (x_fa rfl Tryd.underlying80 rfl Tryd.sizeOf77 0 rfl) ?_
  refine st rfl rfl rfl rfl (x_ld rfl Tryd.isAgg77 (L.top.cell rfl)) ?_
  refine st rfl rfl rfl rfl (x_move rfl) ?_
  refine st rfl rfl rfl rfl (x_move rfl) ?_
  refine st rfl rfl rfl rfl (x_move rfl) ?_
  refine st rfl rfl rfl rfl (x_move rfl) ?_
  refine st rfl rfl rfl rfl (x_build rfl (bldL _ _ _ _)) ?_
  refine st rfl rfl rfl rfl (x_ia0 rfl rfl Tryd.underlying77 Tryd.sizeOf82 (by omega)) ?_
  refine sv rfl rfl rfl (v_e lenL ⟨li, pv, nx⟩ rfl rfl rfl rfl (oneL _) Tryd.sizeOf82 L.nod (by have := L.lenN; omega)) ?_
  rintro w1 ⟨hN1, fr1⟩
  replace L := L.setN hN1 fr1 (by simpa using L.lenN)
  replace F := F.trans (fr1.mono (by simp))
  refine rl_end rfl ?_
  refine al_k ?_
  refine cl_seq rfl ?_
  refine cl_seq rfl ?_
  refine cl_reg rfl ?_
  refine st rfl rfl rfl rfl (x_move rfl) ?_
  refine st rfl rfl rfl rfl ((x_eql rfl rfl).b1 (by omega)) ?_
  refine rl_end rfl ?_
  refine al_k ?_
  refine cl_if1 rfl rfl ?_
  refine cl_reg rfl ?_
  refine st rfl rfl rfl rfl (x_move rfl) ?_
  refine st rfl rfl rfl rfl (x_move rfl) ?_
  refine st rfl rfl rfl rfl (x_nil rfl) ?_
  refine st rfl rfl rfl rfl (x_fa rfl Tryd.underlying84 rfl Tryd.sizeOf3 0 rfl) ?_
  refine sv rfl rfl rfl (v_f lenH { u with fst := nd } rfl rfl rfl rfl rfl Tryd.sizeOf3 L.hed hu (by decide) rfl) ?_
  rintro w2 ⟨hH2, fr2⟩
  replace L := L.setH hH2 fr2 (by simpa using L.lenH)
  replace F := F.trans (fr2.mono (by simp))
  have hu2 := get_set (v := { u with fst := nd }) hu
  refine rl_end rfl ?_
  refine al_k ?_
  refine cl_seq rfl ?_
  refine cl_seq rfl ?_
  refine cl_reg rfl ?_
  refine st rfl rfl rfl rfl (x_move rfl) ?_
  refine st rfl rfl rfl rfl ((x_eql rfl rfl).b0 (by omega)) ?_
  refine rl_end rfl ?_
  refine al_k ?_
  refine cl_if0 rfl rfl ?_
  obtain ⟨z, hz⟩ := get_of (i := nx) L.lenN (by omega)
  refine cl_reg rfl ?_
  refine st rfl rfl rfl rfl (x_move rfl) ?_
  refine st rfl rfl rfl rfl (x_nil rfl) ?_
  refine st rfl rfl rfl rfl (x_fa rfl Tryd.underlying80 rfl Tryd.sizeOf77 0 rfl) ?_
  refine st rfl rfl rfl rfl (x_ld rfl Tryd.isAgg77 (L.top.cell rfl)) ?_
  refine st rfl rfl rfl rfl (x_move rfl) ?_
  refine st rfl rfl rfl rfl (x_move rfl) ?_
  refine st rfl rfl rfl rfl (x_ia0 rfl rfl Tryd.underlying77 Tryd.sizeOf82 (by omega)) ?_
  refine st rfl rfl rfl rfl (x_fa rfl Tryd.underlying82 rfl Tryd.sizeOf3 1 rfl) ?_
  refine sv rfl rfl rfl (v_f lenL { z with prv := nd } rfl rfl rfl rfl rfl Tryd.sizeOf3 L.nod hz (by decide) rfl) ?_
  rintro w3 ⟨hN3, fr3⟩
  replace L := L.setN hN3 fr3 (by simpa using L.lenN)
  replace F := F.trans (fr3.mono (by simp))
  refine rl_end rfl ?_
  refine al_k ?_
  refine cl_reg rfl ?_
  refine st rfl rfl rfl rfl (x_move rfl) ?_
  refine st rfl rfl rfl rfl (x_nil rfl) ?_
  refine st rfl rfl rfl rfl (x_fa rfl Tryd.underlying84 rfl Tryd.sizeOf3 2 rfl) ?_
  refine st rfl rfl rfl rfl (x_ld rfl Tryd.isAgg3 (cell_f lenH L.hed hu2 rfl (by decide) rfl)) ?_
  refine st rfl rfl rfl rfl (x_add rfl rfl (by constructor <;> (try dsimp only) <;> omega)) ?_
  refine st rfl rfl rfl rfl (x_nil rfl) ?_
  refine st rfl rfl rfl rfl (x_fa rfl Tryd.underlying84 rfl Tryd.sizeOf3 2 rfl) ?_
  refine sv rfl rfl rfl (v_f lenH { { u with fst := nd } with cnt := u.cnt + 1 } rfl rfl rfl rfl rfl Tryd.sizeOf3 L.hed hu2 (by decide) rfl) ?_
  rintro w4 ⟨hH4, fr4⟩
  replace L := L.setH hH4 fr4 (by simpa using L.lenH)
  replace F := F.trans (fr4.mono (by simp))
  refine rl_end rfl ?_
  refine fin0n rfl ?_
  refine ⟨rfl, ?_, F⟩
  simp only [LS.insert, if_pos hpv, if_neg hnx, upd_some _ hu, upd_some _ hu2, upd_some _ hz]
  exact L

theorem insert_01 (w : World) (p nb hb N H : Nat) (x : LS) (L : LsAt w p nb hb N H x) (li nd pv nx : Int) (u : Head) (hu : x.heads[li.toNat]? = some u) (hl : 0 ≤ li ∧ li < H) (hn : 0 ≤ nd ∧ nd < N) (hpv : ¬ pv = -1) (hp : 0 ≤ pv ∧ pv < N) (hnx : nx = -1) (hc : 0 ≤ u.cnt ∧ u.cnt ≤ 1000000) :
    Cl Tryd.prog 56 [.pointer (some ⟨p, 0, none⟩), .int .i64 li, .int .i64 nd, .int .i64 pv, .int .i64 nx] w (fun v w' => v = .tuple #[] ∧ LsAt w' p nb hb N H (x.insert li nd pv nx) ∧ Fr [nb, hb] w w') := by
  have F := Fr.refl [nb, hb] w
  refine enter Tryd.func56 rfl Tryd.ntmps56 rfl ?_
  refine cl_seq rfl ?_
  refine cl_reg rfl ?_
  refine st rfl rfl rfl rfl (x_move rfl) ?_
  refine st rfl rfl rfl rfl (x_nil rfl) ?_
  refine st rfl rfl rfl rfl (x_fa rfl Tryd.underlying80 rfl Tryd.sizeOf78 1 rfl) ?_
  refine st rfl rfl rfl rfl (x_ld rfl Tryd.isAgg78 (L.top.cell rfl)) ?_
  refine st rfl rfl rfl rfl (x_move rfl) ?_
  refine st rfl rfl rfl rfl (x_ia0 rfl rfl Tryd.underlying78 Tryd.sizeOf84 (by omega)) ?_
  refine st rfl rfl rfl rfl (x_asg rfl) ?_
  refine rl_end rfl ?_
  refine al_k ?_
  refine cl_seq rfl ?_
  refine cl_reg rfl ?_
  refine st rfl rfl rfl rfl (x_move rfl) ?_
  refine st rfl rfl rfl rfl (x_nil rfl) ?_
  refine st rfl rfl rfl rfl (x_fa rfl Tryd.underlying80 rfl Tryd.sizeOf77 0 rfl) ?_
  refine st rfl rfl rfl rfl (x_ld rfl Tryd.isAgg77 (L.top.cell rfl)) ?_
  refine st rfl rfl rfl rfl (x_move rfl) ?_
  refine st rfl rfl rfl rfl (x_move rfl) ?_
  refine st rfl rfl rfl rfl (x_move rfl) ?_
  refine st rfl rfl rfl rfl (x_move rfl) ?_
  refine st rfl rfl rfl rfl (x_build rfl (bldL _ _ _ _)) ?_
  refine st rfl rfl rfl rfl (x_ia0 rfl rfl Tryd.underlying77 Tryd.sizeOf82 (by omega)) ?_
  refine sv rfl rfl rfl (v_e lenL ⟨li, pv, nx⟩ rfl rfl rfl rfl (oneL _) Tryd.sizeOf82 L.nod (by have := L.lenN; omega)) ?_
  rintro w1 ⟨hN1, fr1⟩
  replace L := L.setN hN1 fr1 (by simpa using L.lenN)
  replace F := F.trans (fr1.mono (by simp))
  refine rl_end rfl ?_
  refine al_k ?_
  refine cl_seq rfl ?_
  refine cl_seq rfl ?_
  refine cl_reg rfl ?_
  refine st rfl rfl rfl rfl (x_move rfl) ?_
  refine st rfl rfl rfl rfl ((x_eql rfl rfl).b0 (by omega)) ?_
  refine rl_end rfl ?_
  refine al_k ?_
  refine cl_if0 rfl rfl ?_
  obtain ⟨y, hy⟩ := get_of (i := pv) L.lenN (by omega)
  refine cl_reg rfl ?_
  refine st rfl rfl rfl rfl (x_move rfl) ?_
  refine st rfl rfl rfl rfl (x_nil rfl) ?_
  refine st rfl rfl rfl rfl (x_fa rfl Tryd.underlying80 rfl Tryd.sizeOf77 0 rfl) ?_
  refine st rfl rfl rfl rfl (x_ld rfl Tryd.isAgg77 (L.top.cell rfl)) ?_
  refine st rfl rfl rfl rfl (x_move rfl) ?_
  refine st rfl rfl rfl rfl (x_move rfl) ?_
  refine st rfl rfl rfl rfl (x_ia0 rfl rfl Tryd.underlying77 Tryd.sizeOf82 (by omega)) ?_
  refine st rfl rfl rfl rfl (x_fa rfl Tryd.underlying82 rfl Tryd.sizeOf3 2 rfl) ?_
  refine sv rfl rfl rfl (v_f lenL { y with nxt := nd } rfl rfl rfl rfl rfl Tryd.sizeOf3 L.nod hy (by decide) rfl) ?_
  rintro w2 ⟨hN2, fr2⟩
  replace L := L.setN hN2 fr2 (by simpa using L.lenN)
  replace F := F.trans (fr2.mono (by simp))
  refine rl_end rfl ?_
  refine al_k ?_
  refine cl_seq rfl ?_
  refine cl_seq rfl ?_
  refine cl_reg rfl ?_
  refine st rfl rfl rfl rfl (x_move rfl) ?_
  refine st rfl rfl rfl rfl ((x_eql rfl rfl).b1 (by omega)) ?_
  refine rl_end rfl ?_
  refine al_k ?_
  refine cl_if1 rfl rfl ?_
  refine cl_reg rfl ?_
  refine st rfl rfl rfl rfl (x_move rfl) ?_
  refine st rfl rfl rfl rfl (x_move rfl) ?_
  refine st rfl rfl rfl rfl (x_nil rfl) ?_
  refine st rfl rfl rfl rfl (x_fa rfl Tryd.underlying84 rfl Tryd.sizeOf3 1 rfl) ?_
  refine sv rfl rfl rfl (v_f lenH { u with lst := nd } rfl rfl rfl rfl rfl Tryd.sizeOf3 L.hed hu (by decide) rfl) ?_
  rintro w3 ⟨hH3, fr3⟩
  replace L := L.setH hH3 fr3 (by simpa using L.lenH)
  replace F := F.trans (fr3.mono (by simp))
  have hu3 := get_set (v := { u with lst := nd }) hu
  refine rl_end rfl ?_
  refine al_k ?_
  refine cl_reg rfl ?_
  refine st rfl rfl rfl rfl (x_move rfl) ?_
  refine st rfl rfl rfl rfl (x_nil rfl) ?_
  refine st rfl rfl rfl rfl (x_fa rfl Tryd.underlying84 rfl Tryd.sizeOf3 2 rfl) ?_
  refine st rfl rfl rfl rfl (x_ld rfl Tryd.isAgg3 (cell_f lenH L.hed hu3 rfl (by decide) rfl)) ?_
  refine st rfl rfl rfl rfl (x_add rfl rfl (by constructor <;> (try dsimp only) <;> omega)) ?_
  refine st rfl rfl rfl rfl (x_nil rfl) ?_
  refine st rfl rfl rfl rfl (x_fa rfl Tryd.underlying84 rfl Tryd.sizeOf3 2 rfl) ?_
  refine sv rfl rfl rfl (v_f lenH { { u with lst := nd } with cnt := u.cnt + 1 } rfl rfl rfl rfl rfl Tryd.sizeOf3 L.hed hu3 (by decide) rfl) ?_
  rintro w4 ⟨hH4, fr4⟩
  replace L := L.setH hH4 fr4 (by simpa using L.lenH)
  replace F := F.trans (fr4.mono (by simp))
  refine rl_end rfl ?_
  refine fin0n rfl ?_
  refine ⟨rfl, ?_, F⟩
  simp only [LS.insert, if_neg hpv, if_pos hnx, upd_some _ hu, upd_some _ hy, upd_some _ hu3]
  exact L

theorem insert_00 (w : World) (p nb hb N H : Nat) (x : LS) (L : LsAt w p nb hb N H x) (li nd pv nx : Int) (u : Head) (hu : x.heads[li.toNat]? = some u) (hl : 0 ≤ li ∧ li < H) (hn : 0 ≤ nd ∧ nd < N) (hpv : ¬ pv = -1) (hp : 0 ≤ pv ∧ pv < N) (hnx : ¬ nx = -1) (hx : 0 ≤ nx ∧ nx < N) (hc : 0 ≤ u.cnt ∧ u.cnt ≤ 1000000) :
    Cl Tryd.prog 56 [.pointer (some ⟨p, 0, none⟩), .int .i64 li, .int .i64 nd, .int .i64 pv, .int .i64 nx] w (fun v w' => v = .tuple #[] ∧ LsAt w' p nb hb N H (x.insert li nd pv nx) ∧ Fr [nb, hb] w w') := by
  have F := Fr.refl [nb, hb] w
  refine enter Tryd.func56 rfl Tryd.ntmps56 rfl ?_
  refine cl_seq rfl ?_
  refine cl_reg rfl ?_
  refine st rfl rfl rfl rfl (x_move rfl) ?_
  refine st rfl rfl rfl rfl (x_nil rfl) ?_
  refine st rfl rfl rfl rfl (x_fa rfl Tryd.underlying80 rfl Tryd.sizeOf78 1 rfl) ?_
  refine st rfl rfl rfl rfl (x_ld rfl Tryd.isAgg78 (L.top.cell rfl)) ?_
  refine st rfl rfl rfl rfl (x_move rfl) ?_
  refine st rfl rfl rfl rfl (x_ia0 rfl rfl Tryd.underlying78 Tryd.sizeOf84 (by omega)) ?_
  refine st rfl rfl rfl rfl (x_asg rfl) ?_
  refine rl_end rfl ?_
  refine al_k ?_
  refine cl_seq rfl ?_
  refine cl_reg rfl ?_
  refine st rfl rfl rfl rfl (x_move rfl) ?_
  refine st rfl rfl rfl rfl (x_nil rfl) ?_
  refine st rfl rfl rfl rfl (x_fa rfl Tryd.underlying80 rfl Tryd.sizeOf77 0 rfl) ?_
  refine st rfl rfl rfl rfl (x_ld rfl Tryd.isAgg77 (L.top.cell rfl)) ?_
  refine st rfl rfl rfl rfl (x_move rfl) ?_
  refine st rfl rfl rfl rfl (x_move rfl) ?_
  refine st rfl rfl rfl rfl (x_move rfl) ?_
  refine st rfl rfl rfl rfl (x_move rfl) ?_
  refine st rfl rfl rfl rfl (x_build rfl (bldL _ _ _ _)) ?_
  refine st rfl rfl rfl rfl (x_ia0 rfl rfl Tryd.underlying77 Tryd.sizeOf82 (by omega)) ?_
  refine sv rfl rfl rfl (v_e lenL ⟨li, pv, nx⟩ rfl rfl rfl rfl (oneL _) Tryd.sizeOf82 L.nod (by have := L.lenN; omega)) ?_
  rintro w1 ⟨hN1, fr1⟩
  replace L := L.setN hN1 fr1 (by simpa using L.lenN)
  replace F := F.trans (fr1.mono (by simp))
  refine rl_end rfl ?_
  refine al_k ?_
  refine cl_seq rfl ?_
  refine cl_seq rfl ?_
  refine cl_reg rfl ?_
  refine st rfl rfl rfl rfl (x_move rfl) ?_
  refine st rfl rfl rfl rfl ((x_eql rfl rfl).b0 (by omega)) ?_
  refine rl_end rfl ?_
  refine al_k ?_
  refine cl_if0 rfl rfl ?_
  obtain ⟨y, hy⟩ := get_of (i := pv) L.lenN (by omega)
  refine cl_reg rfl ?_
  refine st rfl rfl rfl rfl (x_move rfl) ?_
  refine st rfl rfl rfl rfl (x_nil rfl) ?_
  refine st rfl rfl rfl rfl (x_fa rfl Tryd.underlying80 rfl Tryd.sizeOf77 0 rfl) ?_
  refine st rfl rfl rfl rfl (x_ld rfl Tryd.isAgg77 (L.top.cell rfl)) ?_
  refine st rfl rfl rfl rfl (x_move rfl) ?_
  refine st rfl rfl rfl rfl (x_move rfl) ?_
  refine st rfl rfl rfl rfl (x_ia0 rfl rfl Tryd.underlying77 Tryd.sizeOf82 (by omega)) ?_
  refine st rfl rfl rfl rfl (x_fa rfl Tryd.underlying82 rfl Tryd.sizeOf3 2 rfl) ?_
  refine sv rfl rfl rfl (v_f lenL { y with nxt := nd } rfl rfl rfl rfl rfl Tryd.sizeOf3 L.nod hy (by decide) rfl) ?_
  rintro w2 ⟨hN2, fr2⟩
  replace L := L.setN hN2 fr2 (by simpa using L.lenN)
  replace F := F.trans (fr2.mono (by simp))
  refine rl_end rfl ?_
  refine al_k ?_
  refine cl_seq rfl ?_
  refine cl_seq rfl ?_
  refine cl_reg rfl ?_
  refine st rfl rfl rfl rfl (x_move rfl) ?_
  refine st rfl rfl rfl rfl ((x_eql rfl rfl).b0 (by omega)) ?_
  refine rl_end rfl ?_
  refine al_k ?_
  refine cl_if0 rfl rfl ?_
  obtain ⟨z, hz⟩ := get_of (i := nx) L.lenN (by omega)
  refine cl_reg rfl ?_
  refine st rfl rfl rfl rfl (x_move rfl) ?_
  refine st rfl rfl rfl rfl (x_nil rfl) ?_
  refine st rfl rfl rfl rfl (x_fa rfl Tryd.underlying80 rfl Tryd.sizeOf77 0 rfl) ?_
  refine st rfl rfl rfl rfl (x_ld rfl Tryd.isAgg77 (L.top.cell rfl)) ?_
  refine st rfl rfl rfl rfl (x_move rfl) ?_
  refine st rfl rfl rfl rfl (x_move rfl) ?_
  refine st rfl rfl rfl rfl (x_ia0 rfl rfl Tryd.underlying77 Tryd.sizeOf82 (by omega)) ?_
  refine st rfl rfl rfl rfl (x_fa rfl Tryd.underlying82 rfl Tryd.sizeOf3 1 rfl) ?_
  refine sv rfl rfl rfl (v_f lenL { z with prv := nd } rfl rfl rfl rfl rfl Tryd.sizeOf3 L.nod hz (by decide) rfl) ?_
  rintro w3 ⟨hN3, fr3⟩
  replace L := L.setN hN3 fr3 (by simpa using L.lenN)
  replace F := F.trans (fr3.mono (by simp))
  refine rl_end rfl ?_
  refine al_k ?_
  refine cl_reg rfl ?_
  refine st rfl rfl rfl rfl (x_move rfl) ?_
  refine st rfl rfl rfl rfl (x_nil rfl) ?_
  refine st rfl rfl rfl rfl (x_fa rfl Tryd.underlying84 rfl Tryd.sizeOf3 2 rfl) ?_
  refine st rfl rfl rfl rfl (x_ld rfl Tryd.isAgg3 (cell_f lenH L.hed hu rfl (by decide) rfl)) ?_
  refine st rfl rfl rfl rfl (x_add rfl rfl (by constructor <;> (try dsimp only) <;> omega)) ?_
  refine st rfl rfl rfl rfl (x_nil rfl) ?_
  refine st rfl rfl rfl rfl (x_fa rfl Tryd.underlying84 rfl Tryd.sizeOf3 2 rfl) ?_
  refine sv rfl rfl rfl (v_f lenH { u with cnt := u.cnt + 1 } rfl rfl rfl rfl rfl Tryd.sizeOf3 L.hed hu (by decide) rfl) ?_
  rintro w4 ⟨hH4, fr4⟩
  replace L := L.setH hH4 fr4 (by simpa using L.lenH)
  replace F := F.trans (fr4.mono (by simp))
  refine rl_end rfl ?_
  refine fin0n rfl ?_
  refine ⟨rfl, ?_, F⟩
  simp only [LS.insert, if_neg hpv, if_neg hnx, upd_some _ hu, upd_some _ hy, upd_some _ hz]
  exact L

theorem insert_c (w : World) (p nb hb N H : Nat) (x : LS) (L : LsAt w p nb hb N H x) (li nd pv nx : Int) (u : Head) (hu : x.heads[li.toNat]? = some u) (hl : 0 ≤ li ∧ li < H) (hn : 0 ≤ nd ∧ nd < N) (hp : pv = -1 ∨ 0 ≤ pv ∧ pv < N) (hx : nx = -1 ∨ 0 ≤ nx ∧ nx < N) (hc : 0 ≤ u.cnt ∧ u.cnt ≤ 1000000) :
    Cl Tryd.prog 56 [.pointer (some ⟨p, 0, none⟩), .int .i64 li, .int .i64 nd, .int .i64 pv, .int .i64 nx] w (fun v w' => v = .tuple #[] ∧ LsAt w' p nb hb N H (x.insert li nd pv nx) ∧ Fr [nb, hb] w w') := by
  by_cases h1 : pv = -1 <;> by_cases h2 : nx = -1
  · exact insert_11 w p nb hb N H x L li nd pv nx u hu hl hn h1 h2 hc
  · exact insert_10 w p nb hb N H x L li nd pv nx u hu hl hn h1 h2 (by omega) hc
  · exact insert_01 w p nb hb N H x L li nd pv nx u hu hl hn h1 (by omega) h2 hc
  · exact insert_00 w p nb hb N H x L li nd pv nx u hu hl hn h1 (by omega) h2 (by omega) hc

theorem is_c (w : World) (p : Nat) (x y : Value) (hT : Blk w p 80 [x, y, .bool true]) : Cl Tryd.prog 59 [.pointer (some ⟨p, 0, none⟩)] w (fun v w' => v = .bool true ∧ w' = w) := by
  refine enter Tryd.func59 rfl Tryd.ntmps59 rfl ?_
  refine cl_seq rfl ?_
  refine cl_reg rfl ?_
  refine st rfl rfl rfl rfl (x_asg rfl) ?_
  refine rl_end rfl ?_
  refine al_k ?_
  refine cl_seq rfl ?_
  refine cl_reg rfl ?_
  refine st rfl rfl rfl rfl (x_move rfl) ?_
  refine st rfl rfl rfl rfl (x_neqp rfl rfl Tryd.underlying58) ?_
  refine st rfl rfl rfl rfl (x_move rfl) ?_
  refine st rfl rfl rfl rfl (x_move rfl) ?_
  refine st rfl rfl rfl rfl (x_nil rfl) ?_
  refine st rfl rfl rfl rfl (x_fa rfl Tryd.underlying80 rfl Tryd.sizeOf4 2 rfl) ?_
  refine st rfl rfl rfl rfl (x_ld rfl Tryd.isAgg4 (hT.cell rfl)) ?_
  refine st rfl rfl rfl rfl (x_pick1 rfl rfl) ?_
  refine st rfl rfl rfl rfl (x_asg rfl) ?_
  refine rl_end rfl ?_
  refine al_k ?_
  refine cl_ret rfl ?_
  refine fin1 rfl rfl ?_
  exact ⟨rfl, rfl⟩

theorem hasList_y (w : World) (p nb hb N H : Nat) (x : LS) (L : LsAt w p nb hb N H x) (j : Int) (h0 : 0 ≤ j) (h1 : j < H) : Cl Tryd.prog 61 [.pointer (some ⟨p, 0, none⟩), .int .i64 j] w (fun v w' => v = .bool true ∧ w' = w) := by
  refine enter Tryd.func61 rfl Tryd.ntmps61 rfl ?_
  refine cl_seq rfl ?_
  refine cl_reg rfl ?_
  refine st rfl rfl rfl rfl (x_asg rfl) ?_
  refine rl_end rfl ?_
  refine al_k ?_
  refine cl_seq rfl ?_
  refine cl_reg rfl ?_
  refine st rfl rfl rfl rfl (x_move rfl) ?_
  refine st rfl rfl rfl rfl ((x_geq rfl rfl).b1 (by omega)) ?_
  refine st rfl rfl rfl rfl (x_move rfl) ?_
  refine st rfl rfl rfl rfl (x_move rfl) ?_
  refine st rfl rfl rfl rfl (x_move rfl) ?_
  refine st rfl rfl rfl rfl (x_nil rfl) ?_
  refine st rfl rfl rfl rfl (x_fa rfl Tryd.underlying80 rfl Tryd.sizeOf78 1 rfl) ?_
  refine st rfl rfl rfl rfl (x_ld rfl Tryd.isAgg78 (L.top.cell rfl)) ?_
  refine st rfl rfl rfl rfl (x_len rfl Tryd.underlying78) ?_
  refine st rfl rfl rfl rfl ((x_lss rfl rfl).b1 (by omega)) ?_
  refine st rfl rfl rfl rfl (x_pick1 rfl rfl) ?_
  refine st rfl rfl rfl rfl (x_asg rfl) ?_
  refine rl_end rfl ?_
  refine al_k ?_
  refine cl_ret rfl ?_
  refine fin1 rfl rfl ?_
  exact ⟨rfl, rfl⟩

theorem hasList_n (w : World) (p nb hb N H : Nat) (x : LS) (L : LsAt w p nb hb N H x) (j : Int) (h0 : 0 ≤ j) (h1 : ¬ j < H) : Cl Tryd.prog 61 [.pointer (some ⟨p, 0, none⟩), .int .i64 j] w (fun v w' => v = .bool false ∧ w' = w) := by
  refine enter Tryd.func61 rfl Tryd.ntmps61 rfl ?_
  refine cl_seq rfl ?_
  refine cl_reg rfl ?_
  refine st rfl rfl rfl rfl (x_asg rfl) ?_
  refine rl_end rfl ?_
  refine al_k ?_
  refine cl_seq rfl ?_
  refine cl_reg rfl ?_
  refine st rfl rfl rfl rfl (x_move rfl) ?_
  refine st rfl rfl rfl rfl ((x_geq rfl rfl).b1 (by omega)) ?_
  refine st rfl rfl rfl rfl (x_move rfl) ?_
  refine st rfl rfl rfl rfl (x_move rfl) ?_
  refine st rfl rfl rfl rfl (x_move rfl) ?_
  refine st rfl rfl rfl rfl (x_nil rfl) ?_
  refine st rfl rfl rfl rfl (x_fa rfl Tryd.underlying80 rfl Tryd.sizeOf78 1 rfl) ?_
  refine st rfl rfl rfl rfl (x_ld rfl Tryd.isAgg78 (L.top.cell rfl)) ?_
  refine st rfl rfl rfl rfl (x_len rfl Tryd.underlying78) ?_
  refine st rfl rfl rfl rfl ((x_lss rfl rfl).b0 (by omega)) ?_
  refine st rfl rfl rfl rfl (x_pick1 rfl rfl) ?_
  refine st rfl rfl rfl rfl (x_asg rfl) ?_
  refine rl_end rfl ?_
  refine al_k ?_
  refine cl_ret rfl ?_
  refine fin1 rfl rfl ?_
  exact ⟨rfl, rfl⟩

theorem hasList_z (w : World) (p nb hb N H : Nat) (x : LS) (L : LsAt w p nb hb N H x) (j : Int) (h0 : ¬ 0 ≤ j) : Cl Tryd.prog 61 [.pointer (some ⟨p, 0, none⟩), .int .i64 j] w (fun v w' => v = .bool false ∧ w' = w) := by
  refine enter Tryd.func61 rfl Tryd.ntmps61 rfl ?_
  refine cl_seq rfl ?_
  refine cl_reg rfl ?_
  refine st rfl rfl rfl rfl (x_asg rfl) ?_
  refine rl_end rfl ?_
  refine al_k ?_
  refine cl_seq rfl ?_
  refine cl_reg rfl ?_
  refine st rfl rfl rfl rfl (x_move rfl) ?_
  refine st rfl rfl rfl rfl ((x_geq rfl rfl).b0 (by omega)) ?_
  refine st rfl rfl rfl rfl (x_move rfl) ?_
  refine so rfl rfl rfl rfl ?_
  refine so rfl rfl rfl rfl ?_
  refine so rfl rfl rfl rfl ?_
  refine so rfl rfl rfl rfl ?_
  refine so rfl rfl rfl rfl ?_
  refine so rfl rfl rfl rfl ?_
  refine so rfl rfl rfl rfl ?_
  refine st rfl rfl rfl rfl (x_pick0 rfl rfl) ?_
  refine st rfl rfl rfl rfl (x_asg rfl) ?_
  refine rl_end rfl ?_
  refine al_k ?_
  refine cl_ret rfl ?_
  refine fin1 rfl rfl ?_
  exact ⟨rfl, rfl⟩

theorem hasList_c (w : World) (p nb hb N H : Nat) (x : LS) (L : LsAt w p nb hb N H x) (j : Int) : Cl Tryd.prog 61 [.pointer (some ⟨p, 0, none⟩), .int .i64 j] w (fun v w' => v = .bool (decide (0 ≤ j ∧ j < H)) ∧ w' = w) := by
  by_cases h0 : 0 ≤ j
  · by_cases h1 : j < H
    · rw [decide_eq_true ⟨h0, h1⟩]; exact hasList_y w p nb hb N H x L j h0 h1
    · rw [decide_eq_false (fun h => h1 h.2)]; exact hasList_n w p nb hb N H x L j h0 h1
  · rw [decide_eq_false (fun h => h0 h.1)]; exact hasList_z w p nb hb N H x L j h0

theorem hasNode_y (w : World) (p nb hb N H : Nat) (x : LS) (L : LsAt w p nb hb N H x) (j : Int) (h0 : 0 ≤ j) (h1 : j < N) : Cl Tryd.prog 62 [.pointer (some ⟨p, 0, none⟩), .int .i64 j] w (fun v w' => v = .bool true ∧ w' = w) := by
  refine enter Tryd.func62 rfl Tryd.ntmps62 rfl ?_
  refine cl_seq rfl ?_
  refine cl_reg rfl ?_
  refine st rfl rfl rfl rfl (x_asg rfl) ?_
  refine rl_end rfl ?_
  refine al_k ?_
  refine cl_seq rfl ?_
  refine cl_reg rfl ?_
  refine st rfl rfl rfl rfl (x_move rfl) ?_
  refine st rfl rfl rfl rfl ((x_geq rfl rfl).b1 (by omega)) ?_
  refine st rfl rfl rfl rfl (x_move rfl) ?_
  refine st rfl rfl rfl rfl (x_move rfl) ?_
  refine st rfl rfl rfl rfl (x_move rfl) ?_
  refine st rfl rfl rfl rfl (x_nil rfl) ?_
  refine st rfl rfl rfl rfl (x_fa rfl Tryd.underlying80 rfl Tryd.sizeOf77 0 rfl) ?_
  refine st rfl rfl rfl rfl (x_ld rfl Tryd.isAgg77 (L.top.cell rfl)) ?_
  refine st rfl rfl rfl rfl (x_len rfl Tryd.underlying77) ?_
  refine st rfl rfl rfl rfl ((x_lss rfl rfl).b1 (by omega)) ?_
  refine st rfl rfl rfl rfl (x_pick1 rfl rfl) ?_
  refine st rfl rfl rfl rfl (x_asg rfl) ?_
  refine rl_end rfl ?_
  refine al_k ?_
  refine cl_ret rfl ?_
  refine fin1 rfl rfl ?_
  exact ⟨rfl, rfl⟩

theorem hasNode_n (w : World) (p nb hb N H : Nat) (x : LS) (L : LsAt w p nb hb N H x) (j : Int) (h0 : 0 ≤ j) (h1 : ¬ j < N) : Cl Tryd.prog 62 [.pointer (some ⟨p, 0, none⟩), .int .i64 j] w (fun v w' => v = .bool false ∧ w' = w) := by
  refine enter Tryd.func62 rfl Tryd.ntmps62 rfl ?_
  refine cl_seq rfl ?_
  refine cl_reg rfl ?_
  refine st rfl rfl rfl rfl (x_asg rfl) ?_
  refine rl_end rfl ?_
  refine al_k ?_
  refine cl_seq rfl ?_
  refine cl_reg rfl ?_
  refine st rfl rfl rfl rfl (x_move rfl) ?_
  refine st rfl rfl rfl rfl ((x_geq rfl rfl).b1 (by omega)) ?_
  refine st rfl rfl rfl rfl (x_move rfl) ?_
  refine st rfl rfl rfl rfl (x_move rfl) ?_
  refine st rfl rfl rfl rfl (x_move rfl) ?_
  refine st rfl rfl rfl rfl (x_nil rfl) ?_
  refine st rfl rfl rfl rfl (x_fa rfl Tryd.underlying80 rfl Tryd.sizeOf77 0 rfl) ?_
  refine st rfl rfl rfl rfl (x_ld rfl Tryd.isAgg77 (L.top.cell rfl)) ?_
  refine st rfl rfl rfl rfl (x_len rfl Tryd.underlying77) ?_
  refine st rfl rfl rfl rfl ((x_lss rfl rfl).b0 (by omega)) ?_
  refine st rfl rfl rfl rfl (x_pick1 rfl rfl) ?_
  refine st rfl rfl rfl rfl (x_asg rfl) ?_
  refine rl_end rfl ?_
  refine al_k ?_
  refine cl_ret rfl ?_
  refine fin1 rfl rfl ?_
  exact ⟨rfl, rfl⟩

theorem hasNode_z (w : World) (p nb hb N H : Nat) (x : LS) (L : LsAt w p nb hb N H x) (j : Int) (h0 : ¬ 0 ≤ j) : Cl Tryd.prog 62 [.pointer (some ⟨p, 0, none⟩), .int .i64 j] w (fun v w' => v = .bool false ∧ w' = w) := by
  refine enter Tryd.func62 rfl Tryd.ntmps62 rfl ?_
  refine cl_seq rfl ?_
  refine cl_reg rfl ?_
  refine st rfl rfl rfl rfl (x_asg rfl) ?_
  refine rl_end rfl ?_
  refine al_k ?_
  refine cl_seq rfl ?_
  refine cl_reg rfl ?_
  refine st rfl rfl rfl rfl (x_move rfl) ?_
  refine st rfl rfl rfl rfl ((x_geq rfl rfl).b0 (by omega)) ?_
  refine st rfl rfl rfl rfl (x_move rfl) ?_
  refine so rfl rfl rfl rfl ?_
  refine so rfl rfl rfl rfl ?_
  refine so rfl rfl rfl rfl ?_
  refine so rfl rfl rfl rfl ?_
  refine so rfl rfl rfl rfl ?_
  refine so rfl rfl rfl rfl ?_
  refine so rfl rfl rfl rfl ?_
  refine st rfl rfl rfl rfl (x_pick0 rfl rfl) ?_
  refine st rfl rfl rfl rfl (x_asg rfl) ?_
  refine rl_end rfl ?_
  refine al_k ?_
  refine cl_ret rfl ?_
  refine fin1 rfl rfl ?_
  exact ⟨rfl, rfl⟩

theorem hasNode_c (w : World) (p nb hb N H : Nat) (x : LS) (L : LsAt w p nb hb N H x) (j : Int) : Cl Tryd.prog 62 [.pointer (some ⟨p, 0, none⟩), .int .i64 j] w (fun v w' => v = .bool (decide (0 ≤ j ∧ j < N)) ∧ w' = w) := by
  by_cases h0 : 0 ≤ j
  · by_cases h1 : j < N
    · rw [decide_eq_true ⟨h0, h1⟩]; exact hasNode_y w p nb hb N H x L j h0 h1
    · rw [decide_eq_false (fun h => h1 h.2)]; exact hasNode_n w p nb hb N H x L j h0 h1
  · rw [decide_eq_false (fun h => h0 h.1)]; exact hasNode_z w p nb hb N H x L j h0

theorem all_false {zs : List Int} {B : Int → Bool} {k : Nat} {z : Int} (h : zs[k]? = some z) (hb : B z = false) : zs.all B = false := by
  rw [List.all_eq_false]
  exact ⟨z, List.mem_of_getElem? h, by simp [hb]⟩

theorem all_c (w : World) (b c : Nat) (zs : List Int) (hA : ∀ j z, zs[j]? = some z → w.cell? ⟨b, ((j : Nat) : Int).toNat * 1, none⟩ = some (.int .i64 z)) (hm : zs.length ≤ 1000000) (g : FuncId) (ps : List Value) (hg : ∀ a w, (callFunc g a).run Tryd.prog w = .ok (.enter g a) w) (B : Int → Bool)
    (hB : ∀ z, Cl Tryd.prog g (ps ++ [.int .i64 z] ++ []) w (fun v w' => v = .bool (B z) ∧ w' = w)) :
    Cl Tryd.prog 60 [.slice (some ⟨b, 0, none⟩) zs.length c, .func (.func g) ps.toArray #[]] w (fun v w' => v = .bool (zs.all B) ∧ w' = w) := by
  refine enter Tryd.func60 rfl Tryd.ntmps60 rfl ?_
  refine cl_seq rfl ?_
  refine cl_reg rfl ?_
  refine st rfl rfl rfl rfl (x_asg rfl) ?_
  refine rl_end rfl ?_
  refine al_k ?_
  refine cl_seq rfl ?_
  refine cl_seq rfl ?_
  refine cl_reg rfl ?_
  refine st rfl rfl rfl rfl (x_move rfl) ?_
  refine st rfl rfl rfl rfl (x_len rfl Tryd.underlying35) ?_
  refine st rfl rfl rfl rfl (x_move rfl) ?_
  refine rl_end rfl ?_
  refine al_k ?_
  refine cl_block rfl ?_
  refine cl_loop (fun k : Nat => [(9, .int .i64 k), (7, .slice (some ⟨b, 0, none⟩) zs.length c), (8, .int .i64 zs.length), (1, .func (.func g) ps.toArray #[])]) (fun k w' => w' = w ∧ k ≤ zs.length ∧ (zs.take k).all B = true) (fun k => zs.length - k) 0 rfl ⟨rfl, rfl, rfl, rfl, trivial⟩ ?_ ?_
  · exact ⟨rfl, by omega, by simp⟩
  · skip
    rintro k _ ⟨rfl, hk, hall⟩
    refine cl_seq rfl ?_
    refine cl_reg rfl ?_
    refine sf rfl rfl rfl rfl (x_lss rfl rfl) (fun c2_0 => ?_) (fun c2_0 => ?_)
    · skip
      refine rl_end rfl ?_
      refine al_k ?_
      refine cl_seq rfl ?_
      refine cl_if1 rfl rfl ?_
      refine cl_skip rfl ?_
      refine al_k ?_
      refine cl_seq rfl ?_
      refine cl_block rfl ?_
      refine cl_seq rfl ?_
      have hkl : k < zs.length := by omega
      obtain ⟨z, hz⟩ : ∃ z, zs[k]? = some z := ⟨_, List.getElem?_eq_getElem hkl⟩
      refine cl_reg rfl ?_
      refine st rfl rfl rfl rfl (x_ia0 rfl rfl Tryd.underlying35 Tryd.sizeOf3 (by omega)) ?_
      refine st rfl rfl rfl rfl (x_ld rfl Tryd.isAgg3 (hA _ _ hz)) ?_
      refine st rfl rfl rfl rfl (x_asg rfl) ?_
      refine rl_end rfl ?_
      refine al_k ?_
      refine cl_seq rfl ?_
      refine cl_reg rfl ?_
      refine st rfl rfl rfl rfl (x_move rfl) ?_
      refine st rfl rfl rfl rfl (x_move rfl) ?_
      refine sc rfl rfl rfl rfl (c_fv rfl rfl hg (hB z)) ?_
      rintro _ wk ⟨rfl, hwk⟩
      obtain rfl := hwk.symm
      -- called
      refine st rfl rfl rfl rfl (x_not rfl) ?_
      refine rl_end rfl ?_
      refine al_k ?_
      refine cl_cond rfl rfl (fun hb16 => ?_) (fun hb16 => ?_)
      · skip
        refine cl_seq rfl ?_
        refine cl_reg rfl ?_
        refine st rfl rfl rfl rfl (x_asg rfl) ?_
        refine rl_end rfl ?_
        refine al_k ?_
        refine cl_ret rfl ?_
        refine fin1 rfl rfl ?_
        refine ⟨congrArg _ ?_, rfl⟩
        have hbz : B z = false := by cases h : B z <;> simp_all
        exact (all_false hz hbz).symm
      · skip
        refine cl_skip rfl ?_
        refine al_k ?_
        refine cl_reg rfl ?_
        refine st rfl rfl rfl rfl (x_add rfl rfl (by omega)) ?_
        refine st rfl rfl rfl rfl (x_move rfl) ?_
        refine rl_end rfl ?_
        refine again (k + 1) (by omega) ⟨rfl, rfl, rfl, rfl, trivial⟩ ⟨rfl, by omega, ?_⟩
        rw [List.take_succ_eq_append_getElem (by omega), List.all_append, hall]
        have e : zs[k] = z := by have := (List.getElem?_eq_some_iff.1 hz).2; simpa using this
        have hbz : B z = true := by cases h : B z <;> simp_all
        simp [e, hbz]
    · skip
      refine rl_end rfl ?_
      refine al_k ?_
      refine cl_seq rfl ?_
      refine cl_if0 rfl rfl ?_
      refine cl_exit rfl ?_
      refine upd_self ?_
      refine al_k ?_
      refine cl_seq rfl ?_
      refine cl_reg rfl ?_
      refine st rfl rfl rfl rfl (x_asg rfl) ?_
      refine rl_end rfl ?_
      refine al_k ?_
      refine cl_ret rfl ?_
      refine fin1 rfl rfl ?_
      refine ⟨congrArg _ ?_, rfl⟩
      have e : k = zs.length := by omega
      subst e
      rw [List.take_length] at hall
      exact hall.symm

theorem all_nil (w : World) (a : Option Addr) (c : Nat) (fv : Value) : Cl Tryd.prog 60 [.slice a 0 c, fv] w (fun v w' => v = .bool true ∧ w' = w) := by
  refine enter Tryd.func60 rfl Tryd.ntmps60 rfl ?_
  refine cl_seq rfl ?_
  refine cl_reg rfl ?_
  refine st rfl rfl rfl rfl (x_asg rfl) ?_
  refine rl_end rfl ?_
  refine al_k ?_
  refine cl_seq rfl ?_
  refine cl_seq rfl ?_
  refine cl_reg rfl ?_
  refine st rfl rfl rfl rfl (x_move rfl) ?_
  refine st rfl rfl rfl rfl (x_len rfl Tryd.underlying35) ?_
  refine st rfl rfl rfl rfl (x_move rfl) ?_
  refine rl_end rfl ?_
  refine al_k ?_
  refine cl_block rfl ?_
  refine cl_loop (fun k : Nat => [(9, .int .i64 k), (8, .int .i64 (0 : Nat))]) (fun k w' => w' = w ∧ k = 0) (fun _ => 0) 0 rfl ⟨rfl, rfl, trivial⟩ ?_ ?_
  · exact ⟨rfl, rfl⟩
  · skip
    rintro k _ ⟨rfl, rfl⟩
    refine cl_seq rfl ?_
    refine cl_reg rfl ?_
    refine st rfl rfl rfl rfl ((x_lss rfl rfl).b0 (by omega)) ?_
    refine rl_end rfl ?_
    refine al_k ?_
    refine cl_seq rfl ?_
    refine cl_if0 rfl rfl ?_
    refine cl_exit rfl ?_
    refine upd_self ?_
    refine al_k ?_
    refine cl_seq rfl ?_
    refine cl_reg rfl ?_
    refine st rfl rfl rfl rfl (x_asg rfl) ?_
    refine rl_end rfl ?_
    refine al_k ?_
    refine cl_ret rfl ?_
    refine fin1 rfl rfl ?_
    exact ⟨rfl, rfl⟩

theorem all_any (w : World) (v : Value) (zs : List Int) (h : SlI w v zs) (g : FuncId) (ps : List Value) (hg : ∀ a w, (callFunc g a).run Tryd.prog w = .ok (.enter g a) w) (B : Int → Bool)
    (hB : ∀ z, Cl Tryd.prog g (ps ++ [.int .i64 z] ++ []) w (fun v w' => v = .bool (B z) ∧ w' = w)) :
    Cl Tryd.prog 60 [v, .func (.func g) ps.toArray #[]] w (fun v w' => v = .bool (zs.all B) ∧ w' = w) := by
  obtain ⟨A, c, rfl, hl, rfl | ⟨b, rfl, hc⟩⟩ := h
  · exact all_nil w A c _
  · exact all_c w b c zs hc hl g ps hg B hB

theorem asked_c (w : World) (p nb hb N H : Nat) (x : LS) (L : LsAt w p nb hb N H x) (v1 v2 : Value) (lz nz : List Int) (h1 : SlI w v1 lz) (h2 : SlI w v2 nz) :
    Cl Tryd.prog 55 [.pointer (some ⟨p, 0, none⟩), v1, v2] w (fun v w' => v = .int .i64 (if lz.all (fun j => decide (0 ≤ j ∧ j < (H : Int))) && nz.all (fun j => decide (0 ≤ j ∧ j < (N : Int))) then 0 else 5) ∧ w' = w) := by
  refine enter Tryd.func55 rfl Tryd.ntmps55 rfl ?_
  refine cl_seq rfl ?_
  refine cl_reg rfl ?_
  refine st rfl rfl rfl rfl (x_asg rfl) ?_
  refine rl_end rfl ?_
  refine al_k ?_
  refine cl_seq rfl ?_
  refine cl_seq rfl ?_
  refine cl_reg rfl ?_
  refine st rfl rfl rfl rfl (x_move rfl) ?_
  refine sc rfl rfl rfl rfl (c_fn rfl Tryd.call59 (is_c w p _ _ L.top)) ?_
  rintro _ wk ⟨rfl, hwk⟩
  obtain rfl := hwk.symm
  refine st rfl rfl rfl rfl (x_not1 rfl) ?_
  refine rl_end rfl ?_
  refine al_k ?_
  refine cl_if0 rfl rfl ?_
  refine cl_skip rfl ?_
  refine al_k ?_
  refine cl_seq rfl ?_
  refine cl_reg rfl ?_
  refine st rfl rfl rfl rfl (x_asg rfl) ?_
  refine rl_end rfl ?_
  refine al_k ?_
  refine cl_seq rfl ?_
  refine cl_seq rfl ?_
  refine cl_reg rfl ?_
  refine st rfl rfl rfl rfl (x_move rfl) ?_
  refine st rfl rfl rfl rfl (x_move rfl) ?_
  refine st rfl rfl rfl rfl (x_move rfl) ?_
  refine st rfl rfl rfl rfl (x_mkf rfl rfl) ?_
  refine sc rfl rfl rfl rfl (c_fv rfl rfl Tryd.call60 (all_any _ _ lz h1 61 [.pointer (some ⟨p, 0, none⟩)] Tryd.call61 (fun j => decide (0 ≤ j ∧ j < (H : Int))) (fun z => hasList_c _ p nb hb N H x L z))) ?_
  rintro _ wk ⟨rfl, hwk⟩
  obtain rfl := hwk.symm
  -- all lists
  cases hf4_4 : (lz.all (fun j => decide (0 ≤ j ∧ j < (H : Int))))
  · skip
    refine st rfl rfl rfl rfl (x_not0 rfl) ?_
    refine st rfl rfl rfl rfl (x_move rfl) ?_
    refine so rfl rfl rfl rfl ?_
    refine so rfl rfl rfl rfl ?_
    refine so rfl rfl rfl rfl ?_
    refine so rfl rfl rfl rfl ?_
    refine so rfl rfl rfl rfl ?_
    refine so rfl rfl rfl rfl ?_
    refine st rfl rfl rfl rfl (x_pick1 rfl rfl) ?_
    refine rl_end rfl ?_
    refine al_k ?_
    refine cl_if1 rfl rfl ?_
    refine cl_seq rfl ?_
    refine cl_reg rfl ?_
    refine st rfl rfl rfl rfl (x_asg rfl) ?_
    refine rl_end rfl ?_
    refine al_k ?_
    refine cl_ret rfl ?_
    refine fin1 rfl rfl ?_
    refine ⟨?_, rfl⟩
    simp [*]
  · skip
    refine st rfl rfl rfl rfl (x_not1 rfl) ?_
    refine st rfl rfl rfl rfl (x_move rfl) ?_
    refine st rfl rfl rfl rfl (x_move rfl) ?_
    refine st rfl rfl rfl rfl (x_move rfl) ?_
    refine st rfl rfl rfl rfl (x_move rfl) ?_
    refine st rfl rfl rfl rfl (x_mkf rfl rfl) ?_
    refine sc rfl rfl rfl rfl (c_fv rfl rfl Tryd.call60 (all_any _ _ nz h2 62 [.pointer (some ⟨p, 0, none⟩)] Tryd.call62 (fun j => decide (0 ≤ j ∧ j < (N : Int))) (fun z => hasNode_c _ p nb hb N H x L z))) ?_
    rintro _ wk ⟨rfl, hwk⟩
    obtain rfl := hwk.symm
    -- all nodes
    cases hf4_11 : (nz.all (fun j => decide (0 ≤ j ∧ j < (N : Int))))
    · skip
      refine st rfl rfl rfl rfl (x_not0 rfl) ?_
      refine st rfl rfl rfl rfl (x_pick0 rfl rfl) ?_
      refine rl_end rfl ?_
      refine al_k ?_
      refine cl_if1 rfl rfl ?_
      refine cl_seq rfl ?_
      refine cl_reg rfl ?_
      refine st rfl rfl rfl rfl (x_asg rfl) ?_
      refine rl_end rfl ?_
      refine al_k ?_
      refine cl_ret rfl ?_
      refine fin1 rfl rfl ?_
      refine ⟨?_, rfl⟩
      simp [*]
    · skip
      refine st rfl rfl rfl rfl (x_not1 rfl) ?_
      refine st rfl rfl rfl rfl (x_pick0 rfl rfl) ?_
      refine rl_end rfl ?_
      refine al_k ?_
      refine cl_if0 rfl rfl ?_
      refine cl_skip rfl ?_
      refine al_k ?_
      refine cl_seq rfl ?_
      refine cl_reg rfl ?_
      refine st rfl rfl rfl rfl (x_asg rfl) ?_
      refine rl_end rfl ?_
      refine al_k ?_
      refine cl_ret rfl ?_
      refine fin1 rfl rfl ?_
      refine ⟨?_, rfl⟩
      simp [*]

theorem add_bad_true (w : World) (p nb hb N H : Nat) (x : LS) (L : LsAt w p nb hb N H x) (li nd : Int) (hbad : ¬ ((0 ≤ li ∧ li < (H : Int)) ∧ (0 ≤ nd ∧ nd < (N : Int)))) : Cl Tryd.prog 52 [.pointer (some ⟨p, 0, none⟩), .int .i64 li, .int .i64 nd, .bool true] w (fun v w' => v = .int .i64 5 ∧ LsAt w' p nb hb N H x ∧ Fr [nb, hb] w w') := by
  have F := Fr.refl [nb, hb] w
  refine enter Tryd.func52 rfl Tryd.ntmps52 rfl ?_
  refine cl_seq rfl ?_
  refine cl_reg rfl ?_
  refine st rfl rfl rfl rfl (x_asg rfl) ?_
  refine rl_end rfl ?_
  refine al_k ?_
  refine cl_seq rfl ?_
  refine cl_seq rfl ?_
  refine cl_reg rfl ?_
  refine st rfl rfl rfl rfl (x_move rfl) ?_
  refine st rfl rfl rfl rfl (x_move rfl) ?_
  refine se rfl rfl rfl rfl (e_new (x_bsl rfl (bsl1 Tryd.underlying35 Tryd.sizeOf3 Tryd.zeroValue3 rfl rfl))) ?_
  rintro _ w1_2 ⟨rfl, b1_2, fr1_2, sz1_2⟩
  replace L := L.fr0 fr1_2
  replace F := F.trans fr1_2.of0
  refine st rfl rfl rfl rfl (x_move rfl) ?_
  refine se rfl rfl rfl rfl (e_new (x_bsl rfl (bsl1 Tryd.underlying35 Tryd.sizeOf3 Tryd.zeroValue3 rfl rfl))) ?_
  rintro _ w1_4 ⟨rfl, b1_4, fr1_4, sz1_4⟩
  replace L := L.fr0 fr1_4
  replace F := F.trans fr1_4.of0
  replace b1_2 := b1_2.fr0 fr1_4
  refine sc rfl rfl rfl rfl (c_fn rfl Tryd.call55 ((asked_c _ p nb hb N H x L _ _ [li] [nd] (SlI.blk (zs := [li]) (c := 1) b1_2 (by simp)) (SlI.blk (zs := [nd]) (c := 1) b1_4 (by simp))).mono (R' := fun v w' => v = .int .i64 5 ∧ w' = _) (fun v w' h => ⟨h.1.trans (congrArg _ (if_neg (by simp; omega))), h.2⟩))) ?_
  rintro _ wk ⟨rfl, hwk⟩
  obtain rfl := hwk.symm
  refine st rfl rfl rfl rfl (x_asg rfl) ?_
  refine rl_end rfl ?_
  refine al_k ?_
  refine cl_seq rfl ?_
  refine cl_reg rfl ?_
  refine st rfl rfl rfl rfl (x_move rfl) ?_
  refine st rfl rfl rfl rfl ((x_neq rfl rfl).b1 (by omega)) ?_
  refine rl_end rfl ?_
  refine al_k ?_
  refine cl_if1 rfl rfl ?_
  refine cl_seq rfl ?_
  refine cl_reg rfl ?_
  refine st rfl rfl rfl rfl (x_move rfl) ?_
  refine st rfl rfl rfl rfl (x_asg rfl) ?_
  refine rl_end rfl ?_
  refine al_k ?_
  refine cl_ret rfl ?_
  refine fin1 rfl rfl ?_
  exact ⟨rfl, L, F⟩

theorem add_in_true (w : World) (p nb hb N H : Nat) (x : LS) (L : LsAt w p nb hb N H x) (li nd : Int) (hl : 0 ≤ li ∧ li < (H : Int)) (hn : 0 ≤ nd ∧ nd < (N : Int)) (y : Link) (hy : x.nodes[nd.toNat]? = some y) (hlo : ¬ y = loose) : Cl Tryd.prog 52 [.pointer (some ⟨p, 0, none⟩), .int .i64 li, .int .i64 nd, .bool true] w (fun v w' => v = .int .i64 50 ∧ LsAt w' p nb hb N H x ∧ Fr [nb, hb] w w') := by
  have F := Fr.refl [nb, hb] w
  refine enter Tryd.func52 rfl Tryd.ntmps52 rfl ?_
  refine cl_seq rfl ?_
  refine cl_reg rfl ?_
  refine st rfl rfl rfl rfl (x_asg rfl) ?_
  refine rl_end rfl ?_
  refine al_k ?_
  refine cl_seq rfl ?_
  refine cl_seq rfl ?_
  refine cl_reg rfl ?_
  refine st rfl rfl rfl rfl (x_move rfl) ?_
  refine st rfl rfl rfl rfl (x_move rfl) ?_
  refine se rfl rfl rfl rfl (e_new (x_bsl rfl (bsl1 Tryd.underlying35 Tryd.sizeOf3 Tryd.zeroValue3 rfl rfl))) ?_
  rintro _ w1_2 ⟨rfl, b1_2, fr1_2, sz1_2⟩
  replace L := L.fr0 fr1_2
  replace F := F.trans fr1_2.of0
  refine st rfl rfl rfl rfl (x_move rfl) ?_
  refine se rfl rfl rfl rfl (e_new (x_bsl rfl (bsl1 Tryd.underlying35 Tryd.sizeOf3 Tryd.zeroValue3 rfl rfl))) ?_
  rintro _ w1_4 ⟨rfl, b1_4, fr1_4, sz1_4⟩
  replace L := L.fr0 fr1_4
  replace F := F.trans fr1_4.of0
  replace b1_2 := b1_2.fr0 fr1_4
  refine sc rfl rfl rfl rfl (c_fn rfl Tryd.call55 ((asked_c _ p nb hb N H x L _ _ [li] [nd] (SlI.blk (zs := [li]) (c := 1) b1_2 (by simp)) (SlI.blk (zs := [nd]) (c := 1) b1_4 (by simp))).mono (R' := fun v w' => v = .int .i64 0 ∧ w' = _) (fun v w' h => ⟨h.1.trans (congrArg _ (if_pos (by simp; omega))), h.2⟩))) ?_
  rintro _ wk ⟨rfl, hwk⟩
  obtain rfl := hwk.symm
  refine st rfl rfl rfl rfl (x_asg rfl) ?_
  refine rl_end rfl ?_
  refine al_k ?_
  refine cl_seq rfl ?_
  refine cl_reg rfl ?_
  refine st rfl rfl rfl rfl (x_move rfl) ?_
  refine st rfl rfl rfl rfl ((x_neq rfl rfl).b0 (by omega)) ?_
  refine rl_end rfl ?_
  refine al_k ?_
  refine cl_if0 rfl rfl ?_
  refine cl_skip rfl ?_
  refine al_k ?_
  refine cl_seq rfl ?_
  refine cl_seq rfl ?_
  refine cl_draw (by kernel_rfl) rfl [] (fun w' => LsAt w' p nb hb N H x) ?_
  rintro wd4 frd4 hpd4
  replace L := L.fr0 frd4
  replace F := F.trans frd4.of0
  refine ⟨L, ?_⟩
  refine dt (i := 0) rfl rfl rfl rfl (by kernel_rfl) (fun _ => x_move rfl) ?_
  refine dt (i := 1) rfl rfl rfl rfl (by kernel_rfl) (fun _ => x_nil rfl) ?_
  refine dt (i := 2) rfl rfl rfl rfl (by kernel_rfl) (fun _ => x_fa rfl Tryd.underlying80 rfl Tryd.sizeOf77 0 rfl) ?_
  refine dl (i := 3) rfl rfl rfl rfl (by kernel_rfl) (by kernel_rfl) (fun w' hU => x_ld rfl Tryd.isAgg77 (hU.top.cell rfl)) ?_
  refine dt (i := 4) rfl rfl rfl rfl (by kernel_rfl) (fun _ => x_move rfl) ?_
  refine dt (i := 5) rfl rfl rfl rfl (by kernel_rfl) (fun _ => x_ia0 rfl rfl Tryd.underlying77 Tryd.sizeOf82 (by omega)) ?_
  refine dl (i := 6) rfl rfl rfl rfl (by kernel_rfl) (by kernel_rfl) (fun w' hU => x_ldn rfl Tryd.isAgg82 Tryd.sizeOf82 rfl (cell_e lenL hU.nod hy rfl)) ?_
  refine dl (i := 7) rfl rfl rfl rfl (by kernel_rfl) (by kernel_rfl) (fun w' hU => x_ldn rfl Tryd.isAgg82 Tryd.sizeOf82 rfl hU.glb) ?_
  refine dt (i := 8) rfl rfl rfl rfl (by kernel_rfl) (fun _ => (x_eqs rfl rfl (egL _ _ _ _ _ _) (neL _ _ _)).b1 hlo) ?_
  refine dn (by kernel_rfl) ?_
  refine al_k ?_
  refine cl_if1 rfl rfl ?_
  refine cl_seq rfl ?_
  refine cl_reg rfl ?_
  refine st rfl rfl rfl rfl (x_asg rfl) ?_
  refine rl_end rfl ?_
  refine al_k ?_
  refine cl_ret rfl ?_
  refine fin1 rfl rfl ?_
  exact ⟨rfl, L, F⟩

theorem add_ok_true (w : World) (p nb hb N H : Nat) (x : LS) (L : LsAt w p nb hb N H x) (W : WF N H x) (li nd : Int) (hl : 0 ≤ li ∧ li < (H : Int)) (hn : 0 ≤ nd ∧ nd < (N : Int)) (hy : x.nodes[nd.toNat]? = some loose) (u : Head) (hu : x.heads[li.toNat]? = some u) : Cl Tryd.prog 52 [.pointer (some ⟨p, 0, none⟩), .int .i64 li, .int .i64 nd, .bool true] w (fun v w' => v = .int .i64 0 ∧ LsAt w' p nb hb N H (x.insert li nd (-1) u.fst) ∧ Fr [nb, hb] w w') := by
  have F := Fr.refl [nb, hb] w
  refine enter Tryd.func52 rfl Tryd.ntmps52 rfl ?_
  refine cl_seq rfl ?_
  refine cl_reg rfl ?_
  refine st rfl rfl rfl rfl (x_asg rfl) ?_
  refine rl_end rfl ?_
  refine al_k ?_
  refine cl_seq rfl ?_
  refine cl_seq rfl ?_
  refine cl_reg rfl ?_
  refine st rfl rfl rfl rfl (x_move rfl) ?_
  refine st rfl rfl rfl rfl (x_move rfl) ?_
  refine se rfl rfl rfl rfl (e_new (x_bsl rfl (bsl1 Tryd.underlying35 Tryd.sizeOf3 Tryd.zeroValue3 rfl rfl))) ?_
  rintro _ w1_2 ⟨rfl, b1_2, fr1_2, sz1_2⟩
  replace L := L.fr0 fr1_2
  replace F := F.trans fr1_2.of0
  refine st rfl rfl rfl rfl (x_move rfl) ?_
  refine se rfl rfl rfl rfl (e_new (x_bsl rfl (bsl1 Tryd.underlying35 Tryd.sizeOf3 Tryd.zeroValue3 rfl rfl))) ?_
  rintro _ w1_4 ⟨rfl, b1_4, fr1_4, sz1_4⟩
  replace L := L.fr0 fr1_4
  replace F := F.trans fr1_4.of0
  replace b1_2 := b1_2.fr0 fr1_4
  refine sc rfl rfl rfl rfl (c_fn rfl Tryd.call55 ((asked_c _ p nb hb N H x L _ _ [li] [nd] (SlI.blk (zs := [li]) (c := 1) b1_2 (by simp)) (SlI.blk (zs := [nd]) (c := 1) b1_4 (by simp))).mono (R' := fun v w' => v = .int .i64 0 ∧ w' = _) (fun v w' h => ⟨h.1.trans (congrArg _ (if_pos (by simp; omega))), h.2⟩))) ?_
  rintro _ wk ⟨rfl, hwk⟩
  obtain rfl := hwk.symm
  refine st rfl rfl rfl rfl (x_asg rfl) ?_
  refine rl_end rfl ?_
  refine al_k ?_
  refine cl_seq rfl ?_
  refine cl_reg rfl ?_
  refine st rfl rfl rfl rfl (x_move rfl) ?_
  refine st rfl rfl rfl rfl ((x_neq rfl rfl).b0 (by omega)) ?_
  refine rl_end rfl ?_
  refine al_k ?_
  refine cl_if0 rfl rfl ?_
  refine cl_skip rfl ?_
  refine al_k ?_
  refine cl_seq rfl ?_
  refine cl_seq rfl ?_
  refine cl_draw (by kernel_rfl) rfl [] (fun w' => LsAt w' p nb hb N H x) ?_
  rintro wd4 frd4 hpd4
  replace L := L.fr0 frd4
  replace F := F.trans frd4.of0
  refine ⟨L, ?_⟩
  refine dt (i := 0) rfl rfl rfl rfl (by kernel_rfl) (fun _ => x_move rfl) ?_
  refine dt (i := 1) rfl rfl rfl rfl (by kernel_rfl) (fun _ => x_nil rfl) ?_
  refine dt (i := 2) rfl rfl rfl rfl (by kernel_rfl) (fun _ => x_fa rfl Tryd.underlying80 rfl Tryd.sizeOf77 0 rfl) ?_
  refine dl (i := 3) rfl rfl rfl rfl (by kernel_rfl) (by kernel_rfl) (fun w' hU => x_ld rfl Tryd.isAgg77 (hU.top.cell rfl)) ?_
  refine dt (i := 4) rfl rfl rfl rfl (by kernel_rfl) (fun _ => x_move rfl) ?_
  refine dt (i := 5) rfl rfl rfl rfl (by kernel_rfl) (fun _ => x_ia0 rfl rfl Tryd.underlying77 Tryd.sizeOf82 (by omega)) ?_
  refine dl (i := 6) rfl rfl rfl rfl (by kernel_rfl) (by kernel_rfl) (fun w' hU => x_ldn rfl Tryd.isAgg82 Tryd.sizeOf82 rfl (cell_e lenL hU.nod hy rfl)) ?_
  refine dl (i := 7) rfl rfl rfl rfl (by kernel_rfl) (by kernel_rfl) (fun w' hU => x_ldn rfl Tryd.isAgg82 Tryd.sizeOf82 rfl hU.glb) ?_
  refine dt (i := 8) rfl rfl rfl rfl (by kernel_rfl) (fun _ => (x_eqs rfl rfl (egL _ _ _ _ _ _) (neL _ _ _)).b0 (fun h => h rfl)) ?_
  refine dn (by kernel_rfl) ?_
  refine al_k ?_
  refine cl_if0 rfl rfl ?_
  refine cl_skip rfl ?_
  refine al_k ?_
  refine cl_seq rfl ?_
  refine cl_seq rfl ?_
  refine cl_reg rfl ?_
  refine st rfl rfl rfl rfl (x_move rfl) ?_
  refine rl_end rfl ?_
  refine al_k ?_
  refine cl_if1 rfl rfl ?_
  refine cl_reg rfl ?_
  refine st rfl rfl rfl rfl (x_move rfl) ?_
  refine st rfl rfl rfl rfl (x_move rfl) ?_
  refine st rfl rfl rfl rfl (x_move rfl) ?_
  refine st rfl rfl rfl rfl (x_move rfl) ?_
  refine st rfl rfl rfl rfl (x_nil rfl) ?_
  refine st rfl rfl rfl rfl (x_fa rfl Tryd.underlying80 rfl Tryd.sizeOf78 1 rfl) ?_
  refine st rfl rfl rfl rfl (x_ld rfl Tryd.isAgg78 (L.top.cell rfl)) ?_
  refine st rfl rfl rfl rfl (x_move rfl) ?_
  refine st rfl rfl rfl rfl (x_ia0 rfl rfl Tryd.underlying78 Tryd.sizeOf84 (by omega)) ?_
  refine st rfl rfl rfl rfl (x_fa rfl Tryd.underlying84 rfl Tryd.sizeOf3 0 rfl) ?_
  refine st rfl rfl rfl rfl (x_ld rfl Tryd.isAgg3 (cell_f lenH L.hed hu rfl (by decide) rfl)) ?_
  refine sc rfl rfl rfl rfl (c_fn rfl Tryd.call56 (insert_c _ p nb hb N H x L li nd (-1) u.fst u hu hl hn (.inl rfl) (W.fst _ _ hu) (by have := W.cnt _ _ hu; omega))) ?_
  rintro _ w9 ⟨rfl, L2, fr9⟩
  replace F := F.trans fr9
  refine rl_end rfl ?_
  refine al_k ?_
  refine cl_seq rfl ?_
  refine cl_reg rfl ?_
  refine st rfl rfl rfl rfl (x_asg rfl) ?_
  refine rl_end rfl ?_
  refine al_k ?_
  refine cl_ret rfl ?_
  refine fin1 rfl rfl ?_
  exact ⟨rfl, L2, F⟩

theorem add_bad_false (w : World) (p nb hb N H : Nat) (x : LS) (L : LsAt w p nb hb N H x) (li nd : Int) (hbad : ¬ ((0 ≤ li ∧ li < (H : Int)) ∧ (0 ≤ nd ∧ nd < (N : Int)))) : Cl Tryd.prog 52 [.pointer (some ⟨p, 0, none⟩), .int .i64 li, .int .i64 nd, .bool false] w (fun v w' => v = .int .i64 5 ∧ LsAt w' p nb hb N H x ∧ Fr [nb, hb] w w') := by
  have F := Fr.refl [nb, hb] w
  refine enter Tryd.func52 rfl Tryd.ntmps52 rfl ?_
  refine cl_seq rfl ?_
  refine cl_reg rfl ?_
  refine st rfl rfl rfl rfl (x_asg rfl) ?_
  refine rl_end rfl ?_
  refine al_k ?_
  refine cl_seq rfl ?_
  refine cl_seq rfl ?_
  refine cl_reg rfl ?_
  refine st rfl rfl rfl rfl (x_move rfl) ?_
  refine st rfl rfl rfl rfl (x_move rfl) ?_
  refine se rfl rfl rfl rfl (e_new (x_bsl rfl (bsl1 Tryd.underlying35 Tryd.sizeOf3 Tryd.zeroValue3 rfl rfl))) ?_
  rintro _ w1_2 ⟨rfl, b1_2, fr1_2, sz1_2⟩
  replace L := L.fr0 fr1_2
  replace F := F.trans fr1_2.of0
  refine st rfl rfl rfl rfl (x_move rfl) ?_
  refine se rfl rfl rfl rfl (e_new (x_bsl rfl (bsl1 Tryd.underlying35 Tryd.sizeOf3 Tryd.zeroValue3 rfl rfl))) ?_
  rintro _ w1_4 ⟨rfl, b1_4, fr1_4, sz1_4⟩
  replace L := L.fr0 fr1_4
  replace F := F.trans fr1_4.of0
  replace b1_2 := b1_2.fr0 fr1_4
  refine sc rfl rfl rfl rfl (c_fn rfl Tryd.call55 ((asked_c _ p nb hb N H x L _ _ [li] [nd] (SlI.blk (zs := [li]) (c := 1) b1_2 (by simp)) (SlI.blk (zs := [nd]) (c := 1) b1_4 (by simp))).mono (R' := fun v w' => v = .int .i64 5 ∧ w' = _) (fun v w' h => ⟨h.1.trans (congrArg _ (if_neg (by simp; omega))), h.2⟩))) ?_
  rintro _ wk ⟨rfl, hwk⟩
  obtain rfl := hwk.symm
  refine st rfl rfl rfl rfl (x_asg rfl) ?_
  refine rl_end rfl ?_
  refine al_k ?_
  refine cl_seq rfl ?_
  refine cl_reg rfl ?_
  refine st rfl rfl rfl rfl (x_move rfl) ?_
  refine st rfl rfl rfl rfl ((x_neq rfl rfl).b1 (by omega)) ?_
  refine rl_end rfl ?_
  refine al_k ?_
  refine cl_if1 rfl rfl ?_
  refine cl_seq rfl ?_
  refine cl_reg rfl ?_
  refine st rfl rfl rfl rfl (x_move rfl) ?_
  refine st rfl rfl rfl rfl (x_asg rfl) ?_
  refine rl_end rfl ?_
  refine al_k ?_
  refine cl_ret rfl ?_
  refine fin1 rfl rfl ?_
  exact ⟨rfl, L, F⟩

theorem add_in_false (w : World) (p nb hb N H : Nat) (x : LS) (L : LsAt w p nb hb N H x) (li nd : Int) (hl : 0 ≤ li ∧ li < (H : Int)) (hn : 0 ≤ nd ∧ nd < (N : Int)) (y : Link) (hy : x.nodes[nd.toNat]? = some y) (hlo : ¬ y = loose) : Cl Tryd.prog 52 [.pointer (some ⟨p, 0, none⟩), .int .i64 li, .int .i64 nd, .bool false] w (fun v w' => v = .int .i64 50 ∧ LsAt w' p nb hb N H x ∧ Fr [nb, hb] w w') := by
  have F := Fr.refl [nb, hb] w
  refine enter Tryd.func52 rfl Tryd.ntmps52 rfl ?_
  refine cl_seq rfl ?_
  refine cl_reg rfl ?_
  refine st rfl rfl rfl rfl (x_asg rfl) ?_
  refine rl_end rfl ?_
  refine al_k ?_
  refine cl_seq rfl ?_
  refine cl_seq rfl ?_
  refine cl_reg rfl ?_
  refine st rfl rfl rfl rfl (x_move rfl) ?_
  refine st rfl rfl rfl rfl (x_move rfl) ?_
  refine se rfl rfl rfl rfl (e_new (x_bsl rfl (bsl1 Tryd.underlying35 Tryd.sizeOf3 Tryd.zeroValue3 rfl rfl))) ?_
  rintro _ w1_2 ⟨rfl, b1_2, fr1_2, sz1_2⟩
  replace L := L.fr0 fr1_2
  replace F := F.trans fr1_2.of0
  refine st rfl rfl rfl rfl (x_move rfl) ?_
  refine se rfl rfl rfl rfl (e_new (x_bsl rfl (bsl1 Tryd.underlying35 Tryd.sizeOf3 Tryd.zeroValue3 rfl rfl))) ?_
  rintro _ w1_4 ⟨rfl, b1_4, fr1_4, sz1_4⟩
  replace L := L.fr0 fr1_4
  replace F := F.trans fr1_4.of0
  replace b1_2 := b1_2.fr0 fr1_4
  refine sc rfl rfl rfl rfl (c_fn rfl Tryd.call55 ((asked_c _ p nb hb N H x L _ _ [li] [nd] (SlI.blk (zs := [li]) (c := 1) b1_2 (by simp)) (SlI.blk (zs := [nd]) (c := 1) b1_4 (by simp))).mono (R' := fun v w' => v = .int .i64 0 ∧ w' = _) (fun v w' h => ⟨h.1.trans (congrArg _ (if_pos (by simp; omega))), h.2⟩))) ?_
  rintro _ wk ⟨rfl, hwk⟩
  obtain rfl := hwk.symm
  refine st rfl rfl rfl rfl (x_asg rfl) ?_
  refine rl_end rfl ?_
  refine al_k ?_
  refine cl_seq rfl ?_
  refine cl_reg rfl ?_
  refine st rfl rfl rfl rfl (x_move rfl) ?_
  refine st rfl rfl rfl rfl ((x_neq rfl rfl).b0 (by omega)) ?_
  refine rl_end rfl ?_
  refine al_k ?_
  refine cl_if0 rfl rfl ?_
  refine cl_skip rfl ?_
  refine al_k ?_
  refine cl_seq rfl ?_
  refine cl_seq rfl ?_
  refine cl_draw (by kernel_rfl) rfl [] (fun w' => LsAt w' p nb hb N H x) ?_
  rintro wd4 frd4 hpd4
  replace L := L.fr0 frd4
  replace F := F.trans frd4.of0
  refine ⟨L, ?_⟩
  refine dt (i := 0) rfl rfl rfl rfl (by kernel_rfl) (fun _ => x_move rfl) ?_
  refine dt (i := 1) rfl rfl rfl rfl (by kernel_rfl) (fun _ => x_nil rfl) ?_
  refine dt (i := 2) rfl rfl rfl rfl (by kernel_rfl) (fun _ => x_fa rfl Tryd.underlying80 rfl Tryd.sizeOf77 0 rfl) ?_
  refine dl (i := 3) rfl rfl rfl rfl (by kernel_rfl) (by kernel_rfl) (fun w' hU => x_ld rfl Tryd.isAgg77 (hU.top.cell rfl)) ?_
  refine dt (i := 4) rfl rfl rfl rfl (by kernel_rfl) (fun _ => x_move rfl) ?_
  refine dt (i := 5) rfl rfl rfl rfl (by kernel_rfl) (fun _ => x_ia0 rfl rfl Tryd.underlying77 Tryd.sizeOf82 (by omega)) ?_
  refine dl (i := 6) rfl rfl rfl rfl (by kernel_rfl) (by kernel_rfl) (fun w' hU => x_ldn rfl Tryd.isAgg82 Tryd.sizeOf82 rfl (cell_e lenL hU.nod hy rfl)) ?_
  refine dl (i := 7) rfl rfl rfl rfl (by kernel_rfl) (by kernel_rfl) (fun w' hU => x_ldn rfl Tryd.isAgg82 Tryd.sizeOf82 rfl hU.glb) ?_
  refine dt (i := 8) rfl rfl rfl rfl (by kernel_rfl) (fun _ => (x_eqs rfl rfl (egL _ _ _ _ _ _) (neL _ _ _)).b1 hlo) ?_
  refine dn (by kernel_rfl) ?_
  refine al_k ?_
  refine cl_if1 rfl rfl ?_
  refine cl_seq rfl ?_
  refine cl_reg rfl ?_
  refine st rfl rfl rfl rfl (x_asg rfl) ?_
  refine rl_end rfl ?_
  refine al_k ?_
  refine cl_ret rfl ?_
  refine fin1 rfl rfl ?_
  exact ⟨rfl, L, F⟩

theorem add_ok_false (w : World) (p nb hb N H : Nat) (x : LS) (L : LsAt w p nb hb N H x) (W : WF N H x) (li nd : Int) (hl : 0 ≤ li ∧ li < (H : Int)) (hn : 0 ≤ nd ∧ nd < (N : Int)) (hy : x.nodes[nd.toNat]? = some loose) (u : Head) (hu : x.heads[li.toNat]? = some u) : Cl Tryd.prog 52 [.pointer (some ⟨p, 0, none⟩), .int .i64 li, .int .i64 nd, .bool false] w (fun v w' => v = .int .i64 0 ∧ LsAt w' p nb hb N H (x.insert li nd u.lst (-1)) ∧ Fr [nb, hb] w w') := by
  have F := Fr.refl [nb, hb] w
  refine enter Tryd.func52 rfl Tryd.ntmps52 rfl ?_
  refine cl_seq rfl ?_
  refine cl_reg rfl ?_
  refine st rfl rfl rfl rfl (x_asg rfl) ?_
  refine rl_end rfl ?_
  refine al_k ?_
  refine cl_seq rfl ?_
  refine cl_seq rfl ?_
  refine cl_reg rfl ?_
  refine st rfl rfl rfl rfl (x_move rfl) ?_
  refine st rfl rfl rfl rfl (x_move rfl) ?_
  refine se rfl rfl rfl rfl (e_new (x_bsl rfl (bsl1 Tryd.underlying35 Tryd.sizeOf3 Tryd.zeroValue3 rfl rfl))) ?_
  rintro _ w1_2 ⟨rfl, b1_2, fr1_2, sz1_2⟩
  replace L := L.fr0 fr1_2
  replace F := F.trans fr1_2.of0
  refine st rfl rfl rfl rfl (x_move rfl) ?_
  refine se rfl rfl rfl rfl (e_new (x_bsl rfl (bsl1 Tryd.underlying35 Tryd.sizeOf3 Tryd.zeroValue3 rfl rfl))) ?_
  rintro _ w1_4 ⟨rfl, b1_4, fr1_4, sz1_4⟩
  replace L := L.fr0 fr1_4
  replace F := F.trans fr1_4.of0
  replace b1_2 := b1_2.fr0 fr1_4
  refine sc rfl rfl rfl rfl (c_fn rfl Tryd.call55 ((asked_c _ p nb hb N H x L _ _ [li] [nd] (SlI.blk (zs := [li]) (c := 1) b1_2 (by simp)) (SlI.blk (zs := [nd]) (c := 1) b1_4 (by simp))).mono (R' := fun v w' => v = .int .i64 0 ∧ w' = _) (fun v w' h => ⟨h.1.trans (congrArg _ (if_pos (by simp; omega))), h.2⟩))) ?_
  rintro _ wk ⟨rfl, hwk⟩
  obtain rfl := hwk.symm
  refine st rfl rfl rfl rfl (x_asg rfl) ?_
  refine rl_end rfl ?_
  refine al_k ?_
  refine cl_seq rfl ?_
  refine cl_reg rfl ?_
  refine st rfl rfl rfl rfl (x_move rfl) ?_
  refine st rfl rfl rfl rfl ((x_neq rfl rfl).b0 (by omega)) ?_
  refine rl_end rfl ?_
  refine al_k ?_
  refine cl_if0 rfl rfl ?_
  refine cl_skip rfl ?_
  refine al_k ?_
  refine cl_seq rfl ?_
  refine cl_seq rfl ?_
  refine cl_draw (by kernel_rfl) rfl [] (fun w' => LsAt w' p nb hb N H x) ?_
  rintro wd4 frd4 hpd4
  replace L := L.fr0 frd4
  replace F := F.trans frd4.of0
  refine ⟨L, ?_⟩
  refine dt (i := 0) rfl rfl rfl rfl (by kernel_rfl) (fun _ => x_move rfl) ?_
  refine dt (i := 1) rfl rfl rfl rfl (by kernel_rfl) (fun _ => x_nil rfl) ?_
  refine dt (i := 2) rfl rfl rfl rfl (by kernel_rfl) (fun _ => x_fa rfl Tryd.underlying80 rfl Tryd.sizeOf77 0 rfl) ?_
  refine dl (i := 3) rfl rfl rfl rfl (by kernel_rfl) (by kernel_rfl) (fun w' hU => x_ld rfl Tryd.isAgg77 (hU.top.cell rfl)) ?_
  refine dt (i := 4) rfl rfl rfl rfl (by kernel_rfl) (fun _ => x_move rfl) ?_
  refine dt (i := 5) rfl rfl rfl rfl (by kernel_rfl) (fun _ => x_ia0 rfl rfl Tryd.underlying77 Tryd.sizeOf82 (by omega)) ?_
  refine dl (i := 6) rfl rfl rfl rfl (by kernel_rfl) (by kernel_rfl) (fun w' hU => x_ldn rfl Tryd.isAgg82 Tryd.sizeOf82 rfl (cell_e lenL hU.nod hy rfl)) ?_
  refine dl (i := 7) rfl rfl rfl rfl (by kernel_rfl) (by kernel_rfl) (fun w' hU => x_ldn rfl Tryd.isAgg82 Tryd.sizeOf82 rfl hU.glb) ?_
  refine dt (i := 8) rfl rfl rfl rfl (by kernel_rfl) (fun _ => (x_eqs rfl rfl (egL _ _ _ _ _ _) (neL _ _ _)).b0 (fun h => h rfl)) ?_
  refine dn (by kernel_rfl) ?_
  refine al_k ?_
  refine cl_if0 rfl rfl ?_
  refine cl_skip rfl ?_
  refine al_k ?_
  refine cl_seq rfl ?_
  refine cl_seq rfl ?_
  refine cl_reg rfl ?_
  refine st rfl rfl rfl rfl (x_move rfl) ?_
  refine rl_end rfl ?_
  refine al_k ?_
  refine cl_if0 rfl rfl ?_
  refine cl_reg rfl ?_
  refine st rfl rfl rfl rfl (x_move rfl) ?_
  refine st rfl rfl rfl rfl (x_move rfl) ?_
  refine st rfl rfl rfl rfl (x_move rfl) ?_
  refine st rfl rfl rfl rfl (x_move rfl) ?_
  refine st rfl rfl rfl rfl (x_nil rfl) ?_
  refine st rfl rfl rfl rfl (x_fa rfl Tryd.underlying80 rfl Tryd.sizeOf78 1 rfl) ?_
  refine st rfl rfl rfl rfl (x_ld rfl Tryd.isAgg78 (L.top.cell rfl)) ?_
  refine st rfl rfl rfl rfl (x_move rfl) ?_
  refine st rfl rfl rfl rfl (x_ia0 rfl rfl Tryd.underlying78 Tryd.sizeOf84 (by omega)) ?_
  refine st rfl rfl rfl rfl (x_fa rfl Tryd.underlying84 rfl Tryd.sizeOf3 1 rfl) ?_
  refine st rfl rfl rfl rfl (x_ld rfl Tryd.isAgg3 (cell_f lenH L.hed hu rfl (by decide) rfl)) ?_
  refine sc rfl rfl rfl rfl (c_fn rfl Tryd.call56 (insert_c _ p nb hb N H x L li nd u.lst (-1) u hu hl hn (W.lst _ _ hu) (.inl rfl) (by have := W.cnt _ _ hu; omega))) ?_
  rintro _ w9 ⟨rfl, L2, fr9⟩
  replace F := F.trans fr9
  refine rl_end rfl ?_
  refine al_k ?_
  refine cl_seq rfl ?_
  refine cl_reg rfl ?_
  refine st rfl rfl rfl rfl (x_asg rfl) ?_
  refine rl_end rfl ?_
  refine al_k ?_
  refine cl_ret rfl ?_
  refine fin1 rfl rfl ?_
  exact ⟨rfl, L2, F⟩

theorem Push_of (w : World) (p : Nat) (li nd : Int) (R : Value → World → Prop) (h : Cl Tryd.prog 52 [.pointer (some ⟨p, 0, none⟩), .int .i64 li, .int .i64 nd, .bool false] w R) : Cl Tryd.prog 42 [.pointer (some ⟨p, 0, none⟩), .int .i64 li, .int .i64 nd] w R := by
  refine enter Tryd.func42 rfl Tryd.ntmps42 rfl ?_
  refine cl_seq rfl ?_
  refine cl_reg rfl ?_
  refine st rfl rfl rfl rfl (x_asg rfl) ?_
  refine rl_end rfl ?_
  refine al_k ?_
  refine cl_seq rfl ?_
  refine cl_reg rfl ?_
  refine st rfl rfl rfl rfl (x_move rfl) ?_
  refine st rfl rfl rfl rfl (x_move rfl) ?_
  refine st rfl rfl rfl rfl (x_move rfl) ?_
  refine sc rfl rfl rfl rfl (c_fn rfl Tryd.call52 h) ?_
  rintro v w1 hr
  refine st rfl rfl rfl rfl (x_asg rfl) ?_
  refine rl_end rfl ?_
  refine al_k ?_
  refine cl_ret rfl ?_
  refine fin1 rfl rfl ?_
  exact hr
theorem remove_11 (w : World) (p nb hb N H : Nat) (x : LS) (L : LsAt w p nb hb N H x) (nd : Int) (hn : 0 ≤ nd ∧ nd < (N : Int)) (y : Link) (hy : x.nodes[nd.toNat]? = some y) (u : Head) (hu : x.heads[y.lst.toNat]? = some u) (hyl : 0 ≤ y.lst ∧ y.lst < (H : Int)) (hp : y.prv = -1) (hx : y.nxt = -1) (hpr : y.prv = -1 ∨ 0 ≤ y.prv ∧ y.prv < (N : Int)) (hnx : y.nxt = -1 ∨ 0 ≤ y.nxt ∧ y.nxt < (N : Int)) (hc : 0 ≤ u.cnt ∧ u.cnt ≤ 1000000) :
    Cl Tryd.prog 57 [.pointer (some ⟨p, 0, none⟩), .int .i64 nd] w (fun v w' => v = .tuple #[] ∧ LsAt w' p nb hb N H (x.remove nd) ∧ Fr [nb, hb] w w') := by
  have F := Fr.refl [nb, hb] w
  have hvp : w.heap.size ≠ p := Nat.ne_of_gt L.top.lt
  have hvn : w.heap.size ≠ nb := Nat.ne_of_gt L.nod.lt
  have hvh : w.heap.size ≠ hb := Nat.ne_of_gt L.hed.lt
  have hvz : w.heap.size ≠ 0 := Nat.ne_of_gt (Nat.lt_of_le_of_lt (Nat.zero_le _) L.nod.lt)
  refine enter Tryd.func57 rfl Tryd.ntmps57 rfl ?_
  refine cl_seq rfl ?_
  refine cl_reg rfl ?_
  refine st rfl rfl rfl rfl (x_move rfl) ?_
  refine st rfl rfl rfl rfl (x_nil rfl) ?_
  refine st rfl rfl rfl rfl (x_fa rfl Tryd.underlying80 rfl Tryd.sizeOf77 0 rfl) ?_
  refine st rfl rfl rfl rfl (x_ld rfl Tryd.isAgg77 (L.top.cell rfl)) ?_
  refine st rfl rfl rfl rfl (x_move rfl) ?_
  refine st rfl rfl rfl rfl (x_ia0 rfl rfl Tryd.underlying77 Tryd.sizeOf82 (by omega)) ?_
  refine st rfl rfl rfl rfl (x_ldn rfl Tryd.isAgg82 Tryd.sizeOf82 rfl (cell_e lenL L.nod hy rfl)) ?_
  refine se rfl rfl rfl rfl (e_new (x_alloc Tryd.zeroValue82 rfl)) ?_
  rintro _ w0_7 ⟨rfl, b0_7, fr0_7, sz0_7⟩
  replace L := L.fr0 fr0_7
  replace F := F.trans fr0_7.of0
  refine sv rfl rfl rfl (v_n rfl rfl (oneL y) Tryd.sizeOf82 rfl b0_7 (by decide)) ?_
  rintro w0_8 ⟨bV, fr0_8⟩
  replace L := L.fr fr0_8 (by simpa using hvp.symm) (by simpa using hvn.symm) (by simpa using hvh.symm) (by simpa using hvz.symm)
  replace F := F.trans_new fr0_8 (by intro q hq; simp at hq; subst hq; exact .inr (Nat.le_refl _))
  refine rl_end rfl ?_
  refine al_k ?_
  refine cl_seq rfl ?_
  refine cl_draw (by kernel_rfl) rfl [] (fun w' => w'.heap = w0_8.heap) ?_
  rintro wd1 frd1 hpd1
  refine ⟨hpd1, ?_⟩
  replace bV : Blk w0_8 _ 82 (encL y) := bV
  refine dt (i := 0) rfl rfl rfl rfl (by kernel_rfl) (fun _ => x_move rfl) ?_
  refine dt (i := 1) rfl rfl rfl rfl (by kernel_rfl) (fun _ => x_nil rfl) ?_
  refine dt (i := 2) rfl rfl rfl rfl (by kernel_rfl) (fun _ => x_fa rfl Tryd.underlying80 rfl Tryd.sizeOf78 1 rfl) ?_
  refine dl (i := 3) rfl rfl rfl rfl (by kernel_rfl) (by kernel_rfl) (fun w' hU => x_ld rfl Tryd.isAgg78 (heq hU (L.top.cell rfl))) ?_
  refine dt (i := 4) rfl rfl rfl rfl (by kernel_rfl) (fun _ => x_fa rfl Tryd.underlying82 rfl Tryd.sizeOf3 0 rfl) ?_
  refine dl (i := 5) rfl rfl rfl rfl (by kernel_rfl) (by kernel_rfl) (fun w' hU => x_ld rfl Tryd.isAgg3 (heq hU (Blk.cell (l := encL y) bV rfl))) ?_
  refine dt (i := 6) rfl rfl rfl rfl (by kernel_rfl) (fun _ => x_ia0 rfl rfl Tryd.underlying78 Tryd.sizeOf84 (by omega)) ?_
  refine dt (i := 7) rfl rfl rfl rfl (by kernel_rfl) (fun _ => x_asg rfl) ?_
  replace L := L.fr0 frd1
  replace F := F.trans frd1.of0
  replace bV := bV.fr0 frd1
  refine dn (by kernel_rfl) ?_
  refine al_k ?_
  refine cl_seq rfl ?_
  refine cl_seq rfl ?_
  refine cl_reg rfl ?_
  refine st rfl rfl rfl rfl (x_fa rfl Tryd.underlying82 rfl Tryd.sizeOf3 1 rfl) ?_
  refine st rfl rfl rfl rfl (x_ld rfl Tryd.isAgg3 (Blk.cell (l := encL y) bV rfl)) ?_
  refine st rfl rfl rfl rfl ((x_eql rfl rfl).b1 hp) ?_
  refine rl_end rfl ?_
  refine al_k ?_
  refine cl_if1 rfl rfl ?_
  refine cl_reg rfl ?_
  refine st rfl rfl rfl rfl (x_move rfl) ?_
  refine st rfl rfl rfl rfl (x_fa rfl Tryd.underlying82 rfl Tryd.sizeOf3 2 rfl) ?_
  refine st rfl rfl rfl rfl (x_ld rfl Tryd.isAgg3 (Blk.cell (l := encL y) bV rfl)) ?_
  refine st rfl rfl rfl rfl (x_nil rfl) ?_
  refine st rfl rfl rfl rfl (x_fa rfl Tryd.underlying84 rfl Tryd.sizeOf3 0 rfl) ?_
  refine sv rfl rfl rfl (v_f lenH { u with fst := y.nxt } rfl rfl rfl rfl rfl Tryd.sizeOf3 L.hed hu (by decide) rfl) ?_
  rintro w2 ⟨hH2, fr2⟩
  replace L := L.setH hH2 fr2 (by simpa using L.lenH)
  replace F := F.trans (fr2.mono (by simp))
  replace bV := bV.fr fr2 (by simpa using hvh)
  have hu2 := get_set (v := { u with fst := y.nxt }) hu
  refine rl_end rfl ?_
  refine al_k ?_
  refine cl_seq rfl ?_
  refine cl_seq rfl ?_
  refine cl_reg rfl ?_
  refine st rfl rfl rfl rfl (x_fa rfl Tryd.underlying82 rfl Tryd.sizeOf3 2 rfl) ?_
  refine st rfl rfl rfl rfl (x_ld rfl Tryd.isAgg3 (Blk.cell (l := encL y) bV rfl)) ?_
  refine st rfl rfl rfl rfl ((x_eql rfl rfl).b1 hx) ?_
  refine rl_end rfl ?_
  refine al_k ?_
  refine cl_if1 rfl rfl ?_
  refine cl_reg rfl ?_
  refine st rfl rfl rfl rfl (x_move rfl) ?_
  refine st rfl rfl rfl rfl (x_fa rfl Tryd.underlying82 rfl Tryd.sizeOf3 1 rfl) ?_
  refine st rfl rfl rfl rfl (x_ld rfl Tryd.isAgg3 (Blk.cell (l := encL y) bV rfl)) ?_
  refine st rfl rfl rfl rfl (x_nil rfl) ?_
  refine st rfl rfl rfl rfl (x_fa rfl Tryd.underlying84 rfl Tryd.sizeOf3 1 rfl) ?_
  refine sv rfl rfl rfl (v_f lenH { { u with fst := y.nxt } with lst := y.prv } rfl rfl rfl rfl rfl Tryd.sizeOf3 L.hed hu2 (by decide) rfl) ?_
  rintro w3 ⟨hH3, fr3⟩
  replace L := L.setH hH3 fr3 (by simpa using L.lenH)
  replace F := F.trans (fr3.mono (by simp))
  replace bV := bV.fr fr3 (by simpa using hvh)
  have hu3 := get_set (v := { { u with fst := y.nxt } with lst := y.prv }) hu2
  refine rl_end rfl ?_
  refine al_k ?_
  refine cl_seq rfl ?_
  refine cl_reg rfl ?_
  refine st rfl rfl rfl rfl (x_move rfl) ?_
  refine st rfl rfl rfl rfl (x_nil rfl) ?_
  refine st rfl rfl rfl rfl (x_fa rfl Tryd.underlying84 rfl Tryd.sizeOf3 2 rfl) ?_
  refine st rfl rfl rfl rfl (x_ld rfl Tryd.isAgg3 (cell_f lenH L.hed hu3 rfl (by decide) rfl)) ?_
  refine st rfl rfl rfl rfl (x_sub rfl rfl (by constructor <;> (try dsimp only) <;> omega)) ?_
  refine st rfl rfl rfl rfl (x_nil rfl) ?_
  refine st rfl rfl rfl rfl (x_fa rfl Tryd.underlying84 rfl Tryd.sizeOf3 2 rfl) ?_
  refine sv rfl rfl rfl (v_f lenH { { { u with fst := y.nxt } with lst := y.prv } with cnt := u.cnt - 1 } rfl rfl rfl rfl rfl Tryd.sizeOf3 L.hed hu3 (by decide) rfl) ?_
  rintro w4 ⟨hH4, fr4⟩
  replace L := L.setH hH4 fr4 (by simpa using L.lenH)
  replace F := F.trans (fr4.mono (by simp))
  replace bV := bV.fr fr4 (by simpa using hvh)
  refine rl_end rfl ?_
  refine al_k ?_
  refine cl_draw (by kernel_rfl) rfl [7] (fun w' => w'.heap = w4.heap) ?_
  rintro wd9 frd9 hpd9
  refine ⟨hpd9, ?_⟩
  refine dt (i := 0) rfl rfl rfl rfl (by kernel_rfl) (fun _ => x_move rfl) ?_
  refine dt (i := 1) rfl rfl rfl rfl (by kernel_rfl) (fun _ => x_nil rfl) ?_
  refine dt (i := 2) rfl rfl rfl rfl (by kernel_rfl) (fun _ => x_fa rfl Tryd.underlying80 rfl Tryd.sizeOf77 0 rfl) ?_
  refine dl (i := 3) rfl rfl rfl rfl (by kernel_rfl) (by kernel_rfl) (fun w' hU => x_ld rfl Tryd.isAgg77 (heq hU (L.top.cell rfl))) ?_
  refine dt (i := 4) rfl rfl rfl rfl (by kernel_rfl) (fun _ => x_move rfl) ?_
  refine dl (i := 5) rfl rfl rfl rfl (by kernel_rfl) (by kernel_rfl) (fun w' hU => x_ldn rfl Tryd.isAgg82 Tryd.sizeOf82 rfl (heqn hU L.glb)) ?_
  refine dt (i := 6) rfl rfl rfl rfl (by kernel_rfl) (fun _ => x_ia0 rfl rfl Tryd.underlying77 Tryd.sizeOf82 (by omega)) ?_
  replace L := L.fr0 frd9
  replace F := F.trans frd9.of0
  replace bV := bV.fr0 frd9
  refine d1 (i := 7) (by kernel_rfl) ?_
  refine osv rfl rfl rfl (v_e lenL loose rfl rfl rfl rfl (oneL _) Tryd.sizeOf82 L.nod (by have := L.lenN; omega)) ?_
  rintro w5 ⟨hN5, fr5⟩
  replace L := L.setN hN5 fr5 (by simpa using L.lenN)
  replace F := F.trans (fr5.mono (by simp))
  replace bV := bV.fr fr5 (by simpa using hvn)
  refine ⟨.inl (by kernel_rfl), ?_⟩
  refine dn (by kernel_rfl) ?_
  refine fin0n rfl ?_
  refine ⟨rfl, ?_, F⟩
  simp only [LS.remove, hy, if_pos hp, if_pos hx, upd_some _ hu, upd_some _ hu2, upd_some _ hu3]
  exact L

theorem remove_10 (w : World) (p nb hb N H : Nat) (x : LS) (L : LsAt w p nb hb N H x) (nd : Int) (hn : 0 ≤ nd ∧ nd < (N : Int)) (y : Link) (hy : x.nodes[nd.toNat]? = some y) (u : Head) (hu : x.heads[y.lst.toNat]? = some u) (hyl : 0 ≤ y.lst ∧ y.lst < (H : Int)) (hp : y.prv = -1) (hx : ¬ y.nxt = -1) (hpr : y.prv = -1 ∨ 0 ≤ y.prv ∧ y.prv < (N : Int)) (hnx : y.nxt = -1 ∨ 0 ≤ y.nxt ∧ y.nxt < (N : Int)) (hc : 0 ≤ u.cnt ∧ u.cnt ≤ 1000000) :
    Cl Tryd.prog 57 [.pointer (some ⟨p, 0, none⟩), .int .i64 nd] w (fun v w' => v = .tuple #[] ∧ LsAt w' p nb hb N H (x.remove nd) ∧ Fr [nb, hb] w w') := by
  have F := Fr.refl [nb, hb] w
  have hvp : w.heap.size ≠ p := Nat.ne_of_gt L.top.lt
  have hvn : w.heap.size ≠ nb := Nat.ne_of_gt L.nod.lt
  have hvh : w.heap.size ≠ hb := Nat.ne_of_gt L.hed.lt
  have hvz : w.heap.size ≠ 0 := Nat.ne_of_gt (Nat.lt_of_le_of_lt (Nat.zero_le _) L.nod.lt)
  refine enter Tryd.func57 rfl Tryd.ntmps57 rfl ?_
  refine cl_seq rfl ?_
  refine cl_reg rfl ?_
  refine st rfl rfl rfl rfl (x_move rfl) ?_
  refine st rfl rfl rfl rfl (x_nil rfl) ?_
  refine st rfl rfl rfl rfl (x_fa rfl Tryd.underlying80 rfl Tryd.sizeOf77 0 rfl) ?_
  refine st rfl rfl rfl rfl (x_ld rfl Tryd.isAgg77 (L.top.cell rfl)) ?_
  refine st rfl rfl rfl rfl (x_move rfl) ?_
  refine st rfl rfl rfl rfl (x_ia0 rfl rfl Tryd.underlying77 Tryd.sizeOf82 (by omega)) ?_
  refine st rfl rfl rfl rfl (x_ldn rfl Tryd.isAgg82 Tryd.sizeOf82 rfl (cell_e lenL L.nod hy rfl)) ?_
  refine se rfl rfl rfl rfl (e_new (x_alloc Tryd.zeroValue82 rfl)) ?_
  rintro _ w0_7 ⟨rfl, b0_7, fr0_7, sz0_7⟩
  replace L := L.fr0 fr0_7
  replace F := F.trans fr0_7.of0
  refine sv rfl rfl rfl (v_n rfl rfl (oneL y) Tryd.sizeOf82 rfl b0_7 (by decide)) ?_
  rintro w0_8 ⟨bV, fr0_8⟩
  replace L := L.fr fr0_8 (by simpa using hvp.symm) (by simpa using hvn.symm) (by simpa using hvh.symm) (by simpa using hvz.symm)
  replace F := F.trans_new fr0_8 (by intro q hq; simp at hq; subst hq; exact .inr (Nat.le_refl _))
  refine rl_end rfl ?_
  refine al_k ?_
  refine cl_seq rfl ?_
  refine cl_draw (by kernel_rfl) rfl [] (fun w' => w'.heap = w0_8.heap) ?_
  rintro wd1 frd1 hpd1
  refine ⟨hpd1, ?_⟩
  replace bV : Blk w0_8 _ 82 (encL y) := bV
  refine dt (i := 0) rfl rfl rfl rfl (by kernel_rfl) (fun _ => x_move rfl) ?_
  refine dt (i := 1) rfl rfl rfl rfl (by kernel_rfl) (fun _ => x_nil rfl) ?_
  refine dt (i := 2) rfl rfl rfl rfl (by kernel_rfl) (fun _ => x_fa rfl Tryd.underlying80 rfl Tryd.sizeOf78 1 rfl) ?_
  refine dl (i := 3) rfl rfl rfl rfl (by kernel_rfl) (by kernel_rfl) (fun w' hU => x_ld rfl Tryd.isAgg78 (heq hU (L.top.cell rfl))) ?_
  refine dt (i := 4) rfl rfl rfl rfl (by kernel_rfl) (fun _ => x_fa rfl Tryd.underlying82 rfl Tryd.sizeOf3 0 rfl) ?_
  refine dl (i := 5) rfl rfl rfl rfl (by kernel_rfl) (by kernel_rfl) (fun w' hU => x_ld rfl Tryd.isAgg3 (heq hU (Blk.cell (l := encL y) bV rfl))) ?_
  refine dt (i := 6) rfl rfl rfl rfl (by kernel_rfl) (fun _ => x_ia0 rfl rfl Tryd.underlying78 Tryd.sizeOf84 (by omega)) ?_
  refine dt (i := 7) rfl rfl rfl rfl (by kernel_rfl) (fun _ => x_asg rfl) ?_
  replace L := L.fr0 frd1
  replace F := F.trans frd1.of0
  replace bV := bV.fr0 frd1
  refine dn (by kernel_rfl) ?_
  refine al_k ?_
  refine cl_seq rfl ?_
  refine cl_seq rfl ?_
  refine cl_reg rfl ?_
  refine st rfl rfl rfl rfl (x_fa rfl Tryd.underlying82 rfl Tryd.sizeOf3 1 rfl) ?_
  refine st rfl rfl rfl rfl (x_ld rfl Tryd.isAgg3 (Blk.cell (l := encL y) bV rfl)) ?_
  refine st rfl rfl rfl rfl ((x_eql rfl rfl).b1 hp) ?_
  refine rl_end rfl ?_
  refine al_k ?_
  refine cl_if1 rfl rfl ?_
  refine cl_reg rfl ?_
  refine st rfl rfl rfl rfl (x_move rfl) ?_
  refine st rfl rfl rfl rfl (x_fa rfl Tryd.underlying82 rfl Tryd.sizeOf3 2 rfl) ?_
  refine st rfl rfl rfl rfl (x_ld rfl Tryd.isAgg3 (Blk.cell (l := encL y) bV rfl)) ?_
  refine st rfl rfl rfl rfl (x_nil rfl) ?_
  refine st rfl rfl rfl rfl (x_fa rfl Tryd.underlying84 rfl Tryd.sizeOf3 0 rfl) ?_
  refine sv rfl rfl rfl (v_f lenH { u with fst := y.nxt } rfl rfl rfl rfl rfl Tryd.sizeOf3 L.hed hu (by decide) rfl) ?_
  rintro w2 ⟨hH2, fr2⟩
  replace L := L.setH hH2 fr2 (by simpa using L.lenH)
  replace F := F.trans (fr2.mono (by simp))
  replace bV := bV.fr fr2 (by simpa using hvh)
  have hu2 := get_set (v := { u with fst := y.nxt }) hu
  refine rl_end rfl ?_
  refine al_k ?_
  refine cl_seq rfl ?_
  refine cl_seq rfl ?_
  refine cl_reg rfl ?_
  refine st rfl rfl rfl rfl (x_fa rfl Tryd.underlying82 rfl Tryd.sizeOf3 2 rfl) ?_
  refine st rfl rfl rfl rfl (x_ld rfl Tryd.isAgg3 (Blk.cell (l := encL y) bV rfl)) ?_
  refine st rfl rfl rfl rfl ((x_eql rfl rfl).b0 hx) ?_
  refine rl_end rfl ?_
  refine al_k ?_
  refine cl_if0 rfl rfl ?_
  obtain ⟨y2, hy2⟩ := get_of (i := y.nxt) L.lenN (by omega)
  refine cl_draw (by kernel_rfl) rfl [10] (fun w' => w'.heap = w2.heap) ?_
  rintro wd7 frd7 hpd7
  refine ⟨hpd7, ?_⟩
  refine dt (i := 0) rfl rfl rfl rfl (by kernel_rfl) (fun _ => x_move rfl) ?_
  refine dt (i := 1) rfl rfl rfl rfl (by kernel_rfl) (fun _ => x_nil rfl) ?_
  refine dt (i := 2) rfl rfl rfl rfl (by kernel_rfl) (fun _ => x_fa rfl Tryd.underlying80 rfl Tryd.sizeOf77 0 rfl) ?_
  refine dl (i := 3) rfl rfl rfl rfl (by kernel_rfl) (by kernel_rfl) (fun w' hU => x_ld rfl Tryd.isAgg77 (heq hU (L.top.cell rfl))) ?_
  refine dt (i := 4) rfl rfl rfl rfl (by kernel_rfl) (fun _ => x_fa rfl Tryd.underlying82 rfl Tryd.sizeOf3 2 rfl) ?_
  refine dl (i := 5) rfl rfl rfl rfl (by kernel_rfl) (by kernel_rfl) (fun w' hU => x_ld rfl Tryd.isAgg3 (heq hU (Blk.cell (l := encL y) bV rfl))) ?_
  refine dt (i := 6) rfl rfl rfl rfl (by kernel_rfl) (fun _ => x_fa rfl Tryd.underlying82 rfl Tryd.sizeOf3 1 rfl) ?_
  refine dl (i := 7) rfl rfl rfl rfl (by kernel_rfl) (by kernel_rfl) (fun w' hU => x_ld rfl Tryd.isAgg3 (heq hU (Blk.cell (l := encL y) bV rfl))) ?_
  refine dt (i := 8) rfl rfl rfl rfl (by kernel_rfl) (fun _ => x_ia0 rfl rfl Tryd.underlying77 Tryd.sizeOf82 (by omega)) ?_
  refine dt (i := 9) rfl rfl rfl rfl (by kernel_rfl) (fun _ => x_fa rfl Tryd.underlying82 rfl Tryd.sizeOf3 1 rfl) ?_
  replace L := L.fr0 frd7
  replace F := F.trans frd7.of0
  replace bV := bV.fr0 frd7
  refine d1 (i := 10) (by kernel_rfl) ?_
  refine osv rfl rfl rfl (v_f lenL { y2 with prv := y.prv } rfl rfl rfl rfl rfl Tryd.sizeOf3 L.nod hy2 (by decide) rfl) ?_
  rintro w3 ⟨hN3, fr3⟩
  replace L := L.setN hN3 fr3 (by simpa using L.lenN)
  replace F := F.trans (fr3.mono (by simp))
  replace bV := bV.fr fr3 (by simpa using hvn)
  refine ⟨.inl (by kernel_rfl), ?_⟩
  refine dn (by kernel_rfl) ?_
  refine al_k ?_
  refine cl_seq rfl ?_
  refine cl_reg rfl ?_
  refine st rfl rfl rfl rfl (x_move rfl) ?_
  refine st rfl rfl rfl rfl (x_nil rfl) ?_
  refine st rfl rfl rfl rfl (x_fa rfl Tryd.underlying84 rfl Tryd.sizeOf3 2 rfl) ?_
  refine st rfl rfl rfl rfl (x_ld rfl Tryd.isAgg3 (cell_f lenH L.hed hu2 rfl (by decide) rfl)) ?_
  refine st rfl rfl rfl rfl (x_sub rfl rfl (by constructor <;> (try dsimp only) <;> omega)) ?_
  refine st rfl rfl rfl rfl (x_nil rfl) ?_
  refine st rfl rfl rfl rfl (x_fa rfl Tryd.underlying84 rfl Tryd.sizeOf3 2 rfl) ?_
  refine sv rfl rfl rfl (v_f lenH { { u with fst := y.nxt } with cnt := u.cnt - 1 } rfl rfl rfl rfl rfl Tryd.sizeOf3 L.hed hu2 (by decide) rfl) ?_
  rintro w4 ⟨hH4, fr4⟩
  replace L := L.setH hH4 fr4 (by simpa using L.lenH)
  replace F := F.trans (fr4.mono (by simp))
  replace bV := bV.fr fr4 (by simpa using hvh)
  refine rl_end rfl ?_
  refine al_k ?_
  refine cl_draw (by kernel_rfl) rfl [7] (fun w' => w'.heap = w4.heap) ?_
  rintro wd9 frd9 hpd9
  refine ⟨hpd9, ?_⟩
  refine dt (i := 0) rfl rfl rfl rfl (by kernel_rfl) (fun _ => x_move rfl) ?_
  refine dt (i := 1) rfl rfl rfl rfl (by kernel_rfl) (fun _ => x_nil rfl) ?_
  refine dt (i := 2) rfl rfl rfl rfl (by kernel_rfl) (fun _ => x_fa rfl Tryd.underlying80 rfl Tryd.sizeOf77 0 rfl) ?_
  refine dl (i := 3) rfl rfl rfl rfl (by kernel_rfl) (by kernel_rfl) (fun w' hU => x_ld rfl Tryd.isAgg77 (heq hU (L.top.cell rfl))) ?_
  refine dt (i := 4) rfl rfl rfl rfl (by kernel_rfl) (fun _ => x_move rfl) ?_
  refine dl (i := 5) rfl rfl rfl rfl (by kernel_rfl) (by kernel_rfl) (fun w' hU => x_ldn rfl Tryd.isAgg82 Tryd.sizeOf82 rfl (heqn hU L.glb)) ?_
  refine dt (i := 6) rfl rfl rfl rfl (by kernel_rfl) (fun _ => x_ia0 rfl rfl Tryd.underlying77 Tryd.sizeOf82 (by omega)) ?_
  replace L := L.fr0 frd9
  replace F := F.trans frd9.of0
  replace bV := bV.fr0 frd9
  refine d1 (i := 7) (by kernel_rfl) ?_
  refine osv rfl rfl rfl (v_e lenL loose rfl rfl rfl rfl (oneL _) Tryd.sizeOf82 L.nod (by have := L.lenN; omega)) ?_
  rintro w5 ⟨hN5, fr5⟩
  replace L := L.setN hN5 fr5 (by simpa using L.lenN)
  replace F := F.trans (fr5.mono (by simp))
  replace bV := bV.fr fr5 (by simpa using hvn)
  refine ⟨.inl (by kernel_rfl), ?_⟩
  refine dn (by kernel_rfl) ?_
  refine fin0n rfl ?_
  refine ⟨rfl, ?_, F⟩
  simp only [LS.remove, hy, if_pos hp, if_neg hx, upd_some _ hu, upd_some _ hu2, upd_some _ hy2]
  exact L

theorem remove_01 (w : World) (p nb hb N H : Nat) (x : LS) (L : LsAt w p nb hb N H x) (nd : Int) (hn : 0 ≤ nd ∧ nd < (N : Int)) (y : Link) (hy : x.nodes[nd.toNat]? = some y) (u : Head) (hu : x.heads[y.lst.toNat]? = some u) (hyl : 0 ≤ y.lst ∧ y.lst < (H : Int)) (hp : ¬ y.prv = -1) (hx : y.nxt = -1) (hpr : y.prv = -1 ∨ 0 ≤ y.prv ∧ y.prv < (N : Int)) (hnx : y.nxt = -1 ∨ 0 ≤ y.nxt ∧ y.nxt < (N : Int)) (hc : 0 ≤ u.cnt ∧ u.cnt ≤ 1000000) :
    Cl Tryd.prog 57 [.pointer (some ⟨p, 0, none⟩), .int .i64 nd] w (fun v w' => v = .tuple #[] ∧ LsAt w' p nb hb N H (x.remove nd) ∧ Fr [nb, hb] w w') := by
  have F := Fr.refl [nb, hb] w
  have hvp : w.heap.size ≠ p := Nat.ne_of_gt L.top.lt
  have hvn : w.heap.size ≠ nb := Nat.ne_of_gt L.nod.lt
  have hvh : w.heap.size ≠ hb := Nat.ne_of_gt L.hed.lt
  have hvz : w.heap.size ≠ 0 := Nat.ne_of_gt (Nat.lt_of_le_of_lt (Nat.zero_le _) L.nod.lt)
  refine enter Tryd.func57 rfl Tryd.ntmps57 rfl ?_
  refine cl_seq rfl ?_
  refine cl_reg rfl ?_
  refine st rfl rfl rfl rfl (x_move rfl) ?_
  refine st rfl rfl rfl rfl (x_nil rfl) ?_
  refine st rfl rfl rfl rfl (x_fa rfl Tryd.underlying80 rfl Tryd.sizeOf77 0 rfl) ?_
  refine st rfl rfl rfl rfl (x_ld rfl Tryd.isAgg77 (L.top.cell rfl)) ?_
  refine st rfl rfl rfl rfl (x_move rfl) ?_
  refine st rfl rfl rfl rfl (x_ia0 rfl rfl Tryd.underlying77 Tryd.sizeOf82 (by omega)) ?_
  refine st rfl rfl rfl rfl (x_ldn rfl Tryd.isAgg82 Tryd.sizeOf82 rfl (cell_e lenL L.nod hy rfl)) ?_
  refine se rfl rfl rfl rfl (e_new (x_alloc Tryd.zeroValue82 rfl)) ?_
  rintro _ w0_7 ⟨rfl, b0_7, fr0_7, sz0_7⟩
  replace L := L.fr0 fr0_7
  replace F := F.trans fr0_7.of0
  refine sv rfl rfl rfl (v_n rfl rfl (oneL y) Tryd.sizeOf82 rfl b0_7 (by decide)) ?_
  rintro w0_8 ⟨bV, fr0_8⟩
  replace L := L.fr fr0_8 (by simpa using hvp.symm) (by simpa using hvn.symm) (by simpa using hvh.symm) (by simpa using hvz.symm)
  replace F := F.trans_new fr0_8 (by intro q hq; simp at hq; subst hq; exact .inr (Nat.le_refl _))
  refine rl_end rfl ?_
  refine al_k ?_
  refine cl_seq rfl ?_
  refine cl_draw (by kernel_rfl) rfl [] (fun w' => w'.heap = w0_8.heap) ?_
  rintro wd1 frd1 hpd1
  refine ⟨hpd1, ?_⟩
  replace bV : Blk w0_8 _ 82 (encL y) := bV
  refine dt (i := 0) rfl rfl rfl rfl (by kernel_rfl) (fun _ => x_move rfl) ?_
  refine dt (i := 1) rfl rfl rfl rfl (by kernel_rfl) (fun _ => x_nil rfl) ?_
  refine dt (i := 2) rfl rfl rfl rfl (by kernel_rfl) (fun _ => x_fa rfl Tryd.underlying80 rfl Tryd.sizeOf78 1 rfl) ?_
  refine dl (i := 3) rfl rfl rfl rfl (by kernel_rfl) (by kernel_rfl) (fun w' hU => x_ld rfl Tryd.isAgg78 (heq hU (L.top.cell rfl))) ?_
  refine dt (i := 4) rfl rfl rfl rfl (by kernel_rfl) (fun _ => x_fa rfl Tryd.underlying82 rfl Tryd.sizeOf3 0 rfl) ?_
  refine dl (i := 5) rfl rfl rfl rfl (by kernel_rfl) (by kernel_rfl) (fun w' hU => x_ld rfl Tryd.isAgg3 (heq hU (Blk.cell (l := encL y) bV rfl))) ?_
  refine dt (i := 6) rfl rfl rfl rfl (by kernel_rfl) (fun _ => x_ia0 rfl rfl Tryd.underlying78 Tryd.sizeOf84 (by omega)) ?_
  refine dt (i := 7) rfl rfl rfl rfl (by kernel_rfl) (fun _ => x_asg rfl) ?_
  replace L := L.fr0 frd1
  replace F := F.trans frd1.of0
  replace bV := bV.fr0 frd1
  refine dn (by kernel_rfl) ?_
  refine al_k ?_
  refine cl_seq rfl ?_
  refine cl_seq rfl ?_
  refine cl_reg rfl ?_
  refine st rfl rfl rfl rfl (x_fa rfl Tryd.underlying82 rfl Tryd.sizeOf3 1 rfl) ?_
  refine st rfl rfl rfl rfl (x_ld rfl Tryd.isAgg3 (Blk.cell (l := encL y) bV rfl)) ?_
  refine st rfl rfl rfl rfl ((x_eql rfl rfl).b0 hp) ?_
  refine rl_end rfl ?_
  refine al_k ?_
  refine cl_if0 rfl rfl ?_
  obtain ⟨y1, hy1⟩ := get_of (i := y.prv) L.lenN (by omega)
  refine cl_draw (by kernel_rfl) rfl [10] (fun w' => w'.heap = wd1.heap) ?_
  rintro wd4 frd4 hpd4
  refine ⟨hpd4, ?_⟩
  refine dt (i := 0) rfl rfl rfl rfl (by kernel_rfl) (fun _ => x_move rfl) ?_
  refine dt (i := 1) rfl rfl rfl rfl (by kernel_rfl) (fun _ => x_nil rfl) ?_
  refine dt (i := 2) rfl rfl rfl rfl (by kernel_rfl) (fun _ => x_fa rfl Tryd.underlying80 rfl Tryd.sizeOf77 0 rfl) ?_
  refine dl (i := 3) rfl rfl rfl rfl (by kernel_rfl) (by kernel_rfl) (fun w' hU => x_ld rfl Tryd.isAgg77 (heq hU (L.top.cell rfl))) ?_
  refine dt (i := 4) rfl rfl rfl rfl (by kernel_rfl) (fun _ => x_fa rfl Tryd.underlying82 rfl Tryd.sizeOf3 1 rfl) ?_
  refine dl (i := 5) rfl rfl rfl rfl (by kernel_rfl) (by kernel_rfl) (fun w' hU => x_ld rfl Tryd.isAgg3 (heq hU (Blk.cell (l := encL y) bV rfl))) ?_
  refine dt (i := 6) rfl rfl rfl rfl (by kernel_rfl) (fun _ => x_fa rfl Tryd.underlying82 rfl Tryd.sizeOf3 2 rfl) ?_
  refine dl (i := 7) rfl rfl rfl rfl (by kernel_rfl) (by kernel_rfl) (fun w' hU => x_ld rfl Tryd.isAgg3 (heq hU (Blk.cell (l := encL y) bV rfl))) ?_
  refine dt (i := 8) rfl rfl rfl rfl (by kernel_rfl) (fun _ => x_ia0 rfl rfl Tryd.underlying77 Tryd.sizeOf82 (by omega)) ?_
  refine dt (i := 9) rfl rfl rfl rfl (by kernel_rfl) (fun _ => x_fa rfl Tryd.underlying82 rfl Tryd.sizeOf3 2 rfl) ?_
  replace L := L.fr0 frd4
  replace F := F.trans frd4.of0
  replace bV := bV.fr0 frd4
  refine d1 (i := 10) (by kernel_rfl) ?_
  refine osv rfl rfl rfl (v_f lenL { y1 with nxt := y.nxt } rfl rfl rfl rfl rfl Tryd.sizeOf3 L.nod hy1 (by decide) rfl) ?_
  rintro w2 ⟨hN2, fr2⟩
  replace L := L.setN hN2 fr2 (by simpa using L.lenN)
  replace F := F.trans (fr2.mono (by simp))
  replace bV := bV.fr fr2 (by simpa using hvn)
  refine ⟨.inl (by kernel_rfl), ?_⟩
  refine dn (by kernel_rfl) ?_
  refine al_k ?_
  refine cl_seq rfl ?_
  refine cl_seq rfl ?_
  refine cl_reg rfl ?_
  refine st rfl rfl rfl rfl (x_fa rfl Tryd.underlying82 rfl Tryd.sizeOf3 2 rfl) ?_
  refine st rfl rfl rfl rfl (x_ld rfl Tryd.isAgg3 (Blk.cell (l := encL y) bV rfl)) ?_
  refine st rfl rfl rfl rfl ((x_eql rfl rfl).b1 hx) ?_
  refine rl_end rfl ?_
  refine al_k ?_
  refine cl_if1 rfl rfl ?_
  refine cl_reg rfl ?_
  refine st rfl rfl rfl rfl (x_move rfl) ?_
  refine st rfl rfl rfl rfl (x_fa rfl Tryd.underlying82 rfl Tryd.sizeOf3 1 rfl) ?_
  refine st rfl rfl rfl rfl (x_ld rfl Tryd.isAgg3 (Blk.cell (l := encL y) bV rfl)) ?_
  refine st rfl rfl rfl rfl (x_nil rfl) ?_
  refine st rfl rfl rfl rfl (x_fa rfl Tryd.underlying84 rfl Tryd.sizeOf3 1 rfl) ?_
  refine sv rfl rfl rfl (v_f lenH { u with lst := y.prv } rfl rfl rfl rfl rfl Tryd.sizeOf3 L.hed hu (by decide) rfl) ?_
  rintro w3 ⟨hH3, fr3⟩
  replace L := L.setH hH3 fr3 (by simpa using L.lenH)
  replace F := F.trans (fr3.mono (by simp))
  replace bV := bV.fr fr3 (by simpa using hvh)
  have hu3 := get_set (v := { u with lst := y.prv }) hu
  refine rl_end rfl ?_
  refine al_k ?_
  refine cl_seq rfl ?_
  refine cl_reg rfl ?_
  refine st rfl rfl rfl rfl (x_move rfl) ?_
  refine st rfl rfl rfl rfl (x_nil rfl) ?_
  refine st rfl rfl rfl rfl (x_fa rfl Tryd.underlying84 rfl Tryd.sizeOf3 2 rfl) ?_
  refine st rfl rfl rfl rfl (x_ld rfl Tryd.isAgg3 (cell_f lenH L.hed hu3 rfl (by decide) rfl)) ?_
  refine st rfl rfl rfl rfl (x_sub rfl rfl (by constructor <;> (try dsimp only) <;> omega)) ?_
  refine st rfl rfl rfl rfl (x_nil rfl) ?_
  refine st rfl rfl rfl rfl (x_fa rfl Tryd.underlying84 rfl Tryd.sizeOf3 2 rfl) ?_
  refine sv rfl rfl rfl (v_f lenH { { u with lst := y.prv } with cnt := u.cnt - 1 } rfl rfl rfl rfl rfl Tryd.sizeOf3 L.hed hu3 (by decide) rfl) ?_
  rintro w4 ⟨hH4, fr4⟩
  replace L := L.setH hH4 fr4 (by simpa using L.lenH)
  replace F := F.trans (fr4.mono (by simp))
  replace bV := bV.fr fr4 (by simpa using hvh)
  refine rl_end rfl ?_
  refine al_k ?_
  refine cl_draw (by kernel_rfl) rfl [7] (fun w' => w'.heap = w4.heap) ?_
  rintro wd9 frd9 hpd9
  refine ⟨hpd9, ?_⟩
  refine dt (i := 0) rfl rfl rfl rfl (by kernel_rfl) (fun _ => x_move rfl) ?_
  refine dt (i := 1) rfl rfl rfl rfl (by kernel_rfl) (fun _ => x_nil rfl) ?_
  refine dt (i := 2) rfl rfl rfl rfl (by kernel_rfl) (fun _ => x_fa rfl Tryd.underlying80 rfl Tryd.sizeOf77 0 rfl) ?_
  refine dl (i := 3) rfl rfl rfl rfl (by kernel_rfl) (by kernel_rfl) (fun w' hU => x_ld rfl Tryd.isAgg77 (heq hU (L.top.cell rfl))) ?_
  refine dt (i := 4) rfl rfl rfl rfl (by kernel_rfl) (fun _ => x_move rfl) ?_
  refine dl (i := 5) rfl rfl rfl rfl (by kernel_rfl) (by kernel_rfl) (fun w' hU => x_ldn rfl Tryd.isAgg82 Tryd.sizeOf82 rfl (heqn hU L.glb)) ?_
  refine dt (i := 6) rfl rfl rfl rfl (by kernel_rfl) (fun _ => x_ia0 rfl rfl Tryd.underlying77 Tryd.sizeOf82 (by omega)) ?_
  replace L := L.fr0 frd9
  replace F := F.trans frd9.of0
  replace bV := bV.fr0 frd9
  refine d1 (i := 7) (by kernel_rfl) ?_
  refine osv rfl rfl rfl (v_e lenL loose rfl rfl rfl rfl (oneL _) Tryd.sizeOf82 L.nod (by have := L.lenN; omega)) ?_
  rintro w5 ⟨hN5, fr5⟩
  replace L := L.setN hN5 fr5 (by simpa using L.lenN)
  replace F := F.trans (fr5.mono (by simp))
  replace bV := bV.fr fr5 (by simpa using hvn)
  refine ⟨.inl (by kernel_rfl), ?_⟩
  refine dn (by kernel_rfl) ?_
  refine fin0n rfl ?_
  refine ⟨rfl, ?_, F⟩
  simp only [LS.remove, hy, if_neg hp, if_pos hx, upd_some _ hu, upd_some _ hy1, upd_some _ hu3]
  exact L

theorem remove_00 (w : World) (p nb hb N H : Nat) (x : LS) (L : LsAt w p nb hb N H x) (nd : Int) (hn : 0 ≤ nd ∧ nd < (N : Int)) (y : Link) (hy : x.nodes[nd.toNat]? = some y) (u : Head) (hu : x.heads[y.lst.toNat]? = some u) (hyl : 0 ≤ y.lst ∧ y.lst < (H : Int)) (hp : ¬ y.prv = -1) (hx : ¬ y.nxt = -1) (hpr : y.prv = -1 ∨ 0 ≤ y.prv ∧ y.prv < (N : Int)) (hnx : y.nxt = -1 ∨ 0 ≤ y.nxt ∧ y.nxt < (N : Int)) (hc : 0 ≤ u.cnt ∧ u.cnt ≤ 1000000) :
    Cl Tryd.prog 57 [.pointer (some ⟨p, 0, none⟩), .int .i64 nd] w (fun v w' => v = .tuple #[] ∧ LsAt w' p nb hb N H (x.remove nd) ∧ Fr [nb, hb] w w') := by
  have F := Fr.refl [nb, hb] w
  have hvp : w.heap.size ≠ p := Nat.ne_of_gt L.top.lt
  have hvn : w.heap.size ≠ nb := Nat.ne_of_gt L.nod.lt
  have hvh : w.heap.size ≠ hb := Nat.ne_of_gt L.hed.lt
  have hvz : w.heap.size ≠ 0 := Nat.ne_of_gt (Nat.lt_of_le_of_lt (Nat.zero_le _) L.nod.lt)
  refine enter Tryd.func57 rfl Tryd.ntmps57 rfl ?_
  refine cl_seq rfl ?_
  refine cl_reg rfl ?_
  refine st rfl rfl rfl rfl (x_move rfl) ?_
  refine st rfl rfl rfl rfl (x_nil rfl) ?_
  refine st rfl rfl rfl rfl (x_fa rfl Tryd.underlying80 rfl Tryd.sizeOf77 0 rfl) ?_
  refine st rfl rfl rfl rfl (x_ld rfl Tryd.isAgg77 (L.top.cell rfl)) ?_
  refine st rfl rfl rfl rfl (x_move rfl) ?_
  refine st rfl rfl rfl rfl (x_ia0 rfl rfl Tryd.underlying77 Tryd.sizeOf82 (by omega)) ?_
  refine st rfl rfl rfl rfl (x_ldn rfl Tryd.isAgg82 Tryd.sizeOf82 rfl (cell_e lenL L.nod hy rfl)) ?_
  refine se rfl rfl rfl rfl (e_new (x_alloc Tryd.zeroValue82 rfl)) ?_
  rintro _ w0_7 ⟨rfl, b0_7, fr0_7, sz0_7⟩
  replace L := L.fr0 fr0_7
  replace F := F.trans fr0_7.of0
  refine sv rfl rfl rfl (v_n rfl rfl (oneL y) Tryd.sizeOf82 rfl b0_7 (by decide)) ?_
  rintro w0_8 ⟨bV, fr0_8⟩
  replace L := L.fr fr0_8 (by simpa using hvp.symm) (by simpa using hvn.symm) (by simpa using hvh.symm) (by simpa using hvz.symm)
  replace F := F.trans_new fr0_8 (by intro q hq; simp at hq; subst hq; exact .inr (Nat.le_refl _))
  refine rl_end rfl ?_
  refine al_k ?_
  refine cl_seq rfl ?_
  refine cl_draw (by kernel_rfl) rfl [] (fun w' => w'.heap = w0_8.heap) ?_
  rintro wd1 frd1 hpd1
  refine ⟨hpd1, ?_⟩
  replace bV : Blk w0_8 _ 82 (encL y) := bV
  refine dt (i := 0) rfl rfl rfl rfl (by kernel_rfl) (fun _ => x_move rfl) ?_
  refine dt (i := 1) rfl rfl rfl rfl (by kernel_rfl) (fun _ => x_nil rfl) ?_
  refine dt (i := 2) rfl rfl rfl rfl (by kernel_rfl) (fun _ => x_fa rfl Tryd.underlying80 rfl Tryd.sizeOf78 1 rfl) ?_
  refine dl (i := 3) rfl rfl rfl rfl (by kernel_rfl) (by kernel_rfl) (fun w' hU => x_ld rfl Tryd.isAgg78 (heq hU (L.top.cell rfl))) ?_
  refine dt (i := 4) rfl rfl rfl rfl (by kernel_rfl) (fun _ => x_fa rfl Tryd.underlying82 rfl Tryd.sizeOf3 0 rfl) ?_
  refine dl (i := 5) rfl rfl rfl rfl (by kernel_rfl) (by kernel_rfl) (fun w' hU => x_ld rfl Tryd.isAgg3 (heq hU (Blk.cell (l := encL y) bV rfl))) ?_
  refine dt (i := 6) rfl rfl rfl rfl (by kernel_rfl) (fun _ => x_ia0 rfl rfl Tryd.underlying78 Tryd.sizeOf84 (by omega)) ?_
  refine dt (i := 7) rfl rfl rfl rfl (by kernel_rfl) (fun _ => x_asg rfl) ?_
  replace L := L.fr0 frd1
  replace F := F.trans frd1.of0
  replace bV := bV.fr0 frd1
  refine dn (by kernel_rfl) ?_
  refine al_k ?_
  refine cl_seq rfl ?_
  refine cl_seq rfl ?_
  refine cl_reg rfl ?_
  refine st rfl rfl rfl rfl (x_fa rfl Tryd.underlying82 rfl Tryd.sizeOf3 1 rfl) ?_
  refine st rfl rfl rfl rfl (x_ld rfl Tryd.isAgg3 (Blk.cell (l := encL y) bV rfl)) ?_
  refine st rfl rfl rfl rfl ((x_eql rfl rfl).b0 hp) ?_
  refine rl_end rfl ?_
  refine al_k ?_
  refine cl_if0 rfl rfl ?_
  obtain ⟨y1, hy1⟩ := get_of (i := y.prv) L.lenN (by omega)
  refine cl_draw (by kernel_rfl) rfl [10] (fun w' => w'.heap = wd1.heap) ?_
  rintro wd4 frd4 hpd4
  refine ⟨hpd4, ?_⟩
  refine dt (i := 0) rfl rfl rfl rfl (by kernel_rfl) (fun _ => x_move rfl) ?_
  refine dt (i := 1) rfl rfl rfl rfl (by kernel_rfl) (fun _ => x_nil rfl) ?_
  refine dt (i := 2) rfl rfl rfl rfl (by kernel_rfl) (fun _ => x_fa rfl Tryd.underlying80 rfl Tryd.sizeOf77 0 rfl) ?_
  refine dl (i := 3) rfl rfl rfl rfl (by kernel_rfl) (by kernel_rfl) (fun w' hU => x_ld rfl Tryd.isAgg77 (heq hU (L.top.cell rfl))) ?_
  refine dt (i := 4) rfl rfl rfl rfl (by kernel_rfl) (fun _ => x_fa rfl Tryd.underlying82 rfl Tryd.sizeOf3 1 rfl) ?_
  refine dl (i := 5) rfl rfl rfl rfl (by kernel_rfl) (by kernel_rfl) (fun w' hU => x_ld rfl Tryd.isAgg3 (heq hU (Blk.cell (l := encL y) bV rfl))) ?_
  refine dt (i := 6) rfl rfl rfl rfl (by kernel_rfl) (fun _ => x_fa rfl Tryd.underlying82 rfl Tryd.sizeOf3 2 rfl) ?_
  refine dl (i := 7) rfl rfl rfl rfl (by kernel_rfl) (by kernel_rfl) (fun w' hU => x_ld rfl Tryd.isAgg3 (heq hU (Blk.cell (l := encL y) bV rfl))) ?_
  refine dt (i := 8) rfl rfl rfl rfl (by kernel_rfl) (fun _ => x_ia0 rfl rfl Tryd.underlying77 Tryd.sizeOf82 (by omega)) ?_
  refine dt (i := 9) rfl rfl rfl rfl (by kernel_rfl) (fun _ => x_fa rfl Tryd.underlying82 rfl Tryd.sizeOf3 2 rfl) ?_
  replace L := L.fr0 frd4
  replace F := F.trans frd4.of0
  replace bV := bV.fr0 frd4
  refine d1 (i := 10) (by kernel_rfl) ?_
  refine osv rfl rfl rfl (v_f lenL { y1 with nxt := y.nxt } rfl rfl rfl rfl rfl Tryd.sizeOf3 L.nod hy1 (by decide) rfl) ?_
  rintro w2 ⟨hN2, fr2⟩
  replace L := L.setN hN2 fr2 (by simpa using L.lenN)
  replace F := F.trans (fr2.mono (by simp))
  replace bV := bV.fr fr2 (by simpa using hvn)
  refine ⟨.inl (by kernel_rfl), ?_⟩
  refine dn (by kernel_rfl) ?_
  refine al_k ?_
  refine cl_seq rfl ?_
  refine cl_seq rfl ?_
  refine cl_reg rfl ?_
  refine st rfl rfl rfl rfl (x_fa rfl Tryd.underlying82 rfl Tryd.sizeOf3 2 rfl) ?_
  refine st rfl rfl rfl rfl (x_ld rfl Tryd.isAgg3 (Blk.cell (l := encL y) bV rfl)) ?_
  refine st rfl rfl rfl rfl ((x_eql rfl rfl).b0 hx) ?_
  refine rl_end rfl ?_
  refine al_k ?_
  refine cl_if0 rfl rfl ?_
  obtain ⟨y2, hy2⟩ := get_of (i := y.nxt) L.lenN (by omega)
  refine cl_draw (by kernel_rfl) rfl [10] (fun w' => w'.heap = w2.heap) ?_
  rintro wd7 frd7 hpd7
  refine ⟨hpd7, ?_⟩
  refine dt (i := 0) rfl rfl rfl rfl (by kernel_rfl) (fun _ => x_move rfl) ?_
  refine dt (i := 1) rfl rfl rfl rfl (by kernel_rfl) (fun _ => x_nil rfl) ?_
  refine dt (i := 2) rfl rfl rfl rfl (by kernel_rfl) (fun _ => x_fa rfl Tryd.underlying80 rfl Tryd.sizeOf77 0 rfl) ?_
  refine dl (i := 3) rfl rfl rfl rfl (by kernel_rfl) (by kernel_rfl) (fun w' hU => x_ld rfl Tryd.isAgg77 (heq hU (L.top.cell rfl))) ?_
  refine dt (i := 4) rfl rfl rfl rfl (by kernel_rfl) (fun _ => x_fa rfl Tryd.underlying82 rfl Tryd.sizeOf3 2 rfl) ?_
  refine dl (i := 5) rfl rfl rfl rfl (by kernel_rfl) (by kernel_rfl) (fun w' hU => x_ld rfl Tryd.isAgg3 (heq hU (Blk.cell (l := encL y) bV rfl))) ?_
  refine dt (i := 6) rfl rfl rfl rfl (by kernel_rfl) (fun _ => x_fa rfl Tryd.underlying82 rfl Tryd.sizeOf3 1 rfl) ?_
  refine dl (i := 7) rfl rfl rfl rfl (by kernel_rfl) (by kernel_rfl) (fun w' hU => x_ld rfl Tryd.isAgg3 (heq hU (Blk.cell (l := encL y) bV rfl))) ?_
  refine dt (i := 8) rfl rfl rfl rfl (by kernel_rfl) (fun _ => x_ia0 rfl rfl Tryd.underlying77 Tryd.sizeOf82 (by omega)) ?_
  refine dt (i := 9) rfl rfl rfl rfl (by kernel_rfl) (fun _ => x_fa rfl Tryd.underlying82 rfl Tryd.sizeOf3 1 rfl) ?_
  replace L := L.fr0 frd7
  replace F := F.trans frd7.of0
  replace bV := bV.fr0 frd7
  refine d1 (i := 10) (by kernel_rfl) ?_
  refine osv rfl rfl rfl (v_f lenL { y2 with prv := y.prv } rfl rfl rfl rfl rfl Tryd.sizeOf3 L.nod hy2 (by decide) rfl) ?_
  rintro w3 ⟨hN3, fr3⟩
  replace L := L.setN hN3 fr3 (by simpa using L.lenN)
  replace F := F.trans (fr3.mono (by simp))
  replace bV := bV.fr fr3 (by simpa using hvn)
  refine ⟨.inl (by kernel_rfl), ?_⟩
  refine dn (by kernel_rfl) ?_
  refine al_k ?_
  refine cl_seq rfl ?_
  refine cl_reg rfl ?_
  refine st rfl rfl rfl rfl (x_move rfl) ?_
  refine st rfl rfl rfl rfl (x_nil rfl) ?_
  refine st rfl rfl rfl rfl (x_fa rfl Tryd.underlying84 rfl Tryd.sizeOf3 2 rfl) ?_
  refine st rfl rfl rfl rfl (x_ld rfl Tryd.isAgg3 (cell_f lenH L.hed hu rfl (by decide) rfl)) ?_
  refine st rfl rfl rfl rfl (x_sub rfl rfl (by constructor <;> (try dsimp only) <;> omega)) ?_
  refine st rfl rfl rfl rfl (x_nil rfl) ?_
  refine st rfl rfl rfl rfl (x_fa rfl Tryd.underlying84 rfl Tryd.sizeOf3 2 rfl) ?_
  refine sv rfl rfl rfl (v_f lenH { u with cnt := u.cnt - 1 } rfl rfl rfl rfl rfl Tryd.sizeOf3 L.hed hu (by decide) rfl) ?_
  rintro w4 ⟨hH4, fr4⟩
  replace L := L.setH hH4 fr4 (by simpa using L.lenH)
  replace F := F.trans (fr4.mono (by simp))
  replace bV := bV.fr fr4 (by simpa using hvh)
  refine rl_end rfl ?_
  refine al_k ?_
  refine cl_draw (by kernel_rfl) rfl [7] (fun w' => w'.heap = w4.heap) ?_
  rintro wd9 frd9 hpd9
  refine ⟨hpd9, ?_⟩
  refine dt (i := 0) rfl rfl rfl rfl (by kernel_rfl) (fun _ => x_move rfl) ?_
  refine dt (i := 1) rfl rfl rfl rfl (by kernel_rfl) (fun _ => x_nil rfl) ?_
  refine dt (i := 2) rfl rfl rfl rfl (by kernel_rfl) (fun _ => x_fa rfl Tryd.underlying80 rfl Tryd.sizeOf77 0 rfl) ?_
  refine dl (i := 3) rfl rfl rfl rfl (by kernel_rfl) (by kernel_rfl) (fun w' hU => x_ld rfl Tryd.isAgg77 (heq hU (L.top.cell rfl))) ?_
  refine dt (i := 4) rfl rfl rfl rfl (by kernel_rfl) (fun _ => x_move rfl) ?_
  refine dl (i := 5) rfl rfl rfl rfl (by kernel_rfl) (by kernel_rfl) (fun w' hU => x_ldn rfl Tryd.isAgg82 Tryd.sizeOf82 rfl (heqn hU L.glb)) ?_
  refine dt (i := 6) rfl rfl rfl rfl (by kernel_rfl) (fun _ => x_ia0 rfl rfl Tryd.underlying77 Tryd.sizeOf82 (by omega)) ?_
  replace L := L.fr0 frd9
  replace F := F.trans frd9.of0
  replace bV := bV.fr0 frd9
  refine d1 (i := 7) (by kernel_rfl) ?_
  refine osv rfl rfl rfl (v_e lenL loose rfl rfl rfl rfl (oneL _) Tryd.sizeOf82 L.nod (by have := L.lenN; omega)) ?_
  rintro w5 ⟨hN5, fr5⟩
  replace L := L.setN hN5 fr5 (by simpa using L.lenN)
  replace F := F.trans (fr5.mono (by simp))
  replace bV := bV.fr fr5 (by simpa using hvn)
  refine ⟨.inl (by kernel_rfl), ?_⟩
  refine dn (by kernel_rfl) ?_
  refine fin0n rfl ?_
  refine ⟨rfl, ?_, F⟩
  simp only [LS.remove, hy, if_neg hp, if_neg hx, upd_some _ hu, upd_some _ hy1, upd_some _ hy2]
  exact L

theorem remove_c (w : World) (p nb hb N H : Nat) (x : LS) (L : LsAt w p nb hb N H x) (W : WF N H x) (nd : Int) (hn : 0 ≤ nd ∧ nd < (N : Int)) (y : Link) (hy : x.nodes[nd.toNat]? = some y) (hlo : ¬ y = loose) :
    Cl Tryd.prog 57 [.pointer (some ⟨p, 0, none⟩), .int .i64 nd] w (fun v w' => v = .tuple #[] ∧ LsAt w' p nb hb N H (x.remove nd) ∧ Fr [nb, hb] w w') := by
  obtain ⟨h1, h2, h3⟩ := W.nod _ y hy hlo
  obtain ⟨u, hu⟩ := get_of (i := y.lst) L.lenH h1
  have hc := W.cnt _ _ hu
  by_cases hp : y.prv = -1 <;> by_cases hx : y.nxt = -1
  · exact remove_11 w p nb hb N H x L nd hn y hy u hu h1 hp hx h2 h3 (by omega)
  · exact remove_10 w p nb hb N H x L nd hn y hy u hu h1 hp hx h2 h3 (by omega)
  · exact remove_01 w p nb hb N H x L nd hn y hy u hu h1 hp hx h2 h3 (by omega)
  · exact remove_00 w p nb hb N H x L nd hn y hy u hu h1 hp hx h2 h3 (by omega)

end Go.Proofs.YtcbkpekbfkaeeaaDoor.Ls
