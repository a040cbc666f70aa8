/- Deeds: the walks of the search's parts. -/
import Derived.Test.YtmeheoflfdmgiaaLnW7
import Derived.Test.YtmeheoflfdmgiaaLnK
set_option linter.unusedVariables false
namespace Go.Proofs.Ytmeheoflfdmgiaa.Lin
open Go Go.RowKit Go.Proofs.Ytmeheoflfdmgiaa.Sx Go.Proofs.Ytmeheoflfdmgiaa
set_option maxRecDepth 100000

theorem bldT (s : BitVec 64) (n : Nat) (w : World) : (Instr.build 59 [(0, .int .u64 (s.toNat : Nat)), (2, .int .i64 (n : Nat))].toArray).run Try.prog w = .ok (.agg (encTn s [] n).toArray) w := by kernel_rfl
theorem zT (w : World) : (zeroValue 59).run Try.prog w = .ok (.agg (encTn 0#64 [] 0).toArray) w := by kernel_rfl
theorem klT : WideMaps.KeyLaw Try.prog 59 := deep_law (m := 4) (by omega) (by kernel_rfl) (by kernel_rfl) (by kernel_rfl)
theorem lits1 (k : IntKind) (t : TypeId) (hu : Try.prog.underlying t = some (.int k)) (f : Nat) (z : Int) (h : (Lit.int k z).wf = true) : (Try.prog.keyLits (f + 1) t [.int k z]).isSome = true := by
  unfold Program.keyLits
  simp [hu, h]
theorem litsA (f : Nat) (p : List Int) : (Try.prog.keyLits (f + 2) 57 ((List.range 24).map (fun j => Value.int .u8 (pad p j)))).isSome = true := by
  have hc : Try.prog.cellsOf 57 = 24 := by kernel_rfl
  have h5 : Try.prog.cellsOf 5 = 1 := by kernel_rfl
  have hu : Try.prog.underlying 57 = some (.array 24 5) := Try.underlying57
  obtain ⟨r, hr⟩ := mapM_some (f := fun i => Try.prog.keyLits (f + 1) 5 ((((List.range 24).map (fun j => Value.int .u8 (pad p j))).drop (i * Try.prog.cellsOf 5)).take (Try.prog.cellsOf 5))) (List.range 24) (fun i hi => by
    have hi := List.mem_range.1 hi
    rw [h5, Nat.mul_one, takeOne (c := Value.int .u8 (pad p i)) (by rw [List.getElem?_map, List.getElem?_range hi]; rfl)]
    exact lits1 .u8 5 Try.underlying5 f _ (lit_u8 p i))
  unfold Program.keyLits
  rw [hu]
  dsimp only
  rw [if_pos (by rw [hc]; simp), hr]
  rfl
theorem keyT (t : BitVec 64 × List Int) (ht : t.2.length ≤ 24) : ∃ kl, keyOf Try.prog 59 (encV t) = some kl := by
  have hu := Try.underlying59
  have hc : Try.prog.cellsOf 59 = 26 := by kernel_rfl
  have c1 : Try.prog.cellsOf 38 = 1 := by kernel_rfl
  have c2 : Try.prog.cellsOf 57 = 24 := by kernel_rfl
  have c3 : Try.prog.cellsOf 3 = 1 := by kernel_rfl
  have hkt : Try.prog.keyType 59 = true := by kernel_rfl
  have hty : ∃ f, Try.prog.types.size = f + 2 := ⟨106 - 2, by kernel_rfl⟩
  obtain ⟨f, hf⟩ := hty
  obtain ⟨a1, h1⟩ := some_of (lits1 .u64 38 Try.underlying38 (f + 1) _ (lit_u64 t.1))
  obtain ⟨a2, h2⟩ := some_of (litsA f t.2)
  obtain ⟨a3, h3⟩ := some_of (lits1 .i64 3 Try.underlying3 (f + 1) _ (lit_i64 (n := t.2.length) (by omega)))
  have hL : (encT t).length = 26 := lenTn _ _ _
  have e1 : ((encT t).drop 0).take 1 = [.int .u64 (t.1.toNat : Nat)] := rfl
  have e2 : ((encT t).drop 1).take 24 = (List.range 24).map (fun j => Value.int .u8 (pad t.2 j)) := rfl
  have e3 : ((encT t).drop 25).take 1 = [.int .i64 (t.2.length : Nat)] := rfl
  have hfm : (encV t).formed Try.prog 59 = true := by
    unfold encV Value.formed
    rw [hu]
    simp [hc, hL]
  unfold keyOf
  rw [hu]
  dsimp only
  rw [if_pos (by rw [hkt, hfm]; rfl), hf]
  refine ⟨?_, ?_⟩
  · exact .string (keyBytes (a1 ++ a2 ++ a3))
  · unfold Program.keyLits
    rw [hu]
    dsimp only
    have hcl : (encV t).cells.toList = encT t := rfl
    rw [hcl, if_pos ⟨by rw [hL, hc], by kernel_rfl⟩]
    simp only [List.mapM_cons, List.mapM_nil, c1, c2, c3, e1, e2, e3, h1, h2, h3]
    simp

theorem free_c (w : World) (A : Option Addr) (c : Nat) (l : List D) (HR : RowG encD 6 w A l) (hl : l.length ≤ 64) (done : BitVec 64) (i : Nat) (hi : i < l.length) : Cl Try.prog 26 [.slice A l.length c, .int .u64 ((done).toNat : Nat), .int .i64 i] w (fun v w' => v = .bool (dc (freeI l done i)) ∧ Fr [] w w') := by
  have F := Fr.refl [] w
  refine enter Try.func26 rfl Try.ntmps26 rfl ?_
  refine cl_seq rfl ?_
  refine cl_reg rfl ?_
  refine st rfl rfl rfl rfl (x_asg rfl) ?_
  refine rl_end rfl ?_
  refine al_k ?_
  refine cl_seq rfl ?_
  refine cl_seq rfl ?_
  refine cl_reg rfl ?_
  refine st rfl rfl rfl rfl (x_move rfl) ?_
  refine st rfl rfl rfl rfl (x_len rfl Try.underlying22) ?_
  refine st rfl rfl rfl rfl (x_move rfl) ?_
  refine rl_end rfl ?_
  refine al_k ?_
  refine cl_block rfl ?_
  refine cl_loop (fun j : Nat => [(10, .int .i64 j), (9, .int .i64 l.length), (0, .slice A l.length c), (1, .int .u64 ((done).toNat : Nat)), (2, .int .i64 i)]) (fun j w' => (j ≤ l.length ∧ ∀ (k : Nat) d, k < j → l[k]? = some d → done.getLsbD k = false → ¬ ahead d (atI l (i : Int))) ∧ Fr [] w w') (fun j => l.length - j) 0 rfl ⟨rfl, rfl, rfl, rfl, rfl, trivial⟩ ?_ ?_
  · exact ⟨⟨Nat.zero_le _, fun j d h => absurd h (by omega)⟩, F⟩
  · skip
    rintro j wr ⟨⟨hj, hno⟩, F⟩
    refine cl_seq rfl ?_
    refine cl_reg rfl ?_
    refine sf rfl rfl rfl rfl (x_lss rfl rfl) (fun c2_0 => ?_) (fun c2_0 => ?_)
    · skip
      refine rl_end rfl ?_
      refine al_k ?_
      refine cl_seq rfl ?_
      refine cl_if1 rfl rfl ?_
      refine cl_skip rfl ?_
      refine al_k ?_
      refine cl_seq rfl ?_
      refine cl_block rfl ?_
      refine cl_seq rfl ?_
      refine cl_reg rfl ?_
      refine st rfl rfl rfl rfl (x_move rfl) ?_
      refine st rfl rfl rfl rfl (x_asg rfl) ?_
      refine rl_end rfl ?_
      refine al_k ?_
      refine cl_seq rfl ?_
      obtain ⟨dq, hdq⟩ : ∃ d, l[i]? = some d := ⟨_, List.getElem?_eq_getElem (by omega)⟩
      obtain ⟨a, rfl, hcn⟩ := HR _ dq hdq
      obtain ⟨d, hd⟩ : ∃ d, l[j]? = some d := ⟨_, List.getElem?_eq_getElem (by omega)⟩
      obtain ⟨a_, ea, hcd⟩ := HR _ d hd
      obtain rfl := Option.some.inj ea
      refine cl_draw (by kernel_rfl) rfl [] (fun w' => Fr [] wr w') ?_
      rintro wd4 fr hpd
      have G := fr
      have FB := F
      replace F := F.trans fr
      clear fr
      refine ⟨G, ?_⟩
      refine dt (i := 0) rfl rfl rfl rfl (by kernel_rfl) (fun _ => x_move rfl) ?_
      refine dt (i := 1) rfl rfl rfl rfl (by kernel_rfl) (fun _ => x_move rfl) ?_
      refine d1 (i := 2) (by kernel_rfl) ?_
      refine oc rfl rfl rfl rfl (c_fn rfl Try.call35 (Has_c _ done j (by omega))) ?_
      rintro _ wk ⟨rfl, hwk⟩
      obtain rfl := hwk.symm
      refine ⟨.inr G, ?_⟩
      cases hf4_2 : (done.getLsbD j)
      · skip
        refine dt (i := 3) rfl rfl rfl rfl (by kernel_rfl) (fun _ => x_not0 rfl) ?_
        refine dt (i := 4) rfl rfl rfl rfl (by kernel_rfl) (fun _ => x_move rfl) ?_
        refine dt (i := 5) rfl rfl rfl rfl (by kernel_rfl) (fun _ => x_move rfl) ?_
        refine dt (i := 6) rfl rfl rfl rfl (by kernel_rfl) (fun _ => x_move rfl) ?_
        refine dt (i := 7) rfl rfl rfl rfl (by kernel_rfl) (fun _ => x_iag rfl rfl Try.underlying22 Try.sizeOf40 (by omega)) ?_
        refine dlt (i := 8) rfl rfl rfl rfl (by kernel_rfl) (by kernel_rfl) (fun w' hU => x_ldg (cs := encD d) rfl Try.isAgg40 Try.sizeOf40 rfl (fun j v h => hU.cell (FB.cell (hcd j v h) (by simp)) (by simp))) ?_
        refine dt (i := 9) rfl rfl rfl rfl (by kernel_rfl) (fun _ => x_move rfl) ?_
        refine dt (i := 10) rfl rfl rfl rfl (by kernel_rfl) (fun _ => x_move rfl) ?_
        refine dt (i := 11) rfl rfl rfl rfl (by kernel_rfl) (fun _ => x_iag rfl rfl Try.underlying22 Try.sizeOf40 (by omega)) ?_
        refine dlt (i := 12) rfl rfl rfl rfl (by kernel_rfl) (by kernel_rfl) (fun w' hU => x_ldg (cs := encD dq) rfl Try.isAgg40 Try.sizeOf40 rfl (fun j v h => hU.cell (FB.cell (hcn j v h) (by simp)) (by simp))) ?_
        refine d1 (i := 13) (by kernel_rfl) ?_
        refine oc rfl rfl rfl rfl (c_fn rfl Try.call20 (ahead_c _ d dq)) ?_
        rintro _ w6 ⟨rfl, fr⟩
        replace F := F.trans fr
        replace G := G.trans fr
        clear fr
        refine ⟨.inr G, ?_⟩
        cases hf4_13 : (decide (ahead d dq))
        · skip
          refine dt (i := 14) rfl rfl rfl rfl (by kernel_rfl) (fun _ => x_pick1 rfl rfl) ?_
          refine dn (by kernel_rfl) ?_
          refine al_k ?_
          refine cl_if0 rfl rfl ?_
          refine cl_skip rfl ?_
          refine al_k ?_
          refine cl_reg rfl ?_
          refine st rfl rfl rfl rfl (x_add rfl rfl (by omega)) ?_
          refine st rfl rfl rfl rfl (x_move rfl) ?_
          refine rl_end rfl ?_
          refine again (j + 1) (by omega) ⟨rfl, rfl, rfl, rfl, rfl, trivial⟩ ⟨⟨by omega, ?_⟩, F⟩
          intro m d2 hm h2 hb
          rcases Nat.lt_or_ge m j with h | h
          · exact hno m d2 h h2 hb
          · obtain rfl : m = j := by omega
            rw [hd] at h2
            obtain rfl := Option.some.inj h2
            rw [atI_nat hdq]
            first | exact of_decide_eq_false hf4_13 | (rw [hf4_2] at hb; cases hb)
        · skip
          refine dt (i := 14) rfl rfl rfl rfl (by kernel_rfl) (fun _ => x_pick1 rfl rfl) ?_
          refine dn (by kernel_rfl) ?_
          refine al_k ?_
          refine cl_if1 rfl rfl ?_
          refine cl_seq rfl ?_
          refine cl_reg rfl ?_
          refine st rfl rfl rfl rfl (x_asg rfl) ?_
          refine rl_end rfl ?_
          refine al_k ?_
          refine cl_ret rfl ?_
          refine fin1 rfl rfl ?_
          rw [dc_false (P := freeI l done i) (fun h => by have := h.1 j d hd hf4_2; rw [atI_nat hdq] at this; exact this (of_decide_eq_true hf4_13))]
          exact ⟨rfl, F⟩
      · skip
        refine dt (i := 3) rfl rfl rfl rfl (by kernel_rfl) (fun _ => x_not1 rfl) ?_
        refine dt (i := 4) rfl rfl rfl rfl (by kernel_rfl) (fun _ => x_move rfl) ?_
        refine dz (i := 5) rfl rfl rfl rfl (by kernel_rfl) ?_
        refine dz (i := 6) rfl rfl rfl rfl (by kernel_rfl) ?_
        refine dz (i := 7) rfl rfl rfl rfl (by kernel_rfl) ?_
        refine dz (i := 8) rfl rfl rfl rfl (by kernel_rfl) ?_
        refine dz (i := 9) rfl rfl rfl rfl (by kernel_rfl) ?_
        refine dz (i := 10) rfl rfl rfl rfl (by kernel_rfl) ?_
        refine dz (i := 11) rfl rfl rfl rfl (by kernel_rfl) ?_
        refine dz (i := 12) rfl rfl rfl rfl (by kernel_rfl) ?_
        refine dz (i := 13) rfl rfl rfl rfl (by kernel_rfl) ?_
        refine dt (i := 14) rfl rfl rfl rfl (by kernel_rfl) (fun _ => x_pick0 rfl rfl) ?_
        refine dn (by kernel_rfl) ?_
        refine al_k ?_
        refine cl_if0 rfl rfl ?_
        refine cl_skip rfl ?_
        refine al_k ?_
        refine cl_reg rfl ?_
        refine st rfl rfl rfl rfl (x_add rfl rfl (by omega)) ?_
        refine st rfl rfl rfl rfl (x_move rfl) ?_
        refine rl_end rfl ?_
        refine again (j + 1) (by omega) ⟨rfl, rfl, rfl, rfl, rfl, trivial⟩ ⟨⟨by omega, ?_⟩, F⟩
        intro m d2 hm h2 hb
        rcases Nat.lt_or_ge m j with h | h
        · exact hno m d2 h h2 hb
        · obtain rfl : m = j := by omega
          rw [hd] at h2
          obtain rfl := Option.some.inj h2
          rw [atI_nat hdq]
          first | exact of_decide_eq_false hf4_13 | (rw [hf4_2] at hb; cases hb)
    · skip
      refine rl_end rfl ?_
      refine al_k ?_
      refine cl_seq rfl ?_
      refine cl_if0 rfl rfl ?_
      refine cl_exit rfl ?_
      refine upd_self ?_
      refine al_k ?_
      refine cl_seq rfl ?_
      refine cl_reg rfl ?_
      refine st rfl rfl rfl rfl (x_move rfl) ?_
      refine st rfl rfl rfl rfl (x_move rfl) ?_
      refine sc rfl rfl rfl rfl (c_fn rfl Try.call35 (Has_c _ done i (by omega))) ?_
      rintro _ wk ⟨rfl, hwk⟩
      obtain rfl := hwk.symm
      refine st rfl rfl rfl rfl (x_not rfl) ?_
      refine st rfl rfl rfl rfl (x_asg rfl) ?_
      refine rl_end rfl ?_
      refine al_k ?_
      refine cl_ret rfl ?_
      refine fin1 rfl rfl ?_
      obtain rfl : j = l.length := by omega
      refine ⟨congrArg Value.bool ?_, F⟩
      cases hb : done.getLsbD i with
      | true => rw [dc_false (P := freeI l done i) (fun h => by rw [h.2] at hb; cases hb)]; rfl
      | false => rw [dc_true (P := freeI l done i) ⟨fun k d hd hk => hno k d (List.getElem?_eq_some_iff.1 hd).1 hd hk, hb⟩]; rfl

theorem goneP_c (w : World) (A : Option Addr) (c : Nat) (l : List D) (HR : RowG encD 6 w A l) (bl bd : Nat) (d : D) (Bl : Blk w bl 22 [.slice A l.length c]) (Bd : Blk w bd 40 (encD d)) (x : Int) (hx : 0 ≤ x ∧ x < (l.length : Int)) : Cl Try.prog 40 [.int .i64 x, .pointer (some ⟨bl, 0, none⟩), .pointer (some ⟨bd, 0, none⟩)] w (fun v w' => v = .bool (decide ((atI l x).lane = d.lane)) ∧ Fr [] w w') := by
  have F := Fr.refl [] w
  refine enter Try.func40 rfl Try.ntmps40 rfl ?_
  refine cl_seq rfl ?_
  refine cl_reg rfl ?_
  refine st rfl rfl rfl rfl (x_asg rfl) ?_
  refine rl_end rfl ?_
  refine al_k ?_
  refine cl_seq rfl ?_
  obtain ⟨dx, hdx⟩ : ∃ d, l[x.toNat]? = some d := ⟨_, List.getElem?_eq_getElem (by omega)⟩
  obtain ⟨a, rfl, hcx⟩ := HR _ dx hdx
  refine cl_draw (by kernel_rfl) rfl [] (fun w' => w'.heap = w.heap) ?_
  rintro wd1 frd1 hpd1
  refine ⟨hpd1, ?_⟩
  refine dlt (i := 0) rfl rfl rfl rfl (by kernel_rfl) (by kernel_rfl) (fun w' hU => x_ld rfl Try.isAgg22 (heq hU (Bl.cell rfl))) ?_
  refine dt (i := 1) rfl rfl rfl rfl (by kernel_rfl) (fun _ => x_move rfl) ?_
  refine dt (i := 2) rfl rfl rfl rfl (by kernel_rfl) (fun _ => x_iag rfl rfl Try.underlying22 Try.sizeOf40 (by omega)) ?_
  refine dt (i := 3) rfl rfl rfl rfl (by kernel_rfl) (fun _ => x_fag rfl Try.underlying40 rfl Try.sizeOf3 1 rfl) ?_
  refine dlt (i := 4) rfl rfl rfl rfl (by kernel_rfl) (by kernel_rfl) (fun w' hU => x_ld rfl Try.isAgg3 (heq hU (hcx 1 _ rfl))) ?_
  refine dt (i := 5) rfl rfl rfl rfl (by kernel_rfl) (fun _ => x_fa rfl Try.underlying40 rfl Try.sizeOf3 1 rfl) ?_
  refine dlt (i := 6) rfl rfl rfl rfl (by kernel_rfl) (by kernel_rfl) (fun w' hU => x_ld rfl Try.isAgg3 (heq hU (Bd.cell rfl))) ?_
  refine dt (i := 7) rfl rfl rfl rfl (by kernel_rfl) (fun _ => x_eql rfl rfl) ?_
  refine dt (i := 8) rfl rfl rfl rfl (by kernel_rfl) (fun _ => x_asg rfl) ?_
  replace F := F.trans frd1
  refine dn (by kernel_rfl) ?_
  refine al_k ?_
  refine cl_ret rfl ?_
  refine fin1 rfl rfl ?_
  rw [atI_some hdx]
  exact ⟨rfl, F⟩

theorem pthen_c (w : World) (A : Option Addr) (c : Nat) (l : List D) (HR : RowG encD 6 w A l) (A3 : Option Addr) (c3 : Nat) (p : List Int) (HP : RowG encI 1 w A3 p) (hcp : p.length ≤ c3) (hp : p.length ≤ 900) (hpr : okRow l p) (i : Nat) (hi : i < l.length) : Cl Try.prog 27 [.slice A3 p.length c3, .slice A l.length c, .int .i64 i] w (fun r w' => PQ w' r (pstep l p (i : Int)) ∧ Fr [] w w') := by
  have F := Fr.refl [] w
  refine enter Try.func27 rfl Try.ntmps27 rfl ?_
  refine cl_seq rfl ?_
  refine cl_reg rfl ?_
  refine se rfl rfl rfl rfl (e_new (x_box (cs := [.slice A l.length c]) rfl rfl)) ?_
  rintro _ w4 ⟨rfl, b4, fr, _⟩
  replace F := F.trans fr
  clear fr
  refine st rfl rfl rfl rfl (x_asg rfl) ?_
  refine st rfl rfl rfl rfl (x_asg rfl) ?_
  refine rl_end rfl ?_
  refine al_k ?_
  refine cl_seq rfl ?_
  obtain ⟨d, hd⟩ : ∃ d, l[i]? = some d := ⟨_, List.getElem?_eq_getElem (by omega)⟩
  obtain ⟨a_, rfl, hcd⟩ := HR _ d hd
  have hat := atI_nat hd
  refine cl_reg rfl ?_
  refine st rfl rfl rfl rfl (x_ld rfl Try.isAgg22 (b4.cell rfl)) ?_
  refine st rfl rfl rfl rfl (x_move rfl) ?_
  refine st rfl rfl rfl rfl (x_iag rfl rfl Try.underlying22 Try.sizeOf40 (by omega)) ?_
  refine st rfl rfl rfl rfl (x_ldg (cs := encD d) rfl Try.isAgg40 Try.sizeOf40 rfl (fun j v h => F.cell (hcd j v h) (by simp))) ?_
  refine se rfl rfl rfl rfl (e_new (x_alloc Try.zeroValue40 rfl)) ?_
  rintro _ wbd ⟨rfl, bd, fA, _⟩
  refine sv rfl rfl rfl (v_n (vs := encD d) rfl rfl (oneD _) Try.sizeOf40 rfl bd (by decide)) ?_
  rintro wbdb ⟨bb2, fr⟩
  replace bd : Blk wbdb _ 40 (encD d) := bb2
  have FF := fA.trans_new fr (by intro q hq; simp at hq; subst hq; exact .inr (Nat.le_refl _))
  clear fr fA bb2
  replace F := F.trans FF
  replace b4 := b4.fr0 FF
  clear FF
  generalize hbdn : w4.heap.size = bdn at *
  refine rl_end rfl ?_
  refine al_k ?_
  refine cl_seq rfl ?_
  refine cl_seq rfl ?_
  refine cl_reg rfl ?_
  refine st rfl rfl rfl rfl (x_fa rfl Try.underlying40 rfl Try.sizeOf37 0 rfl) ?_
  refine st rfl rfl rfl rfl (x_ld rfl Try.isAgg37 (bd.cell rfl)) ?_
  refine rl_end rfl ?_
  refine al_k ?_
  refine cl_block rfl ?_
  refine cl_seq rfl ?_
  refine cl_reg rfl ?_
  refine sf rfl rfl rfl rfl (x_eql rfl rfl) (fun c3_0 => ?_) (fun c3_0 => ?_)
  · skip
    refine st rfl rfl rfl rfl (x_asg rfl) ?_
    refine rl_end rfl ?_
    refine al_k ?_
    refine cl_if1 rfl rfl ?_
    refine cl_seq rfl ?_
    have G := Fr.refl [] wbdb
    have FB := F
    refine cl_reg rfl ?_
    refine st rfl rfl rfl rfl (x_move rfl) ?_
    refine sc rfl rfl rfl rfl (c_fn rfl Try.call39 (cloneP_c _ A3 c3 p (HP.fr0 F) (by omega))) ?_
    rintro v12 w12 ⟨HO, fr⟩
    replace HO := own_mono HO G.size
    replace F := F.trans fr
    replace b4 := b4.fr0 fr
    replace bd := bd.fr0 fr
    replace G := G.trans fr
    clear fr
    refine st rfl rfl rfl rfl (x_move rfl) ?_
    refine se rfl rfl rfl rfl (e_new (x_bsl rfl (bsl1 Try.underlying56 Try.sizeOf3 Try.zeroValue3 rfl rfl))) ?_
    rintro _ wl ⟨rfl, b16, fr, _⟩
    replace F := F.trans fr
    replace b4 := b4.fr0 fr
    replace bd := bd.fr0 fr
    replace G := G.trans fr
    replace HO := own_fr0 HO fr
    clear fr
    refine se rfl rfl rfl rfl (e_app 1 8 (.int .i64 0) (encI (i : Int)) rfl rfl Try.underlying56 (by kernel_rfl) rfl (by decide) HO (by rw [lenI]) b16.news (oneIn _) (by omega) (by omega) G.size) ?_
    rintro va wa ⟨HOa, hg, hat2⟩
    have hge := own_ge HO
    replace F := F.grown hg (fun q hq => Nat.le_trans FB.size (hge q hq))
    clear hge HO
    refine st rfl rfl rfl rfl (x_asg rfl) ?_
    refine st rfl rfl rfl rfl (x_asg rfl) ?_
    refine rl_end rfl ?_
    refine al_k ?_
    refine cl_ret rfl ?_
    refine fin2 rfl rfl rfl ?_
    exact ⟨.yes (pstep_1 (by rw [hat]; exact c3_0)) (SlG.own (l := p ++ [(i : Int)]) (by decide) lenI HOa (by rw [List.length_append]; rfl) (by rw [flat_app', flat_one'])), F⟩
  · skip
    refine st rfl rfl rfl rfl (x_asg rfl) ?_
    refine rl_end rfl ?_
    refine al_k ?_
    refine cl_if0 rfl rfl ?_
    refine cl_seq rfl ?_
    refine cl_reg rfl ?_
    refine sf rfl rfl rfl rfl (x_eql rfl rfl) (fun c5_0 => ?_) (fun c5_0 => ?_)
    · skip
      refine st rfl rfl rfl rfl (x_asg rfl) ?_
      refine rl_end rfl ?_
      refine al_k ?_
      refine cl_if1 rfl rfl ?_
      refine cl_seq rfl ?_
      refine cl_seq rfl ?_
      refine cl_draw (by kernel_rfl) rfl [] (fun w' => w'.heap = wbdb.heap) ?_
      rintro wd6 frd6 hpd6
      refine ⟨hpd6, ?_⟩
      refine dt (i := 0) rfl rfl rfl rfl (by kernel_rfl) (fun _ => x_move rfl) ?_
      refine dt (i := 1) rfl rfl rfl rfl (by kernel_rfl) (fun _ => x_len rfl Try.underlying56) ?_
      refine dfk (i := 2) rfl rfl rfl rfl (by kernel_rfl) (fun _ => x_eql rfl rfl) (fun c6_2 => ?_) (fun c6_2 => ?_)
      · skip
        refine dt (i := 3) rfl rfl rfl rfl (by kernel_rfl) (fun _ => x_move rfl) ?_
        refine dz (i := 4) rfl rfl rfl rfl (by kernel_rfl) ?_
        refine dz (i := 5) rfl rfl rfl rfl (by kernel_rfl) ?_
        refine dz (i := 6) rfl rfl rfl rfl (by kernel_rfl) ?_
        refine dz (i := 7) rfl rfl rfl rfl (by kernel_rfl) ?_
        refine dz (i := 8) rfl rfl rfl rfl (by kernel_rfl) ?_
        refine dz (i := 9) rfl rfl rfl rfl (by kernel_rfl) ?_
        refine dz (i := 10) rfl rfl rfl rfl (by kernel_rfl) ?_
        refine dz (i := 11) rfl rfl rfl rfl (by kernel_rfl) ?_
        refine dz (i := 12) rfl rfl rfl rfl (by kernel_rfl) ?_
        refine dz (i := 13) rfl rfl rfl rfl (by kernel_rfl) ?_
        refine dt (i := 14) rfl rfl rfl rfl (by kernel_rfl) (fun _ => x_pick1 rfl rfl) ?_
        replace F := F.trans frd6
        replace b4 := b4.fr0 frd6
        replace bd := bd.fr0 frd6
        refine dn (by kernel_rfl) ?_
        refine al_k ?_
        refine cl_if1 rfl rfl ?_
        refine cl_seq rfl ?_
        refine cl_reg rfl ?_
        refine st rfl rfl rfl rfl (x_asg rfl) ?_
        refine st rfl rfl rfl rfl (x_asg rfl) ?_
        refine rl_end rfl ?_
        refine al_k ?_
        refine cl_ret rfl ?_
        refine fin2 rfl rfl rfl ?_
        obtain rfl : p = [] := List.eq_nil_of_length_eq_zero (by omega)
        exact ⟨.no (pstep_20 (by rw [hat]; exact c5_0)), F⟩
      · skip
        refine dt (i := 3) rfl rfl rfl rfl (by kernel_rfl) (fun _ => x_move rfl) ?_
        obtain ⟨x, q1, rfl⟩ : ∃ x q1, p = x :: q1 := by cases p with | nil => (simp at c6_2) | cons x q1 => exact ⟨x, q1, rfl⟩
        obtain ⟨a, rfl, hc0⟩ := RowI.at_ HP (j := 0) rfl
        obtain ⟨hx0, hx1⟩ := hpr x (by simp)
        obtain ⟨dx, hdx⟩ : ∃ d, l[x.toNat]? = some d := ⟨_, List.getElem?_eq_getElem (by omega)⟩
        obtain ⟨a9, ea, hcx⟩ := HR _ dx hdx
        obtain rfl := Option.some.inj ea
        refine dlt (i := 4) rfl rfl rfl rfl (by kernel_rfl) (by kernel_rfl) (fun w' hU => x_ld rfl Try.isAgg22 (heq hU (b4.cell rfl))) ?_
        refine dt (i := 5) rfl rfl rfl rfl (by kernel_rfl) (fun _ => x_move rfl) ?_
        refine dt (i := 6) rfl rfl rfl rfl (by kernel_rfl) (fun _ => x_iag rfl rfl Try.underlying56 Try.sizeOf3 (by simp only [List.length_cons]; omega)) ?_
        refine dlt (i := 7) rfl rfl rfl rfl (by kernel_rfl) (by kernel_rfl) (fun w' hU => x_ld rfl Try.isAgg3 (heq hU (F.cell hc0 (by simp)))) ?_
        refine dt (i := 8) rfl rfl rfl rfl (by kernel_rfl) (fun _ => x_iag rfl rfl Try.underlying22 Try.sizeOf40 (by omega)) ?_
        refine dt (i := 9) rfl rfl rfl rfl (by kernel_rfl) (fun _ => x_fag rfl Try.underlying40 rfl Try.sizeOf38 2 rfl) ?_
        refine dlt (i := 10) rfl rfl rfl rfl (by kernel_rfl) (by kernel_rfl) (fun w' hU => x_ld rfl Try.isAgg38 (heq hU (F.cell (hcx 2 _ rfl) (by simp)))) ?_
        refine dt (i := 11) rfl rfl rfl rfl (by kernel_rfl) (fun _ => x_fa rfl Try.underlying40 rfl Try.sizeOf38 2 rfl) ?_
        refine dlt (i := 12) rfl rfl rfl rfl (by kernel_rfl) (by kernel_rfl) (fun w' hU => x_ld rfl Try.isAgg38 (heq hU (bd.cell rfl))) ?_
        refine dfk (i := 13) rfl rfl rfl rfl (by kernel_rfl) (fun _ => x_neq rfl rfl) (fun c6_13 => ?_) (fun c6_13 => ?_)
        · skip
          refine dt (i := 14) rfl rfl rfl rfl (by kernel_rfl) (fun _ => x_pick0 rfl rfl) ?_
          replace F := F.trans frd6
          replace b4 := b4.fr0 frd6
          replace bd := bd.fr0 frd6
          refine dn (by kernel_rfl) ?_
          refine al_k ?_
          refine cl_if1 rfl rfl ?_
          refine cl_seq rfl ?_
          refine cl_reg rfl ?_
          refine st rfl rfl rfl rfl (x_asg rfl) ?_
          refine st rfl rfl rfl rfl (x_asg rfl) ?_
          refine rl_end rfl ?_
          refine al_k ?_
          refine cl_ret rfl ?_
          refine fin2 rfl rfl rfl ?_
          exact ⟨.no (pstep_2n (by rw [hat]; exact c5_0) (by rw [hat, atI_some hdx]; exact c6_13)), F⟩
        · skip
          refine dt (i := 14) rfl rfl rfl rfl (by kernel_rfl) (fun _ => x_pick0 rfl rfl) ?_
          replace F := F.trans frd6
          replace b4 := b4.fr0 frd6
          replace bd := bd.fr0 frd6
          refine dn (by kernel_rfl) ?_
          refine al_k ?_
          refine cl_if0 rfl rfl ?_
          refine cl_skip rfl ?_
          refine al_k ?_
          refine cl_seq rfl ?_
          refine cl_reg rfl ?_
          refine st rfl rfl rfl rfl (x_move rfl) ?_
          refine st rfl rfl rfl rfl (x_sll rfl rfl Try.underlying56 Try.sizeOf3 (by simp only [List.length_cons]; omega)) ?_
          refine st rfl rfl rfl rfl (x_asg rfl) ?_
          refine st rfl rfl rfl rfl (x_asg rfl) ?_
          refine rl_end rfl ?_
          refine al_k ?_
          refine cl_ret rfl ?_
          refine fin2 rfl rfl rfl ?_
          exact ⟨.yes (pstep_2y (by rw [hat]; exact c5_0) (by rw [hat, atI_some hdx]; exact Decidable.not_not.1 c6_13)) ⟨_, _, rfl, RowG.tail (HP.fr0 F) hcp, by simp only [List.length_cons] at hcp; show q1.length ≤ c3 - 1; omega⟩, F⟩
    · skip
      refine st rfl rfl rfl rfl (x_asg rfl) ?_
      refine rl_end rfl ?_
      refine al_k ?_
      refine cl_if0 rfl rfl ?_
      refine cl_seq rfl ?_
      refine cl_reg rfl ?_
      refine sf rfl rfl rfl rfl (x_eql rfl rfl) (fun c9_0 => ?_) (fun c9_0 => ?_)
      · skip
        refine st rfl rfl rfl rfl (x_asg rfl) ?_
        refine rl_end rfl ?_
        refine al_k ?_
        refine cl_if1 rfl rfl ?_
        refine cl_seq rfl ?_
        refine cl_reg rfl ?_
        refine st rfl rfl rfl rfl (x_move rfl) ?_
        refine st rfl rfl rfl rfl (x_move rfl) ?_
        refine st rfl rfl rfl rfl (x_len rfl Try.underlying56) ?_
        refine sf rfl rfl rfl rfl (x_eql rfl rfl) (fun c10_3 => ?_) (fun c10_3 => ?_)
        · skip
          refine st rfl rfl rfl rfl (x_asg rfl) ?_
          refine st rfl rfl rfl rfl (x_asg rfl) ?_
          refine rl_end rfl ?_
          refine al_k ?_
          refine cl_ret rfl ?_
          refine fin2 rfl rfl rfl ?_
          obtain rfl : p = [] := List.eq_nil_of_length_eq_zero (by omega)
          exact ⟨.yes (by rw [pstep_3 (by rw [hat]; exact c9_0)]; rfl) ⟨A3, c3, rfl, RowG.nil _ _, hcp⟩, F⟩
        · skip
          refine st rfl rfl rfl rfl (x_asg rfl) ?_
          refine st rfl rfl rfl rfl (x_asg rfl) ?_
          refine rl_end rfl ?_
          refine al_k ?_
          refine cl_ret rfl ?_
          refine fin2 rfl rfl rfl ?_
          exact ⟨.no (by rw [pstep_3 (by rw [hat]; exact c9_0), if_neg (fun h => by subst h; exact c10_3 rfl)]), F⟩
      · skip
        refine st rfl rfl rfl rfl (x_asg rfl) ?_
        refine rl_end rfl ?_
        refine al_k ?_
        refine cl_if0 rfl rfl ?_
        refine cl_skip rfl ?_
        refine al_k ?_
        refine cl_seq rfl ?_
        refine cl_reg rfl ?_
        refine st rfl rfl rfl rfl (x_mkf rfl rfl) ?_
        refine st rfl rfl rfl rfl (x_asg rfl) ?_
        refine rl_end rfl ?_
        refine al_k ?_
        refine cl_seq rfl ?_
        refine cl_reg rfl ?_
        refine st rfl rfl rfl rfl (x_move rfl) ?_
        refine sc rfl rfl rfl rfl (c_fn rfl Try.call39 (cloneP_c _ A3 c3 p (HP.fr0 F) (by omega))) ?_
        rintro v40 w40 ⟨HO, fr⟩
        obtain ⟨A7, c7, rfl, HR7, hc7⟩ := SlG.own (by decide) lenI HO rfl rfl
        have FC := Fr.refl [] wbdb
        replace FC := FC.trans fr
        have bdC := bd
        have b4C := b4
        have FW := F
        replace F := F.trans fr
        replace b4 := b4.fr0 fr
        replace bd := bd.fr0 fr
        clear fr
        refine st rfl rfl rfl rfl (x_move rfl) ?_
        refine sc rfl rfl rfl rfl (c_fn rfl Try.call41 (deleteP_c _ A7 c7 p _ (fun x => decide ((atI l x).lane = d.lane)) 40 [.pointer (some ⟨w.heap.size, 0, none⟩), .pointer (some ⟨bdn, 0, none⟩)] Try.call40 (fun w1 h1 x hx => goneP_c w1 _ c l (HR.fr0 (FW.trans h1)) _ _ d (b4C.fr0 h1) (bdC.fr0 h1) x (hpr x hx)) FC HO HR7 (by omega))) ?_
        rintro r42 w42 ⟨hs42, fr⟩
        replace F := FW.trans fr
        clear fr
        refine st rfl rfl rfl rfl (x_asg rfl) ?_
        refine st rfl rfl rfl rfl (x_asg rfl) ?_
        refine rl_end rfl ?_
        refine al_k ?_
        refine cl_ret rfl ?_
        refine fin2 rfl rfl rfl ?_
        refine ⟨.yes (pstep_4 (by rw [hat]; exact c3_0) (by rw [hat]; exact c5_0) (by rw [hat]; exact c9_0)) ?_, F⟩
        have e : (p.filter fun x => decide ((atI l x).lane ≠ (atI l (i : Int)).lane)) = p.filter (fun x => !decide ((atI l x).lane = d.lane)) := List.filter_congr (fun x _ => by rw [hat]; simp)
        rw [e]
        exact hs42

theorem spliceT (t s : BitVec 64) (q p : List Int) (m n : Nat) : splice (encTn t q m) 0 (encTn s p n) = encTn s p n := by
  have h := splice_eq (encTn s p n) [] (encTn t q m) [] (by rw [lenTn, lenTn])
  simpa using h

theorem at_c (w : World) (A3 : Option Addr) (c3 : Nat) (p : List Int) (HP : RowG encI 1 w A3 p) (hp : p.length ≤ 24) (s : BitVec 64) : Cl Try.prog 25 [.slice A3 p.length c3, .int .u64 ((s).toNat : Nat)] w (fun v w' => v = .agg (encT (s, p)).toArray ∧ Fr [] w w') := by
  have F := Fr.refl [] w
  refine enter Try.func25 rfl Try.ntmps25 rfl ?_
  refine cl_seq rfl ?_
  refine cl_reg rfl ?_
  refine se rfl rfl rfl rfl (e_new (x_alloc (cs := encTn 0#64 [] 0) zT rfl)) ?_
  rintro _ w4 ⟨rfl, b4, fr, _⟩
  replace F := F.trans fr
  clear fr
  refine rl_end rfl ?_
  refine al_k ?_
  refine cl_seq rfl ?_
  refine cl_reg rfl ?_
  refine st rfl rfl rfl rfl (x_move rfl) ?_
  refine st rfl rfl rfl rfl (x_move rfl) ?_
  refine st rfl rfl rfl rfl (x_len rfl Try.underlying56) ?_
  refine st rfl rfl rfl rfl (x_build rfl (bldT s p.length _)) ?_
  refine se rfl rfl rfl rfl (e_new (x_alloc (cs := encTn 0#64 [] 0) zT rfl)) ?_
  rintro _ w5 ⟨rfl, b5, fr, _⟩
  have n45 : w.heap.size ≠ w4.heap.size := Nat.ne_of_lt b4.lt
  have hb5w : w.heap.size ≤ w4.heap.size := F.size
  replace F := F.trans fr
  replace b4 := b4.fr0 fr
  clear fr
  generalize hb5n : w4.heap.size = n5 at *
  refine sv rfl rfl rfl (v_n (vs := encTn s [] p.length) rfl rfl (oneTn _ _ _) Try.sizeOf59 (lenTn _ _ _) b5 (by rw [lenTn]; omega)) ?_
  rintro w5b ⟨b5x, fr⟩
  rw [spliceT] at b5x
  replace b5 := b5x
  replace b4 := b4.fr fr (by simpa using n45)
  replace F := F.trans_new fr (by intro q hq; simp at hq; subst hq; exact .inr hb5w)
  clear fr b5x
  refine rl_end rfl ?_
  refine al_k ?_
  refine cl_seq rfl ?_
  refine cl_seq rfl ?_
  refine cl_reg rfl ?_
  refine st rfl rfl rfl rfl (x_move rfl) ?_
  refine st rfl rfl rfl rfl (x_len rfl Try.underlying56) ?_
  refine st rfl rfl rfl rfl (x_move rfl) ?_
  refine rl_end rfl ?_
  refine al_k ?_
  refine cl_block rfl ?_
  refine cl_loop (fun j : Nat => [(14, .int .i64 j), (13, .int .i64 p.length), (12, .slice A3 p.length c3), (5, .pointer (some ⟨n5, 0, none⟩)), (4, .pointer (some ⟨w.heap.size, 0, none⟩))]) (fun j w' => j ≤ p.length ∧ Blk w' n5 59 (encTn s (p.take j) p.length) ∧ Blk w' w.heap.size 59 (encTn 0#64 [] 0) ∧ Fr [] w w') (fun j => p.length - j) 0 rfl ⟨rfl, rfl, rfl, rfl, rfl, trivial⟩ ?_ ?_
  · exact ⟨Nat.zero_le _, b5, b4, F⟩
  · skip
    rintro j wr ⟨hj, b5, b4, F⟩
    refine cl_seq rfl ?_
    refine cl_reg rfl ?_
    refine sf rfl rfl rfl rfl (x_lss rfl rfl) (fun c3_0 => ?_) (fun c3_0 => ?_)
    · skip
      refine rl_end rfl ?_
      refine al_k ?_
      refine cl_seq rfl ?_
      refine cl_if1 rfl rfl ?_
      refine cl_skip rfl ?_
      refine al_k ?_
      refine cl_seq rfl ?_
      refine cl_block rfl ?_
      refine cl_seq rfl ?_
      obtain ⟨x, hx⟩ : ∃ x, p[j]? = some x := ⟨_, List.getElem?_eq_getElem (by omega)⟩
      obtain ⟨a, rfl, hcx⟩ := RowI.at_ HP hx
      refine cl_reg rfl ?_
      refine st rfl rfl rfl rfl (x_move rfl) ?_
      refine st rfl rfl rfl rfl (x_iag rfl rfl Try.underlying56 Try.sizeOf3 (by omega)) ?_
      refine st rfl rfl rfl rfl (x_ld rfl Try.isAgg3 (F.cell hcx (by simp))) ?_
      refine st rfl rfl rfl rfl (x_asg rfl) ?_
      refine st rfl rfl rfl rfl (x_asg rfl) ?_
      refine rl_end rfl ?_
      refine al_k ?_
      refine cl_reg rfl ?_
      refine st rfl rfl rfl rfl (x_move rfl) ?_
      refine st rfl rfl rfl rfl (x_move rfl) ?_
      refine st rfl rfl rfl rfl (x_cvi rfl Try.underlying3 Try.underlying5) ?_
      refine st rfl rfl rfl rfl (x_fa rfl Try.underlying59 rfl Try.sizeOf57 1 rfl) ?_
      refine st rfl rfl rfl rfl (x_iaa rfl rfl Try.underlying57 Try.sizeOf5 (by omega)) ?_
      refine sv rfl rfl rfl (v_1 rfl rfl rfl rfl Try.sizeOf5 b5 (by rw [lenTn]; show 0 + 1 + (j : Int).toNat * 1 < 26; omega)) ?_
      rintro w55 ⟨b5x, fr⟩
      have e : 0 + 1 + ((j : Nat) : Int).toNat * 1 = 1 + j := by omega
      rw [e, encTn_set hx (by omega)] at b5x
      replace b5 := b5x
      replace b4 := b4.fr fr (by simpa using n45)
      replace F := F.trans_new fr (by intro q hq; simp at hq; subst hq; exact .inr hb5w)
      clear fr b5x e
      refine rl_end rfl ?_
      refine al_k ?_
      refine cl_reg rfl ?_
      refine st rfl rfl rfl rfl (x_add rfl rfl (by omega)) ?_
      refine st rfl rfl rfl rfl (x_move rfl) ?_
      refine rl_end rfl ?_
      refine again (j + 1) (by omega) ⟨rfl, rfl, rfl, rfl, rfl, trivial⟩ ⟨by omega, b5, b4, F⟩
    · skip
      refine rl_end rfl ?_
      refine al_k ?_
      refine cl_seq rfl ?_
      refine cl_if0 rfl rfl ?_
      refine cl_exit rfl ?_
      refine upd_self ?_
      refine al_k ?_
      refine cl_seq rfl ?_
      obtain rfl : j = p.length := by omega
      rw [List.take_length] at b5
      refine cl_reg rfl ?_
      refine st rfl rfl rfl rfl (x_ldn (cs := encTn s p p.length) rfl Try.isAgg59 Try.sizeOf59 (lenTn _ _ _) (by intro j v hv; rw [Nat.zero_add]; exact b5.cell hv)) ?_
      refine sv rfl rfl rfl (v_n (vs := encTn s p p.length) rfl rfl (oneTn _ _ _) Try.sizeOf59 (lenTn _ _ _) b4 (by rw [lenTn]; omega)) ?_
      rintro w7 ⟨b7, fr⟩
      rw [spliceT] at b7
      replace F := F.trans_new fr (by intro q hq; simp at hq; subst hq; exact .inr (Nat.le_refl _))
      refine rl_end rfl ?_
      refine al_k ?_
      refine cl_ret rfl ?_
      refine fin_c rfl rfl (run_ldv Try.isAgg59 Try.sizeOf59 (lenTn _ _ _) b7) ?_
      exact ⟨rfl, F⟩

end Go.Proofs.Ytmeheoflfdmgiaa.Lin
