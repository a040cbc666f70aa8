/- The reference: the walks of Held, New, and of what compares rows of names. -/
import Derived.Test.YtjjaijabdfoanaaDoorArW15
import Derived.Test.YtjjaijabdfoanaaDoorArQ
set_option linter.unusedVariables false
namespace Go.Proofs.YtjjaijabdfoanaaDoor.Arn
open Go Go.RowKit Go.Proofs.YtjjaijabdfoanaaDoor.Sx Go.Proofs.YtjjaijabdfoanaaDoor.Ls Go.Proofs.YtjjaijabdfoanaaDoor
set_option maxRecDepth 100000

theorem rheld_c (w : World) (B0 B : Nat) (r : RK) (qs : List Int) (x : Ar) (R : RAt w B0 B r qs x) (hS : Sz qs x) (hok : okQ qs) (part : Int) : Cl Tryd.prog 24 [.pointer (some ⟨r.rp, 0, none⟩), .int .i64 part] w (fun v w' => ∃ A c, v = .slice A (names x part).length c ∧ w'.ownsRow w.heap.size 33 2 (.slice A (names x part).length c) (names x part).length (flat encN (names x part)) ∧ Fr [] w w') := by
  have hs0 := hS.I.sl
  refine enter Tryd.func24 rfl Tryd.ntmps24 rfl ?_
  refine cl_seq rfl ?_
  refine cl_reg rfl ?_
  refine st rfl rfl rfl rfl (x_asg rfl) ?_
  refine rl_end rfl ?_
  refine al_k ?_
  refine cl_seq rfl ?_
  refine cl_reg rfl ?_
  refine st rfl rfl rfl rfl (x_asg rfl) ?_
  refine rl_end rfl ?_
  refine al_k ?_
  refine cl_seq rfl ?_
  refine cl_seq rfl ?_
  refine cl_reg rfl ?_
  refine st rfl rfl rfl rfl (x_asg rfl) ?_
  refine rl_end rfl ?_
  refine al_k ?_
  refine cl_block rfl ?_
  refine cl_loop (fun s : Nat × Value => [(6, .int .i64 s.1), (5, s.2), (0, .pointer (some ⟨r.rp, 0, none⟩)), (1, .int .i64 part)]) (fun s w' => s.1 ≤ x.slots.length ∧ w'.ownsRow w.heap.size 33 2 s.2 ((heldTo x part s.1).map (nmOf x)).length (flat encN ((heldTo x part s.1).map (nmOf x))) ∧ Fr [] w w') (fun s => x.slots.length - s.1) (0, .slice none 0 0) rfl ⟨rfl, rfl, rfl, rfl, trivial⟩ ?_ ?_
  · exact ⟨Nat.zero_le _, own_nil _ _ _, Fr.refl _ _⟩
  · skip
    rintro ⟨i, v⟩ wr ⟨hi, HO, F⟩
    dsimp only at hi HO ⊢
    have hln : ((heldTo x part i).map (nmOf x)).length ≤ 65536 := by rw [List.length_map]; unfold heldTo; have := List.length_filter_le (isH x part) (List.range i); rw [List.length_range] at this; omega
    refine cl_seq rfl ?_
    refine cl_seq rfl ?_
    refine cl_reg rfl ?_
    refine st rfl rfl rfl rfl (x_move rfl) ?_
    refine st rfl rfl rfl rfl (x_move rfl) ?_
    refine st rfl rfl rfl rfl (x_nil rfl) ?_
    refine st rfl rfl rfl rfl (x_fa rfl Tryd.underlying79 rfl Tryd.sizeOf76 1 rfl) ?_
    refine st rfl rfl rfl rfl (x_ld rfl Tryd.isAgg76 ((R.fr0 F).c1)) ?_
    refine st rfl rfl rfl rfl (x_len rfl Tryd.underlying76) ?_
    refine sf rfl rfl rfl rfl (x_lss rfl rfl) (fun c3_6 => ?_) (fun c3_6 => ?_)
    · skip
      refine rl_end rfl ?_
      refine al_k ?_
      refine cl_if1 rfl rfl ?_
      refine cl_skip rfl ?_
      refine al_k ?_
      refine cl_seq rfl ?_
      refine cl_block rfl ?_
      refine cl_seq rfl ?_
      have hil : i < x.slots.length := by omega
      obtain ⟨s, hs⟩ : ∃ s, x.slots[i]? = some s := ⟨_, List.getElem?_eq_getElem hil⟩
      have hpt := part_some (x := x) (N := (i : Int)) (by omega) (by rw [Int.toNat_natCast]; exact hs)
      have hix : 0 ≤ (i : Int) ∧ (i : Int) < x.slots.length := by omega
      refine cl_reg rfl ?_
      refine st rfl rfl rfl rfl (x_move rfl) ?_
      refine st rfl rfl rfl rfl (x_move rfl) ?_
      refine sc rfl rfl rfl rfl (c_fn rfl Tryd.call20 (rPart_c _ B0 B r qs x (R.fr0 F) hS hok (i : Int) (by omega))) ?_
      rintro _ wk ⟨rfl, hwk⟩
      obtain rfl := hwk.symm
      rw [hpt]
      refine st rfl rfl rfl rfl (x_move rfl) ?_
      refine st rfl rfl rfl rfl (x_ext rfl rfl) ?_
      refine st rfl rfl rfl rfl (x_ext rfl rfl) ?_
      refine st rfl rfl rfl rfl (x_asg rfl) ?_
      refine st rfl rfl rfl rfl (x_asg rfl) ?_
      refine rl_end rfl ?_
      refine al_k ?_
      refine cl_seq rfl ?_
      refine cl_reg rfl ?_
      refine st rfl rfl rfl rfl (x_move rfl) ?_
      refine st rfl rfl rfl rfl (x_nil rfl) ?_
      refine st rfl rfl rfl rfl (x_fa rfl Tryd.underlying79 rfl Tryd.sizeOf76 1 rfl) ?_
      refine st rfl rfl rfl rfl (x_ld rfl Tryd.isAgg76 ((R.fr0 F).c1' (ne_of_at hs))) ?_
      refine st rfl rfl rfl rfl (x_move rfl) ?_
      refine st rfl rfl rfl rfl (x_ia0 rfl rfl Tryd.underlying76 Tryd.sizeOf81 hix) ?_
      refine st rfl rfl rfl rfl (x_fa rfl Tryd.underlying81 rfl Tryd.sizeOf4 2 rfl) ?_
      refine st rfl rfl rfl rfl (x_ld rfl Tryd.isAgg4 ((R.fr0 F).cCl hs (j := 2) rfl)) ?_
      cases hf6_7 : (s.held)
      · skip
        refine st rfl rfl rfl rfl (x_move rfl) ?_
        refine so rfl rfl rfl rfl ?_
        refine so rfl rfl rfl rfl ?_
        refine so rfl rfl rfl rfl ?_
        refine st rfl rfl rfl rfl (x_pick0 rfl rfl) ?_
        refine rl_end rfl ?_
        refine al_k ?_
        refine cl_if0 rfl rfl ?_
        refine cl_skip rfl ?_
        refine al_k ?_
        refine cl_reg rfl ?_
        refine st rfl rfl rfl rfl (x_move rfl) ?_
        refine st rfl rfl rfl rfl (x_add rfl rfl (by omega)) ?_
        refine st rfl rfl rfl rfl (x_asg rfl) ?_
        refine rl_end rfl ?_
        have hno : isH x part i = false := by rw [isH_some hs, hf6_7]; rfl
        refine again (i + 1, v) (by dsimp only; omega) ⟨rfl, rfl, rfl, rfl, trivial⟩ ⟨by dsimp only; omega, by dsimp only; rw [heldTo_no hno]; exact HO, F⟩
      · skip
        refine st rfl rfl rfl rfl (x_move rfl) ?_
        refine st rfl rfl rfl rfl (x_move rfl) ?_
        refine st rfl rfl rfl rfl (x_move rfl) ?_
        refine sf rfl rfl rfl rfl (x_eql rfl rfl) (fun c6_11 => ?_) (fun c6_11 => ?_)
        · skip
          refine st rfl rfl rfl rfl (x_pick1 rfl rfl) ?_
          refine rl_end rfl ?_
          refine al_k ?_
          refine cl_if1 rfl rfl ?_
          refine cl_reg rfl ?_
          refine st rfl rfl rfl rfl (x_move rfl) ?_
          refine st rfl rfl rfl rfl (x_move rfl) ?_
          refine st rfl rfl rfl rfl (x_move rfl) ?_
          refine st rfl rfl rfl rfl (x_nil rfl) ?_
          refine st rfl rfl rfl rfl (x_fa rfl Tryd.underlying79 rfl Tryd.sizeOf76 1 rfl) ?_
          refine st rfl rfl rfl rfl (x_ld rfl Tryd.isAgg76 ((R.fr0 F).c1' (ne_of_at hs))) ?_
          refine st rfl rfl rfl rfl (x_move rfl) ?_
          refine st rfl rfl rfl rfl (x_ia0 rfl rfl Tryd.underlying76 Tryd.sizeOf81 hix) ?_
          refine st rfl rfl rfl rfl (x_fa rfl Tryd.underlying81 rfl Tryd.sizeOf31 1 rfl) ?_
          refine st rfl rfl rfl rfl (x_ld rfl Tryd.isAgg31 ((R.fr0 F).cCl hs (j := 1) rfl)) ?_
          refine st rfl rfl rfl rfl (x_build rfl (bldN _ _ _)) ?_
          refine se rfl rfl rfl rfl (e_new (x_bsl rfl (bslN _ _ _))) ?_
          rintro _ wn ⟨rfl, bn, fr, _⟩
          replace HO := own_fr0 HO fr
          replace F := F.trans fr
          clear fr
          refine se rfl rfl rfl rfl (e_app 2 16 (.agg #[.int .i64 0, .int .u64 0]) _ rfl rfl Tryd.underlying30 (by kernel_rfl) rfl (by decide) HO rfl bn.news (oneN (_, _)) (by omega) (by omega) F.size) ?_
          rintro v1 wa ⟨HO1, hg, hat⟩
          replace F := F.grown hg (own_ge HO)
          rw [encN_snoc] at HO1
          have hyes : isH x part i = true := by rw [isH_some hs, hf6_7]; simp; exact c6_11
          have hsn : ((heldTo x part (i + 1)).map (nmOf x)) = ((heldTo x part i).map (nmOf x)) ++ [((i : Int), s.gen)] := by rw [heldTo_yes hyes, List.map_append]; simp [nmOf, hs]
          have HO2 := own_cast (n2 := ((heldTo x part (i + 1)).map (nmOf x)).length) (ys := flat encN ((heldTo x part (i + 1)).map (nmOf x))) HO1 (by rw [hsn, List.length_append]; rfl) (by rw [hsn])
          refine st rfl rfl rfl rfl (x_asg rfl) ?_
          refine rl_end rfl ?_
          refine al_k ?_
          refine cl_reg rfl ?_
          refine st rfl rfl rfl rfl (x_move rfl) ?_
          refine st rfl rfl rfl rfl (x_add rfl rfl (by omega)) ?_
          refine st rfl rfl rfl rfl (x_asg rfl) ?_
          refine rl_end rfl ?_
          refine again (i + 1, v1) (by dsimp only; omega) ⟨rfl, rfl, rfl, rfl, trivial⟩ ⟨by dsimp only; omega, HO2, F⟩
        · skip
          refine st rfl rfl rfl rfl (x_pick1 rfl rfl) ?_
          refine rl_end rfl ?_
          refine al_k ?_
          refine cl_if0 rfl rfl ?_
          refine cl_skip rfl ?_
          refine al_k ?_
          refine cl_reg rfl ?_
          refine st rfl rfl rfl rfl (x_move rfl) ?_
          refine st rfl rfl rfl rfl (x_add rfl rfl (by omega)) ?_
          refine st rfl rfl rfl rfl (x_asg rfl) ?_
          refine rl_end rfl ?_
          have hno : isH x part i = false := by rw [isH_some hs, hf6_7]; simp; exact c6_11
          refine again (i + 1, v) (by dsimp only; omega) ⟨rfl, rfl, rfl, rfl, trivial⟩ ⟨by dsimp only; omega, by dsimp only; rw [heldTo_no hno]; exact HO, F⟩
    · skip
      refine rl_end rfl ?_
      refine al_k ?_
      refine cl_if0 rfl rfl ?_
      refine cl_exit rfl ?_
      refine upd_self ?_
      refine al_k ?_
      refine cl_seq rfl ?_
      refine cl_reg rfl ?_
      refine st rfl rfl rfl rfl (x_move rfl) ?_
      refine st rfl rfl rfl rfl (x_asg rfl) ?_
      refine rl_end rfl ?_
      refine al_k ?_
      refine cl_ret rfl ?_
      refine fin1 rfl rfl ?_
      have e : i = x.slots.length := by omega
      subst e
      obtain ⟨A9, c9, rfl, _⟩ := own_slice HO
      exact ⟨A9, c9, rfl, HO, F⟩

theorem samesl_c (w : World) (A1 A2 : Option Addr) (c1 c2 : Nat) (l : List (Int × Int)) (hl : l.length ≤ 65536) (h1 : ∀ (j : Nat) y, l[j]? = some y → ∃ g, A1 = some ⟨g, 0, none⟩ ∧ ∀ i u, [Value.int .i64 y.1, .int .u64 y.2][i]? = some u → w.cell? ⟨g, j * 2 + i, none⟩ = some u) (h2 : ∀ (j : Nat) y, l[j]? = some y → ∃ g, A2 = some ⟨g, 0, none⟩ ∧ ∀ i u, [Value.int .i64 y.1, .int .u64 y.2][i]? = some u → w.cell? ⟨g, j * 2 + i, none⟩ = some u) : Cl Tryd.prog 25 [.slice A1 l.length c1, .slice A2 l.length c2] w (fun v w' => v = .bool true ∧ Fr [] w w') := by
  refine enter Tryd.func25 rfl Tryd.ntmps25 rfl ?_
  refine cl_seq rfl ?_
  refine cl_reg rfl ?_
  refine st rfl rfl rfl rfl (x_asg rfl) ?_
  refine rl_end rfl ?_
  refine al_k ?_
  refine cl_seq rfl ?_
  refine cl_seq rfl ?_
  refine cl_reg rfl ?_
  refine st rfl rfl rfl rfl (x_move rfl) ?_
  refine st rfl rfl rfl rfl (x_len rfl Tryd.underlying30) ?_
  refine st rfl rfl rfl rfl (x_move rfl) ?_
  refine st rfl rfl rfl rfl (x_len rfl Tryd.underlying30) ?_
  refine st rfl rfl rfl rfl ((x_neq rfl rfl).b0 (fun h => h rfl)) ?_
  refine rl_end rfl ?_
  refine al_k ?_
  refine cl_if0 rfl rfl ?_
  refine cl_skip rfl ?_
  refine al_k ?_
  refine cl_seq rfl ?_
  refine cl_seq rfl ?_
  refine cl_reg rfl ?_
  refine st rfl rfl rfl rfl (x_asg rfl) ?_
  refine rl_end rfl ?_
  refine al_k ?_
  refine cl_block rfl ?_
  refine cl_loop (fun q : Nat => [(5, .int .i64 q), (0, .slice A1 l.length c1), (1, .slice A2 l.length c2)]) (fun q w' => q ≤ l.length ∧ Fr [] w w') (fun q => l.length - q) 0 rfl ⟨rfl, rfl, rfl, trivial⟩ ?_ ?_
  · exact ⟨Nat.zero_le _, Fr.refl _ _⟩
  · skip
    rintro q wr ⟨hq, F⟩
    refine cl_seq rfl ?_
    refine cl_seq rfl ?_
    refine cl_reg rfl ?_
    refine st rfl rfl rfl rfl (x_move rfl) ?_
    refine st rfl rfl rfl rfl (x_move rfl) ?_
    refine st rfl rfl rfl rfl (x_len rfl Tryd.underlying30) ?_
    refine sf rfl rfl rfl rfl (x_lss rfl rfl) (fun c4_3 => ?_) (fun c4_3 => ?_)
    · skip
      refine rl_end rfl ?_
      refine al_k ?_
      refine cl_if1 rfl rfl ?_
      refine cl_skip rfl ?_
      refine al_k ?_
      refine cl_seq rfl ?_
      refine cl_block rfl ?_
      refine cl_seq rfl ?_
      obtain ⟨y, hy⟩ : ∃ y, l[q]? = some y := ⟨_, List.getElem?_eq_getElem (by omega)⟩
      obtain ⟨g1, rfl, hc1⟩ := h1 q y hy
      obtain ⟨g2, rfl, hc2⟩ := h2 q y hy
      have hd1 : ∀ i u, [Value.int .i64 y.1, .int .u64 y.2][i]? = some u → wr.cell? ⟨g1, q * 2 + i, none⟩ = some u := fun i u h => F.cell (hc1 i u h) (by simp)
      have hd2 : ∀ i u, [Value.int .i64 y.1, .int .u64 y.2][i]? = some u → wr.cell? ⟨g2, q * 2 + i, none⟩ = some u := fun i u h => F.cell (hc2 i u h) (by simp)
      refine cl_draw (by kernel_rfl) rfl [] (fun w' => w'.heap = wr.heap) ?_
      rintro wd6 frd6 hpd6
      refine ⟨hpd6, ?_⟩
      refine dt (i := 0) rfl rfl rfl rfl (by kernel_rfl) (fun _ => x_move rfl) ?_
      refine dt (i := 1) rfl rfl rfl rfl (by kernel_rfl) (fun _ => x_move rfl) ?_
      refine dt (i := 2) rfl rfl rfl rfl (by kernel_rfl) (fun _ => x_ia0 rfl rfl Tryd.underlying30 Tryd.sizeOf33 (by omega)) ?_
      refine dlt (i := 3) rfl rfl rfl rfl (by kernel_rfl) (by kernel_rfl) (fun w' hU => x_ldn rfl Tryd.isAgg33 Tryd.sizeOf33 rfl (heqn hU hd1)) ?_
      refine dt (i := 4) rfl rfl rfl rfl (by kernel_rfl) (fun _ => x_move rfl) ?_
      refine dt (i := 5) rfl rfl rfl rfl (by kernel_rfl) (fun _ => x_move rfl) ?_
      refine dt (i := 6) rfl rfl rfl rfl (by kernel_rfl) (fun _ => x_ia0 rfl rfl Tryd.underlying30 Tryd.sizeOf33 (by omega)) ?_
      refine dlt (i := 7) rfl rfl rfl rfl (by kernel_rfl) (by kernel_rfl) (fun w' hU => x_ldn rfl Tryd.isAgg33 Tryd.sizeOf33 rfl (heqn hU hd2)) ?_
      refine dt (i := 8) rfl rfl rfl rfl (by kernel_rfl) (fun _ => (x_eqs rfl rfl (egN _ _ _ _ _ _ _ _) (neN _ _ _ _ _)).b0 (fun h => h ⟨rfl, rfl⟩)) ?_
      replace F := F.trans frd6
      refine dn (by kernel_rfl) ?_
      refine al_k ?_
      refine cl_if0 rfl rfl ?_
      refine cl_skip rfl ?_
      refine al_k ?_
      refine cl_reg rfl ?_
      refine st rfl rfl rfl rfl (x_move rfl) ?_
      refine st rfl rfl rfl rfl (x_add rfl rfl (by omega)) ?_
      refine st rfl rfl rfl rfl (x_asg rfl) ?_
      refine rl_end rfl ?_
      refine again (q + 1) (by omega) ⟨rfl, rfl, rfl, trivial⟩ ⟨by omega, F⟩
    · skip
      refine rl_end rfl ?_
      refine al_k ?_
      refine cl_if0 rfl rfl ?_
      refine cl_exit rfl ?_
      refine upd_self ?_
      refine al_k ?_
      refine cl_seq rfl ?_
      refine cl_reg rfl ?_
      refine st rfl rfl rfl rfl (x_asg rfl) ?_
      refine rl_end rfl ?_
      refine al_k ?_
      refine cl_ret rfl ?_
      refine fin1 rfl rfl ?_
      exact ⟨rfl, F⟩

def rowK (qs : List Int) (i k : Nat) : List Int := (List.range k).map fun j : Nat => (((mkS qs i).length + j : Nat) : Int)
theorem rowK_succ (qs : List Int) (i k : Nat) : rowK qs i (k + 1) = rowK qs i k ++ [(((mkS qs i).length + k : Nat) : Int)] := by unfold rowK; rw [List.range_succ, List.map_append]; rfl
theorem bldRA (a : Option Addr) (m c : Nat) (w : World) : (Instr.build 79 [(0, .slice a m c)].toArray).run Tryd.prog w = .ok (.agg [.slice a m c, .slice none 0 0, .slice none 0 0].toArray) w := by kernel_rfl
theorem bldC0 (w : World) : (Instr.build 81 [].toArray).run Tryd.prog w = .ok (.agg [.int .u64 0, .int .u64 0, .bool false].toArray) w := by kernel_rfl
theorem bslC (w : World) : (Instr.buildSlice 76 1 [(0, .agg [.int .u64 0, .int .u64 0, .bool false].toArray)].toArray).run Tryd.prog w = .ok (.slice (some ⟨w.heap.size, 0, none⟩) 1 1) (w.alloc (.cells [.int .u64 0, .int .u64 0, .bool false].toArray 81)) := by kernel_rfl

theorem rnew_c (w : World) (A0 : Option Addr) (c0 : Nat) (qs : List Int) (hql0 : qs.length ≤ 1000) (hrow : ∀ (j : Nat) q, qs[j]? = some q → ∃ a, A0 = some a ∧ w.cell? (a.add (((j : Nat) : Int).toNat * 1)) = some (.int .i64 q)) :
    Cl Tryd.prog 16 [.slice A0 qs.length c0] w (fun v w' => (okQ qs ∧ ∃ (B : Nat) (r : RK), v = .tuple #[.pointer (some ⟨r.rp, 0, none⟩), .int .i64 0] ∧ RAt w' w.heap.size B r qs (Ar.new qs) ∧ Fr [] w w') ∨ (¬ okQ qs ∧ v = .tuple #[.pointer none, .int .i64 60] ∧ Fr [] w w')) := by
  have F := Fr.refl [] w
  refine enter Tryd.func16 rfl Tryd.ntmps16 rfl ?_
  refine cl_seq rfl ?_
  refine cl_reg rfl ?_
  refine st rfl rfl rfl rfl (x_asg rfl) ?_
  refine st rfl rfl rfl rfl (x_asg rfl) ?_
  refine rl_end rfl ?_
  refine al_k ?_
  refine cl_seq rfl ?_
  refine cl_seq rfl ?_
  refine cl_reg rfl ?_
  refine st rfl rfl rfl rfl (x_move rfl) ?_
  refine st rfl rfl rfl rfl (x_len rfl Tryd.underlying22) ?_
  refine sf rfl rfl rfl rfl (x_lss rfl rfl) (fun c1_2 => ?_) (fun c1_2 => ?_)
  · skip
    refine st rfl rfl rfl rfl (x_move rfl) ?_
    refine so rfl rfl rfl rfl ?_
    refine so rfl rfl rfl rfl ?_
    refine so rfl rfl rfl rfl ?_
    refine st rfl rfl rfl rfl (x_pick1 rfl rfl) ?_
    refine rl_end rfl ?_
    refine al_k ?_
    refine cl_if1 rfl rfl ?_
    refine cl_seq rfl ?_
    refine cl_reg rfl ?_
    refine st rfl rfl rfl rfl (x_asg rfl) ?_
    refine st rfl rfl rfl rfl (x_asg rfl) ?_
    refine rl_end rfl ?_
    refine al_k ?_
    refine cl_ret rfl ?_
    refine fin2 rfl rfl rfl ?_
    exact .inr ⟨fun h => (by have := h.1; omega), rfl, F⟩
  · skip
    refine st rfl rfl rfl rfl (x_move rfl) ?_
    refine st rfl rfl rfl rfl (x_move rfl) ?_
    refine st rfl rfl rfl rfl (x_len rfl Tryd.underlying22) ?_
    refine sf rfl rfl rfl rfl (x_gtr rfl rfl) (fun c1_6 => ?_) (fun c1_6 => ?_)
    · skip
      refine st rfl rfl rfl rfl (x_pick0 rfl rfl) ?_
      refine rl_end rfl ?_
      refine al_k ?_
      refine cl_if1 rfl rfl ?_
      refine cl_seq rfl ?_
      refine cl_reg rfl ?_
      refine st rfl rfl rfl rfl (x_asg rfl) ?_
      refine st rfl rfl rfl rfl (x_asg rfl) ?_
      refine rl_end rfl ?_
      refine al_k ?_
      refine cl_ret rfl ?_
      refine fin2 rfl rfl rfl ?_
      exact .inr ⟨fun h => (by have := h.1; omega), rfl, F⟩
    · skip
      refine st rfl rfl rfl rfl (x_pick0 rfl rfl) ?_
      refine rl_end rfl ?_
      refine al_k ?_
      refine cl_if0 rfl rfl ?_
      refine cl_skip rfl ?_
      refine al_k ?_
      refine cl_seq rfl ?_
      refine cl_seq rfl ?_
      refine cl_reg rfl ?_
      refine st rfl rfl rfl rfl (x_asg rfl) ?_
      refine rl_end rfl ?_
      refine al_k ?_
      refine cl_block rfl ?_
      refine cl_loop (fun i : Nat => [(4, .int .i64 i), (0, .slice A0 qs.length c0)]) (fun i w' => w' = w ∧ i ≤ qs.length ∧ ∀ (j : Nat) q, j < i → qs[j]? = some q → 0 ≤ q ∧ q ≤ 256) (fun i => qs.length - i) 0 rfl ⟨rfl, rfl, trivial⟩ ?_ ?_
      · exact ⟨rfl, Nat.zero_le _, fun j q h => absurd h (by omega)⟩
      · skip
        rintro i wk ⟨hwk, hi, hq⟩
        obtain rfl := hwk.symm
        refine cl_seq rfl ?_
        refine cl_seq rfl ?_
        refine cl_reg rfl ?_
        refine st rfl rfl rfl rfl (x_move rfl) ?_
        refine st rfl rfl rfl rfl (x_move rfl) ?_
        refine st rfl rfl rfl rfl (x_len rfl Tryd.underlying22) ?_
        refine sf rfl rfl rfl rfl (x_lss rfl rfl) (fun c4_3 => ?_) (fun c4_3 => ?_)
        · skip
          refine rl_end rfl ?_
          refine al_k ?_
          refine cl_if1 rfl rfl ?_
          refine cl_skip rfl ?_
          refine al_k ?_
          refine cl_seq rfl ?_
          refine cl_block rfl ?_
          refine cl_seq rfl ?_
          obtain ⟨q, hqi⟩ : ∃ q, qs[i]? = some q := ⟨_, List.getElem?_eq_getElem (by omega)⟩
          obtain ⟨a, rfl, hc⟩ := hrow i q hqi
          refine cl_reg rfl ?_
          refine st rfl rfl rfl rfl (x_move rfl) ?_
          refine st rfl rfl rfl rfl (x_move rfl) ?_
          refine st rfl rfl rfl rfl (x_iag rfl rfl Tryd.underlying22 Tryd.sizeOf3 (by omega)) ?_
          refine st rfl rfl rfl rfl (x_ld rfl Tryd.isAgg3 hc) ?_
          refine sf rfl rfl rfl rfl (x_lss rfl rfl) (fun c6_4 => ?_) (fun c6_4 => ?_)
          · skip
            refine st rfl rfl rfl rfl (x_move rfl) ?_
            refine so rfl rfl rfl rfl ?_
            refine so rfl rfl rfl rfl ?_
            refine so rfl rfl rfl rfl ?_
            refine so rfl rfl rfl rfl ?_
            refine so rfl rfl rfl rfl ?_
            refine st rfl rfl rfl rfl (x_pick1 rfl rfl) ?_
            refine rl_end rfl ?_
            refine al_k ?_
            refine cl_if1 rfl rfl ?_
            refine cl_seq rfl ?_
            refine cl_reg rfl ?_
            refine st rfl rfl rfl rfl (x_asg rfl) ?_
            refine st rfl rfl rfl rfl (x_asg rfl) ?_
            refine rl_end rfl ?_
            refine al_k ?_
            refine cl_ret rfl ?_
            refine fin2 rfl rfl rfl ?_
            exact .inr ⟨fun h => (by have := h.2 i q hqi; omega), rfl, F⟩
          · skip
            refine st rfl rfl rfl rfl (x_move rfl) ?_
            refine st rfl rfl rfl rfl (x_move rfl) ?_
            refine st rfl rfl rfl rfl (x_move rfl) ?_
            refine st rfl rfl rfl rfl (x_iag rfl rfl Tryd.underlying22 Tryd.sizeOf3 (by omega)) ?_
            refine st rfl rfl rfl rfl (x_ld rfl Tryd.isAgg3 hc) ?_
            refine sf rfl rfl rfl rfl (x_gtr rfl rfl) (fun c6_10 => ?_) (fun c6_10 => ?_)
            · skip
              refine st rfl rfl rfl rfl (x_pick0 rfl rfl) ?_
              refine rl_end rfl ?_
              refine al_k ?_
              refine cl_if1 rfl rfl ?_
              refine cl_seq rfl ?_
              refine cl_reg rfl ?_
              refine st rfl rfl rfl rfl (x_asg rfl) ?_
              refine st rfl rfl rfl rfl (x_asg rfl) ?_
              refine rl_end rfl ?_
              refine al_k ?_
              refine cl_ret rfl ?_
              refine fin2 rfl rfl rfl ?_
              exact .inr ⟨fun h => (by have := h.2 i q hqi; omega), rfl, F⟩
            · skip
              refine st rfl rfl rfl rfl (x_pick0 rfl rfl) ?_
              refine rl_end rfl ?_
              refine al_k ?_
              refine cl_if0 rfl rfl ?_
              refine cl_skip rfl ?_
              refine al_k ?_
              refine cl_reg rfl ?_
              refine st rfl rfl rfl rfl (x_move rfl) ?_
              refine st rfl rfl rfl rfl (x_add rfl rfl (by omega)) ?_
              refine st rfl rfl rfl rfl (x_asg rfl) ?_
              refine rl_end rfl ?_
              refine again (i + 1) (by omega) ⟨rfl, rfl, trivial⟩ ⟨rfl, by omega, ?_⟩
              intro j q2 hj h2
              rcases Nat.lt_or_ge j i with h | h
              · exact hq j q2 h h2
              · obtain rfl : j = i := by omega
                rw [hqi] at h2
                obtain rfl := Option.some.inj h2
                omega
        · skip
          refine rl_end rfl ?_
          refine al_k ?_
          refine cl_if0 rfl rfl ?_
          refine cl_exit rfl ?_
          refine upd_self ?_
          refine al_k ?_
          refine cl_seq rfl ?_
          have hok : okQ qs := ⟨⟨by omega, by omega⟩, fun j q h => hq j q (by have := (List.getElem?_eq_some_iff.1 h).1; omega) h⟩
          have hA0 : A0 = none → qs.length = 0 := fun e => by cases hqs : qs with | nil => rfl | cons z zs => (obtain ⟨a, h, _⟩ := hrow 0 z (by rw [hqs]; rfl); rw [e] at h; cases h)
          have hA1 : ∀ ad, A0 = some ad → ∀ j u, (ints qs)[j]? = some u → w.cell? (ad.add j) = some u := fun ad e j u hu => by
            simp only [ints, List.getElem?_map] at hu
            cases hj : qs[j]? with
            | none => rw [hj] at hu; cases hu
            | some z =>
              rw [hj] at hu
              obtain rfl := Option.some.inj hu
              obtain ⟨a, h1, h2⟩ := hrow j z hj
              rw [e] at h1
              obtain rfl := Option.some.inj h1
              rw [Int.toNat_natCast, Nat.mul_one] at h2
              exact h2
          have hql := hok.1
          refine cl_reg rfl ?_
          refine se rfl rfl rfl rfl (e_new (x_bsl rfl (bsl0 Tryd.underlying22 Tryd.sizeOf3))) ?_
          rintro _ w8 ⟨rfl, b8, fr, _⟩
          have HO := own_lit (base := w.heap.size) (n := 0) (size := 1) b8 (Nat.le_refl _) rfl (by decide)
          replace F := F.trans fr
          clear fr
          refine st rfl rfl rfl rfl (x_move rfl) ?_
          refine se rfl rfl rfl rfl (e_appv 1 8 (.int .i64 0) (ints qs) rfl rfl Tryd.underlying22 (by kernel_rfl) rfl (by decide) HO (ints_len _) hA0 (fun ad e j u hu => F.cell (hA1 ad e j u hu) (by simp)) (oneI _) (by omega) (by omega) F.size) ?_
          rintro vz wz ⟨HOz, hg, hat⟩
          replace F := F.grown hg (own_ge HO)
          have HOs := own_cast (n2 := qs.length) (ys := ints qs) HOz (by omega) (by simp)
          obtain ⟨As, cs, rfl, _⟩ := own_slice HOs
          clear HO HOz hg hat
          refine st rfl rfl rfl rfl (x_build rfl (bldRA _ _ _ _)) ?_
          refine se rfl rfl rfl rfl (e_new (x_box rfl rfl)) ?_
          rintro _ wb ⟨rfl, bT, fr, _⟩
          have hsr : ∀ q, (Value.slice As qs.length cs).ownBlock = some q → q < wz.heap.size := fun q h => (HOs.lt q h).2
          replace HOs := own_fr0 HOs fr
          have hr0 := F.size
          replace F := F.trans fr
          clear fr
          generalize hrq : wz.heap.size = rp at bT hsr hr0 ⊢
          have H : NW w wb rp As cs qs (.slice none 0 0) (.slice none 0 0) (.slice none 0 0) [] [] [] [] := ⟨bT, own_nil _ _ _, own_nil _ _ _, own_nil _ _ _, (fun q h => by cases h), (fun q h => by cases h), rfl, (fun p v l h => by simp at h), F, HOs, hsr, hr0⟩
          clear bT HOs F
          refine st rfl rfl rfl rfl (x_asg rfl) ?_
          refine rl_end rfl ?_
          refine al_k ?_
          refine cl_seq rfl ?_
          refine cl_seq rfl ?_
          refine cl_reg rfl ?_
          refine st rfl rfl rfl rfl (x_asg rfl) ?_
          refine rl_end rfl ?_
          refine al_k ?_
          refine cl_block rfl ?_
          refine cl_loop (fun s : Nat × Value × Value × List Value => [(6, .int .i64 s.1), (5, .pointer (some ⟨rp, 0, none⟩)), (0, .slice A0 qs.length c0)]) (fun s w' => s.1 ≤ qs.length ∧ NW w w' rp As cs qs s.2.1 s.2.2.1 (.slice none 0 0) (mkS qs s.1) s.2.2.2 (rowsF qs s.1) []) (fun s => qs.length - s.1) (0, .slice none 0 0, .slice none 0 0, []) rfl ⟨rfl, rfl, rfl, trivial⟩ ?_ ?_
          · exact ⟨Nat.zero_le _, H⟩
          · skip
            rintro ⟨i, vc, vf, vs⟩ wr ⟨hi, H⟩
            dsimp only at hi H ⊢
            refine cl_seq rfl ?_
            refine cl_seq rfl ?_
            refine cl_reg rfl ?_
            refine st rfl rfl rfl rfl (x_move rfl) ?_
            refine st rfl rfl rfl rfl (x_move rfl) ?_
            refine st rfl rfl rfl rfl (x_len rfl Tryd.underlying22) ?_
            refine sf rfl rfl rfl rfl (x_lss rfl rfl) (fun c10_3 => ?_) (fun c10_3 => ?_)
            · skip
              refine rl_end rfl ?_
              refine al_k ?_
              refine cl_if1 rfl rfl ?_
              refine cl_skip rfl ?_
              refine al_k ?_
              refine cl_seq rfl ?_
              refine cl_block rfl ?_
              refine cl_seq rfl ?_
              obtain ⟨q, hqi⟩ : ∃ q, qs[i]? = some q := ⟨_, List.getElem?_eq_getElem (by omega)⟩
              obtain ⟨a, rfl, hc⟩ := hrow i q hqi
              obtain ⟨hq0, hq6⟩ := hok.2 i q hqi
              refine cl_reg rfl ?_
              refine st rfl rfl rfl rfl (x_asg rfl) ?_
              refine rl_end rfl ?_
              refine al_k ?_
              refine cl_seq rfl ?_
              refine cl_seq rfl ?_
              refine cl_reg rfl ?_
              refine st rfl rfl rfl rfl (x_asg rfl) ?_
              refine rl_end rfl ?_
              refine al_k ?_
              refine cl_block rfl ?_
              refine cl_loop (fun s : Nat × Value × Value => [(8, .int .i64 s.1), (7, s.2.1), (6, .int .i64 i), (5, .pointer (some ⟨rp, 0, none⟩)), (0, .slice (some a) qs.length c0)]) (fun s w' => (s.1 : Int) ≤ q ∧ NW w w' rp As cs qs s.2.2 vf s.2.1 (mkS qs i ++ List.replicate s.1 ⟨i, 0, 0, false⟩) vs (rowsF qs i) (rowK qs i s.1)) (fun s => q.toNat - s.1) (0, .slice none 0 0, vc) rfl ⟨rfl, rfl, rfl, rfl, rfl, trivial⟩ ?_ ?_
              · exact ⟨by dsimp only; omega, by simpa [rowK] using H⟩
              · skip
                rintro ⟨kk, v7, vc2⟩ wk ⟨hk, H⟩
                dsimp only at hk H ⊢
                have hSl : (mkS qs i ++ List.replicate kk (⟨i, 0, 0, false⟩ : Sl)).length ≤ 65536 := by rw [List.length_append, List.length_replicate]; have := mkS_len i (fun j q hj h => (hok.2 j q h).2); omega
                have hRl : (rowK qs i kk).length ≤ 256 := by unfold rowK; rw [List.length_map, List.length_range]; omega
                refine cl_seq rfl ?_
                refine cl_seq rfl ?_
                refine cl_reg rfl ?_
                refine st rfl rfl rfl rfl (x_move rfl) ?_
                refine st rfl rfl rfl rfl (x_move rfl) ?_
                refine st rfl rfl rfl rfl (x_move rfl) ?_
                refine st rfl rfl rfl rfl (x_iag rfl rfl Tryd.underlying22 Tryd.sizeOf3 (by omega)) ?_
                refine st rfl rfl rfl rfl (x_ld rfl Tryd.isAgg3 (H.F.cell hc (by simp))) ?_
                refine sf rfl rfl rfl rfl (x_lss rfl rfl) (fun c14_5 => ?_) (fun c14_5 => ?_)
                · skip
                  refine rl_end rfl ?_
                  refine al_k ?_
                  refine cl_if1 rfl rfl ?_
                  refine cl_skip rfl ?_
                  refine al_k ?_
                  refine cl_seq rfl ?_
                  refine cl_block rfl ?_
                  refine cl_seq rfl ?_
                  obtain ⟨Ac, cc, rfl, _⟩ := own_slice H.oc
                  refine cl_reg rfl ?_
                  refine st rfl rfl rfl rfl (x_move rfl) ?_
                  refine st rfl rfl rfl rfl (x_move rfl) ?_
                  refine st rfl rfl rfl rfl (x_nil rfl) ?_
                  refine st rfl rfl rfl rfl (x_fa rfl Tryd.underlying79 rfl Tryd.sizeOf76 1 rfl) ?_
                  refine st rfl rfl rfl rfl (x_ld rfl Tryd.isAgg76 (H.top.cell rfl)) ?_
                  refine st rfl rfl rfl rfl (x_len rfl Tryd.underlying76) ?_
                  refine se rfl rfl rfl rfl (e_new (x_bsl rfl (bsl1 Tryd.underlying22 Tryd.sizeOf3 Tryd.zeroValue3 rfl rfl))) ?_
                  rintro _ w16_6 ⟨rfl, b16_6, fr16_6, sz16_6⟩
                  replace H := H.fr0 fr16_6
                  refine se rfl rfl rfl rfl (e_app 1 8 (.int .i64 0) _ rfl rfl Tryd.underlying22 (by kernel_rfl) rfl (by decide) H.o7 rfl b16_6.news (by simp; rfl) (by omega) (by omega) (Nat.succ_le_of_lt H.top.lt)) ?_
                  rintro v7b wa ⟨HO1, hg, hat⟩
                  have HO2 := own_cast (n2 := (rowK qs i (kk + 1)).length) (ys := ints (rowK qs i (kk + 1))) HO1 (by rw [rowK_succ, List.length_append]; rfl) (by rw [rowK_succ]; simp [ints, rowK, List.length_append])
                  replace H := H.app7 hg HO2 hat
                  clear HO1 HO2 hg hat
                  refine st rfl rfl rfl rfl (x_asg rfl) ?_
                  refine rl_end rfl ?_
                  refine al_k ?_
                  refine cl_reg rfl ?_
                  refine st rfl rfl rfl rfl (x_move rfl) ?_
                  refine st rfl rfl rfl rfl (x_move rfl) ?_
                  refine st rfl rfl rfl rfl (x_nil rfl) ?_
                  refine st rfl rfl rfl rfl (x_fa rfl Tryd.underlying79 rfl Tryd.sizeOf76 1 rfl) ?_
                  refine st rfl rfl rfl rfl (x_ld rfl Tryd.isAgg76 (H.top.cell rfl)) ?_
                  refine st rfl rfl rfl rfl (x_build rfl (bldC0 _)) ?_
                  refine se rfl rfl rfl rfl (e_new (x_bsl rfl (bslC _))) ?_
                  rintro _ wn ⟨rfl, b17, fr, _⟩
                  replace H := H.fr0 fr
                  clear fr
                  refine se rfl rfl rfl rfl (e_app 3 24 (.agg #[.int .u64 0, .int .u64 0, .bool false]) (encC ⟨i, 0, 0, false⟩) rfl rfl Tryd.underlying76 (by kernel_rfl) rfl (by decide) H.oc rfl b17.news (oneC _) (by omega) (by omega) (Nat.succ_le_of_lt H.top.lt)) ?_
                  rintro vcb wa2 ⟨HO1, hg, hat⟩
                  have HO2 := own_cast (n2 := ((mkS qs i ++ List.replicate kk (⟨i, 0, 0, false⟩ : Sl)) ++ [(⟨i, 0, 0, false⟩ : Sl)]).length) (ys := flat encC ((mkS qs i ++ List.replicate kk (⟨i, 0, 0, false⟩ : Sl)) ++ [(⟨i, 0, 0, false⟩ : Sl)])) HO1 (by simp only [List.length_append, List.length_cons, List.length_nil]) (by simp only [flat, List.flatMap_append, List.flatMap_cons, List.flatMap_nil, List.append_nil])
                  have hT := H.top.fr (Fr.of_grown hg) (by intro hm; cases hvo : (Value.slice Ac (mkS qs i ++ List.replicate kk (⟨i, 0, 0, false⟩ : Sl)).length cc).ownBlock with | none => (rw [hvo] at hm; simp at hm) | some z => (rw [hvo] at hm; simp at hm; subst hm; have := own_ge H.oc _ hvo; omega))
                  obtain ⟨hcv, hov⟩ : vcb.cells = #[vcb] ∧ vcb.oneCell' = true := by obtain ⟨A9, c9, rfl, _⟩ := own_slice HO2; exact ⟨rfl, rfl⟩
                  refine st rfl rfl rfl rfl (x_nil rfl) ?_
                  refine st rfl rfl rfl rfl (x_fa rfl Tryd.underlying79 rfl Tryd.sizeOf76 1 rfl) ?_
                  refine sv rfl rfl rfl (v_1 rfl rfl hcv hov Tryd.sizeOf76 hT (by simp)) ?_
                  rintro wst ⟨bT2, fr⟩
                  replace H := H.appc hg HO2 hat fr bT2
                  clear HO1 HO2 hg hat hT fr bT2
                  refine rl_end rfl ?_
                  refine al_k ?_
                  refine cl_reg rfl ?_
                  refine st rfl rfl rfl rfl (x_move rfl) ?_
                  refine st rfl rfl rfl rfl (x_add rfl rfl (by omega)) ?_
                  refine st rfl rfl rfl rfl (x_asg rfl) ?_
                  refine rl_end rfl ?_
                  have er : mkS qs i ++ List.replicate (kk + 1) (⟨i, 0, 0, false⟩ : Sl) = (mkS qs i ++ List.replicate kk ⟨i, 0, 0, false⟩) ++ [⟨i, 0, 0, false⟩] := by rw [List.replicate_succ', List.append_assoc]
                  refine again (kk + 1, v7b, vcb) (show q.toNat - (kk + 1) < q.toNat - kk by omega) ⟨rfl, rfl, rfl, rfl, rfl, trivial⟩ ⟨by dsimp only; omega, by dsimp only; rw [er]; exact H⟩
                · skip
                  refine rl_end rfl ?_
                  refine al_k ?_
                  refine cl_if0 rfl rfl ?_
                  refine cl_exit rfl ?_
                  refine upd_self ?_
                  refine al_k ?_
                  have ek : kk = q.toNat := by omega
                  subst ek
                  rw [← mkS_succ hqi, show rowK qs i q.toNat = rowF qs i from by unfold rowK rowF; rw [hqi]; rfl] at H
                  obtain ⟨A7, c7, rfl, _⟩ := own_slice H.o7
                  have hvl : vs.length = i := by rw [H.vl]; simp [rowsF]
                  refine cl_reg rfl ?_
                  refine st rfl rfl rfl rfl (x_move rfl) ?_
                  refine st rfl rfl rfl rfl (x_move rfl) ?_
                  refine st rfl rfl rfl rfl (x_nil rfl) ?_
                  refine st rfl rfl rfl rfl (x_fa rfl Tryd.underlying79 rfl Tryd.sizeOf77 2 rfl) ?_
                  refine st rfl rfl rfl rfl (x_ld rfl Tryd.isAgg77 (H.top.cell rfl)) ?_
                  refine st rfl rfl rfl rfl (x_move rfl) ?_
                  refine se rfl rfl rfl rfl (e_new (x_bsl rfl (bsl1 Tryd.underlying77 Tryd.sizeOf22 Tryd.zeroValue22 rfl rfl))) ?_
                  rintro _ w18_6 ⟨rfl, b18_6, fr18_6, sz18_6⟩
                  replace H := H.fr0 fr18_6
                  refine se rfl rfl rfl rfl (e_app 1 24 (.slice none 0 0) _ rfl rfl Tryd.underlying77 (by kernel_rfl) rfl (by decide) H.of rfl b18_6.news (by simp; rfl) (by omega) (by omega) (Nat.succ_le_of_lt H.top.lt)) ?_
                  rintro vfb wa3 ⟨HO1, hg, hat⟩
                  have HO2 := own_cast (n2 := (vs ++ [Value.slice A7 (rowF qs i).length c7]).length) (ys := vs ++ [Value.slice A7 (rowF qs i).length c7]) HO1 (by rw [List.length_append]; rfl) rfl
                  have hT := H.top.fr (Fr.of_grown hg) (by intro hm; cases hvo : vf.ownBlock with | none => (rw [hvo] at hm; simp at hm) | some z => (rw [hvo] at hm; simp at hm; subst hm; have := own_ge H.of _ hvo; omega))
                  obtain ⟨hcv, hov⟩ : vfb.cells = #[vfb] ∧ vfb.oneCell' = true := by obtain ⟨A9, c9, rfl, _⟩ := own_slice HO2; exact ⟨rfl, rfl⟩
                  refine st rfl rfl rfl rfl (x_nil rfl) ?_
                  refine st rfl rfl rfl rfl (x_fa rfl Tryd.underlying79 rfl Tryd.sizeOf77 2 rfl) ?_
                  refine sv rfl rfl rfl (v_1 rfl rfl hcv hov Tryd.sizeOf77 hT (by simp)) ?_
                  rintro wst ⟨bT2, fr⟩
                  replace H := H.appf hg HO2 hat fr bT2
                  clear HO1 HO2 hg hat hT fr bT2
                  refine rl_end rfl ?_
                  refine al_k ?_
                  refine cl_reg rfl ?_
                  refine st rfl rfl rfl rfl (x_move rfl) ?_
                  refine st rfl rfl rfl rfl (x_add rfl rfl (by omega)) ?_
                  refine st rfl rfl rfl rfl (x_asg rfl) ?_
                  refine rl_end rfl ?_
                  refine again (i + 1, _, vfb, vs ++ [.slice A7 (rowF qs i).length c7]) (show qs.length - (i + 1) < qs.length - i by omega) ⟨rfl, rfl, rfl, trivial⟩ ⟨by dsimp only; omega, by dsimp only; rw [show rowsF qs (i + 1) = rowsF qs i ++ [rowF qs i] from by unfold rowsF; rw [List.range_succ, List.map_append]; rfl]; exact H⟩
            · skip
              refine rl_end rfl ?_
              refine al_k ?_
              refine cl_if0 rfl rfl ?_
              refine cl_exit rfl ?_
              refine upd_self ?_
              refine al_k ?_
              refine cl_seq rfl ?_
              have ei : i = qs.length := by omega
              subst ei
              obtain ⟨r, rfl, hR⟩ := H.done hok
              refine cl_reg rfl ?_
              refine st rfl rfl rfl rfl (x_move rfl) ?_
              refine st rfl rfl rfl rfl (x_asg rfl) ?_
              refine st rfl rfl rfl rfl (x_asg rfl) ?_
              refine rl_end rfl ?_
              refine al_k ?_
              refine cl_ret rfl ?_
              refine fin2 rfl rfl rfl ?_
              exact .inl ⟨hok, _, r, rfl, hR, H.F⟩

end Go.Proofs.YtjjaijabdfoanaaDoor.Arn
