/- Deeds: the walks of the queue. -/
import Derived.Test.YtmeheoflfdmgiaaLnW5
import Derived.Test.YtmeheoflfdmgiaaLnI
set_option linter.unusedVariables false
namespace Go.Proofs.Ytmeheoflfdmgiaa.Lin
open Go Go.RowKit Go.Proofs.Ytmeheoflfdmgiaa.Sx Go.Proofs.Ytmeheoflfdmgiaa
set_option maxRecDepth 100000

theorem goneQ_c (w : World) (x d : D) (bd : Nat) (Bd : Blk w bd 40 (encD d)) : Cl Try.prog 48 [.agg (encD x).toArray, .pointer (some ⟨bd, 0, none⟩)] w (fun v w' => v = .bool (decide (x.lane = d.lane)) ∧ Fr [] w w') := by
  have F := Fr.refl [] w
  refine enter Try.func48 rfl Try.ntmps48 rfl ?_
  refine cl_seq rfl ?_
  refine cl_reg rfl ?_
  refine se rfl rfl rfl rfl (e_new (x_box (cs := encD x) rfl rfl)) ?_
  rintro _ wb2 ⟨rfl, b2, fr, _⟩
  replace F := F.trans fr
  clear fr
  refine st rfl rfl rfl rfl (x_asg rfl) ?_
  refine rl_end rfl ?_
  refine al_k ?_
  refine cl_seq rfl ?_
  refine cl_reg rfl ?_
  refine st rfl rfl rfl rfl (x_fa rfl Try.underlying40 rfl Try.sizeOf3 1 rfl) ?_
  refine st rfl rfl rfl rfl (x_ld rfl Try.isAgg3 (b2.cell rfl)) ?_
  refine st rfl rfl rfl rfl (x_fa rfl Try.underlying40 rfl Try.sizeOf3 1 rfl) ?_
  refine st rfl rfl rfl rfl (x_ld rfl Try.isAgg3 ((Bd.fr0 F).cell rfl)) ?_
  refine st rfl rfl rfl rfl (x_eql rfl rfl) ?_
  refine st rfl rfl rfl rfl (x_asg rfl) ?_
  refine rl_end rfl ?_
  refine al_k ?_
  refine cl_ret rfl ?_
  refine fin1 rfl rfl ?_
  exact ⟨rfl, F⟩

theorem qthen_c (w : World) (A : Option Addr) (c : Nat) (q : List D) (HQ : RowG encD 6 w A q) (hcp : q.length ≤ c) (hq : q.length ≤ 1000) (d : D) : Cl Try.prog 45 [.slice A q.length c, .agg (encD d).toArray] w (fun r w' => QR w' r (qstep q d) ∧ Fr [] w w') := by
  have F := Fr.refl [] w
  refine enter Try.func45 rfl Try.ntmps45 rfl ?_
  refine cl_seq rfl ?_
  refine cl_reg rfl ?_
  refine se rfl rfl rfl rfl (e_new (x_box (cs := encD d) rfl rfl)) ?_
  rintro _ wb3 ⟨rfl, b3, fr, _⟩
  replace F := F.trans fr
  clear fr
  refine st rfl rfl rfl rfl (x_asg rfl) ?_
  refine st rfl rfl rfl rfl (x_asg rfl) ?_
  refine rl_end rfl ?_
  refine al_k ?_
  refine cl_seq rfl ?_
  refine cl_seq rfl ?_
  refine cl_reg rfl ?_
  refine st rfl rfl rfl rfl (x_fa rfl Try.underlying40 rfl Try.sizeOf37 0 rfl) ?_
  refine st rfl rfl rfl rfl (x_ld rfl Try.isAgg37 (b3.cell rfl)) ?_
  refine rl_end rfl ?_
  refine al_k ?_
  refine cl_block rfl ?_
  refine cl_seq rfl ?_
  refine cl_reg rfl ?_
  refine sf rfl rfl rfl rfl (x_eql rfl rfl) (fun c2_0 => ?_) (fun c2_0 => ?_)
  · skip
    refine st rfl rfl rfl rfl (x_asg rfl) ?_
    refine rl_end rfl ?_
    refine al_k ?_
    refine cl_if1 rfl rfl ?_
    refine cl_seq rfl ?_
    refine cl_draw (by kernel_rfl) rfl [] (fun w' => Fr [] wb3 w') ?_
    have b3B := b3
    rintro wd3 G hpd
    have FB := F
    replace F := F.trans G
    refine ⟨G, ?_⟩
    refine dt (i := 0) rfl rfl rfl rfl (by kernel_rfl) (fun _ => x_move rfl) ?_
    refine dlt (i := 2) rfl rfl rfl rfl (by kernel_rfl) (by kernel_rfl) (fun w' hU => x_ldn (cs := encD d) rfl Try.isAgg40 Try.sizeOf40 rfl (by intro j v hv; rw [Nat.zero_add]; exact (b3B.fr0 hU).cell hv)) ?_
    refine d2 (i := 1) (j := 3) (by kernel_rfl) ?_ ?_
    · skip
      refine oc rfl rfl rfl rfl (c_fn rfl Try.call47 (cloneQ_c _ A c q (HQ.fr0 F) hq)) ?_
      rintro v12 w12 ⟨HO, fr⟩
      replace HO := own_mono HO G.size
      replace F := F.trans fr
      replace G := G.trans fr
      clear fr
      refine ⟨.inr G, ?_⟩
      refine d1 (i := 3) (by kernel_rfl) ?_
      refine oe rfl rfl rfl rfl (e_new (x_bsl rfl (bslQ _ _))) ?_
      rintro _ wl ⟨rfl, b16, fr, _⟩
      replace F := F.trans fr
      replace G := G.trans fr
      replace HO := own_fr0 HO fr
      clear fr
      refine ⟨.inr G, ?_⟩
      refine d1 (i := 4) (by kernel_rfl) ?_
      refine oe rfl rfl rfl rfl (e_app 6 48 (.agg #[.int .i64 0, .int .i64 0, .int .u64 0, .int .i64 0, .int .i64 0, .bool false]) (encD d) rfl rfl Try.underlying74 (by kernel_rfl) rfl (by decide) HO (by rw [lenD]) b16.news (oneD _) (by omega) (by omega) G.size) ?_
      rintro va wa ⟨HOa, hg, hat⟩
      have hge := own_ge HO
      replace G := G.grown hg hge
      replace F := F.grown hg (fun q hq => Nat.le_trans FB.size (hge q hq))
      clear hge HO
      refine ⟨.inr G, ?_⟩
      refine dt (i := 5) rfl rfl rfl rfl (by kernel_rfl) (fun _ => x_asg rfl) ?_
      refine dt (i := 6) rfl rfl rfl rfl (by kernel_rfl) (fun _ => x_asg rfl) ?_
      refine dn (by kernel_rfl) ?_
      refine al_k ?_
      refine cl_ret rfl ?_
      refine fin2 rfl rfl rfl ?_
      exact ⟨.yes (qstep_1 c2_0) (SlG.own (l := q ++ [d]) (by decide) lenD HOa (by rw [List.length_append]; rfl) (by rw [flat_app', flat_one'])), F⟩
    · skip
      refine oe rfl rfl rfl rfl (e_new (x_bsl rfl (bslQ _ _))) ?_
      rintro _ wl ⟨rfl, b16, fr, _⟩
      replace F := F.trans fr
      replace G := G.trans fr
      clear fr
      refine ⟨.inr G, ?_⟩
      refine d1 (i := 1) (by kernel_rfl) ?_
      refine oc rfl rfl rfl rfl (c_fn rfl Try.call47 (cloneQ_c _ A c q (HQ.fr0 F) hq)) ?_
      rintro v12 w12 ⟨HO, fr⟩
      replace HO := own_mono HO G.size
      replace F := F.trans fr
      replace G := G.trans fr
      replace b16 := b16.fr0 fr
      clear fr
      refine ⟨.inr G, ?_⟩
      refine d1 (i := 4) (by kernel_rfl) ?_
      refine oe rfl rfl rfl rfl (e_app 6 48 (.agg #[.int .i64 0, .int .i64 0, .int .u64 0, .int .i64 0, .int .i64 0, .bool false]) (encD d) rfl rfl Try.underlying74 (by kernel_rfl) rfl (by decide) HO (by rw [lenD]) b16.news (oneD _) (by omega) (by omega) G.size) ?_
      rintro va wa ⟨HOa, hg, hat⟩
      have hge := own_ge HO
      replace G := G.grown hg hge
      replace F := F.grown hg (fun q hq => Nat.le_trans FB.size (hge q hq))
      clear hge HO
      refine ⟨.inr G, ?_⟩
      refine dt (i := 5) rfl rfl rfl rfl (by kernel_rfl) (fun _ => x_asg rfl) ?_
      refine dt (i := 6) rfl rfl rfl rfl (by kernel_rfl) (fun _ => x_asg rfl) ?_
      refine dn (by kernel_rfl) ?_
      refine al_k ?_
      refine cl_ret rfl ?_
      refine fin2 rfl rfl rfl ?_
      exact ⟨.yes (qstep_1 c2_0) (SlG.own (l := q ++ [d]) (by decide) lenD HOa (by rw [List.length_append]; rfl) (by rw [flat_app', flat_one'])), F⟩
  · skip
    refine st rfl rfl rfl rfl (x_asg rfl) ?_
    refine rl_end rfl ?_
    refine al_k ?_
    refine cl_if0 rfl rfl ?_
    refine cl_seq rfl ?_
    refine cl_reg rfl ?_
    refine sf rfl rfl rfl rfl (x_eql rfl rfl) (fun c4_0 => ?_) (fun c4_0 => ?_)
    · skip
      refine st rfl rfl rfl rfl (x_asg rfl) ?_
      refine rl_end rfl ?_
      refine al_k ?_
      refine cl_if1 rfl rfl ?_
      refine cl_seq rfl ?_
      refine cl_seq rfl ?_
      refine cl_draw (by kernel_rfl) rfl [] (fun w' => w'.heap = wb3.heap) ?_
      rintro wd5 frd5 hpd5
      refine ⟨hpd5, ?_⟩
      refine dt (i := 0) rfl rfl rfl rfl (by kernel_rfl) (fun _ => x_move rfl) ?_
      refine dt (i := 1) rfl rfl rfl rfl (by kernel_rfl) (fun _ => x_len rfl Try.underlying74) ?_
      refine dfk (i := 2) rfl rfl rfl rfl (by kernel_rfl) (fun _ => x_eql rfl rfl) (fun c5_2 => ?_) (fun c5_2 => ?_)
      · skip
        refine dt (i := 3) rfl rfl rfl rfl (by kernel_rfl) (fun _ => x_move rfl) ?_
        refine dz (i := 4) rfl rfl rfl rfl (by kernel_rfl) ?_
        refine dz (i := 5) rfl rfl rfl rfl (by kernel_rfl) ?_
        refine dz (i := 6) rfl rfl rfl rfl (by kernel_rfl) ?_
        refine dz (i := 7) rfl rfl rfl rfl (by kernel_rfl) ?_
        refine dz (i := 8) rfl rfl rfl rfl (by kernel_rfl) ?_
        refine dz (i := 9) rfl rfl rfl rfl (by kernel_rfl) ?_
        refine dz (i := 10) rfl rfl rfl rfl (by kernel_rfl) ?_
        refine dt (i := 11) rfl rfl rfl rfl (by kernel_rfl) (fun _ => x_pick1 rfl rfl) ?_
        replace F := F.trans frd5
        replace b3 := b3.fr0 frd5
        refine dn (by kernel_rfl) ?_
        refine al_k ?_
        refine cl_if1 rfl rfl ?_
        refine cl_seq rfl ?_
        refine cl_reg rfl ?_
        refine st rfl rfl rfl rfl (x_asg rfl) ?_
        refine st rfl rfl rfl rfl (x_asg rfl) ?_
        refine rl_end rfl ?_
        refine al_k ?_
        refine cl_ret rfl ?_
        refine fin2 rfl rfl rfl ?_
        obtain rfl : q = [] := List.eq_nil_of_length_eq_zero (by omega)
        exact ⟨.no (qstep_20 c4_0), F⟩
      · skip
        refine dt (i := 3) rfl rfl rfl rfl (by kernel_rfl) (fun _ => x_move rfl) ?_
        obtain ⟨x, q1, rfl⟩ : ∃ x q1, q = x :: q1 := by cases q with | nil => (simp at c5_2) | cons x q1 => exact ⟨x, q1, rfl⟩
        obtain ⟨a, rfl, hc0⟩ := HQ 0 x rfl
        refine dt (i := 4) rfl rfl rfl rfl (by kernel_rfl) (fun _ => x_move rfl) ?_
        refine dt (i := 5) rfl rfl rfl rfl (by kernel_rfl) (fun _ => x_iag rfl rfl Try.underlying74 Try.sizeOf40 (by simp only [List.length_cons]; omega)) ?_
        refine dt (i := 6) rfl rfl rfl rfl (by kernel_rfl) (fun _ => x_fag rfl Try.underlying40 rfl Try.sizeOf38 2 rfl) ?_
        refine dlt (i := 7) rfl rfl rfl rfl (by kernel_rfl) (by kernel_rfl) (fun w' hU => x_ld rfl Try.isAgg38 (heq hU (F.cell (hc0 2 _ rfl) (by simp)))) ?_
        refine dt (i := 8) rfl rfl rfl rfl (by kernel_rfl) (fun _ => x_fa rfl Try.underlying40 rfl Try.sizeOf38 2 rfl) ?_
        refine dlt (i := 9) rfl rfl rfl rfl (by kernel_rfl) (by kernel_rfl) (fun w' hU => x_ld rfl Try.isAgg38 (heq hU (b3.cell rfl))) ?_
        refine dfk (i := 10) rfl rfl rfl rfl (by kernel_rfl) (fun _ => x_neq rfl rfl) (fun c5_10 => ?_) (fun c5_10 => ?_)
        · skip
          refine dt (i := 11) rfl rfl rfl rfl (by kernel_rfl) (fun _ => x_pick0 rfl rfl) ?_
          replace F := F.trans frd5
          replace b3 := b3.fr0 frd5
          refine dn (by kernel_rfl) ?_
          refine al_k ?_
          refine cl_if1 rfl rfl ?_
          refine cl_seq rfl ?_
          refine cl_reg rfl ?_
          refine st rfl rfl rfl rfl (x_asg rfl) ?_
          refine st rfl rfl rfl rfl (x_asg rfl) ?_
          refine rl_end rfl ?_
          refine al_k ?_
          refine cl_ret rfl ?_
          refine fin2 rfl rfl rfl ?_
          exact ⟨.no (qstep_2n c4_0 c5_10), F⟩
        · skip
          refine dt (i := 11) rfl rfl rfl rfl (by kernel_rfl) (fun _ => x_pick0 rfl rfl) ?_
          replace F := F.trans frd5
          replace b3 := b3.fr0 frd5
          refine dn (by kernel_rfl) ?_
          refine al_k ?_
          refine cl_if0 rfl rfl ?_
          refine cl_skip rfl ?_
          refine al_k ?_
          refine cl_seq rfl ?_
          refine cl_reg rfl ?_
          refine st rfl rfl rfl rfl (x_move rfl) ?_
          refine st rfl rfl rfl rfl (x_sll rfl rfl Try.underlying74 Try.sizeOf40 (by simp only [List.length_cons]; omega)) ?_
          refine st rfl rfl rfl rfl (x_asg rfl) ?_
          refine st rfl rfl rfl rfl (x_asg rfl) ?_
          refine rl_end rfl ?_
          refine al_k ?_
          refine cl_ret rfl ?_
          refine fin2 rfl rfl rfl ?_
          exact ⟨.yes (qstep_2y c4_0 (Decidable.not_not.1 c5_10)) ⟨_, _, rfl, RowG.tail (HQ.fr0 F) hcp, by simp only [List.length_cons] at hcp; show q1.length ≤ c - 1; omega⟩, F⟩
    · skip
      refine st rfl rfl rfl rfl (x_asg rfl) ?_
      refine rl_end rfl ?_
      refine al_k ?_
      refine cl_if0 rfl rfl ?_
      refine cl_seq rfl ?_
      refine cl_reg rfl ?_
      refine sf rfl rfl rfl rfl (x_eql rfl rfl) (fun c8_0 => ?_) (fun c8_0 => ?_)
      · skip
        refine st rfl rfl rfl rfl (x_asg rfl) ?_
        refine rl_end rfl ?_
        refine al_k ?_
        refine cl_if1 rfl rfl ?_
        refine cl_seq rfl ?_
        refine cl_reg rfl ?_
        refine st rfl rfl rfl rfl (x_move rfl) ?_
        refine st rfl rfl rfl rfl (x_move rfl) ?_
        refine st rfl rfl rfl rfl (x_len rfl Try.underlying74) ?_
        refine sf rfl rfl rfl rfl (x_eql rfl rfl) (fun c9_3 => ?_) (fun c9_3 => ?_)
        · skip
          refine st rfl rfl rfl rfl (x_asg rfl) ?_
          refine st rfl rfl rfl rfl (x_asg rfl) ?_
          refine rl_end rfl ?_
          refine al_k ?_
          refine cl_ret rfl ?_
          refine fin2 rfl rfl rfl ?_
          obtain rfl : q = [] := List.eq_nil_of_length_eq_zero (by omega)
          exact ⟨.yes (by rw [qstep_3 c8_0]; rfl) ⟨A, c, rfl, RowG.nil _ _, hcp⟩, F⟩
        · skip
          refine st rfl rfl rfl rfl (x_asg rfl) ?_
          refine st rfl rfl rfl rfl (x_asg rfl) ?_
          refine rl_end rfl ?_
          refine al_k ?_
          refine cl_ret rfl ?_
          refine fin2 rfl rfl rfl ?_
          exact ⟨.no (by rw [qstep_3 c8_0, if_neg (fun h => by subst h; exact c9_3 rfl)]), F⟩
      · skip
        refine st rfl rfl rfl rfl (x_asg rfl) ?_
        refine rl_end rfl ?_
        refine al_k ?_
        refine cl_if0 rfl rfl ?_
        refine cl_skip rfl ?_
        refine al_k ?_
        refine cl_seq rfl ?_
        refine cl_reg rfl ?_
        refine st rfl rfl rfl rfl (x_mkf rfl rfl) ?_
        refine st rfl rfl rfl rfl (x_asg rfl) ?_
        refine rl_end rfl ?_
        refine al_k ?_
        refine cl_seq rfl ?_
        refine cl_reg rfl ?_
        refine st rfl rfl rfl rfl (x_move rfl) ?_
        refine sc rfl rfl rfl rfl (c_fn rfl Try.call47 (cloneQ_c _ A c q (HQ.fr0 F) hq)) ?_
        rintro v40 w40 ⟨HO, fr⟩
        obtain ⟨A7, c7, rfl, HR7, hc7⟩ := SlG.own (by decide) lenD HO rfl rfl
        have FC := Fr.refl [] wb3
        replace FC := FC.trans fr
        have b3C := b3
        have FW := F
        replace F := F.trans fr
        replace b3 := b3.fr0 fr
        clear fr
        refine st rfl rfl rfl rfl (x_move rfl) ?_
        refine sc rfl rfl rfl rfl (c_fn rfl Try.call49 (deleteQ_c _ A7 c7 q _ (fun x => decide (x.lane = d.lane)) 48 [.pointer (some ⟨w.heap.size, 0, none⟩)] Try.call48 (fun w1 h1 x hx => goneQ_c w1 x d _ (b3C.fr0 h1)) FC HO HR7 hq)) ?_
        rintro r42 w42 ⟨hs42, fr⟩
        replace F := FW.trans fr
        clear fr
        refine st rfl rfl rfl rfl (x_asg rfl) ?_
        refine st rfl rfl rfl rfl (x_asg rfl) ?_
        refine rl_end rfl ?_
        refine al_k ?_
        refine cl_ret rfl ?_
        refine fin2 rfl rfl rfl ?_
        refine ⟨.yes (qstep_4 c2_0 c4_0 c8_0) ?_, F⟩
        have e : (q.filter fun x => decide (x.lane ≠ d.lane)) = q.filter (fun x => !decide (x.lane = d.lane)) := List.filter_congr (fun x _ => by simp)
        rw [e]
        exact hs42

end Go.Proofs.Ytmeheoflfdmgiaa.Lin
