/- Forests: the walks of what is asked of a node, and of set. -/
import Derived.Test.YtcbkpekbfkaeeaaDoorFoC
import Derived.Test.YtcbkpekbfkaeeaaDoorSxG
import Derived.Test.YtcbkpekbfkaeeaaDoorSxR
import Derived.Test.YtcbkpekbfkaeeaaDoorProg
set_option linter.unusedVariables false
set_option linter.unusedSimpArgs false
namespace Go.Proofs.YtcbkpekbfkaeeaaDoor.Fo
open Go Go.RowKit Go.Proofs.YtcbkpekbfkaeeaaDoor.Sx Go.Proofs.YtcbkpekbfkaeeaaDoor
open Go.Proofs.YtcbkpekbfkaeeaaDoor.Ls (LsR push_r drop_r new_r row_r aAll aPush aDrop okL okN Glb)
open Go.Proofs.YtcbkpekbfkaeeaaDoor.Lin (encI lenI oneIn RowI.at_ SlG SlG.own SlG.nil SlG.fr0 RowG.all RowG.none flat_mem1 flat_app' flat_one' own_cast)
set_option maxRecDepth 100000

theorem cW (w : World) (k : FK) (N : Nat) (ws : List (BitVec 64)) (lk : List (Int × Bool)) (rows : Ls.Rows) (sz : Int) (K : FoAt w k N ws lk rows sz) {n : Nat} (hn : n < 1024) : w.cell? ⟨k.fp, 0 + 2 + ((n / 64 : Nat) : Int).toNat * 1, none⟩ = some (encU ((ws[n / 64]?).getD 0#64)) := by
  have e : 0 + 2 + ((n / 64 : Nat) : Int).toNat * 1 = 2 + n / 64 := by omega
  rw [e]
  refine K.top.cell ?_
  obtain ⟨b, hb⟩ : ∃ b, ws[n / 64]? = some b := ⟨_, List.getElem?_eq_getElem (by rw [K.hw]; omega)⟩
  rw [topC_get hb, hb]
  rfl
theorem cL (w : World) (k : FK) (N : Nat) (ws : List (BitVec 64)) (lk : List (Int × Bool)) (rows : Ls.Rows) (sz : Int) (K : FoAt w k N ws lk rows sz) {n j : Nat} {x : Int × Bool} {v : Value} (hx : lk[n]? = some x) (hv : (encK x)[j]? = some v) : w.cell? ⟨k.lb, n * 2 + j, none⟩ = some v := by
  have hj : j < 2 := by have := (List.getElem?_eq_some_iff.1 hv).1; rwa [lenK] at this
  refine K.lnk.cell ?_
  rw [flat_get lenK hx hj]
  exact hv
theorem bslL (x : Int × Bool) (w : World) : (Instr.buildSlice 57 1 [(0, .agg (encK x).toArray)].toArray).run Tryd.prog w = .ok (.slice (some ⟨w.heap.size, 0, none⟩) 1 1) (w.alloc (.cells (encK x).toArray 74)) := by kernel_rfl
theorem bldRoot (w : World) : (Instr.build 74 [(1, .bool true)].toArray).run Tryd.prog w = .ok (.agg (encK (lkOf (-1))).toArray) w := by kernel_rfl
theorem bldKid (p : Int) (w : World) : (Instr.build 74 [(0, .int .i64 p)].toArray).run Tryd.prog w = .ok (.agg (encK (p, false)).toArray) w := by kernel_rfl

theorem is_a (w : World) (k : FK) (N : Nat) (ws : List (BitVec 64)) (lk : List (Int × Bool)) (rows : Ls.Rows) (sz : Int) (K : FoAt w k N ws lk rows sz) : Cl Tryd.prog 37 [.pointer (some ⟨k.fp, 0, none⟩)] w (fun v w' => v = .bool true ∧ w' = w) := by
  refine enter Tryd.func37 rfl Tryd.ntmps37 rfl ?_
  refine cl_seq rfl ?_
  refine cl_reg rfl ?_
  refine st rfl rfl rfl rfl (x_asg rfl) ?_
  refine rl_end rfl ?_
  refine al_k ?_
  refine cl_seq rfl ?_
  refine cl_reg rfl ?_
  refine st rfl rfl rfl rfl (x_move rfl) ?_
  refine st rfl rfl rfl rfl (x_neqp rfl rfl Tryd.underlying24) ?_
  refine st rfl rfl rfl rfl (x_move rfl) ?_
  refine st rfl rfl rfl rfl (x_move rfl) ?_
  refine st rfl rfl rfl rfl (x_nil rfl) ?_
  refine st rfl rfl rfl rfl (x_fa rfl Tryd.underlying60 rfl Tryd.sizeOf4 0 rfl) ?_
  refine st rfl rfl rfl rfl (x_ld rfl Tryd.isAgg4 (K.top.cell rfl)) ?_
  refine st rfl rfl rfl rfl (x_pick1 rfl rfl) ?_
  refine st rfl rfl rfl rfl (x_asg rfl) ?_
  refine rl_end rfl ?_
  refine al_k ?_
  refine cl_ret rfl ?_
  refine fin1 rfl rfl ?_
  exact ⟨rfl, rfl⟩

theorem num_a (w : World) (k : FK) (N : Nat) (ws : List (BitVec 64)) (lk : List (Int × Bool)) (rows : Ls.Rows) (sz : Int) (K : FoAt w k N ws lk rows sz) (n : Int) : Cl Tryd.prog 38 [.pointer (some ⟨k.fp, 0, none⟩), .int .i64 n] w (fun v w' => v = .bool (decide (okF N n)) ∧ w' = w) := by
  refine enter Tryd.func38 rfl Tryd.ntmps38 rfl ?_
  refine cl_seq rfl ?_
  refine cl_reg rfl ?_
  refine st rfl rfl rfl rfl (x_asg rfl) ?_
  refine rl_end rfl ?_
  refine al_k ?_
  refine cl_seq rfl ?_
  refine cl_reg rfl ?_
  refine st rfl rfl rfl rfl (x_move rfl) ?_
  refine sf rfl rfl rfl rfl (x_geq rfl rfl) (fun c1_1 => ?_) (fun c1_1 => ?_)
  · skip
    refine st rfl rfl rfl rfl (x_move rfl) ?_
    refine st rfl rfl rfl rfl (x_move rfl) ?_
    refine st rfl rfl rfl rfl (x_move rfl) ?_
    refine st rfl rfl rfl rfl (x_nil rfl) ?_
    refine st rfl rfl rfl rfl (x_fa rfl Tryd.underlying60 rfl Tryd.sizeOf3 1 rfl) ?_
    refine st rfl rfl rfl rfl (x_ld rfl Tryd.isAgg3 (K.top.cell rfl)) ?_
    refine sf rfl rfl rfl rfl (x_lss rfl rfl) (fun c1_8 => ?_) (fun c1_8 => ?_)
    · skip
      refine st rfl rfl rfl rfl (x_pick1 rfl rfl) ?_
      refine st rfl rfl rfl rfl (x_asg rfl) ?_
      refine rl_end rfl ?_
      refine al_k ?_
      refine cl_ret rfl ?_
      refine fin1 rfl rfl ?_
      rw [decide_eq_true (p := okF N n) ⟨c1_1, c1_8⟩]
      exact ⟨rfl, rfl⟩
    · skip
      refine st rfl rfl rfl rfl (x_pick1 rfl rfl) ?_
      refine st rfl rfl rfl rfl (x_asg rfl) ?_
      refine rl_end rfl ?_
      refine al_k ?_
      refine cl_ret rfl ?_
      refine fin1 rfl rfl ?_
      rw [decide_eq_false (p := okF N n) (fun h => c1_8 h.2)]
      exact ⟨rfl, rfl⟩
  · skip
    refine st rfl rfl rfl rfl (x_move rfl) ?_
    refine so rfl rfl rfl rfl ?_
    refine so rfl rfl rfl rfl ?_
    refine so rfl rfl rfl rfl ?_
    refine so rfl rfl rfl rfl ?_
    refine so rfl rfl rfl rfl ?_
    refine so rfl rfl rfl rfl ?_
    refine st rfl rfl rfl rfl (x_pick0 rfl rfl) ?_
    refine st rfl rfl rfl rfl (x_asg rfl) ?_
    refine rl_end rfl ?_
    refine al_k ?_
    refine cl_ret rfl ?_
    refine fin1 rfl rfl ?_
    rw [decide_eq_false (p := okF N n) (fun h => c1_1 h.1)]
    exact ⟨rfl, rfl⟩

theorem has_a (w : World) (k : FK) (N : Nat) (ws : List (BitVec 64)) (lk : List (Int × Bool)) (rows : Ls.Rows) (sz : Int) (K : FoAt w k N ws lk rows sz) (n : Int) : Cl Tryd.prog 17 [.pointer (some ⟨k.fp, 0, none⟩), .int .i64 n] w (fun v w' => v = .bool (decide (okF N n) && wordBit ws n.toNat) ∧ w' = w) := by
  refine enter Tryd.func17 rfl Tryd.ntmps17 rfl ?_
  refine cl_seq rfl ?_
  refine cl_reg rfl ?_
  refine st rfl rfl rfl rfl (x_asg rfl) ?_
  refine rl_end rfl ?_
  refine al_k ?_
  refine cl_seq rfl ?_
  refine cl_reg rfl ?_
  refine st rfl rfl rfl rfl (x_move rfl) ?_
  refine sc rfl rfl rfl rfl (c_fn rfl Tryd.call37 (is_a w k N ws lk rows sz K)) ?_
  rintro _ wk ⟨rfl, hwk⟩
  obtain rfl := hwk.symm
  refine st rfl rfl rfl rfl (x_move rfl) ?_
  refine st rfl rfl rfl rfl (x_move rfl) ?_
  refine st rfl rfl rfl rfl (x_move rfl) ?_
  refine sc rfl rfl rfl rfl (c_fn rfl Tryd.call38 (num_a w k N ws lk rows sz K n)) ?_
  rintro _ wk ⟨rfl, hwk⟩
  obtain rfl := hwk.symm
  cases hf1_5 : (decide (okF N n))
  · skip
    refine st rfl rfl rfl rfl (x_pick1 rfl rfl) ?_
    refine st rfl rfl rfl rfl (x_move rfl) ?_
    refine so rfl rfl rfl rfl ?_
    refine so rfl rfl rfl rfl ?_
    refine so rfl rfl rfl rfl ?_
    refine so rfl rfl rfl rfl ?_
    refine so rfl rfl rfl rfl ?_
    refine so rfl rfl rfl rfl ?_
    refine so rfl rfl rfl rfl ?_
    refine so rfl rfl rfl rfl ?_
    refine so rfl rfl rfl rfl ?_
    refine so rfl rfl rfl rfl ?_
    refine so rfl rfl rfl rfl ?_
    refine so rfl rfl rfl rfl ?_
    refine st rfl rfl rfl rfl (x_pick0 rfl rfl) ?_
    refine st rfl rfl rfl rfl (x_asg rfl) ?_
    refine rl_end rfl ?_
    refine al_k ?_
    refine cl_ret rfl ?_
    refine fin1 rfl rfl ?_
    exact ⟨rfl, rfl⟩
  · skip
    refine st rfl rfl rfl rfl (x_pick1 rfl rfl) ?_
    refine st rfl rfl rfl rfl (x_move rfl) ?_
    obtain ⟨m, rfl⟩ : ∃ q : Nat, n = q := ⟨n.toNat, by have h9 := of_decide_eq_true hf1_5; unfold okF at h9; omega⟩
    have hm := of_decide_eq_true hf1_5
    have hm2 := K.sN
    unfold okF at hm
    refine st rfl rfl rfl rfl (x_move rfl) ?_
    refine st rfl rfl rfl rfl (x_move rfl) ?_
    refine st rfl rfl rfl rfl (x_shr6 rfl rfl) ?_
    refine st rfl rfl rfl rfl (x_nil rfl) ?_
    refine st rfl rfl rfl rfl (x_fa rfl Tryd.underlying60 rfl Tryd.sizeOf56 2 rfl) ?_
    refine st rfl rfl rfl rfl (x_iaa rfl rfl Tryd.underlying56 Tryd.sizeOf55 (by omega)) ?_
    refine st rfl rfl rfl rfl (x_ld rfl Tryd.isAgg55 (cW w k N ws lk rows sz K (by omega))) ?_
    refine st rfl rfl rfl rfl (x_move rfl) ?_
    refine st rfl rfl rfl rfl (x_and63 rfl rfl) ?_
    refine st rfl rfl rfl rfl (x_shrv (a := (ws[m / 64]?).getD 0#64) (i := m % 64) rfl rfl (by omega)) ?_
    refine st rfl rfl rfl rfl (x_and (a := ((ws[m / 64]?).getD 0#64) >>> (m % 64)) (b := 1#64) rfl rfl) ?_
    refine st rfl rfl rfl rfl (x_eql rfl rfl) ?_
    refine st rfl rfl rfl rfl (x_pick1 rfl rfl) ?_
    refine st rfl rfl rfl rfl (x_asg rfl) ?_
    refine rl_end rfl ?_
    refine al_k ?_
    refine cl_ret rfl ?_
    refine fin1 rfl rfl ?_
    refine ⟨congrArg Value.bool ?_, rfl⟩
    rw [bit_one]
    rfl

theorem Has_r {D : List Int} (w : World) (k : FK) (N : Nat) (L : En) (K : FoR w k N L D) (n : Int) : Cl Tryd.prog 17 [.pointer (some ⟨k.fp, 0, none⟩), .int .i64 n] w (fun v w' => v = .bool (has L n && !D.contains n) ∧ w' = w) := by
  obtain ⟨ws, lk, rows, sz, K, R⟩ := K.ex
  refine (has_a w k N ws lk rows sz K n).mono ?_
  rintro v w' ⟨rfl, rfl⟩
  refine ⟨congrArg Value.bool ?_, rfl⟩
  by_cases hn : okF N n
  · rw [decide_eq_true hn, Bool.true_and]
    have h1 := K.sN
    unfold okF at hn
    rw [R.bits n.toNat (by omega), show ((n.toNat : Nat) : Int) = n by omega]
  · rw [decide_eq_false hn]
    cases hh : has L n with
    | false => rfl
    | true =>
      obtain ⟨p, hp⟩ := has_iff.1 hh
      exact absurd (R.inv.rg _ hp) hn

theorem Has_c (w : World) (k : FK) (N : Nat) (L : En) (K : FoR w k N L []) (n : Int) : Cl Tryd.prog 17 [.pointer (some ⟨k.fp, 0, none⟩), .int .i64 n] w (fun v w' => v = .bool (has L n) ∧ w' = w) := by
  refine (Has_r w k N L K n).mono ?_
  rintro v w' ⟨rfl, rfl⟩
  exact ⟨by simp, rfl⟩

theorem set_a (w : World) (k : FK) (N : Nat) (ws : List (BitVec 64)) (lk : List (Int × Bool)) (rows : Ls.Rows) (sz : Int) (K : FoAt w k N ws lk rows sz) (n : Nat) (hn : n < N) (x : Int × Bool) (hsz : -100000 ≤ sz ∧ sz ≤ 100000) : Cl Tryd.prog 41 [.pointer (some ⟨k.fp, 0, none⟩), .int .i64 n, .agg (encK x).toArray] w (fun v w' => FoAt w' k N (ws.set (n / 64) (((ws[n / 64]?).getD 0#64) ||| ((1#64) <<< (n % 64)))) (lk.set n x) rows (sz + 1) ∧ Fr [k.fp, k.lb] w w') := by
  have F := Fr.refl [] w
  have hlt := K.lt
  have hN := K.sN
  have hz0 := hlt k.fp (by simp [FK.ids])
  refine enter Tryd.func41 rfl Tryd.ntmps41 rfl ?_
  refine cl_seq rfl ?_
  refine cl_reg rfl ?_
  refine se rfl rfl rfl rfl (e_new (x_box (cs := encK x) rfl rfl)) ?_
  rintro _ w5 ⟨rfl, b5, fr, _⟩
  replace F := F.trans fr
  replace K := K.fr0 fr
  clear fr
  refine rl_end rfl ?_
  refine al_k ?_
  refine cl_seq rfl ?_
  refine cl_reg rfl ?_
  refine se rfl rfl rfl rfl (e_new (x_mk 2 16 (.agg (encK (0, false)).toArray) (m := 1) (cs := encK (0, false)) rfl rfl Tryd.underlying57 (by kernel_rfl) (by kernel_rfl) (by omega) (by omega))) ?_
  rintro _ w10 ⟨rfl, b6, fr, _⟩
  have hb6w := F.size
  have n56 := Nat.ne_of_lt b5.lt
  replace F := F.trans fr
  replace K := K.fr0 fr
  replace b5 := b5.fr0 fr
  clear fr
  generalize hb6n : w5.heap.size = n6 at *
  refine st rfl rfl rfl rfl (x_asg rfl) ?_
  refine rl_end rfl ?_
  refine al_k ?_
  refine cl_seq rfl ?_
  refine cl_reg rfl ?_
  refine st rfl rfl rfl rfl (x_move rfl) ?_
  refine st rfl rfl rfl rfl (x_ldn (cs := encK x) rfl Tryd.isAgg74 Tryd.sizeOf74 rfl (by intro j v hv; rw [Nat.zero_add]; exact b5.cell hv)) ?_
  refine se rfl rfl rfl rfl (e_new (x_bsl rfl (bslL _ _))) ?_
  rintro _ w22 ⟨rfl, b8, fr, _⟩
  have n68 := Nat.ne_of_lt b6.lt
  replace F := F.trans fr
  replace K := K.fr0 fr
  replace b5 := b5.fr0 fr
  replace b6 := b6.fr0 fr
  clear fr
  refine se rfl rfl rfl rfl (e_copy1 (e := 74) rfl rfl rfl Tryd.underlying57 Tryd.sizeOf74 b6 b8 rfl rfl (oneK x)) ?_
  rintro _ w23 ⟨b6c, fr⟩
  have hno : n6 ∉ k.ids := fun hq => by have := hlt n6 hq; omega
  replace K := K.fr fr (by intro q hq; simp at hq; subst hq; exact hno) (by simp; omega)
  replace F := F.trans_new fr (by intro q hq; simp at hq; subst hq; exact .inr hb6w)
  clear fr b6
  refine rl_end rfl ?_
  refine al_k ?_
  refine cl_seq rfl ?_
  refine cl_draw (by kernel_rfl) rfl [9] (fun w' => w'.heap = w23.heap) ?_
  rintro wd3 frd3 hpd3
  refine ⟨hpd3, ?_⟩
  refine dt (i := 0) rfl rfl rfl rfl (by kernel_rfl) (fun _ => x_move rfl) ?_
  refine dt (i := 1) rfl rfl rfl rfl (by kernel_rfl) (fun _ => x_nil rfl) ?_
  refine dt (i := 2) rfl rfl rfl rfl (by kernel_rfl) (fun _ => x_fa rfl Tryd.underlying60 rfl Tryd.sizeOf57 18 rfl) ?_
  refine dlt (i := 3) rfl rfl rfl rfl (by kernel_rfl) (by kernel_rfl) (fun w' hU => x_ld rfl Tryd.isAgg57 (heq hU (K.top.cell (topC_18 K.hw).1))) ?_
  refine dt (i := 4) rfl rfl rfl rfl (by kernel_rfl) (fun _ => x_move rfl) ?_
  refine dt (i := 5) rfl rfl rfl rfl (by kernel_rfl) (fun _ => x_move rfl) ?_
  refine dt (i := 6) rfl rfl rfl rfl (by kernel_rfl) (fun _ => x_ia0 rfl rfl Tryd.underlying57 Tryd.sizeOf74 (by omega)) ?_
  refine dlt (i := 7) rfl rfl rfl rfl (by kernel_rfl) (by kernel_rfl) (fun w' hU => x_ldn rfl Tryd.isAgg74 Tryd.sizeOf74 rfl (heqn hU (by intro j v hv; have e : Int.toNat 0 * 2 + j = j := (by omega); rw [e]; exact b6c.cell hv))) ?_
  refine dt (i := 8) rfl rfl rfl rfl (by kernel_rfl) (fun _ => x_ia0 rfl rfl Tryd.underlying57 Tryd.sizeOf74 (by omega)) ?_
  replace F := F.trans frd3
  replace K := K.fr0 frd3
  replace b6c := b6c.fr0 frd3
  refine d1 (i := 9) (by kernel_rfl) ?_
  refine osv rfl rfl rfl (v_e lenK (xs := lk) (i := n) x rfl rfl rfl rfl (oneK x) Tryd.sizeOf74 K.lnk (by rw [K.hl]; exact hn)) ?_
  rintro w39 ⟨lb2, fr⟩
  replace K := K.setL (lk' := lk.set n x) (by rw [List.length_set]; exact K.hl) lb2 fr
  generalize hlk2 : lk.set n x = lk2 at K
  replace F : Fr [k.fp, k.lb] w w39 := (F.mono (fun q h => absurd h (by simp))).trans (fr.mono (by intro q hq; simp at hq; simp [hq]))
  clear fr lb2
  refine ⟨.inl (by kernel_rfl), ?_⟩
  refine dn (by kernel_rfl) ?_
  refine al_k ?_
  refine cl_seq rfl ?_
  refine cl_draw (by kernel_rfl) rfl [14] (fun w' => w'.heap = w39.heap) ?_
  rintro wd4 frd4 hpd4
  refine ⟨hpd4, ?_⟩
  refine dt (i := 0) rfl rfl rfl rfl (by kernel_rfl) (fun _ => x_move rfl) ?_
  refine dt (i := 1) rfl rfl rfl rfl (by kernel_rfl) (fun _ => x_move rfl) ?_
  refine dt (i := 2) rfl rfl rfl rfl (by kernel_rfl) (fun _ => x_shr6 rfl rfl) ?_
  refine dt (i := 3) rfl rfl rfl rfl (by kernel_rfl) (fun _ => x_nil rfl) ?_
  refine dt (i := 4) rfl rfl rfl rfl (by kernel_rfl) (fun _ => x_fa rfl Tryd.underlying60 rfl Tryd.sizeOf56 2 rfl) ?_
  refine dt (i := 5) rfl rfl rfl rfl (by kernel_rfl) (fun _ => x_iaa rfl rfl Tryd.underlying56 Tryd.sizeOf55 (by omega)) ?_
  refine dlt (i := 6) rfl rfl rfl rfl (by kernel_rfl) (by kernel_rfl) (fun w' hU => x_ld rfl Tryd.isAgg55 (heq hU (cW _ k N ws lk2 rows sz K (by omega)))) ?_
  refine dt (i := 7) rfl rfl rfl rfl (by kernel_rfl) (fun _ => x_move rfl) ?_
  refine dt (i := 8) rfl rfl rfl rfl (by kernel_rfl) (fun _ => x_and63 rfl rfl) ?_
  refine dt (i := 9) rfl rfl rfl rfl (by kernel_rfl) (fun _ => x_shl1 (i := n % 64) rfl rfl (by omega)) ?_
  refine dt (i := 10) rfl rfl rfl rfl (by kernel_rfl) (fun _ => x_or (a := (ws[n / 64]?).getD 0#64) (b := (1#64) <<< (n % 64)) rfl rfl) ?_
  refine dt (i := 11) rfl rfl rfl rfl (by kernel_rfl) (fun _ => x_nil rfl) ?_
  refine dt (i := 12) rfl rfl rfl rfl (by kernel_rfl) (fun _ => x_fa rfl Tryd.underlying60 rfl Tryd.sizeOf56 2 rfl) ?_
  refine dt (i := 13) rfl rfl rfl rfl (by kernel_rfl) (fun _ => x_iaa rfl rfl Tryd.underlying56 Tryd.sizeOf55 (by omega)) ?_
  replace F := F.trans (Fr.of0 frd4)
  replace K := K.fr0 frd4
  refine d1 (i := 14) (by kernel_rfl) ?_
  refine osv rfl rfl rfl (v_1 rfl rfl rfl rfl Tryd.sizeOf55 K.top (by rw [topC_len K.hw]; show 0 + 2 + ((n / 64 : Nat) : Int).toNat * 1 < 21; omega)) ?_
  rintro w414 ⟨t2, fr⟩
  have e9 : 0 + 2 + ((n / 64 : Nat) : Int).toNat * 1 = 2 + n / 64 := by omega
  rw [e9] at t2
  have t3 := topC_set (N := N) (k := k) (sz := sz) (((ws[n / 64]?).getD 0#64) ||| ((1#64) <<< (n % 64))) (i := n / 64) (ws := ws) (by rw [K.hw]; omega)
  rw [show encU (((ws[n / 64]?).getD 0#64) ||| ((1#64) <<< (n % 64))) = .int .u64 (((((ws[n / 64]?).getD 0#64) ||| ((1#64) <<< (n % 64))).toNat : Nat) : Int) from rfl] at t3
  rw [t3] at t2
  replace K := K.setT (by rw [List.length_set]; exact K.hw) t2 fr
  replace F := F.trans (fr.mono (by intro q hq; simp at hq; simp [hq]))
  clear fr t2 t3
  refine ⟨.inl (by kernel_rfl), ?_⟩
  refine dn (by kernel_rfl) ?_
  refine al_k ?_
  refine cl_reg rfl ?_
  refine st rfl rfl rfl rfl (x_move rfl) ?_
  refine st rfl rfl rfl rfl (x_nil rfl) ?_
  refine st rfl rfl rfl rfl (x_fa rfl Tryd.underlying60 rfl Tryd.sizeOf3 20 rfl) ?_
  refine st rfl rfl rfl rfl (x_ld rfl Tryd.isAgg3 (K.top.cell (topC_18 K.hw).2.2)) ?_
  refine st rfl rfl rfl rfl (x_add rfl rfl (by omega)) ?_
  refine st rfl rfl rfl rfl (x_nil rfl) ?_
  refine st rfl rfl rfl rfl (x_fa rfl Tryd.underlying60 rfl Tryd.sizeOf3 20 rfl) ?_
  refine sv rfl rfl rfl (v_1 rfl rfl rfl rfl Tryd.sizeOf3 K.top (by rw [topC_len K.hw]; decide)) ?_
  rintro w57 ⟨t2, fr⟩
  have t3 := topC_sz (N := N) (k := k) (sz := sz) K.hw (sz + 1)
  rw [show 0 + 20 = 20 from rfl, t3] at t2
  replace K := K.setT K.hw t2 fr
  replace F := F.trans (fr.mono (by intro q hq; simp at hq; simp [hq]))
  clear fr t2 t3
  refine rl_end rfl ?_
  refine fin0n rfl ?_
  subst hlk2
  exact ⟨K, F⟩

end Go.Proofs.YtcbkpekbfkaeeaaDoor.Fo
