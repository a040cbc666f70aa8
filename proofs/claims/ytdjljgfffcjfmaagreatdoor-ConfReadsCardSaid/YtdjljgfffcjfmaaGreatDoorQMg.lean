/- Settings, over trees: the check of a channel's lanes; both texts. -/
import Derived.Test.YtdjljgfffcjfmaaGreatDoorQMf
set_option linter.unusedVariables false
set_option linter.unusedSimpArgs false
namespace Go.Proofs.YtdjljgfffcjfmaaGreatDoor.Cf
open Go Go.RowKit Go.Proofs.YtdjljgfffcjfmaaGreatDoor.Sx
open Go.Proofs.YtdjljgfffcjfmaaGreatDoor.Bi (mixed RU Rs at_ at_some has_nat Has_t rHas_t take_s)
/-- The first thing that is wrong. -/
def fst0 (e : Nat → Int) : Nat → Int
  | 0 => 0
  | n + 1 => if fst0 e n = 0 then e n else fst0 e n
theorem fst0_ok {e : Nat → Int} : ∀ {n : Nat}, (∀ i, i < n → e i = 0) → fst0 e n = 0 := by
  intro n
  induction n with
  | zero => intro _; rfl
  | succ n ih =>
    intro h
    unfold fst0
    rw [ih (fun i hi => h i (by omega)), if_pos rfl, h n (by omega)]
theorem fst0_at {e : Nat → Int} {i : Nat} : ∀ {n : Nat}, i < n → (∀ j, j < i → e j = 0) → ¬ e i = 0 → fst0 e n = e i := by
  intro n
  induction n with
  | zero => intro h; omega
  | succ n ih =>
    intro hi h hb
    unfold fst0
    by_cases hn : i < n
    · rw [ih hn h hb, if_neg hb]
    · obtain rfl : i = n := by omega
      rw [fst0_ok h, if_pos rfl]
/-- A tenant's label. -/
def tl (c : GConf) (t : Int) : Int := match c.tenants[t.toNat]? with | some x => x.label | none => 0
def lanB (c : GConf) (x : GChannel) (i : Nat) : Int := match x.lanes[i]? with
  | some l => if (isT c l.tenant && !dupL (x.lanes.take i) l.tenant && win l.credit 1 64) = true then (if fw c (tl c l.tenant) x.label = true then 0 else 44) else 42
  | none => 0
def lanE (c : GConf) (x : GChannel) : Int := fst0 (lanB c x) x.lanes.length
/-- What the checks ahead have found: labels of tenants are labels; labels are at most 64. -/
structure Ok2 (c : GConf) : Prop where
  wf : Wf c
  l64 : c.flows.length ≤ 64
  ten : ∀ t ∈ c.tenants, isL c t.label = true
theorem Ok2.lab {c : GConf} (h : Ok2 c) {n : Int} (hn : isL c n = true) : 0 ≤ n ∧ n < 64 := by
  have := of_decide_eq_true hn
  have := h.l64
  omega
section
variable {Z : ZP} {w : World}
theorem lanes_t {cs xs : List Value} {c : GConf} {x : GChannel} (hc : rConf.r w cs c) (hx : rChannel.r w xs x) (O : Ok2 c) (hxl : isL c x.label = true) : Cz Tryz.prog 90 [.agg cs.toArray, .agg xs.toArray] w (fun r w' => r = I (lanE c x) ∧ Fr [] w w') Z := by
  obtain ⟨A0, c0, A1, c1, A2, c2, A3, c3, A4, c4, rfl, k0, k1, k2, k3, k4⟩ := oConf hc
  obtain ⟨L1, d1, L2, d2, rfl, m1, m2⟩ := oChannel hx
  refine go mixed Tryz.func90 Tryz.call90 rfl (Tr.e90 _ _) ?_
  have hlb := m1.2.1
  simp only [big] at hlb
  refine r_box (fun b w1 hb Bb f1 => ?_)
  refine r_box (fun y w2 hy Yb f2 => ?_)
  have F2 := f1.trans f2
  have Bb2 := Bb.fr0 f2
  refine r_ld (Yb.cell (o := 1) rfl) ?_
  refine r_loop (fun (i : Nat) => [I (i : Int), I 0]) (fun i w' => i ≤ x.lanes.length ∧ (∀ j, j < i → lanB c x j = 0) ∧ Fr [] w2 w') (fun i => x.lanes.length - i) 0 ⟨Nat.zero_le _, fun _ h => by omega, Fr.refl _ _⟩ rfl ?_
  rintro i w3 ⟨hi, hok, G⟩
  have F3 := F2.trans G
  refine r_if (fun h => ?_) (fun h => ?_)
  · obtain ⟨l, hl⟩ := gt (xs := x.lanes) (j := i) (by omega)
    have hB : lanB c x i = if (isT c l.tenant && !dupL (x.lanes.take i) l.tenant && win l.credit 1 64) = true then (if fw c (tl c l.tenant) x.label = true then 0 else 44) else 42 := by unfold lanB; rw [hl]
    have bad : ∀ {w5 : World} {e : Int}, Fr [] w w5 → lanB c x i = e → ¬ e = 0 → I e = I (lanE c x) ∧ Fr [] w w5 := fun F he hne => ⟨by unfold lanE; rw [fst0_at (by omega) hok (by rw [he]; exact hne), he], F⟩
    obtain ⟨ad, es, rfl, rd, e3⟩ := (m1.2.2.up F3) i l hl
    obtain rfl := e3
    refine r_ob ⟨by omega, by omega⟩ ?_
    refine r_ldn rd ?_
    refine r_as (cs := eLane l) (zs := [I 0, I 0, B false]) (n := 3) (fun lb w4 hlb4 T4 f4 => ?_) Tryz.zeroValue63 Tryz.sizeOf63 (iLane l)
    have F4 := F3.trans f4
    refine r_ldn ((Bb2.fr0 G).fr0 f4).rd ?_
    refine r_ld (T4.cell (o := 0) rfl) ?_
    refine r_call (tenant_t (rConf.up F4 hc) l.tenant) ?_
    rintro _ w5 ⟨rfl, f5⟩
    have F5 := F4.trans f5
    refine r_ifbn (fun ht => ?_) (fun ht => ?_)
    · exact r_ret (bad F5 (by rw [hB, ht]; rfl) (by decide))
    refine r_ld ((((Yb.fr0 G).fr0 f4).fr0 f5).cell (o := 1) rfl) ?_
    refine r_slh (e := 63) (m := i) Tryz.underlying55 Tryz.sizeOf63 (by omega) (by omega) (by omega) ?_
    have hlen : (x.lanes.take i).length = i := by rw [List.length_take]; omega
    have cc := containsL_t (Z := ZD [] Z) (cp := d1) (l := l) ((m1.2.2.up F5).take i) (by rw [hlen]; simp only [big]; omega) (T4.fr0 f5)
    rw [hlen] at cc
    refine r_call cc ?_
    rintro _ w6 ⟨rfl, f6⟩
    have F6 := F5.trans f6
    refine r_ifb (fun hd => ?_) (fun hd => ?_)
    · exact r_ret (bad F6 (by rw [hB, ht, hd]; rfl) (by decide))
    refine r_ld (((T4.fr0 f5).fr0 f6).cell (o := 1) rfl) ?_
    refine r_call (within_t l.credit 1 64) ?_
    rintro _ w7 ⟨rfl, rfl⟩
    refine r_ifbn (fun hw => ?_) (fun hw => ?_)
    · exact r_ret (bad F6 (by rw [hB, ht, hd, hw]; rfl) (by decide))
    refine r_dr (fun w8 f8 => ?_)
    have F8 := F6.trans f8
    have B8 := ((((Bb2.fr0 G).fr0 f4).fr0 f5).fr0 f6).fr0 f8
    have T8 := ((T4.fr0 f5).fr0 f6).fr0 f8
    have Y8 := ((((Yb.fr0 G).fr0 f4).fr0 f5).fr0 f6).fr0 f8
    have ht' := of_decide_eq_true ht
    obtain ⟨tt, htt⟩ := gt (xs := c.tenants) (j := l.tenant.toNat) (by omega)
    have htl : tl c l.tenant = tt.label := by unfold tl; rw [htt]
    obtain ⟨ad2, es2, rfl, rd2, e4⟩ := (k1.2.2.up F8) _ tt htt
    obtain rfl := e4
    refine r_ldn B8.rd ?_
    refine r_ld (B8.cell (o := 1) rfl) ?_
    refine r_ld (T8.cell (o := 0) rfl) ?_
    refine r_ob ⟨by omega, by omega⟩ ?_
    refine r_ld (rd2.2 0 _ rfl) ?_
    refine r_ld (Y8.cell (o := 0) rfl) ?_
    refine r_call (flows_t (rConf.up F8 hc) O.wf (O.ten tt (List.mem_of_getElem? htt)) (O.lab hxl)) ?_
    rintro _ w9 ⟨rfl, f9⟩
    have F9 := F8.trans f9
    refine r_ifbn (fun hf => ?_) (fun hf => ?_)
    · exact r_ret (bad F9 (by rw [hB, ht, hd, hw, htl, hf]; rfl) (by decide))
    refine r_ar (by omega) ?_
    refine r_ag (i + 1) ⟨by omega, fun j hj => ?_, ((((G.trans f4).trans f5).trans f6).trans f8).trans f9⟩ (by omega) rfl
    rcases Nat.lt_or_ge j i with h' | h'
    · exact hok j h'
    · obtain rfl : j = i := by omega
      rw [hB, ht, hd, hw, htl, hf]; rfl
  · have : i = x.lanes.length := by omega
    subst this
    exact r_brk (r_ret ⟨by unfold lanE; rw [fst0_ok hok], F3⟩)
end
end Go.Proofs.YtdjljgfffcjfmaaGreatDoor.Cf

/- Settings, over trees: the check of a channel's lanes, the reference's. -/
set_option linter.unusedVariables false
set_option linter.unusedSimpArgs false
namespace Go.Proofs.YtdjljgfffcjfmaaGreatDoor.Cf
open Go Go.RowKit Go.Proofs.YtdjljgfffcjfmaaGreatDoor.Sx
open Go.Proofs.YtdjljgfffcjfmaaGreatDoor.Bi (mixed RU Rs at_ at_some has_nat Has_t rHas_t take_s)
section
variable {Z : ZP} {w : World}
end
end Go.Proofs.YtdjljgfffcjfmaaGreatDoor.Cf

/- Settings, over trees: the check of a channel's receivers; both texts. -/
set_option linter.unusedVariables false
set_option linter.unusedSimpArgs false
namespace Go.Proofs.YtdjljgfffcjfmaaGreatDoor.Cf
open Go Go.RowKit Go.Proofs.YtdjljgfffcjfmaaGreatDoor.Sx
open Go.Proofs.YtdjljgfffcjfmaaGreatDoor.Bi (mixed RU Rs at_ at_some has_nat Has_t rHas_t take_s)
def dupR (ls : List GReceiver) (t : Int) : Bool := ls.any (fun x => decide (x.tenant = t))
section
variable {Z : ZP} {w : World}
theorem sameR_t {l x : GReceiver} {b T0 : Nat} (Bb : Blk w b T0 (eReceiver l)) : Cz Tryz.prog 115 [.agg (eReceiver x).toArray, Pt b 0] w (fun r w' => r = B (decide (x.tenant = l.tenant)) ∧ Fr [] w w') Z := by
  refine go mixed Tryz.func115 Tryz.call115 rfl (Tr.e115 _ _) ?_
  refine r_box (cs := eReceiver x) (fun o w1 ho Oo f1 => ?_)
  refine r_ld (Oo.cell (o := 0) rfl) ?_
  refine r_ld ((Bb.fr0 f1).cell (o := 0) rfl) ?_
  exact r_ret ⟨rfl, f1⟩
theorem containsR_t {X : Option Addr} {cp : Nat} {ls : List GReceiver} {l : GReceiver} {b T0 : Nat} (hr : Rw rReceiver w X ls) (hb : ls.length ≤ big) (Bb : Blk w b T0 (eReceiver l)) :
    Cz Tryz.prog 116 [.slice X ls.length cp, .func (.func 115) #[] #[Pt b 0]] w (fun r w' => r = B (dupR ls l.tenant) ∧ Fr [] w w') Z := by
  have ix : ∀ {Z : ZP}, Cz Tryz.prog 67 [.slice X ls.length cp, .func (.func 115) #[] #[Pt b 0]] w (fun r w' => ∃ y, r = I y ∧ dupR ls l.tenant = decide (0 ≤ y) ∧ Fr [] w w') Z := by
    intro Z
    refine go mixed Tryz.func67 Tryz.call67 rfl (Tr.e67 _ _) ?_
    simp only [big] at hb
    refine r_loop (fun (i : Nat) => [I (i : Int), I 0]) (fun i w' => i ≤ ls.length ∧ (∀ (j : Nat) x, j < i → ls[j]? = some x → ¬ x.tenant = l.tenant) ∧ Fr [] w w') (fun i => ls.length - i) 0 ⟨Nat.zero_le _, fun _ _ h => by omega, Fr.refl _ _⟩ rfl ?_
    rintro i w1 ⟨hi, hno, F⟩
    refine r_if (fun h => ?_) (fun h => ?_)
    · obtain ⟨x, hx⟩ := gt (xs := ls) (j := i) (by omega)
      obtain ⟨ad, es, rfl, rd, e3⟩ := (hr.up F) i x hx
      obtain rfl := e3
      refine r_ob ⟨by omega, by omega⟩ ?_
      refine r_ldn rd ?_
      refine r_call (sameR_t (x := x) (Bb.fr0 F)) ?_
      rintro _ w2 ⟨rfl, f2⟩
      refine r_if (fun e => ?_) (fun e => ?_)
      · refine r_ret ⟨i, rfl, ?_, F.trans f2⟩
        unfold dupR
        rw [decide_eq_true (show (0 : Int) ≤ (i : Int) by omega)]
        exact List.any_eq_true.2 ⟨x, List.mem_of_getElem? hx, decide_eq_true e⟩
      · refine r_ar (by omega) ?_
        refine r_ag (i + 1) ⟨by omega, fun j x' hj hx' => ?_, F.trans f2⟩ (by omega) rfl
        rcases Nat.lt_or_ge j i with h' | h'
        · exact hno j x' h' hx'
        · obtain rfl : j = i := by omega
          rw [hx] at hx'; cases hx'; exact e
    · refine r_brk (r_ret ⟨-1, rfl, ?_, F⟩)
      unfold dupR
      rw [decide_eq_false (by decide)]
      refine List.any_eq_false.2 (fun x hx => ?_)
      obtain ⟨j, hj⟩ := List.getElem?_of_mem hx
      have := (List.getElem?_eq_some_iff.1 hj).1
      simpa using hno j x (by omega) hj
  refine go mixed Tryz.func116 Tryz.call116 rfl (Tr.e116 _ _) ?_
  refine r_call ix ?_
  rintro _ w1 ⟨y, rfl, h, F⟩
  exact r_ret ⟨by rw [h], F⟩
end
def both (c : GConf) (a b : Int) : Bool := fw c (tl c a) (tl c b) && fw c (tl c b) (tl c a)
def recB (c : GConf) (x : GChannel) (i : Nat) : Int := match x.receivers[i]? with
  | some r => if (isT c r.tenant && !dupR (x.receivers.take i) r.tenant) = true then (if (fw c x.label (tl c r.tenant) && (x.receivers.take i).all (fun o => both c o.tenant r.tenant)) = true then 0 else 44) else 43
  | none => 0
def recE (c : GConf) (x : GChannel) : Int := fst0 (recB c x) x.receivers.length
theorem recB_T {c : GConf} {x : GChannel} {j : Nat} {o : GReceiver} (h : recB c x j = 0) (ho : x.receivers[j]? = some o) : isT c o.tenant = true := by
  unfold recB at h
  rw [ho] at h
  dsimp only at h
  split at h
  · rename_i h1; exact (Bool.and_eq_true_iff.1 h1).1
  · cases h
theorem tl_at {c : GConf} {t : Int} (h : isT c t = true) : ∃ tt, c.tenants[t.toNat]? = some tt ∧ tl c t = tt.label ∧ 0 ≤ t ∧ t < c.tenants.length := by
  have h' := of_decide_eq_true h
  obtain ⟨tt, htt⟩ := gt (xs := c.tenants) (j := t.toNat) (by omega)
  exact ⟨tt, htt, by unfold tl; rw [htt], h'.1, h'.2⟩
end Go.Proofs.YtdjljgfffcjfmaaGreatDoor.Cf

/- Settings, over trees: the check of a channel's receivers, the program's. -/
set_option linter.unusedVariables false
set_option linter.unusedSimpArgs false
namespace Go.Proofs.YtdjljgfffcjfmaaGreatDoor.Cf
open Go Go.RowKit Go.Proofs.YtdjljgfffcjfmaaGreatDoor.Sx
open Go.Proofs.YtdjljgfffcjfmaaGreatDoor.Bi (mixed RU Rs at_ at_some has_nat Has_t rHas_t take_s)
section
variable {Z : ZP} {w : World}
theorem receivers_t {cs xs : List Value} {c : GConf} {x : GChannel} (hc : rConf.r w cs c) (hx : rChannel.r w xs x) (O : Ok2 c) (hxl : isL c x.label = true) : Cz Tryz.prog 91 [.agg cs.toArray, .agg xs.toArray] w (fun r w' => r = I (recE c x) ∧ Fr [] w w') Z := by
  obtain ⟨A0, c0, A1, c1, A2, c2, A3, c3, A4, c4, rfl, k0, k1, k2, k3, k4⟩ := oConf hc
  obtain ⟨L1, d1, L2, d2, rfl, m1, m2⟩ := oChannel hx
  refine go mixed Tryz.func91 Tryz.call91 rfl (Tr.e91 _ _) ?_
  have hlb := m2.2.1
  simp only [big] at hlb
  refine r_box (fun b w1 hb Bb f1 => ?_)
  refine r_box (fun y w2 hy Yb f2 => ?_)
  have F2 := f1.trans f2
  have Bb2 := Bb.fr0 f2
  refine r_ld (Yb.cell (o := 2) rfl) ?_
  refine r_loop (fun (i : Nat) => [I (i : Int), I 0]) (fun i w' => i ≤ x.receivers.length ∧ (∀ j, j < i → recB c x j = 0) ∧ Fr [] w2 w') (fun i => x.receivers.length - i) 0 ⟨Nat.zero_le _, fun _ h => by omega, Fr.refl _ _⟩ rfl ?_
  rintro i w3 ⟨hi, hok, G⟩
  have F3 := F2.trans G
  refine r_if (fun h => ?_) (fun h => ?_)
  · obtain ⟨l, hl⟩ := gt (xs := x.receivers) (j := i) (by omega)
    have hB : recB c x i = if (isT c l.tenant && !dupR (x.receivers.take i) l.tenant) = true then (if (fw c x.label (tl c l.tenant) && (x.receivers.take i).all (fun o => both c o.tenant l.tenant)) = true then 0 else 44) else 43 := by unfold recB; rw [hl]
    have bad : ∀ {w5 : World} {e : Int}, Fr [] w w5 → recB c x i = e → ¬ e = 0 → I e = I (recE c x) ∧ Fr [] w w5 := fun F he hne => ⟨by unfold recE; rw [fst0_at (by omega) hok (by rw [he]; exact hne), he], F⟩
    obtain ⟨ad, es, rfl, rd, e3⟩ := (m2.2.2.up F3) i l hl
    obtain rfl := e3
    refine r_ob ⟨by omega, by omega⟩ ?_
    refine r_ldn rd ?_
    refine r_as (cs := eReceiver l) (zs := [I 0, B false]) (n := 2) (fun lb w4 hlb4 T4 f4 => ?_) Tryz.zeroValue60 Tryz.sizeOf60 (iReceiver l)
    have F4 := F3.trans f4
    refine r_ldn ((Bb2.fr0 G).fr0 f4).rd ?_
    refine r_ld (T4.cell (o := 0) rfl) ?_
    refine r_call (tenant_t (rConf.up F4 hc) l.tenant) ?_
    rintro _ w5 ⟨rfl, f5⟩
    have F5 := F4.trans f5
    refine r_ifbn (fun ht => ?_) (fun ht => ?_)
    · exact r_ret (bad F5 (by rw [hB, ht]; rfl) (by decide))
    refine r_ld ((((Yb.fr0 G).fr0 f4).fr0 f5).cell (o := 2) rfl) ?_
    refine r_slh (e := 60) (m := i) Tryz.underlying56 Tryz.sizeOf60 (by omega) (by omega) (by omega) ?_
    have hlen : (x.receivers.take i).length = i := by rw [List.length_take]; omega
    have cc := containsR_t (Z := ZD [] Z) (cp := d2) (l := l) ((m2.2.2.up F5).take i) (by rw [hlen]; simp only [big]; omega) (T4.fr0 f5)
    rw [hlen] at cc
    refine r_call cc ?_
    rintro _ w6 ⟨rfl, f6⟩
    have F6 := F5.trans f6
    refine r_ifb (fun hd => ?_) (fun hd => ?_)
    · exact r_ret (bad F6 (by rw [hB, ht, hd]; rfl) (by decide))
    have G6 := (((G.trans f4).trans f5).trans f6)
    have B6 := Bb2.fr0 G6
    have T6 := (T4.fr0 f5).fr0 f6
    have Y6 := Yb.fr0 G6
    obtain ⟨tt, htt, htl, ht0, ht1⟩ := tl_at ht
    obtain ⟨adt, es2, rfl, rd2, e4⟩ := (k1.2.2.up F6) _ tt htt
    obtain rfl := e4
    refine r_ld (B6.cell (o := 1) rfl) ?_
    refine r_ld (T6.cell (o := 0) rfl) ?_
    refine r_ob ⟨by omega, by omega⟩ ?_
    refine r_ld (rd2.2 0 _ rfl) ?_
    refine r_ldn B6.rd ?_
    refine r_ld (Y6.cell (o := 0) rfl) ?_
    have hown := O.ten tt (List.mem_of_getElem? htt)
    refine r_call (flows_t (rConf.up F6 hc) O.wf hxl (O.lab hown)) ?_
    rintro _ w7 ⟨rfl, f7⟩
    have F7 := F6.trans f7
    refine r_ifbn (fun hf => ?_) (fun hf => ?_)
    · exact r_ret (bad F7 (by rw [hB, ht, hd, htl, hf]; rfl) (by decide))
    have G7 := G6.trans f7
    refine r_ld ((Yb.fr0 G7).cell (o := 2) rfl) ?_
    refine r_slh (e := 60) (m := i) Tryz.underlying56 Tryz.sizeOf60 (by omega) (by omega) (by omega) ?_
    refine r_loop (fun (k : Nat) => [I (k : Int), I 0]) (fun k w' => k ≤ i ∧ (∀ (j : Nat) o, j < k → x.receivers[j]? = some o → both c o.tenant l.tenant = true) ∧ Fr [] w2 w') (fun k => i - k) 0 ⟨Nat.zero_le _, fun _ _ h => by omega, G7⟩ rfl ?_
    rintro k w8 ⟨hk, hm, G8⟩
    have F8 := F2.trans G8
    refine r_if (fun hki => ?_) (fun hki => ?_)
    · obtain ⟨z, hz⟩ := gt (xs := x.receivers) (j := k) (by omega)
      obtain ⟨_, es5, e, rdz, e5⟩ := (m2.2.2.up F8) k z hz
      cases e
      obtain rfl := e5
      have hmem : z ∈ x.receivers.take i := List.mem_of_getElem? (i := k) (by rw [List.getElem?_take, if_pos (by omega)]; exact hz)
      have hzT := recB_T (hok k (by omega)) hz
      obtain ⟨zt, hzt, hztl, hz0, hz1⟩ := tl_at hzT
      have hzl := O.ten zt (List.mem_of_getElem? hzt)
      have bad2 : ∀ {w5 : World}, Fr [] w w5 → both c z.tenant l.tenant = false → I 44 = I (recE c x) ∧ Fr [] w w5 := fun F hb => bad F (by
        have : (x.receivers.take i).all (fun o => both c o.tenant l.tenant) = false := by
          rw [List.all_eq_false]
          exact ⟨z, hmem, by rw [hb]; simp⟩
        rw [hB, ht, hd, htl, hf, this]; rfl) (by decide)
      refine r_ob ⟨by omega, by omega⟩ ?_
      refine r_ldn rdz ?_
      refine r_as (cs := eReceiver z) (zs := [I 0, B false]) (n := 2) (fun zb w9 hzb Z9 f9 => ?_) Tryz.zeroValue60 Tryz.sizeOf60 (iReceiver z)
      have F9 := F8.trans f9
      have B9 := (Bb2.fr0 G8).fr0 f9
      obtain ⟨_, es6, e, rdt, e6⟩ := (k1.2.2.up F9) _ zt hzt
      cases e
      obtain rfl := e6
      refine r_ld (B9.cell (o := 1) rfl) ?_
      refine r_ld (Z9.cell (o := 0) rfl) ?_
      refine r_ob ⟨by omega, by omega⟩ ?_
      refine r_ld (rdt.2 0 _ rfl) ?_
      refine r_ldn B9.rd ?_
      refine r_call (flows_t (rConf.up F9 hc) O.wf hzl (O.lab hown)) ?_
      rintro _ w10 ⟨rfl, f10⟩
      have F10 := F9.trans f10
      refine r_ifbn (fun hf1 => ?_) (fun hf1 => ?_)
      · exact r_ret (bad2 F10 (by unfold both; rw [hztl, htl, hf1]; rfl))
      refine r_ldn (B9.fr0 f10).rd ?_
      refine r_call (flows_t (rConf.up F10 hc) O.wf hown (O.lab hzl)) ?_
      rintro _ w11 ⟨rfl, f11⟩
      have F11 := F10.trans f11
      refine r_ifbn (fun hf2 => ?_) (fun hf2 => ?_)
      · exact r_ret (bad2 F11 (by unfold both; rw [hztl, htl, hf1, hf2]; rfl))
      refine r_ar (by omega) ?_
      refine r_ag (k + 1) ⟨by omega, fun j o hj ho => ?_, ((G8.trans f9).trans f10).trans f11⟩ (by omega) rfl
      rcases Nat.lt_or_ge j k with h' | h'
      · exact hm j o h' ho
      · obtain rfl : j = k := by omega
        rw [hz] at ho; cases ho
        unfold both; rw [hztl, htl, hf1, hf2]; rfl
    · have : k = i := by omega
      subst this
      refine r_brk ?_
      refine r_ar (by omega) ?_
      refine r_ag (k + 1) ⟨by omega, fun j hj => ?_, G8⟩ (by omega) rfl
      rcases Nat.lt_or_ge j k with h' | h'
      · exact hok j h'
      · obtain rfl : j = k := by omega
        have : (x.receivers.take j).all (fun o => both c o.tenant l.tenant) = true := by
          rw [List.all_eq_true]
          intro o ho
          obtain ⟨q, hq⟩ := List.getElem?_of_mem ho
          rw [List.getElem?_take] at hq
          split at hq
          · exact hm q o (by assumption) hq
          · cases hq
        rw [hB, ht, hd, htl, hf, this]; rfl
  · have : i = x.receivers.length := by omega
    subst this
    exact r_brk (r_ret ⟨by unfold recE; rw [fst0_ok hok], F3⟩)
end
end Go.Proofs.YtdjljgfffcjfmaaGreatDoor.Cf

/- Settings, over trees: the check of a channel's receivers, the reference's. -/
set_option linter.unusedVariables false
set_option linter.unusedSimpArgs false
namespace Go.Proofs.YtdjljgfffcjfmaaGreatDoor.Cf
open Go Go.RowKit Go.Proofs.YtdjljgfffcjfmaaGreatDoor.Sx
open Go.Proofs.YtdjljgfffcjfmaaGreatDoor.Bi (mixed RU Rs at_ at_some has_nat Has_t rHas_t take_s)
section
variable {Z : ZP} {w : World}
end
end Go.Proofs.YtdjljgfffcjfmaaGreatDoor.Cf

/- Settings, over trees: the check of the channels; both texts. -/
set_option linter.unusedVariables false
set_option linter.unusedSimpArgs false
namespace Go.Proofs.YtdjljgfffcjfmaaGreatDoor.Cf
open Go Go.RowKit Go.Proofs.YtdjljgfffcjfmaaGreatDoor.Sx
open Go.Proofs.YtdjljgfffcjfmaaGreatDoor.Bi (mixed RU Rs at_ at_some has_nat Has_t rHas_t take_s)
/-- The first place at which something is wrong, and what. -/
def firstv (e : Nat → Int) : Nat → Told
  | 0 => (0, 0)
  | n + 1 => if (firstv e n).2 = 0 then (if e n = 0 then (0, 0) else ((n : Int), e n)) else firstv e n
theorem firstv_ok {e : Nat → Int} : ∀ {n : Nat}, (∀ i, i < n → e i = 0) → firstv e n = (0, 0) := by
  intro n
  induction n with
  | zero => intro _; rfl
  | succ n ih =>
    intro h
    unfold firstv
    rw [ih (fun i hi => h i (by omega)), if_pos rfl, if_pos (h n (by omega))]
theorem firstv_at {e : Nat → Int} {i : Nat} : ∀ {n : Nat}, i < n → (∀ j, j < i → e j = 0) → ¬ e i = 0 → firstv e n = ((i : Int), e i) := by
  intro n
  induction n with
  | zero => intro h; omega
  | succ n ih =>
    intro hi h hb
    unfold firstv
    by_cases hn : i < n
    · rw [ih hn h hb, if_neg hb]
    · obtain rfl : i = n := by omega
      rw [firstv_ok h, if_pos rfl, if_neg hb]
def chB (c : GConf) (i : Nat) : Int := match c.channels[i]? with
  | some x => if isL c x.label = true then (if lanE c x = 0 then recE c x else lanE c x) else 41
  | none => 0
def chE (c : GConf) : Told := if 32 < c.channels.length then (0, 3) else firstv (chB c) c.channels.length
section
variable {Z : ZP} {w : World}
theorem channels_t {cs : List Value} {c : GConf} (hc : rConf.r w cs c) (O : Ok2 c) : Cz Tryz.prog 36 [.agg cs.toArray] w (fun r w' => r = .agg #[I (chE c).1, I (chE c).2] ∧ Fr [] w w') Z := by
  obtain ⟨A0, c0, A1, c1, A2, c2, A3, c3, A4, c4, rfl, k0, k1, k2, k3, k4⟩ := oConf hc
  refine go mixed Tryz.func36 Tryz.call36 rfl (Tr.e36 _) ?_
  refine r_box (fun b w1 hb Bb f1 => ?_)
  refine r_al (zs := [I 0, I 0]) Tryz.zeroValue69 (fun o w2 ho Oo f2 => ?_)
  have hbl := Bb.lt
  have F2 := f1.trans f2
  have Bb2 := Bb.fr0 f2
  have fin : ∀ {w3 : World} {x y : Int}, Blk w3 o 69 [I 0, I 0] → Fr [] w w3 → chE c = (x, y) → wp Tryz.prog Z (fun r w' => r = .agg #[I (chE c).1, I (chE c).2] ∧ Fr [] w w') [] (.ef (Instr.storeAt 69 (Pt o 0) (.agg [I x, I y].toArray)) (.ldn 2 (Pt o 0) fun r0 => .ret r0)) w3 nA nB := by
    intro w3 x y hb F h
    refine r_stn (cs := [I x, I y]) hb Tryz.sizeOf69 (by intro v hv; simp at hv; rcases hv with rfl | rfl <;> rfl) (fun w4 B4 f4 => ?_)
    refine r_ldn B4.rd ?_
    exact r_ret ⟨by rw [h], F.trans_new f4 (fun q hq => .inr (by simp at hq; omega))⟩
  unfold chE at fin ⊢
  refine r_ld (Bb2.cell (o := 2) rfl) ?_
  refine r_if (fun h => ?_) (fun h => ?_)
  · exact fin Oo F2 (by rw [if_pos (by omega)])
  rw [if_neg (by omega)] at fin ⊢
  refine r_ld (Bb2.cell (o := 2) rfl) ?_
  refine r_loop (fun (i : Nat) => [I (i : Int)]) (fun i w' => i ≤ c.channels.length ∧ (∀ j, j < i → chB c j = 0) ∧ Fr [] w2 w') (fun i => c.channels.length - i) 0 ⟨Nat.zero_le _, fun _ h => by omega, Fr.refl _ _⟩ rfl ?_
  rintro i w3 ⟨hi, hok, G⟩
  have B3 := Bb2.fr0 G
  refine r_if (fun h3 => ?_) (fun h3 => ?_)
  · have F3 := F2.trans G
    obtain ⟨x, hx⟩ := gt (xs := c.channels) (j := i) (by omega)
    have hB : chB c i = if isL c x.label = true then (if lanE c x = 0 then recE c x else lanE c x) else 41 := by unfold chB; rw [hx]
    obtain ⟨ad, es, rfl, rd, e3⟩ := (k2.2.2.up F3) i x hx
    have e3' := e3
    obtain ⟨L1, d1, L2, d2, rfl, m1, m2⟩ := oChannel e3
    refine r_ob ⟨by omega, by omega⟩ ?_
    refine r_ldn rd ?_
    refine r_as (cs := [I x.label, .slice L1 x.lanes.length d1, .slice L2 x.receivers.length d2]) (zs := [I 0, .slice none 0 0, .slice none 0 0]) (n := 3) (fun tb w4 htb4 T4 f4 => ?_) Tryz.zeroValue58 Tryz.sizeOf58 (by intro v hv; simp at hv; rcases hv with rfl | rfl | rfl <;> rfl)
    have F4 := F3.trans f4
    have O4 := (Oo.fr0 G).fr0 f4
    have B4 := B3.fr0 f4
    refine r_ldn B4.rd ?_
    refine r_ld (T4.cell (o := 0) rfl) ?_
    refine r_call (label_t (rConf.up F4 hc) x.label) ?_
    rintro _ w5 ⟨rfl, f5⟩
    have F5 := F4.trans f5
    refine r_ifbn (fun hl => ?_) (fun hl => ?_)
    · exact fin (O4.fr0 f5) F5 (by rw [firstv_at (by omega) hok (by rw [hB, hl]; exact (by decide : ¬ (41 : Int) = 0)), hB, hl]; rfl)
    refine r_ldn (B4.fr0 f5).rd ?_
    refine r_ldn (T4.fr0 f5).rd ?_
    refine r_call (lanes_t (rConf.up F5 hc) (rChannel.up (f4.trans f5) e3') O hl) ?_
    rintro _ w6 ⟨rfl, f6⟩
    have F6 := F5.trans f6
    refine r_if (fun hla => ?_) (fun hla => ?_)
    · exact fin ((O4.fr0 f5).fr0 f6) F6 (by rw [firstv_at (by omega) hok (by rw [hB, hl, if_pos rfl, if_neg hla]; exact hla), hB, hl, if_pos rfl, if_neg hla])
    replace hla := Classical.not_not.1 hla
    refine r_ldn ((B4.fr0 f5).fr0 f6).rd ?_
    refine r_ldn ((T4.fr0 f5).fr0 f6).rd ?_
    refine r_call (receivers_t (rConf.up F6 hc) (rChannel.up ((f4.trans f5).trans f6) e3') O hl) ?_
    rintro _ w7 ⟨rfl, f7⟩
    have F7 := F6.trans f7
    refine r_if (fun hre => ?_) (fun hre => ?_)
    · exact fin (((O4.fr0 f5).fr0 f6).fr0 f7) F7 (by rw [firstv_at (by omega) hok (by rw [hB, hl, if_pos rfl, if_pos hla]; exact hre), hB, hl, if_pos rfl, if_pos hla])
    replace hre := Classical.not_not.1 hre
    refine r_ar (by omega) ?_
    refine r_ag (i + 1) ⟨by omega, fun j hj => ?_, (((G.trans f4).trans f5).trans f6).trans f7⟩ (by omega) rfl
    rcases Nat.lt_or_ge j i with h' | h'
    · exact hok j h'
    · obtain rfl : j = i := by omega
      rw [hB, hl, if_pos rfl, if_pos hla]; exact hre
  · have : i = c.channels.length := by omega
    subst this
    refine r_brk ?_
    exact fin (Oo.fr0 G) (F2.trans G) (firstv_ok hok)
end
end Go.Proofs.YtdjljgfffcjfmaaGreatDoor.Cf

/- Settings, over trees: the whole check, both texts; who may flow to a tenant. -/
set_option linter.unusedVariables false
set_option linter.unusedSimpArgs false
namespace Go.Proofs.YtdjljgfffcjfmaaGreatDoor.Cf
open Go Go.RowKit Go.Proofs.YtdjljgfffcjfmaaGreatDoor.Sx
open Go.Proofs.YtdjljgfffcjfmaaGreatDoor.Bi (mixed RU Rs at_ at_some has_nat Has_t rHas_t take_s polE shp chk_le)
/-- The first that tells something. -/
def fail : List Told → Told
  | [] => (0, 0)
  | t :: r => if t.2 = 0 then fail r else t
def cks (c : GConf) : List (Nat × Told) := [(34, (0, polE (fl c))), (35, tenE c), (36, chE c), (37, quoE c), (38, gatE c), (39, fraE c), (40, budE c)]
def confE (c : GConf) : Told := fail [(0, polE (fl c)), tenE c, chE c, quoE c, gatE c, fraE c, budE c]
theorem pol_le {bs : Rs} (h : polE bs = 0) : 0 < bs.length ∧ bs.length ≤ 16 := by
  unfold polE at h
  split at h
  · rename_i h0
    unfold shp at h0
    split at h0
    · cases h0
    · split at h0
      · cases h0
      · omega
  · rename_i h0; exact absurd h h0
theorem ten_ok {c : GConf} (h : (tenE c).2 = 0) : c.tenants.length ≤ 16 ∧ 0 < c.tenants.length ∧ ∀ i, i < c.tenants.length → tenB c i = false := by
  unfold tenE at h
  split at h
  · cases h
  · split at h
    · cases h
    · refine ⟨by omega, by omega, ?_⟩
      have key : ∀ n, (first 40 (tenB c) n).2 = 0 → ∀ i, i < n → tenB c i = false := by
        intro n
        induction n with
        | zero => intro _ i hi; omega
        | succ n ih =>
          intro h i hi
          unfold first at h
          split at h
          · rename_i h0
            split at h
            · cases h
            · rename_i hb
              rcases Nat.lt_or_ge i n with hin | hin
              · exact ih h0 i hin
              · obtain rfl : i = n := by omega
                simpa using hb
          · rename_i h0; exact absurd h h0
      exact key _ h
theorem ok2 {c : GConf} (hw : Wf c) (h0 : polE (fl c) = 0) (h1 : (tenE c).2 = 0) : Ok2 c := by
  refine ⟨hw, ?_, fun t ht => ?_⟩
  · have := (pol_le h0).2
    rw [fl_len] at this
    omega
  · obtain ⟨i, hi, rfl⟩ := List.mem_iff_getElem.1 ht
    have hb := (ten_ok h1).2.2 i hi
    unfold tenB at hb
    rw [List.getElem?_eq_getElem hi] at hb
    simp only [Bool.not_eq_false'] at hb
    cases hl : isL c (c.tenants[i]).label with
    | true => rfl
    | false => rw [hl] at hb; cases hb
section
variable {Z : ZP} {w : World}
theorem labels_t {cs : List Value} {c : GConf} (hc : rConf.r w cs c) (hw : Wf c) : Cz Tryz.prog 34 [.agg cs.toArray] w (fun r w' => r = .agg #[I 0, I (polE (fl c))] ∧ Fr [] w w') Z := by
  obtain ⟨A0, c0, A1, c1, A2, c2, A3, c3, A4, c4, rfl, k0, k1, k2, k3, k4⟩ := oConf hc
  refine go mixed Tryz.func34 Tryz.call34 rfl (Tr.e34 _) ?_
  refine r_box (fun b w1 hb Bb f1 => ?_)
  refine r_al (zs := [I 0, I 0]) Tryz.zeroValue69 (fun o w2 ho Oo f2 => ?_)
  have hbl := Bb.lt
  refine r_ld ((Bb.fr0 f2).cell (o := 0) rfl) ?_
  have hr := (hw.ru k0.2.2).up (f1.trans f2)
  rw [← fl_len] at *
  refine r_call (Bi.Pol_t hr) ?_
  rintro _ w3 ⟨rfl, f3⟩
  refine r_stn (cs := [I 0, I (polE (fl c))]) (Oo.fr0 f3) Tryz.sizeOf69 (by intro v hv; simp at hv; rcases hv with rfl | rfl <;> rfl) (fun w4 B4 f4 => ?_)
  refine r_ldn B4.rd ?_
  exact r_ret ⟨rfl, ((f1.trans f2).trans f3).trans_new f4 (fun q hq => .inr (by simp at hq; omega))⟩
theorem cks_t {cs : List Value} {c : GConf} (hw : Wf c) (i : Nat) {p : Nat × Told} (hp : (cks c)[i]? = some p) (hok : ∀ j, j < i → ∀ q, (cks c)[j]? = some q → q.2.2 = 0) (hc : rConf.r w cs c) : Cz Tryz.prog p.1 [.agg cs.toArray] w (fun r w' => r = .agg #[I p.2.1, I p.2.2] ∧ Fr [] w w') Z := by
  match i with
  | 0 => cases hp; exact labels_t hc hw
  | 1 => cases hp; exact tenants_t hc
  | 2 => cases hp; exact channels_t hc (ok2 hw (hok 0 (by omega) _ rfl) (hok 1 (by omega) _ rfl))
  | 3 => cases hp; exact quotas_t hc
  | 4 => cases hp; exact gates_t hc
  | 5 => cases hp; exact frame_t hc
  | 6 => cases hp; exact budget_t hc
  | i + 7 => cases hp
theorem fail_at {p : Nat × Told} : ∀ {l : List (Nat × Told)} {i : Nat}, l[i]? = some p → (∀ j, j < i → ∀ q, l[j]? = some q → q.2.2 = 0) → ¬ p.2.2 = 0 → fail (l.map (·.2)) = p.2 := by
  intro l
  induction l with
  | nil => intro i h; simp at h
  | cons t r ih =>
    intro i h hok hb
    cases i with
    | zero => simp at h; subst h; simp [fail, hb]
    | succ i =>
      have h0 := hok 0 (by omega) t rfl
      simp only [List.map_cons, fail, h0, if_true]
      exact ih (by simpa using h) (fun j hj q hq => hok (j + 1) (by omega) q (by simpa using hq)) hb
theorem fail_no : ∀ {l : List (Nat × Told)}, (∀ (j : Nat) q, l[j]? = some q → q.2.2 = 0) → fail (l.map (·.2)) = (0, 0) := by
  intro l
  induction l with
  | nil => intro _; rfl
  | cons t r ih =>
    intro h
    have h0 := h 0 t rfl
    simp only [List.map_cons, fail, h0, if_true]
    exact ih (fun j q hq => h (j + 1) q (by simpa using hq))
theorem confE_eq (c : GConf) : confE c = fail ((cks c).map (·.2)) := rfl
theorem ask8 (x0 x1 x2 x3 x4 x5 x6 x7 : Value) (w : World) : (Instr.build 65 [(0, (.agg [x0, x1, x2, x3, x4, x5, x6, x7].toArray))].toArray).run Tryz.prog w = .ok (.agg #[x0, x1, x2, x3, x4, x5, x6, x7]) w := by kernel_rfl
theorem fns (c : GConf) (v : Value) (w : World) : (Instr.buildSlice 67 7 [(0, (.func (.func 34) [v].toArray [].toArray)), (1, (.func (.func 35) [v].toArray [].toArray)), (2, (.func (.func 36) [v].toArray [].toArray)), (3, (.func (.func 37) [v].toArray [].toArray)), (4, (.func (.func 38) [v].toArray [].toArray)), (5, (.func (.func 39) [v].toArray [].toArray)), (6, (.func (.func 40) [v].toArray [].toArray))].toArray).run Tryz.prog w = .ok (.slice (some ⟨w.heap.size, 0, none⟩) 7 7) (w.alloc (.cells ((cks c).map fun p => Value.func (.func p.1) #[v] #[]).toArray 66)) := by kernel_rfl
theorem Check_t {cs : List Value} {c : GConf} (hc : rConf.r w cs c) (hw : Wf c) : Cz Tryz.prog 12 [.agg cs.toArray] w (fun r w' => r = .tuple #[I (confE c).1, I (confE c).2] ∧ Fr [] w w') Z := by
  have hc0 := hc
  obtain ⟨A0, c0, A1, c1, A2, c2, A3, c3, A4, c4, rfl, k0, k1, k2, k3, k4⟩ := oConf hc
  refine go mixed Tryz.func12 Tryz.call12 rfl (Tr.e12 _) ?_
  refine r_box (fun b w1 hb Bb f1 => ?_)
  refine r_ldn Bb.rd ?_
  refine ⟨_, fun w' => ask8 _ _ _ _ _ _ _ _ w', ?_⟩
  refine r_as (zs := [.slice none 0 0, .slice none 0 0, .slice none 0 0, .slice none 0 0, .slice none 0 0, I 0, I 0, I 0]) (n := 8) (fun a w2 ha Ab f2 => ?_) Tryz.zeroValue65 Tryz.sizeOf65 (rConf.one hc0)
  refine r_ldn Ab.rd ?_
  refine r_ldn Ab.rd ?_
  refine r_ldn Ab.rd ?_
  refine r_ldn Ab.rd ?_
  refine r_ldn Ab.rd ?_
  refine r_ldn Ab.rd ?_
  refine r_ldn Ab.rd ?_
  refine r_new (cs := (cks c).map fun p => .func (.func p.1) #[_] #[]) (fns c _ _) (fun s w3 hs Sb f3 => ?_)
  subst hs
  have F3 := (f1.trans f2).trans f3
  refine r_loop (fun (i : Nat) => [I (i : Int), I 0, I 0]) (fun i w' => i ≤ 7 ∧ (∀ j, j < i → ∀ q, (cks c)[j]? = some q → q.2.2 = 0) ∧ Fr [] w3 w') (fun i => 7 - i) 0 ⟨Nat.zero_le _, fun _ h => by omega, Fr.refl _ _⟩ rfl ?_
  rintro i w4 ⟨hi, hok, G⟩
  have F4 := F3.trans G
  refine r_if (fun h => ?_) (fun h => ?_)
  · obtain ⟨p, hp⟩ := gt (xs := cks c) (j := i) (by simp [cks]; omega)
    refine r_ob ⟨by omega, by omega⟩ ?_
    refine r_ld ((Sb.fr0 G).cell (o := 0 + ((i : Nat) : Int).toNat * 1) (by
      rw [show 0 + ((i : Nat) : Int).toNat * 1 = i by omega, List.getElem?_map, hp]; rfl)) ?_
    refine r_call (cks_t hw i hp hok (rConf.up F4 hc0)) ?_
    rintro _ w5 ⟨rfl, f5⟩
    refine r_as (cs := [I p.2.1, I p.2.2]) (zs := [I 0, I 0]) (n := 2) (fun t w6 ht Tb f6 => ?_) Tryz.zeroValue69 Tryz.sizeOf69 (by intro v hv; simp at hv; rcases hv with rfl | rfl <;> rfl)
    refine r_ld (Tb.cell (o := 1) rfl) ?_
    refine r_if (fun he => ?_) (fun he => ?_)
    · refine r_dr (fun w7 f7 => ?_)
      have T7 := Tb.fr0 f7
      refine r_ld (T7.cell (o := 0) rfl) ?_
      refine r_ld (T7.cell (o := 1) rfl) ?_
      refine r_ret ⟨?_, ((F4.trans f5).trans f6).trans f7⟩
      rw [confE_eq, fail_at hp hok he]
    · refine r_ar (by omega) ?_
      refine r_ag (i + 1) ⟨by omega, fun j hj q hq => ?_, (G.trans f5).trans f6⟩ (by omega) rfl
      rcases Nat.lt_or_ge j i with h' | h'
      · exact hok j h' q hq
      · obtain rfl : j = i := by omega
        rw [hp] at hq; cases hq
        exact Classical.not_not.1 he
  · refine r_brk (r_ret ⟨?_, F4⟩)
    rw [confE_eq, fail_no (fun j q hq => hok j (by have := (List.getElem?_eq_some_iff.1 hq).1; simp [cks] at this; omega) q hq)]
end
end Go.Proofs.YtdjljgfffcjfmaaGreatDoor.Cf

/- Settings, over trees: who may flow to a tenant; both texts. -/
set_option linter.unusedVariables false
set_option linter.unusedSimpArgs false
namespace Go.Proofs.YtdjljgfffcjfmaaGreatDoor.Cf
open Go Go.RowKit Go.Proofs.YtdjljgfffcjfmaaGreatDoor.Sx
open Go.Proofs.YtdjljgfffcjfmaaGreatDoor.Bi (mixed RU Rs at_ at_some has_nat Has_t rHas_t take_s polE shp chk_le)
/-- The first tenants that may flow to a label. -/
def lowN (c : GConf) (y : Int) : Nat → BitVec 64
  | 0 => 0#64
  | i + 1 => if fw c (tl c i) y = true then lowN c y i ||| ((1#64) <<< i) else lowN c y i
def lowS (c : GConf) (t : Int) : BitVec 64 := lowN c (tl c t) c.tenants.length
/-- What is wrong with a tenant of settings. -/
def lowE (c : GConf) (t : Int) : Int := if (confE c).2 = 0 then (if isT c t = true then 0 else 5) else (confE c).2
def lowV (c : GConf) (t : Int) : BitVec 64 := if lowE c t = 0 then lowS c t else 0#64
theorem conf_ok {c : GConf} (h : (confE c).2 = 0) : polE (fl c) = 0 ∧ (tenE c).2 = 0 ∧ (chE c).2 = 0 ∧ (quoE c).2 = 0 ∧ (gatE c).2 = 0 ∧ (fraE c).2 = 0 ∧ (budE c).2 = 0 := by
  unfold confE at h
  have st : ∀ (t : Told) (r : List Told), (fail (t :: r)).2 = 0 → t.2 = 0 ∧ (fail r).2 = 0 := by
    intro t r h
    unfold fail at h
    split at h
    · exact ⟨by assumption, h⟩
    · exact absurd h (by assumption)
  obtain ⟨h0, h⟩ := st _ _ h
  obtain ⟨h1, h⟩ := st _ _ h
  obtain ⟨h2, h⟩ := st _ _ h
  obtain ⟨h3, h⟩ := st _ _ h
  obtain ⟨h4, h⟩ := st _ _ h
  obtain ⟨h5, h⟩ := st _ _ h
  obtain ⟨h6, h⟩ := st _ _ h
  exact ⟨h0, h1, h2, h3, h4, h5, h6⟩
theorem conf_ok2 {c : GConf} (hw : Wf c) (h : (confE c).2 = 0) : Ok2 c := ok2 hw (conf_ok h).1 (conf_ok h).2.1
theorem tl_lab {c : GConf} (O : Ok2 c) {t : Int} (h : isT c t = true) : isL c (tl c t) = true := by
  obtain ⟨tt, h1, h2, _⟩ := tl_at h
  rw [h2]
  exact O.ten tt (List.mem_of_getElem? h1)
section
variable {Z : ZP} {w : World}
theorem Low_t {cs : List Value} {c : GConf} (hc : rConf.r w cs c) (hw : Wf c) (t : Int) : Cz Tryz.prog 27 [.agg cs.toArray, I t] w (fun r w' => r = .tuple #[U (lowV c t), I (lowE c t)] ∧ Fr [] w w') Z := by
  have hc0 := hc
  obtain ⟨A0, c0, A1, c1, A2, c2, A3, c3, A4, c4, rfl, k0, k1, k2, k3, k4⟩ := oConf hc
  refine go mixed Tryz.func27 Tryz.call27 rfl (Tr.e27 _ _) ?_
  refine r_box (fun b w1 hb Bb f1 => ?_)
  refine r_ldn Bb.rd ?_
  refine r_call (Check_t (rConf.up f1 hc0) hw) ?_
  rintro _ w2 ⟨rfl, f2⟩
  have F2 := f1.trans f2
  refine r_if (fun h => ?_) (fun h => ?_)
  · have e : lowE c t = (confE c).2 := by unfold lowE; rw [if_neg h]
    refine r_ret ⟨?_, F2⟩
    unfold lowV
    rw [e, if_neg h]; rfl
  replace h := Classical.not_not.1 h
  have e : lowE c t = if isT c t = true then 0 else 5 := by unfold lowE; rw [if_pos h]
  have O := conf_ok2 hw h
  have hn := (ten_ok (conf_ok h).2.1).1
  have B2 := Bb.fr0 f2
  refine r_ldn B2.rd ?_
  refine ⟨_, fun w' => ask8 _ _ _ _ _ _ _ _ w', ?_⟩
  refine r_as (zs := [.slice none 0 0, .slice none 0 0, .slice none 0 0, .slice none 0 0, .slice none 0 0, I 0, I 0, I 0]) (n := 8) (fun a w3 ha Ab f3 => ?_) Tryz.zeroValue65 Tryz.sizeOf65 (rConf.one hc0)
  have F3 := F2.trans f3
  refine r_ldn Ab.rd ?_
  refine r_call (tenant_t (rConf.up F3 hc0) t) ?_
  rintro _ w4 ⟨rfl, f4⟩
  have F4 := F3.trans f4
  refine r_ifbn (fun ht => ?_) (fun ht => ?_)
  · rw [ht] at e
    refine r_ret ⟨?_, F4⟩
    unfold lowV
    rw [e, if_neg (by decide)]; rfl
  rw [ht, if_pos rfl] at e
  have eV : lowV c t = lowS c t := by unfold lowV; rw [if_pos e]
  rw [e, eV]
  obtain ⟨tt, ht1, ht2, ht3, ht4⟩ := tl_at ht
  have hty := O.lab (tl_lab O ht)
  have B4 := (B2.fr0 f3).fr0 f4
  have A4' := Ab.fr0 f4
  refine r_ld (B4.cell (o := 1) rfl) ?_
  refine r_loop (fun (i : Nat) => [I (i : Int), U (lowN c (tl c t) i)]) (fun i w' => i ≤ c.tenants.length ∧ Fr [] w4 w') (fun i => c.tenants.length - i) 0 ⟨Nat.zero_le _, Fr.refl _ _⟩ rfl ?_
  rintro i w5 ⟨hi, G⟩
  have F5 := F4.trans G
  refine r_if (fun h5 => ?_) (fun h5 => ?_)
  · obtain ⟨x, hx⟩ := gt (xs := c.tenants) (j := i) (by omega)
    have hxt : isT c (i : Int) = true := decide_eq_true ⟨by omega, by omega⟩
    have hxl : tl c (i : Int) = x.label := by unfold tl; rw [show ((i : Nat) : Int).toNat = i by omega, hx]
    obtain ⟨ad, es, rfl, rd, e3⟩ := (k1.2.2.up F5) i x hx
    obtain rfl := e3
    refine r_ob ⟨by omega, by omega⟩ ?_
    refine r_ldn rd ?_
    refine r_as (cs := eTenant x) (zs := [I 0, I 0]) (n := 2) (fun p w6 hp Pb f6 => ?_) Tryz.zeroValue54 Tryz.sizeOf54 (iTenant x)
    refine r_dr (fun w7 f7 => ?_)
    have F7 := (F5.trans f6).trans f7
    refine r_ldn (((A4'.fr0 G).fr0 f6).fr0 f7).rd ?_
    refine r_ld ((Pb.fr0 f7).cell (o := 0) rfl) ?_
    refine r_ld ((((B4.fr0 G).fr0 f6).fr0 f7).cell (o := 1) rfl) ?_
    refine r_ob ⟨by omega, by omega⟩ ?_
    obtain ⟨ad', es', ha', rd', e4⟩ := (k1.2.2.up F7) t.toNat tt ht1
    cases ha'
    obtain rfl := e4
    refine r_ld (rd'.2 0 _ rfl) ?_
    rw [← ht2, ← hxl]
    refine r_call (flows_t (rConf.up F7 hc0) hw (tl_lab O hxt) hty) ?_
    rintro _ w8 ⟨rfl, f8⟩
    have G8 := ((G.trans f6).trans f7).trans f8
    refine r_ifb (fun hf => ?_) (fun hf => ?_)
    · refine r_shl1 (by omega) ?_
      refine r_or ?_
      refine r_ar (by omega) ?_
      refine r_ag (i + 1) ⟨by omega, G8⟩ (by omega) ?_
      show [I _, U (lowN c (tl c t) (i + 1))] = _
      rw [lowN, if_pos hf]; rfl
    · refine r_ar (by omega) ?_
      refine r_ag (i + 1) ⟨by omega, G8⟩ (by omega) ?_
      show [I _, U (lowN c (tl c t) (i + 1))] = _
      rw [lowN, if_neg (by rw [hf]; decide)]; rfl
  · obtain rfl : i = c.tenants.length := by omega
    exact r_brk (r_ret ⟨rfl, F5⟩)
end
end Go.Proofs.YtdjljgfffcjfmaaGreatDoor.Cf
