/- Settings, over trees: numbers of labels and of tenants, which flows to which; both texts. -/
import Derived.Test.YtdjljgfffcjfmaaGreatDoorQMe
import Derived.Test.YtdjljgfffcjfmaaGreatDoorQMd
set_option linter.unusedVariables false
set_option linter.unusedSimpArgs false
namespace Go.Proofs.YtdjljgfffcjfmaaGreatDoor.Cf
open Go Go.RowKit Go.Proofs.YtdjljgfffcjfmaaGreatDoor.Sx
open Go.Proofs.YtdjljgfffcjfmaaGreatDoor.Bi (mixed RU Rs at_ at_some has_nat Has_t rHas_t)
/-- The flows as sets. -/
def fl (c : GConf) : Rs := c.flows.map (BitVec.ofInt 64)
/-- The flows are numbers of 64 bits. -/
def Wf (c : GConf) : Prop := ∀ z ∈ c.flows, 0 ≤ z ∧ z < 18446744073709551616
theorem Wf.back {c : GConf} (h : Wf c) {j : Nat} {z : Int} (hz : c.flows[j]? = some z) : z = ((at_ (fl c) j).toNat : Nat) := by
  obtain ⟨h0, h1⟩ := h z (List.mem_of_getElem? hz)
  unfold at_ fl
  rw [List.getElem?_map, hz]
  show z = ((BitVec.ofInt 64 z).toNat : Nat)
  rw [BitVec.toNat_ofInt]
  omega
theorem fl_len (c : GConf) : (fl c).length = c.flows.length := by unfold fl; simp
theorem Wf.ru {c : GConf} (h : Wf c) {w : World} {X : Option Addr} (hr : Rw (rI .u64) w X c.flows) : RU w X (fl c) := by
  intro j b hb
  have hl := (List.getElem?_eq_some_iff.1 hb).1
  rw [fl_len] at hl
  obtain ⟨z, hz⟩ := gt hl
  obtain ⟨ad, es, e1, e2, e3⟩ := hr j z hz
  obtain rfl := e3
  refine ⟨ad, e1, ?_⟩
  have hb' : b = at_ (fl c) j := by unfold at_; rw [hb]; rfl
  have := e2.2 0 _ rfl
  rw [h.back hz, ← hb'] at this
  have e0 : ∀ a : Addr, addA a 0 = a := fun a => by rw [addA_eq]; unfold Addr.add; simp
  rw [e0] at this
  exact this
def isL (c : GConf) (n : Int) : Bool := decide (0 ≤ n ∧ n < c.flows.length)
def isT (c : GConf) (n : Int) : Bool := decide (0 ≤ n ∧ n < c.tenants.length)
def fw (c : GConf) (x y : Int) : Bool := (at_ (fl c) x.toNat).getLsbD y.toNat
def win (n a b : Int) : Bool := decide (a ≤ n ∧ n ≤ b)
section
variable {Z : ZP} {w : World}
theorem within_t (n a b : Int) : Cz Tryz.prog 69 [I n, I a, I b] w (fun r w' => r = B (win n a b) ∧ w' = w) Z := by
  refine go mixed Tryz.func69 Tryz.call69 rfl (Tr.e69 _ _ _) ?_
  unfold win
  refine r_if (fun h => ?_) (fun h => ?_)
  · refine r_ret ⟨?_, rfl⟩
    have : (a ≤ n ∧ n ≤ b) ↔ n ≤ b := ⟨fun h => h.2, fun h2 => ⟨h, h2⟩⟩
    simp only [this]
  · exact r_ret ⟨by rw [decide_eq_false (fun h2 => h h2.1)], rfl⟩
theorem label_t {cs : List Value} {c : GConf} (hc : rConf.r w cs c) (n : Int) : Cz Tryz.prog 89 [.agg cs.toArray, I n] w (fun r w' => r = B (isL c n) ∧ Fr [] w w') Z := by
  obtain ⟨A0, c0, A1, c1, A2, c2, A3, c3, A4, c4, rfl, k0, k1, k2, k3, k4⟩ := oConf hc
  refine go mixed Tryz.func89 Tryz.call89 rfl (Tr.e89 _ _) ?_
  refine r_box (fun b w1 hb Bb f => ?_)
  refine r_ld (Bb.cell (o := 0) rfl) ?_
  have hbig := k0.2.1
  simp only [big] at hbig
  refine r_ar (by omega) ?_
  refine r_call (within_t n 0 _) ?_
  rintro _ w2 ⟨rfl, rfl⟩
  refine r_ret ⟨?_, f⟩
  unfold win isL
  exact congrArg B (decide_eq_decide.2 (by omega))
theorem tenant_t {cs : List Value} {c : GConf} (hc : rConf.r w cs c) (n : Int) : Cz Tryz.prog 73 [.agg cs.toArray, I n] w (fun r w' => r = B (isT c n) ∧ Fr [] w w') Z := by
  obtain ⟨A0, c0, A1, c1, A2, c2, A3, c3, A4, c4, rfl, k0, k1, k2, k3, k4⟩ := oConf hc
  refine go mixed Tryz.func73 Tryz.call73 rfl (Tr.e73 _ _) ?_
  refine r_box (fun b w1 hb Bb f => ?_)
  refine r_ld (Bb.cell (o := 1) rfl) ?_
  have hbig := k1.2.1
  simp only [big] at hbig
  refine r_ar (by omega) ?_
  refine r_call (within_t n 0 _) ?_
  rintro _ w2 ⟨rfl, rfl⟩
  refine r_ret ⟨?_, f⟩
  unfold win isT
  exact congrArg B (decide_eq_decide.2 (by omega))
theorem flows_t {cs : List Value} {c : GConf} (hc : rConf.r w cs c) (hw : Wf c) {x y : Int} (hx : isL c x = true) (hy : 0 ≤ y ∧ y < 64) : Cz Tryz.prog 71 [.agg cs.toArray, I x, I y] w (fun r w' => r = B (fw c x y) ∧ Fr [] w w') Z := by
  obtain ⟨A0, c0, A1, c1, A2, c2, A3, c3, A4, c4, rfl, k0, k1, k2, k3, k4⟩ := oConf hc
  have hx := of_decide_eq_true hx
  obtain ⟨i, rfl⟩ : ∃ i : Nat, x = i := ⟨x.toNat, by omega⟩
  obtain ⟨j, rfl⟩ : ∃ j : Nat, y = j := ⟨y.toNat, by omega⟩
  refine go mixed Tryz.func71 Tryz.call71 rfl (Tr.e71 _ _ _) ?_
  refine r_box (fun b w1 hb Bb f => ?_)
  refine r_ld (Bb.cell (o := 0) rfl) ?_
  obtain ⟨ad, rfl, hcell⟩ := (hw.ru k0.2.2).up f i _ (at_some (by rw [fl_len]; omega))
  refine r_ob ⟨by omega, by omega⟩ ?_
  refine r_ld hcell ?_
  refine r_shr (by omega) ?_
  refine r_and (b := 1#64) ?_
  refine r_ret ⟨?_, f⟩
  unfold fw
  show B (decide ((((at_ (fl c) i >>> j) &&& 1#64).toNat : Int) = 1)) = B _
  congr 1
  have h1 : (((at_ (fl c) i >>> j) &&& 1#64)) = if (at_ (fl c) i).getLsbD j = true then 1#64 else 0#64 := by
    apply BitVec.eq_of_getLsbD_eq
    intro q hq
    rw [BitVec.getLsbD_and, BitVec.getLsbD_ushiftRight]
    by_cases hq0 : q = 0
    · subst hq0
      cases h : (at_ (fl c) i).getLsbD j <;> simp [h]
    · have : (1#64).getLsbD q = false := by simp [BitVec.getLsbD_one, hq0]
      rw [this]
      cases h : (at_ (fl c) i).getLsbD j <;> simp [BitVec.getLsbD_one, hq0]
  rw [h1]
  simp only [Int.toNat_natCast]
  cases h : (at_ (fl c) i).getLsbD j <;> simp
end
end Go.Proofs.YtdjljgfffcjfmaaGreatDoor.Cf

/- Settings, over trees: the check of the tenants; both texts. -/
set_option linter.unusedVariables false
set_option linter.unusedSimpArgs false
namespace Go.Proofs.YtdjljgfffcjfmaaGreatDoor.Cf
open Go Go.RowKit Go.Proofs.YtdjljgfffcjfmaaGreatDoor.Sx
open Go.Proofs.YtdjljgfffcjfmaaGreatDoor.Bi (mixed RU Rs at_ at_some has_nat Has_t rHas_t)
/-- What a check tells: where, and what is wrong. -/
abbrev Told := Int × Int
/-- The first place at which something is wrong. -/
def first (e : Int) (bad : Nat → Bool) : Nat → Told
  | 0 => (0, 0)
  | n + 1 => if (first e bad n).2 = 0 then (if bad n = true then ((n : Int), e) else (0, 0)) else first e bad n
theorem first_ok {e : Int} (he : ¬ e = 0) {bad : Nat → Bool} : ∀ {n : Nat}, (∀ i, i < n → bad i = false) → first e bad n = (0, 0) := by
  intro n
  induction n with
  | zero => intro _; rfl
  | succ n ih =>
    intro h
    unfold first
    rw [ih (fun i hi => h i (by omega)), if_pos rfl, h n (by omega)]
    rfl
theorem first_at {e : Int} (he : ¬ e = 0) {bad : Nat → Bool} {i : Nat} : ∀ {n : Nat}, i < n → (∀ j, j < i → bad j = false) → bad i = true → first e bad n = ((i : Int), e) := by
  intro n
  induction n with
  | zero => intro h; omega
  | succ n ih =>
    intro hi h hb
    unfold first
    by_cases hn : i < n
    · rw [ih hn h hb, if_neg he]
    · obtain rfl : i = n := by omega
      rw [first_ok he h, if_pos rfl, if_pos hb]
def tenB (c : GConf) (i : Nat) : Bool := match c.tenants[i]? with | some t => !(isL c t.label && win t.quota 0 256) | none => false
def tenE (c : GConf) : Told := if 16 < c.tenants.length then (0, 3) else if c.tenants.length = 0 then (0, 40) else first 40 (tenB c) c.tenants.length
section
variable {Z : ZP} {w : World}
theorem tenants_t {cs : List Value} {c : GConf} (hc : rConf.r w cs c) : Cz Tryz.prog 35 [.agg cs.toArray] w (fun r w' => r = .agg #[I (tenE c).1, I (tenE c).2] ∧ Fr [] w w') Z := by
  obtain ⟨A0, c0, A1, c1, A2, c2, A3, c3, A4, c4, rfl, k0, k1, k2, k3, k4⟩ := oConf hc
  refine go mixed Tryz.func35 Tryz.call35 rfl (Tr.e35 _) ?_
  refine r_box (fun b w1 hb Bb f1 => ?_)
  refine r_al (zs := [I 0, I 0]) Tryz.zeroValue69 (fun o w2 ho Oo f2 => ?_)
  have hbl := Bb.lt
  have F2 := f1.trans f2
  have Bb2 := Bb.fr0 f2
  have fin : ∀ {w3 : World} {x y : Int}, Blk w3 o 69 [I 0, I 0] → Fr [] w w3 → tenE c = (x, y) → wp Tryz.prog Z (fun r w' => r = .agg #[I (tenE c).1, I (tenE c).2] ∧ Fr [] w w') [] (.ef (Instr.storeAt 69 (Pt o 0) (.agg [I x, I y].toArray)) (.ldn 2 (Pt o 0) fun r0 => .ret r0)) w3 nA nB := by
    intro w3 x y hb F h
    refine r_stn (cs := [I x, I y]) hb Tryz.sizeOf69 (by intro v hv; simp at hv; rcases hv with rfl | rfl <;> rfl) (fun w4 B4 f4 => ?_)
    refine r_ldn B4.rd ?_
    exact r_ret ⟨by rw [h], F.trans_new f4 (fun q hq => .inr (by simp at hq; omega))⟩
  unfold tenE at fin ⊢
  refine r_ld (Bb2.cell (o := 1) rfl) ?_
  refine r_if (fun h => ?_) (fun h => ?_)
  · exact fin Oo F2 (by rw [if_pos (by omega)])
  rw [if_neg (by omega)] at fin ⊢
  refine r_if (fun h2 => ?_) (fun h2 => ?_)
  · exact fin Oo F2 (by rw [if_pos (by omega)])
  rw [if_neg (by omega)] at fin ⊢
  refine r_ld (Bb2.cell (o := 1) rfl) ?_
  refine r_loop (fun (i : Nat) => [I (i : Int)]) (fun i w' => i ≤ c.tenants.length ∧ (∀ j, j < i → tenB c j = false) ∧ Fr [] w2 w') (fun i => c.tenants.length - i) 0 ⟨Nat.zero_le _, fun _ h => by omega, Fr.refl _ _⟩ rfl ?_
  rintro i w3 ⟨hi, hok, G⟩
  have B3 := Bb2.fr0 G
  refine r_if (fun h3 => ?_) (fun h3 => ?_)
  · have F3 := F2.trans G
    obtain ⟨t, ht⟩ := gt (xs := c.tenants) (j := i) (by omega)
    have htb : tenB c i = !(isL c t.label && win t.quota 0 256) := by unfold tenB; rw [ht]
    obtain ⟨ad, es, rfl, rd, e3⟩ := (k1.2.2.up F3) i t ht
    obtain rfl := e3
    refine r_ob ⟨by omega, by omega⟩ ?_
    refine r_ldn rd ?_
    refine r_as (cs := eTenant t) (zs := [I 0, I 0]) (n := 2) (fun tb w4 htb4 T4 f4 => ?_) Tryz.zeroValue54 Tryz.sizeOf54 (iTenant t)
    have F4 := F3.trans f4
    have O4 := (Oo.fr0 G).fr0 f4
    have hc4 := rConf.up F4 hc
    refine r_ldn (B3.fr0 f4).rd ?_
    refine r_ld (T4.cell (o := 0) rfl) ?_
    refine r_call (label_t hc4 t.label) ?_
    rintro _ w5 ⟨rfl, f5⟩
    refine r_ifbn (fun hl => ?_) (fun hl => ?_)
    · exact fin (O4.fr0 f5) (F4.trans f5) (first_at (by decide) (by omega) hok (by rw [htb, hl]; rfl))
    refine r_ld ((T4.fr0 f5).cell (o := 1) rfl) ?_
    refine r_call (within_t t.quota 0 256) ?_
    rintro _ w6 ⟨rfl, rfl⟩
    refine r_ifbn (fun hq => ?_) (fun hq => ?_)
    · exact fin (O4.fr0 f5) (F4.trans f5) (first_at (by decide) (by omega) hok (by rw [htb, hl, hq]; rfl))
    refine r_ar (by omega) ?_
    refine r_ag (i + 1) ⟨by omega, fun j hj => ?_, (G.trans f4).trans f5⟩ (by omega) rfl
    rcases Nat.lt_or_ge j i with h' | h'
    · exact hok j h'
    · obtain rfl : j = i := by omega
      rw [htb, hl, hq]; rfl
  · have : i = c.tenants.length := by omega
    subst this
    refine r_brk ?_
    exact fin (Oo.fr0 G) (F2.trans G) (first_ok (by decide) hok)
end
end Go.Proofs.YtdjljgfffcjfmaaGreatDoor.Cf

/- Settings, over trees: the checks of the gates and of the budget; both texts. -/
set_option linter.unusedVariables false
set_option linter.unusedSimpArgs false
namespace Go.Proofs.YtdjljgfffcjfmaaGreatDoor.Cf
open Go Go.RowKit Go.Proofs.YtdjljgfffcjfmaaGreatDoor.Sx
open Go.Proofs.YtdjljgfffcjfmaaGreatDoor.Bi (mixed RU Rs at_ at_some has_nat Has_t rHas_t)
def gatB (c : GConf) (i : Nat) : Bool := match c.gates[i]? with | some g => !(isT c g.frm && isT c g.til && win g.room 1 1024) | none => false
def gatE (c : GConf) : Told := if 16 < c.gates.length then (0, 3) else first 46 (gatB c) c.gates.length
def budE (c : GConf) : Told := if (win c.budget 1 16 && win c.requests 1 4 && win c.pending 1 4) = true then (0, 0) else (0, 48)
section
variable {Z : ZP} {w : World}
theorem gates_t {cs : List Value} {c : GConf} (hc : rConf.r w cs c) : Cz Tryz.prog 38 [.agg cs.toArray] w (fun r w' => r = .agg #[I (gatE c).1, I (gatE c).2] ∧ Fr [] w w') Z := by
  obtain ⟨A0, c0, A1, c1, A2, c2, A3, c3, A4, c4, rfl, k0, k1, k2, k3, k4⟩ := oConf hc
  refine go mixed Tryz.func38 Tryz.call38 rfl (Tr.e38 _) ?_
  refine r_box (fun b w1 hb Bb f1 => ?_)
  refine r_al (zs := [I 0, I 0]) Tryz.zeroValue69 (fun o w2 ho Oo f2 => ?_)
  have hbl := Bb.lt
  have F2 := f1.trans f2
  have Bb2 := Bb.fr0 f2
  have fin : ∀ {w3 : World} {x y : Int}, Blk w3 o 69 [I 0, I 0] → Fr [] w w3 → gatE c = (x, y) → wp Tryz.prog Z (fun r w' => r = .agg #[I (gatE c).1, I (gatE c).2] ∧ Fr [] w w') [] (.ef (Instr.storeAt 69 (Pt o 0) (.agg [I x, I y].toArray)) (.ldn 2 (Pt o 0) fun r0 => .ret r0)) w3 nA nB := by
    intro w3 x y hb F h
    refine r_stn (cs := [I x, I y]) hb Tryz.sizeOf69 (by intro v hv; simp at hv; rcases hv with rfl | rfl <;> rfl) (fun w4 B4 f4 => ?_)
    refine r_ldn B4.rd ?_
    exact r_ret ⟨by rw [h], F.trans_new f4 (fun q hq => .inr (by simp at hq; omega))⟩
  unfold gatE at fin ⊢
  refine r_ld (Bb2.cell (o := 3) rfl) ?_
  refine r_if (fun h => ?_) (fun h => ?_)
  · exact fin Oo F2 (by rw [if_pos (by omega)])
  rw [if_neg (by omega)] at fin ⊢
  refine r_ld (Bb2.cell (o := 3) rfl) ?_
  refine r_loop (fun (i : Nat) => [I (i : Int)]) (fun i w' => i ≤ c.gates.length ∧ (∀ j, j < i → gatB c j = false) ∧ Fr [] w2 w') (fun i => c.gates.length - i) 0 ⟨Nat.zero_le _, fun _ h => by omega, Fr.refl _ _⟩ rfl ?_
  rintro i w3 ⟨hi, hok, G⟩
  have B3 := Bb2.fr0 G
  refine r_if (fun h3 => ?_) (fun h3 => ?_)
  · have F3 := F2.trans G
    obtain ⟨g, hg⟩ := gt (xs := c.gates) (j := i) (by omega)
    have hgb : gatB c i = !(isT c g.frm && isT c g.til && win g.room 1 1024) := by unfold gatB; rw [hg]
    obtain ⟨ad, es, rfl, rd, e3⟩ := (k3.2.2.up F3) i g hg
    obtain rfl := e3
    refine r_ob ⟨by omega, by omega⟩ ?_
    refine r_ldn rd ?_
    refine r_as (cs := eGate g) (zs := [I 0, I 0, I 0]) (n := 3) (fun tb w4 htb4 T4 f4 => ?_) Tryz.zeroValue92 Tryz.sizeOf92 (iGate g)
    have F4 := F3.trans f4
    have O4 := (Oo.fr0 G).fr0 f4
    have hc4 := rConf.up F4 hc
    have B4 := B3.fr0 f4
    refine r_ldn B4.rd ?_
    refine r_ld (T4.cell (o := 0) rfl) ?_
    refine r_call (tenant_t hc4 g.frm) ?_
    rintro _ w5 ⟨rfl, f5⟩
    refine r_ifbn (fun hl => ?_) (fun hl => ?_)
    · exact fin (O4.fr0 f5) (F4.trans f5) (first_at (by decide) (by omega) hok (by rw [hgb, hl]; rfl))
    refine r_ldn (B4.fr0 f5).rd ?_
    refine r_ld ((T4.fr0 f5).cell (o := 1) rfl) ?_
    refine r_call (tenant_t (rConf.up f5 hc4) g.til) ?_
    rintro _ w6 ⟨rfl, f6⟩
    have F6 := (F4.trans f5).trans f6
    have O6 := (O4.fr0 f5).fr0 f6
    refine r_ifbn (fun hl2 => ?_) (fun hl2 => ?_)
    · exact fin O6 F6 (first_at (by decide) (by omega) hok (by rw [hgb, hl, hl2]; rfl))
    refine r_ld (((T4.fr0 f5).fr0 f6).cell (o := 2) rfl) ?_
    refine r_call (within_t g.room 1 1024) ?_
    rintro _ w7 ⟨rfl, rfl⟩
    refine r_ifbn (fun hq => ?_) (fun hq => ?_)
    · exact fin O6 F6 (first_at (by decide) (by omega) hok (by rw [hgb, hl, hl2, hq]; rfl))
    refine r_ar (by omega) ?_
    refine r_ag (i + 1) ⟨by omega, fun j hj => ?_, ((G.trans f4).trans f5).trans f6⟩ (by omega) rfl
    rcases Nat.lt_or_ge j i with h' | h'
    · exact hok j h'
    · obtain rfl : j = i := by omega
      rw [hgb, hl, hl2, hq]; rfl
  · have : i = c.gates.length := by omega
    subst this
    refine r_brk ?_
    exact fin (Oo.fr0 G) (F2.trans G) (first_ok (by decide) hok)
theorem budget_t {cs : List Value} {c : GConf} (hc : rConf.r w cs c) : Cz Tryz.prog 40 [.agg cs.toArray] w (fun r w' => r = .agg #[I (budE c).1, I (budE c).2] ∧ Fr [] w w') Z := by
  obtain ⟨A0, c0, A1, c1, A2, c2, A3, c3, A4, c4, rfl, k0, k1, k2, k3, k4⟩ := oConf hc
  refine go mixed Tryz.func40 Tryz.call40 rfl (Tr.e40 _) ?_
  refine r_box (fun b w1 hb Bb f1 => ?_)
  refine r_al (zs := [I 0, I 0]) Tryz.zeroValue69 (fun o w2 ho Oo f2 => ?_)
  have hbl := Bb.lt
  have F2 := f1.trans f2
  have Bb2 := Bb.fr0 f2
  have fin : ∀ {w3 : World} {x y : Int}, Blk w3 o 69 [I 0, I 0] → Fr [] w w3 → budE c = (x, y) → wp Tryz.prog Z (fun r w' => r = .agg #[I (budE c).1, I (budE c).2] ∧ Fr [] w w') [] (.ef (Instr.storeAt 69 (Pt o 0) (.agg [I x, I y].toArray)) (.ldn 2 (Pt o 0) fun r0 => .ret r0)) w3 nA nB := by
    intro w3 x y hb F h
    refine r_stn (cs := [I x, I y]) hb Tryz.sizeOf69 (by intro v hv; simp at hv; rcases hv with rfl | rfl <;> rfl) (fun w4 B4 f4 => ?_)
    refine r_ldn B4.rd ?_
    exact r_ret ⟨by rw [h], F.trans_new f4 (fun q hq => .inr (by simp at hq; omega))⟩
  unfold budE at fin ⊢
  refine r_ld (Bb2.cell (o := 5) rfl) ?_
  refine r_call (within_t c.budget 1 16) ?_
  rintro _ w10 ⟨rfl, rfl⟩
  refine r_ifb (fun h0 => ?_) (fun h0 => fin Oo F2 (by simp [h0]))
  refine r_ld (Bb2.cell (o := 6) rfl) ?_
  refine r_call (within_t c.requests 1 4) ?_
  rintro _ w11 ⟨rfl, rfl⟩
  refine r_ifb (fun h1 => ?_) (fun h1 => fin Oo F2 (by simp [h0, h1]))
  refine r_ld (Bb2.cell (o := 7) rfl) ?_
  refine r_call (within_t c.pending 1 4) ?_
  rintro _ w12 ⟨rfl, rfl⟩
  refine r_ifb (fun h2 => ?_) (fun h2 => fin Oo F2 (by simp [h0, h1, h2]))
  exact fin Oo F2 (by simp [h0, h1, h2])
end
end Go.Proofs.YtdjljgfffcjfmaaGreatDoor.Cf

/- Settings, over trees: a tenant's credits, and the check of quotas; both texts. -/
set_option linter.unusedVariables false
set_option linter.unusedSimpArgs false
namespace Go.Proofs.YtdjljgfffcjfmaaGreatDoor.Cf
open Go Go.RowKit Go.Proofs.YtdjljgfffcjfmaaGreatDoor.Sx
open Go.Proofs.YtdjljgfffcjfmaaGreatDoor.Bi (mixed RU Rs at_ at_some has_nat Has_t rHas_t take_s)
def lf (t : Int) (n : Int) (l : GLane) : Int := if l.tenant = t then (if win l.credit 1 64 = true then IntKind.i64.wrap (n + l.credit) else n) else n
def cf (t : Int) (n : Int) (x : GChannel) : Int := x.lanes.foldl (lf t) n
def cred (c : GConf) (t : Int) : Int := c.channels.foldl (cf t) 0
section
variable {Z : ZP} {w : World}
theorem Credits_t {cs : List Value} {c : GConf} (hc : rConf.r w cs c) (t : Int) : Cz Tryz.prog 23 [.agg cs.toArray, I t] w (fun r w' => r = I (cred c t) ∧ Fr [] w w') Z := by
  obtain ⟨A0, c0, A1, c1, A2, c2, A3, c3, A4, c4, rfl, k0, k1, k2, k3, k4⟩ := oConf hc
  refine go mixed Tryz.func23 Tryz.call23 rfl (Tr.e23 _ _) ?_
  have hbig := k2.2.1
  simp only [big] at hbig
  refine r_box (fun b w1 hb Bb f1 => ?_)
  refine r_ld (Bb.cell (o := 2) rfl) ?_
  refine r_loop (fun (i : Nat) => [I (i : Int), I ((c.channels.take i).foldl (cf t) 0)]) (fun i w' => i ≤ c.channels.length ∧ Fr [] w w') (fun i => c.channels.length - i) 0 ⟨Nat.zero_le _, f1⟩ (by simp) ?_
  rintro i w2 ⟨hi, F⟩
  refine r_if (fun h => ?_) (fun h => ?_)
  · obtain ⟨x, hx⟩ := gt (xs := c.channels) (j := i) (by omega)
    have hst : (c.channels.take (i + 1)).foldl (cf t) 0 = cf t ((c.channels.take i).foldl (cf t) 0) x := by rw [take_s hx, List.foldl_append]; rfl
    obtain ⟨ad, es, rfl, rd, e3⟩ := (k2.2.2.up F) i x hx
    obtain ⟨L1, d1, L2, d2, rfl, m1, m2⟩ := oChannel e3
    have hlb := m1.2.1
    simp only [big] at hlb
    refine r_ob ⟨by omega, by omega⟩ ?_
    refine r_ldn rd ?_
    refine r_as (cs := [I x.label, .slice L1 x.lanes.length d1, .slice L2 x.receivers.length d2]) (zs := [I 0, .slice none 0 0, .slice none 0 0]) (n := 3) (fun xb w3 hxb X3 f3 => ?_) Tryz.zeroValue58 Tryz.sizeOf58 (by intro v hv; simp at hv; rcases hv with rfl | rfl | rfl <;> rfl)
    refine r_ld (X3.cell (o := 1) rfl) ?_
    obtain ⟨n0, hn0⟩ : ∃ n0, n0 = (c.channels.take i).foldl (cf t) 0 := ⟨_, rfl⟩
    rw [← hn0] at hst ⊢
    refine r_loop (fun (k : Nat) => [I (k : Int), I ((x.lanes.take k).foldl (lf t) n0)]) (fun k w' => k ≤ x.lanes.length ∧ Fr [] w w' ∧ Fr [] w2 w') (fun k => x.lanes.length - k) 0 ⟨Nat.zero_le _, F.trans f3, f3⟩ rfl ?_
    rintro k w4 ⟨hk, F4, G4⟩
    refine r_if (fun h2 => ?_) (fun h2 => ?_)
    · obtain ⟨l, hl⟩ := gt (xs := x.lanes) (j := k) (by omega)
      have hls : (x.lanes.take (k + 1)).foldl (lf t) n0 = lf t ((x.lanes.take k).foldl (lf t) n0) l := by rw [take_s hl, List.foldl_append]; rfl
      obtain ⟨m, hm⟩ : ∃ m, m = (x.lanes.take k).foldl (lf t) n0 := ⟨_, rfl⟩
      rw [← hm] at hls ⊢
      have hlf : lf t m l = if l.tenant = t then (if win l.credit 1 64 = true then IntKind.i64.wrap (m + l.credit) else m) else m := rfl
      rw [hlf] at hls
      obtain ⟨ad2, es2, rfl, rd2, e4⟩ := (m1.2.2.up G4) k l hl
      obtain rfl := e4
      refine r_ob ⟨by omega, by omega⟩ ?_
      refine r_ldn rd2 ?_
      refine r_as (cs := eLane l) (zs := [I 0, I 0, B false]) (n := 3) (fun lb w5 hlb5 L5 f5 => ?_) Tryz.zeroValue63 Tryz.sizeOf63 (iLane l)
      refine r_ld (L5.cell (o := 0) rfl) ?_
      refine r_if (fun h3 => ?_) (fun h3 => ?_)
      · refine r_ld (L5.cell (o := 1) rfl) ?_
        refine r_call (within_t l.credit 1 64) ?_
        rintro _ w6 ⟨rfl, rfl⟩
        refine r_ifb (fun h4 => ?_) (fun h4 => ?_)
        · rw [if_pos h3, if_pos h4] at hls
          refine r_ld (L5.cell (o := 1) rfl) ?_
          refine r_arw ?_
          refine r_ar (by show -9223372036854775808 ≤ (k : Int) + 1 ∧ (k : Int) + 1 ≤ _; omega) ?_
          exact r_ag (k + 1) ⟨by omega, F4.trans f5, G4.trans f5⟩ (by omega) (show [I ((k + 1 : Nat) : Int), I ((x.lanes.take (k + 1)).foldl (lf t) n0)] = _ by rw [hls]; rfl)
        · rw [if_pos h3, if_neg (by rw [h4]; simp)] at hls
          refine r_ar (by show -9223372036854775808 ≤ (k : Int) + 1 ∧ (k : Int) + 1 ≤ _; omega) ?_
          exact r_ag (k + 1) ⟨by omega, F4.trans f5, G4.trans f5⟩ (by omega) (show [I ((k + 1 : Nat) : Int), I ((x.lanes.take (k + 1)).foldl (lf t) n0)] = _ by rw [hls]; rfl)
      · rw [if_neg h3] at hls
        refine r_ar (by show -9223372036854775808 ≤ (k : Int) + 1 ∧ (k : Int) + 1 ≤ _; omega) ?_
        exact r_ag (k + 1) ⟨by omega, F4.trans f5, G4.trans f5⟩ (by omega) (show [I ((k + 1 : Nat) : Int), I ((x.lanes.take (k + 1)).foldl (lf t) n0)] = _ by rw [hls]; rfl)
    · have : k = x.lanes.length := by omega
      subst this
      rw [List.take_length]
      refine r_brk ?_
      refine r_ar (by omega) ?_
      exact r_ag (i + 1) ⟨by omega, F4⟩ (by omega) (show [I ((i + 1 : Nat) : Int), I ((c.channels.take (i + 1)).foldl (cf t) 0)] = _ by rw [hst]; rfl)
  · have : i = c.channels.length := by omega
    subst this
    rw [List.take_length]
    exact r_brk (r_ret ⟨rfl, F⟩)
end
end Go.Proofs.YtdjljgfffcjfmaaGreatDoor.Cf

/- Settings, over trees: the check of quotas; both texts. -/
set_option linter.unusedVariables false
set_option linter.unusedSimpArgs false
namespace Go.Proofs.YtdjljgfffcjfmaaGreatDoor.Cf
open Go Go.RowKit Go.Proofs.YtdjljgfffcjfmaaGreatDoor.Sx
open Go.Proofs.YtdjljgfffcjfmaaGreatDoor.Bi (mixed RU Rs at_ at_some has_nat Has_t rHas_t)
def quoB (c : GConf) (i : Nat) : Bool := match c.tenants[i]? with | some t => decide (t.quota < cred c i) | none => false
def quoE (c : GConf) : Told := first 45 (quoB c) c.tenants.length
section
variable {Z : ZP} {w : World}
theorem quotas_t {cs : List Value} {c : GConf} (hc : rConf.r w cs c) : Cz Tryz.prog 37 [.agg cs.toArray] w (fun r w' => r = .agg #[I (quoE c).1, I (quoE c).2] ∧ Fr [] w w') Z := by
  obtain ⟨A0, c0, A1, c1, A2, c2, A3, c3, A4, c4, rfl, k0, k1, k2, k3, k4⟩ := oConf hc
  refine go mixed Tryz.func37 Tryz.call37 rfl (Tr.e37 _) ?_
  refine r_box (fun b w1 hb Bb f1 => ?_)
  refine r_al (zs := [I 0, I 0]) Tryz.zeroValue69 (fun o w2 ho Oo f2 => ?_)
  have hbl := Bb.lt
  have F2 := f1.trans f2
  have Bb2 := Bb.fr0 f2
  have fin : ∀ {w3 : World} {x y : Int}, Blk w3 o 69 [I 0, I 0] → Fr [] w w3 → quoE c = (x, y) → wp Tryz.prog Z (fun r w' => r = .agg #[I (quoE c).1, I (quoE c).2] ∧ Fr [] w w') [] (.ef (Instr.storeAt 69 (Pt o 0) (.agg [I x, I y].toArray)) (.ldn 2 (Pt o 0) fun r0 => .ret r0)) w3 nA nB := by
    intro w3 x y hb F h
    refine r_stn (cs := [I x, I y]) hb Tryz.sizeOf69 (by intro v hv; simp at hv; rcases hv with rfl | rfl <;> rfl) (fun w4 B4 f4 => ?_)
    refine r_ldn B4.rd ?_
    exact r_ret ⟨by rw [h], F.trans_new f4 (fun q hq => .inr (by simp at hq; omega))⟩
  have hbig := k1.2.1
  simp only [big] at hbig
  refine r_ld (Bb2.cell (o := 1) rfl) ?_
  refine r_loop (fun (i : Nat) => [I (i : Int)]) (fun i w' => i ≤ c.tenants.length ∧ (∀ j, j < i → quoB c j = false) ∧ Fr [] w2 w') (fun i => c.tenants.length - i) 0 ⟨Nat.zero_le _, fun _ h => by omega, Fr.refl _ _⟩ rfl ?_
  rintro i w3 ⟨hi, hok, G⟩
  have B3 := Bb2.fr0 G
  refine r_if (fun h3 => ?_) (fun h3 => ?_)
  · have F3 := F2.trans G
    obtain ⟨g, hg⟩ := gt (xs := c.tenants) (j := i) (by omega)
    have hgb : quoB c i = decide (g.quota < cred c i) := by unfold quoB; rw [hg]
    obtain ⟨ad, es, rfl, rd, e3⟩ := (k1.2.2.up F3) i g hg
    obtain rfl := e3
    refine r_ob ⟨by omega, by omega⟩ ?_
    refine r_ldn rd ?_
    refine r_as (cs := eTenant g) (zs := [I 0, I 0]) (n := 2) (fun tb w4 htb4 T4 f4 => ?_) Tryz.zeroValue54 Tryz.sizeOf54 (iTenant g)
    refine r_dr (fun w5 f5 => ?_)
    have F5 := (F3.trans f4).trans f5
    have T5 := T4.fr0 f5
    refine r_ldn ((B3.fr0 f4).fr0 f5).rd ?_
    refine r_ld (T5.cell (o := 1) rfl) ?_
    refine r_call (Credits_t (rConf.up F5 hc) i) ?_
    rintro _ w6 ⟨rfl, f6⟩
    refine r_chk ((T5.fr0 f6).cell (o := 1) rfl) ?_
    have O6 := (((Oo.fr0 G).fr0 f4).fr0 f5).fr0 f6
    have F6 := F5.trans f6
    have G6 := ((G.trans f4).trans f5).trans f6
    refine r_if (fun hq => ?_) (fun hq => ?_)
    · exact fin O6 F6 (first_at (by decide) (by omega) hok (by rw [hgb]; exact decide_eq_true hq))
    refine r_ar (by omega) ?_
    refine r_ag (i + 1) ⟨by omega, fun j hj => ?_, G6⟩ (by omega) rfl
    rcases Nat.lt_or_ge j i with h' | h'
    · exact hok j h'
    · obtain rfl : j = i := by omega
      rw [hgb]; exact decide_eq_false hq
  · have : i = c.tenants.length := by omega
    subst this
    refine r_brk ?_
    exact fin (Oo.fr0 G) (F2.trans G) (first_ok (by decide) hok)
end
end Go.Proofs.YtdjljgfffcjfmaaGreatDoor.Cf

/- Settings, over trees: whether a row holds a number (slices.Contains). -/
set_option linter.unusedVariables false
set_option linter.unusedSimpArgs false
namespace Go.Proofs.YtdjljgfffcjfmaaGreatDoor.Cf
open Go Go.RowKit Go.Proofs.YtdjljgfffcjfmaaGreatDoor.Sx
open Go.Proofs.YtdjljgfffcjfmaaGreatDoor.Bi (mixed RU Rs at_ at_some has_nat Has_t rHas_t)
section
variable {Z : ZP} {w : World}
theorem cell_int {w : World} {a : Addr} {m : Nat} {z : Int} (h : Rd w 1 (addA a m) [.int .i64 z]) : w.cell? (addA a m) = some (I z) := by
  have := h.2 0 _ rfl
  have e0 : ∀ a : Addr, addA a 0 = a := fun a => by rw [addA_eq]; unfold Addr.add; simp
  rwa [e0] at this
theorem Index_t {X : Option Addr} {cp : Nat} {xs : List Int} (hr : Rw (rI .i64) w X xs) (hb : xs.length ≤ big) (z : Int) : Cz Tryz.prog 117 [.slice X xs.length cp, I z] w (fun r w' => ∃ y, r = I y ∧ (0 ≤ y ↔ z ∈ xs) ∧ Fr [] w w') Z := by
  refine go mixed Tryz.func117 Tryz.call117 rfl (Tr.e117 _ _) ?_
  simp only [big] at hb
  refine r_loop (fun (i : Nat) => [I (i : Int), I 0]) (fun i w' => i ≤ xs.length ∧ (∀ (j : Nat) y, j < i → xs[j]? = some y → ¬ z = y) ∧ Fr [] w w') (fun i => xs.length - i) 0 ⟨Nat.zero_le _, fun _ _ h => by omega, Fr.refl _ _⟩ rfl ?_
  rintro i w1 ⟨hi, hno, F⟩
  refine r_if (fun h => ?_) (fun h => ?_)
  · obtain ⟨y, hy⟩ := gt (xs := xs) (j := i) (by omega)
    obtain ⟨ad, es, rfl, rd, e3⟩ := (hr.up F) i y hy
    obtain rfl := e3
    refine r_ob ⟨by omega, by omega⟩ ?_
    refine r_ld (cell_int rd) ?_
    refine r_if (fun e => ?_) (fun e => ?_)
    · exact r_ret ⟨i, rfl, ⟨fun _ => by rw [e]; exact List.mem_of_getElem? hy, fun _ => by omega⟩, F⟩
    · refine r_ar (by omega) ?_
      refine r_ag (i + 1) ⟨by omega, fun j y' hj hy' => ?_, F⟩ (by omega) rfl
      rcases Nat.lt_or_ge j i with h' | h'
      · exact hno j y' h' hy'
      · obtain rfl : j = i := by omega
        rw [hy] at hy'; cases hy'; exact e
  · refine r_brk (r_ret ⟨-1, rfl, ⟨fun h => by omega, fun hm => ?_⟩, F⟩)
    obtain ⟨j, hj⟩ := List.getElem?_of_mem hm
    have := (List.getElem?_eq_some_iff.1 hj).1
    exact absurd rfl (hno j z (by omega) hj)
theorem Contains_t {X : Option Addr} {cp : Nat} {xs : List Int} (hr : Rw (rI .i64) w X xs) (hb : xs.length ≤ big) (z : Int) : Cz Tryz.prog 92 [.slice X xs.length cp, I z] w (fun r w' => r = B (decide (z ∈ xs)) ∧ Fr [] w w') Z := by
  refine go mixed Tryz.func92 Tryz.call92 rfl (Tr.e92 _ _) ?_
  refine r_call (Index_t hr hb z) ?_
  rintro _ w1 ⟨y, rfl, h, F⟩
  exact r_ret ⟨congrArg B (decide_eq_decide.2 h), F⟩
end
end Go.Proofs.YtdjljgfffcjfmaaGreatDoor.Cf

/- Settings, over trees: the check of the frame; both texts. -/
set_option linter.unusedVariables false
set_option linter.unusedSimpArgs false
namespace Go.Proofs.YtdjljgfffcjfmaaGreatDoor.Cf
open Go Go.RowKit Go.Proofs.YtdjljgfffcjfmaaGreatDoor.Sx
open Go.Proofs.YtdjljgfffcjfmaaGreatDoor.Bi (mixed RU Rs at_ at_some has_nat Has_t rHas_t take_s)
def fraB (c : GConf) (i : Nat) : Bool := match c.frame[i]? with | some t => !isT c t | none => false
def misB (c : GConf) (i : Nat) : Bool := !decide ((i : Int) ∈ c.frame)
def fraE (c : GConf) : Told := if 64 < c.frame.length then (0, 3) else if c.frame.length = 0 then (0, 47) else if (first 47 (fraB c) c.frame.length).2 = 0 then first 47 (misB c) c.tenants.length else first 47 (fraB c) c.frame.length
section
variable {Z : ZP} {w : World}
theorem frame_t {cs : List Value} {c : GConf} (hc : rConf.r w cs c) : Cz Tryz.prog 39 [.agg cs.toArray] w (fun r w' => r = .agg #[I (fraE c).1, I (fraE c).2] ∧ Fr [] w w') Z := by
  obtain ⟨A0, c0, A1, c1, A2, c2, A3, c3, A4, c4, rfl, k0, k1, k2, k3, k4⟩ := oConf hc
  refine go mixed Tryz.func39 Tryz.call39 rfl (Tr.e39 _) ?_
  refine r_box (fun b w1 hb Bb f1 => ?_)
  refine r_al (zs := [I 0, I 0]) Tryz.zeroValue69 (fun o w2 ho Oo f2 => ?_)
  have hbl := Bb.lt
  have F2 := f1.trans f2
  have Bb2 := Bb.fr0 f2
  have fin : ∀ {w3 : World} {x y : Int}, Blk w3 o 69 [I 0, I 0] → Fr [] w w3 → fraE c = (x, y) → wp Tryz.prog Z (fun r w' => r = .agg #[I (fraE c).1, I (fraE c).2] ∧ Fr [] w w') [] (.ef (Instr.storeAt 69 (Pt o 0) (.agg [I x, I y].toArray)) (.ldn 2 (Pt o 0) fun r0 => .ret r0)) w3 nA nB := by
    intro w3 x y hb F h
    refine r_stn (cs := [I x, I y]) hb Tryz.sizeOf69 (by intro v hv; simp at hv; rcases hv with rfl | rfl <;> rfl) (fun w4 B4 f4 => ?_)
    refine r_ldn B4.rd ?_
    exact r_ret ⟨by rw [h], F.trans_new f4 (fun q hq => .inr (by simp at hq; omega))⟩
  have hbig := k1.2.1
  simp only [big] at hbig
  unfold fraE at fin ⊢
  refine r_ld (Bb2.cell (o := 4) rfl) ?_
  refine r_if (fun h => ?_) (fun h => ?_)
  · exact fin Oo F2 (by rw [if_pos (by omega)])
  rw [if_neg (by omega)] at fin ⊢
  refine r_if (fun h2 => ?_) (fun h2 => ?_)
  · exact fin Oo F2 (by rw [if_pos (by omega)])
  rw [if_neg (by omega)] at fin ⊢
  refine r_ld (Bb2.cell (o := 4) rfl) ?_
  refine r_loop (fun (i : Nat) => [I (i : Int)]) (fun i w' => i ≤ c.frame.length ∧ (∀ j, j < i → fraB c j = false) ∧ Fr [] w2 w') (fun i => c.frame.length - i) 0 ⟨Nat.zero_le _, fun _ h => by omega, Fr.refl _ _⟩ rfl ?_
  rintro i w3 ⟨hi, hok, G⟩
  have B3 := Bb2.fr0 G
  have F3 := F2.trans G
  refine r_if (fun h3 => ?_) (fun h3 => ?_)
  · obtain ⟨t, ht⟩ := gt (xs := c.frame) (j := i) (by omega)
    have htb : fraB c i = !isT c t := by unfold fraB; rw [ht]
    obtain ⟨ad, es, rfl, rd, e3⟩ := (k4.2.2.up F3) i t ht
    obtain rfl := e3
    refine r_ob ⟨by omega, by omega⟩ ?_
    refine r_ld (cell_int rd) ?_
    refine r_ldn B3.rd ?_
    refine r_call (tenant_t (rConf.up F3 hc) t) ?_
    rintro _ w5 ⟨rfl, f5⟩
    refine r_ifbn (fun hl => ?_) (fun hl => ?_)
    · refine fin ((Oo.fr0 G).fr0 f5) (F3.trans f5) (x := i) (y := 47) ?_
      have e := first_at (e := 47) (by decide) (n := c.frame.length) (by omega) hok (by rw [htb, hl]; rfl)
      rw [e]; rfl
    refine r_ar (by omega) ?_
    refine r_ag (i + 1) ⟨by omega, fun j hj => ?_, G.trans f5⟩ (by omega) rfl
    rcases Nat.lt_or_ge j i with h' | h'
    · exact hok j h'
    · obtain rfl : j = i := by omega
      rw [htb, hl]; rfl
  · have : i = c.frame.length := by omega
    subst this
    have e0 := first_ok (e := 47) (by decide) hok
    rw [e0, if_pos rfl] at fin ⊢
    refine r_brk ?_
    refine r_ld (B3.cell (o := 1) rfl) ?_
    refine r_loop (fun (i : Nat) => [I (i : Int)]) (fun i w' => i ≤ c.tenants.length ∧ (∀ j, j < i → misB c j = false) ∧ Fr [] w3 w') (fun i => c.tenants.length - i) 0 ⟨Nat.zero_le _, fun _ h => by omega, Fr.refl _ _⟩ rfl ?_
    rintro i w4 ⟨hi, hok2, G4⟩
    have B4 := B3.fr0 G4
    have F4 := F3.trans G4
    have O4 := (Oo.fr0 G).fr0 G4
    refine r_if (fun h5 => ?_) (fun h5 => ?_)
    · refine r_ld (B4.cell (o := 4) rfl) ?_
      refine r_call (Contains_t (k4.2.2.up F4) k4.2.1 i) ?_
      rintro _ w6 ⟨rfl, f6⟩
      refine r_ifbn (fun hm => ?_) (fun hm => ?_)
      · exact fin (O4.fr0 f6) (F4.trans f6) (first_at (by decide) (by omega) hok2 (by unfold misB; rw [hm]; rfl))
      refine r_ar (by omega) ?_
      refine r_ag (i + 1) ⟨by omega, fun j hj => ?_, G4.trans f6⟩ (by omega) rfl
      rcases Nat.lt_or_ge j i with h' | h'
      · exact hok2 j h'
      · obtain rfl : j = i := by omega
        unfold misB; rw [hm]; rfl
    · have : i = c.tenants.length := by omega
      subst this
      refine r_brk ?_
      exact fin O4 F4 (first_ok (by decide) hok2)
end
end Go.Proofs.YtdjljgfffcjfmaaGreatDoor.Cf

/- Settings, over trees: the check of the frame, the reference's. -/
set_option linter.unusedVariables false
set_option linter.unusedSimpArgs false
namespace Go.Proofs.YtdjljgfffcjfmaaGreatDoor.Cf
open Go Go.RowKit Go.Proofs.YtdjljgfffcjfmaaGreatDoor.Sx
open Go.Proofs.YtdjljgfffcjfmaaGreatDoor.Bi (mixed RU Rs at_ at_some has_nat Has_t rHas_t take_s)
section
variable {Z : ZP} {w : World}
end
end Go.Proofs.YtdjljgfffcjfmaaGreatDoor.Cf

/- Settings, over trees: whether a tenant has a lane already (slices.ContainsFunc). -/
set_option linter.unusedVariables false
set_option linter.unusedSimpArgs false
namespace Go.Proofs.YtdjljgfffcjfmaaGreatDoor.Cf
open Go Go.RowKit Go.Proofs.YtdjljgfffcjfmaaGreatDoor.Sx
open Go.Proofs.YtdjljgfffcjfmaaGreatDoor.Bi (mixed RU Rs at_ at_some has_nat Has_t rHas_t take_s)
def dupL (ls : List GLane) (t : Int) : Bool := ls.any (fun x => decide (x.tenant = t))
section
variable {Z : ZP} {w : World}
theorem sameL_t {l x : GLane} {b T0 : Nat} (Bb : Blk w b T0 (eLane l)) : Cz Tryz.prog 113 [.agg (eLane x).toArray, Pt b 0] w (fun r w' => r = B (decide (x.tenant = l.tenant)) ∧ Fr [] w w') Z := by
  refine go mixed Tryz.func113 Tryz.call113 rfl (Tr.e113 _ _) ?_
  refine r_box (cs := eLane x) (fun o w1 ho Oo f1 => ?_)
  refine r_ld (Oo.cell (o := 0) rfl) ?_
  refine r_ld ((Bb.fr0 f1).cell (o := 0) rfl) ?_
  exact r_ret ⟨rfl, f1⟩
theorem containsL_t {X : Option Addr} {cp : Nat} {ls : List GLane} {l : GLane} {b T0 : Nat} (hr : Rw rLane w X ls) (hb : ls.length ≤ big) (Bb : Blk w b T0 (eLane l)) :
    Cz Tryz.prog 114 [.slice X ls.length cp, .func (.func 113) #[] #[Pt b 0]] w (fun r w' => r = B (dupL ls l.tenant) ∧ Fr [] w w') Z := by
  have ix : ∀ {Z : ZP}, Cz Tryz.prog 64 [.slice X ls.length cp, .func (.func 113) #[] #[Pt b 0]] w (fun r w' => ∃ y, r = I y ∧ dupL ls l.tenant = decide (0 ≤ y) ∧ Fr [] w w') Z := by
    intro Z
    refine go mixed Tryz.func64 Tryz.call64 rfl (Tr.e64 _ _) ?_
    simp only [big] at hb
    refine r_loop (fun (i : Nat) => [I (i : Int), I 0]) (fun i w' => i ≤ ls.length ∧ (∀ (j : Nat) x, j < i → ls[j]? = some x → ¬ x.tenant = l.tenant) ∧ Fr [] w w') (fun i => ls.length - i) 0 ⟨Nat.zero_le _, fun _ _ h => by omega, Fr.refl _ _⟩ rfl ?_
    rintro i w1 ⟨hi, hno, F⟩
    refine r_if (fun h => ?_) (fun h => ?_)
    · obtain ⟨x, hx⟩ := gt (xs := ls) (j := i) (by omega)
      obtain ⟨ad, es, rfl, rd, e3⟩ := (hr.up F) i x hx
      obtain rfl := e3
      refine r_ob ⟨by omega, by omega⟩ ?_
      refine r_ldn rd ?_
      refine r_call (sameL_t (x := x) (Bb.fr0 F)) ?_
      rintro _ w2 ⟨rfl, f2⟩
      refine r_if (fun e => ?_) (fun e => ?_)
      · refine r_ret ⟨i, rfl, ?_, F.trans f2⟩
        unfold dupL
        rw [decide_eq_true (show (0 : Int) ≤ (i : Int) by omega)]
        exact List.any_eq_true.2 ⟨x, List.mem_of_getElem? hx, decide_eq_true e⟩
      · refine r_ar (by omega) ?_
        refine r_ag (i + 1) ⟨by omega, fun j x' hj hx' => ?_, F.trans f2⟩ (by omega) rfl
        rcases Nat.lt_or_ge j i with h' | h'
        · exact hno j x' h' hx'
        · obtain rfl : j = i := by omega
          rw [hx] at hx'; cases hx'; exact e
    · refine r_brk (r_ret ⟨-1, rfl, ?_, F⟩)
      unfold dupL
      rw [decide_eq_false (by decide)]
      refine List.any_eq_false.2 (fun x hx => ?_)
      obtain ⟨j, hj⟩ := List.getElem?_of_mem hx
      have := (List.getElem?_eq_some_iff.1 hj).1
      simpa using hno j x (by omega) hj
  refine go mixed Tryz.func114 Tryz.call114 rfl (Tr.e114 _ _) ?_
  refine r_call ix ?_
  rintro _ w1 ⟨y, rfl, h, F⟩
  exact r_ret ⟨by rw [h], F⟩
end
end Go.Proofs.YtdjljgfffcjfmaaGreatDoor.Cf
