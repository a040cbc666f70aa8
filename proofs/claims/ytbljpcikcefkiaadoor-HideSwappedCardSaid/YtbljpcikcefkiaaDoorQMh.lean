/- Scripts, over trees: what is looked at; slices cut short. -/
import Derived.Test.YtbljpcikcefkiaaDoorQMd
import Derived.Test.YtbljpcikcefkiaaDoorQMg
import Derived.Tactics
set_option linter.unusedVariables false
set_option linter.unusedSimpArgs false
namespace Go.Proofs.YtbljpcikcefkiaaDoor.Hd
open Go Go.RowKit Go.Proofs.YtbljpcikcefkiaaDoor.Sx
open Go.Proofs.YtbljpcikcefkiaaDoor.Bi (mixed)
/-- What is looked at. -/
def chSmall (x : GChannel) : Bool := !(decide (17 < x.lanes.length)) && !(decide (17 < x.receivers.length))
def small (c : GConf) : Bool := !(decide (17 < c.flows.length)) && (!(decide (8 < c.tenants.length)) && (!(decide (10 < c.channels.length)) && (!(decide (17 < c.gates.length)) && (!(decide (65 < c.frame.length)) && c.channels.all chSmall))))
def fewT (t : GTick) : GTick := { bytes := (t.bytes.take 10).map (·.take 80), picks := t.picks.take 16 }
def few (l : List GTick) (m : Nat) : List GTick := (l.take m).map fewT
theorem take_map_s {α β : Type} (f : α → β) {l : List α} {m : Nat} {x : α} (h : l[m]? = some x) : (l.take (m + 1)).map f = (l.take m).map f ++ [f x] := by
  rw [List.take_add_one, h, List.map_append]; rfl
section
variable {Z : ZP} {w : World}
theorem Small_t {cs : List Value} {c : GConf} (hc : rConf.r w cs c) : Cz Tryd.prog 5 [.agg cs.toArray] w (fun r w' => r = B (small c) ∧ Fr [] w w') Z := by
  obtain ⟨A0, c0, A1, c1, A2, c2, A3, c3, A4, c4, rfl, k0, k1, k2, k3, k4⟩ := oConf hc
  refine go mixed Tryd.func5 Tryd.call5 rfl (Tr.e5 _) ?_
  refine r_box (fun b w1 hb Bb f1 => ?_)
  have n0 : ∀ {a : Bool} {p : Prop} [Decidable p], p → (!decide p && a) = false := by
    intro a p _ h; rw [decide_eq_true h]; rfl
  have n1 : ∀ {a : Bool} {p : Prop} [Decidable p], ¬ p → (!decide p && a) = a := by
    intro a p _ h; rw [decide_eq_false h]; rfl
  refine r_ld (Bb.cell (o := 0) rfl) ?_
  refine r_if (fun h => ?_) (fun h => ?_)
  · exact r_ret ⟨by unfold small; rw [n0 (by omega)], f1⟩
  refine r_ld (Bb.cell (o := 1) rfl) ?_
  refine r_if (fun h1 => ?_) (fun h1 => ?_)
  · exact r_ret ⟨by unfold small; rw [n1 (by omega), n0 (by omega)], f1⟩
  refine r_ld (Bb.cell (o := 2) rfl) ?_
  refine r_if (fun h2 => ?_) (fun h2 => ?_)
  · exact r_ret ⟨by unfold small; rw [n1 (by omega), n1 (by omega), n0 (by omega)], f1⟩
  refine r_ld (Bb.cell (o := 3) rfl) ?_
  refine r_if (fun h3 => ?_) (fun h3 => ?_)
  · exact r_ret ⟨by unfold small; rw [n1 (by omega), n1 (by omega), n1 (by omega), n0 (by omega)], f1⟩
  refine r_ld (Bb.cell (o := 4) rfl) ?_
  refine r_if (fun h4 => ?_) (fun h4 => ?_)
  · exact r_ret ⟨by unfold small; rw [n1 (by omega), n1 (by omega), n1 (by omega), n1 (by omega), n0 (by omega)], f1⟩
  have e : small c = c.channels.all chSmall := by unfold small; rw [n1 (by omega), n1 (by omega), n1 (by omega), n1 (by omega), n1 (by omega)]
  rw [e]
  refine r_loop (fun (i : Nat) => [I (i : Int), B false]) (fun i w' => i ≤ c.channels.length ∧ (∀ x ∈ c.channels.take i, chSmall x = true) ∧ w' = w1) (fun i => c.channels.length - i) 0 ⟨Nat.zero_le _, by simp, rfl⟩ rfl ?_
  rintro i _ ⟨hi, hok, rfl⟩
  refine r_ld (Bb.cell (o := 2) rfl) ?_
  refine r_if (fun h5 => ?_) (fun h5 => ?_)
  · obtain ⟨x, hx⟩ := gt (xs := c.channels) (j := i) (by omega)
    obtain ⟨ad, es, rfl, rd, e3⟩ := (k2.2.2.up f1) i x hx
    obtain ⟨L1, d1, L2, d2, rfl, m1, m2⟩ := oChannel e3
    have hno : chSmall x = false → c.channels.all chSmall = false := fun h => by
      cases ha : c.channels.all chSmall with
      | false => rfl
      | true => rw [List.all_eq_true] at ha; rw [ha x (List.mem_of_getElem? hx)] at h; cases h
    refine r_ld (Bb.cell (o := 2) rfl) ?_
    refine r_ob ⟨by omega, by omega⟩ ?_
    refine r_ld (rd.2 1 _ rfl) ?_
    refine r_if (fun h6 => ?_) (fun h6 => ?_)
    · exact r_ret ⟨by rw [hno (by unfold chSmall; rw [n0 (by omega)])], f1⟩
    refine r_ld (Bb.cell (o := 2) rfl) ?_
    refine r_ob ⟨by omega, by omega⟩ ?_
    refine r_ld (rd.2 2 _ rfl) ?_
    refine r_if (fun h7 => ?_) (fun h7 => ?_)
    · exact r_ret ⟨by rw [hno (by unfold chSmall; rw [n1 (by omega), decide_eq_true (by omega)]; rfl)], f1⟩
    refine r_ar (by have := k2.2.1; simp only [big] at this; omega) ?_
    refine r_ag (i + 1) ⟨by omega, fun y hy => ?_, rfl⟩ (by omega) rfl
    rw [Bi.take_s hx] at hy
    rcases List.mem_append.1 hy with hy | hy
    · exact hok y hy
    · simp at hy; subst hy; unfold chSmall; rw [n1 (by omega), decide_eq_false (by omega)]; rfl
  · obtain rfl : i = c.channels.length := by omega
    refine r_brk (r_ret ⟨?_, f1⟩)
    rw [List.take_length] at hok
    rw [List.all_eq_true.2 hok]
theorem Erow : El Tryd.prog 50 49 1 24 (.slice none 0 0) := ⟨by kernel_rfl, by kernel_rfl, Tryd.sizeOf49, Tryd.zeroValue49, rfl⟩
theorem Etick : El Tryd.prog 29 52 2 48 (.agg #[.slice none 0 0, .slice none 0 0]) := ⟨by kernel_rfl, by kernel_rfl, Tryd.sizeOf52, Tryd.zeroValue52, rfl⟩
theorem fewT_at {t : GTick} {k : Nat} {x : List Int} (h : t.bytes[k]? = some x) : ((t.bytes.take (k + 1)).map (·.take 80)) = (t.bytes.take k).map (·.take 80) ++ [x.take 80] := take_map_s (fun x : List Int => x.take 80) h
theorem Few_t {A : Option Addr} {cp m : Nat} {l : List GTick} (hl : Rw rTick w A l) (hm : m ≤ 1000) : Cz Tryd.prog 7 [.slice A l.length cp, I m] w (fun r w' => Sl rTick w' r (few l m) ∧ Fr [] w w') Z := by
  refine go mixed Tryd.func7 Tryd.call7 rfl (Tr.e7 _ _) ?_
  refine r_loop (fun (s : Nat × Value) => [I (s.1 : Int), s.2]) (fun s w' => s.1 ≤ l.length ∧ s.1 ≤ m ∧ Or rTick 52 w.heap.size [] w' s.2 ((l.take s.1).map fewT) ∧ Fr [] w w') (fun s => m - s.1) (0, .slice none 0 0) ⟨Nat.zero_le _, Nat.zero_le _, Or.nil, Fr.refl _ _⟩ rfl ?_
  rintro ⟨i, v⟩ w1 ⟨hi, him, HO, F1⟩
  dsimp only at hi him HO
  have out : ¬ (i < l.length ∧ i < m) → Sl rTick w1 v (few l m) := by
    intro h
    have e : (l.take i).map fewT = few l m := by
      unfold few
      rcases Nat.lt_or_ge i m with h1 | h1
      · have : i = l.length := by omega
        subst this
        rw [List.take_length, List.take_of_length_le (by omega)]
      · rw [show i = m by omega]
    rw [← e]
    exact HO.row (by simp [big]; omega)
  refine r_if (fun h => ?_) (fun h => ?_)
  · refine r_if (fun h2 => ?_) (fun h2 => ?_)
    · obtain ⟨t, ht⟩ := gt (xs := l) (j := i) (by omega)
      obtain ⟨ad, es, rfl, rd, e3⟩ := hl i t ht
      obtain ⟨T1, d1, T2, d2, rfl, m1, m2⟩ := oTick e3
      refine r_ob ⟨by omega, by omega⟩ ?_
      refine r_ldn (rd.fr F1) ?_
      refine r_as (cs := [.slice T1 t.bytes.length d1, .slice T2 t.picks.length d2]) (zs := [.slice none 0 0, .slice none 0 0]) (n := 2) (fun b w2 hb Bb f2 => ?_) Tryd.zeroValue52 Tryd.sizeOf52 (by intro v hv; simp at hv; rcases hv with rfl | rfl <;> rfl)
      have hbw : w.heap.size ≤ b := by have := F1.size; omega
      have hvb : ∀ q ∈ v.ownBlock.toList, q ≠ b := fun q hq => by have := (HO.lt q hq).2; omega
      refine r_ld (Bb.cell (o := 1) rfl) ?_
      refine r_ifj (fun w3 => Blk w3 b 52 [.slice T1 t.bytes.length d1, .slice T2 (t.picks.take 16).length d2] ∧ Fr [b] w1 w3) ?_ ?_ ?_
      · rintro w3 ⟨B3, f3⟩
        have F3 : Fr [] w w3 := F1.trans_new f3 (fun q hq => .inr (by simp at hq; omega))
        have HO3 : Or rTick 52 w.heap.size [] w3 v ((l.take i).map fewT) := HO.up f3 (fun q hq hv => hvb q hv (by simpa using hq)) (fun q hq => .inr (by simp at hq; omega))
        refine r_loop (fun (s : Nat × Value) => [I (s.1 : Int), s.2]) (fun s w' => s.1 ≤ t.bytes.length ∧ s.1 ≤ 10 ∧ Or (rL (rI .u8)) 49 w3.heap.size v.ownBlock.toList w' s.2 ((t.bytes.take s.1).map (·.take 80)) ∧ Fr [] w3 w') (fun s => 10 - s.1) (0, .slice none 0 0) ⟨Nat.zero_le _, Nat.zero_le _, Or.nil, Fr.refl _ _⟩ rfl ?_
        rintro ⟨k, u⟩ w4 ⟨hk, hk10, HU, F4⟩
        dsimp only at hk hk10 HU
        have F4' := F3.trans F4
        have B4 := B3.fr0 F4
        have HO4 := HO3.fr0 F4
        have ge : ∀ q ∈ u.ownBlock.toList ++ v.ownBlock.toList, w.heap.size ≤ q := by
          intro q hq
          rcases List.mem_append.1 hq with h | h
          · have := (HU.lt q h).1; have := F3.size; omega
          · exact (HO.lt q h).1
        refine r_ld (B4.cell (o := 0) rfl) ?_
        refine r_ifj (fun w' => w' = w4 ∧ ¬ (k < t.bytes.length ∧ k < 10)) ?_ ?_ (fun h => ⟨rfl, by omega⟩)
        · rintro _ ⟨rfl, hno⟩
          have e : (t.bytes.take k).map (·.take 80) = (fewT t).bytes := by
            unfold fewT
            dsimp only
            rcases Nat.lt_or_ge k 10 with h1 | h1
            · have : k = t.bytes.length := by omega
              subst this
              rw [List.take_length, List.take_of_length_le (by omega)]
            · rw [show k = 10 by omega]
          rw [e] at HU
          refine r_brk ?_
          refine r_ld (B4.cell (o := 1) rfl) ?_
          have hbl : (fewT t).bytes.length ≤ big := by rw [← e]; simp [big]; omega
          obtain ⟨U1, e1, rfl, _⟩ := HU.row hbl
          refine r_appL (x := fewT t) (es := [.slice U1 (fewT t).bytes.length e1, .slice T2 (t.picks.take 16).length d2]) Etick HO4 (fun w5 f5 => ?_) (by simp [big]; omega) F4'.size (fun v' w5 h1 h2 h3 => ?_)
          · obtain ⟨_, _, e2, g1⟩ := (HU.up f5 (fun q hq hu => by have := HU.lt q hu; rw [List.append_nil] at hq; have := (HO3.lt q hq).2; omega) (fun q hq => .inl (by rw [List.append_nil] at hq; exact hq))).row hbl
            cases e2
            have F5 : Fr [] w w5 := F4'.trans_new f5 (fun q hq => .inr ((HO.lt q (by rw [List.append_nil] at hq; exact hq)).1))
            exact mTick (x := fewT t) g1 ⟨Nat.le_trans (List.length_take_le' _ _) m2.1, Nat.le_trans (List.length_take_le' _ _) m2.2.1, (m2.2.2.take 16).up F5⟩
          · refine r_ar (by omega) ?_
            refine r_ag (s := (i, v)) (i + 1, v') ⟨by dsimp only; omega, by dsimp only; omega, ?_, F4'.trans_new h2 (fun q hq => .inr (HO.lt q hq).1)⟩ (by dsimp only; omega) rfl
            dsimp only
            rw [take_map_s fewT ht]
            exact h1
        · intro key h5
          refine r_if (fun h6 => ?_) (fun h6 => key _ ⟨rfl, by omega⟩)
          obtain ⟨x, hx⟩ := gt (xs := t.bytes) (j := k) (by omega)
          obtain ⟨ad2, es2, rfl, rd2, e4⟩ := m1.2.2 k x hx
          obtain ⟨X, cx, rfl, x1, x2, x3⟩ := e4
          refine r_ld (B4.cell (o := 0) rfl) ?_
          refine r_ob ⟨by omega, by omega⟩ ?_
          refine r_ld (cell1 (rd2.fr F4')) ?_
          have rel : ∀ {n cy : Nat}, n = (x.take 80).length → n ≤ cy → Off (u.ownBlock.toList ++ v.ownBlock.toList) (fun w => (rL (rI .u8)).r w [.slice X n cy] (x.take 80)) w4 := by
            rintro n cy rfl hn
            exact Rl.off (rL (rI .u8)) ⟨X, cy, rfl, hn, Nat.le_trans (List.length_take_le' _ _) x2, x3.take 80⟩ F4' ge
          refine r_if (fun h7 => ?_) (fun h7 => ?_)
          · refine r_slh (e := 5) (by kernel_rfl) Tryd.sizeOf5 (by omega) (by omega) rfl ?_
            refine r_appL (x := x.take 80) Erow HU (rel (n := 80) (cy := cx) (by simp; omega) (by omega)) (by simp [big]; omega) F4.size (fun v' w5 g1 g2 g3 => ?_)
            refine r_ar (by omega) ?_
            refine r_ag (s := (k, u)) (k + 1, v') ⟨by dsimp only; omega, by dsimp only; omega, ?_, F4.trans_new g2 (fun q hq => .inr (HU.lt q hq).1)⟩ (by dsimp only; omega) rfl
            dsimp only
            rw [fewT_at hx]
            exact g1
          · refine r_appL (x := x.take 80) Erow HU (rel (n := x.length) (cy := cx) (by simp; omega) (by omega)) (by simp [big]; omega) F4.size (fun v' w5 g1 g2 g3 => ?_)
            refine r_ar (by omega) ?_
            refine r_ag (s := (k, u)) (k + 1, v') ⟨by dsimp only; omega, by dsimp only; omega, ?_, F4.trans_new g2 (fun q hq => .inr (HU.lt q hq).1)⟩ (by dsimp only; omega) rfl
            dsimp only
            rw [fewT_at hx]
            exact g1
      · intro key h3
        refine r_ld (Bb.cell (o := 1) rfl) ?_
        refine r_slh (e := 3) (by kernel_rfl) Tryd.sizeOf3 (by omega) (by omega) rfl ?_
        refine r_st1 Bb Tryd.sizeOf26 (fun w3 B3 f3 => key w3 ⟨?_, ?_⟩)
        · rw [show (t.picks.take 16).length = 16 by simp; omega]; exact B3
        · exact (f2.mono (by simp)).trans f3
      · intro h3
        refine ⟨?_, f2.mono (by simp)⟩
        rw [show (t.picks.take 16).length = t.picks.length by simp; omega]; exact Bb
    · exact r_brk (r_ret ⟨out (by omega), F1⟩)
  · exact r_brk (r_ret ⟨out (by omega), F1⟩)
end
end Go.Proofs.YtbljpcikcefkiaaDoor.Hd

/- Pieces, over trees: numbers of bytes. -/
set_option linter.unusedVariables false
set_option linter.unusedSimpArgs false
namespace Go.Proofs.YtbljpcikcefkiaaDoor.Hd
open Go Go.RowKit Go.Proofs.YtbljpcikcefkiaaDoor.Sx
open Go.Proofs.YtbljpcikcefkiaaDoor.Bi (mixed take_s)
abbrev Bs := List Int
def WfB (b : Bs) : Prop := ∀ z ∈ b, 0 ≤ z ∧ z < 256
theorem WfB.at {b : Bs} (h : WfB b) {j : Nat} {z : Int} (hz : b[j]? = some z) : 0 ≤ z ∧ z < 256 := h z (List.mem_of_getElem? hz)
theorem WfB.take {b : Bs} (h : WfB b) (n : Nat) : WfB (b.take n) := fun z hz => h z (List.mem_of_mem_take hz)
theorem WfB.drop {b : Bs} (h : WfB b) (n : Nat) : WfB (b.drop n) := fun z hz => h z (List.mem_of_mem_drop hz)
/-- The number of bytes, the lowest first. -/
def le : Bs → Int
  | [] => 0
  | z :: r => le r * 256 + z
theorem le_bound : ∀ {b : Bs}, WfB b → 0 ≤ le b ∧ le b < 256 ^ b.length := by
  intro b
  induction b with
  | nil => intro _; exact ⟨by decide, by decide⟩
  | cons z r ih =>
    intro h
    have hz := h z (by simp)
    have hr := ih (fun y hy => h y (by simp [hy]))
    unfold le
    rw [List.length_cons, Int.pow_succ]
    omega
theorem le_max {b : Bs} (h : WfB b) (hl : b.length ≤ 8) : le b < 18446744073709551616 := by
  have h1 := (le_bound h).2
  have h2 : (256 : Int) ^ b.length ≤ 256 ^ 8 := by
    have h := Int.ofNat_le.2 (Nat.pow_le_pow_right (by decide : 0 < 256) hl)
    rwa [Int.natCast_pow, Int.natCast_pow] at h
  have h3 : (256 : Int) ^ 8 = 18446744073709551616 := by decide
  omega
theorem le_drop {b : Bs} {i : Nat} {z : Int} (h : b[i]? = some z) : le (b.drop i) = le (b.drop (i + 1)) * 256 + z := by
  have hi := (List.getElem?_eq_some_iff.1 h)
  rw [List.drop_eq_getElem_cons hi.1, hi.2]
  rfl
theorem le_snoc : ∀ (b : Bs) (z : Int), le (b ++ [z]) = le b + 256 ^ b.length * z := by
  intro b
  induction b with
  | nil => intro z; simp [le]
  | cons y r ih =>
    intro z
    rw [List.cons_append, le, ih, le, List.length_cons, Int.pow_succ]
    rw [Int.add_mul]
    have : (256 : Int) ^ r.length * z * 256 = 256 ^ r.length * 256 * z := by rw [Int.mul_assoc, Int.mul_comm z, ← Int.mul_assoc]
    omega
theorem shl_or {x z : Int} {i : Nat} (hi : i < 8) (hx : 0 ≤ x ∧ x < 256 ^ i) (hz : 0 ≤ z ∧ z < 256) :
    ((BitVec.ofInt 64 x) ||| ((BitVec.ofInt 64 z) <<< (8 * i))).toNat = (x + 256 ^ i * z).toNat ∧ 0 ≤ x + 256 ^ i * z ∧ x + 256 ^ i * z < 256 ^ (i + 1) := by
  obtain ⟨a, rfl⟩ := Int.eq_ofNat_of_zero_le hx.1
  obtain ⟨b, rfl⟩ := Int.eq_ofNat_of_zero_le hz.1
  have e : ((256 : Int) ^ i) = ((2 ^ (8 * i) : Nat) : Int) := by rw [Nat.pow_mul]; simp
  have hp : (2 ^ (8 * i) : Nat) * 256 ≤ 18446744073709551616 := by
    have : (2 ^ (8 * i) : Nat) * 256 = 2 ^ (8 * i + 8) := by rw [Nat.pow_add]
    rw [this]
    exact Nat.le_trans (Nat.pow_le_pow_right (by decide) (by omega : 8 * i + 8 ≤ 64)) (by decide)
  have ha : a < 2 ^ (8 * i) := by have := hx.2; rw [e] at this; exact Int.ofNat_lt.1 this
  have hb : b < 256 := by omega
  have hor := Nat.two_pow_add_eq_or_of_lt ha b
  have hsh : b <<< (8 * i) = 2 ^ (8 * i) * b := by rw [Nat.shiftLeft_eq, Nat.mul_comm]
  rw [Int.pow_succ]
  rw [e] at hx ⊢
  rw [BitVec.toNat_or, BitVec.toNat_shiftLeft, BitVec.toNat_ofInt, BitVec.toNat_ofInt]
  have e1 : ((a : Int) % ((2 ^ 64 : Nat) : Int)).toNat = a := by omega
  have e2 : ((b : Int) % ((2 ^ 64 : Nat) : Int)).toNat = b := by omega
  rw [e1, e2, hsh]
  generalize 2 ^ (8 * i) = M at hp ha hor ⊢
  have h1 : M * b + M ≤ M * 256 := by
    rw [← Nat.mul_succ]
    exact Nat.mul_le_mul_left _ hb
  have h2 : (M : Int) * b = ((M * b : Nat) : Int) := by simp
  have h3 : (M : Int) * 256 = ((M * 256 : Nat) : Int) := by simp
  rw [h2, h3]
  have h4 : M * b % 2 ^ 64 = M * b := Nat.mod_eq_of_lt (by omega)
  rw [h4, Nat.or_comm, ← hor]
  omega
section
variable {Z : ZP} {w : World}
theorem u8cell {w : World} {a : Addr} {m : Nat} {z : Int} (h : Rd w 1 (addA a m) [.int .u8 z]) : w.cell? (addA a m) = some (.int .u8 z) := cell1 h
theorem wrap_u64 {z : Int} (h : 0 ≤ z ∧ z < 18446744073709551616) : IntKind.u64.wrap z = z := by rw [Bt.wrap_u]; omega
theorem u_eq {x : Int} (h : 0 ≤ x ∧ x < 18446744073709551616) : (Value.int .u64 x) = U (BitVec.ofInt 64 x) := by
  have : ((BitVec.ofInt 64 x).toNat : Int) = x := by rw [BitVec.toNat_ofInt]; omega
  unfold U
  rw [this]
theorem r_shlu {P : Program} {Z : ZP} {R : Value → World → Prop} {w : World} {A : List Nat → List Value → World → Prop} {B : List Nat → Nat → List Value → World → Prop} {ds : List Nat} {k : Value → T} {t : TypeId} {kd : IntKind} {a : BitVec 64} {i : Int} {n : Nat} (hi : i = n) (h64 : n < 64) (h : wp P Z R ds (k (U (a <<< n))) w A B) : wp P Z R ds (.pu (binOp .shl t (U a) (.int kd i)) k) w A B := by
  subst hi
  have e : Op.shift .shl .u64 ((a.toNat : Nat) : Int) kd n = pure (U (a <<< n)) := by
    unfold Op.shift
    rw [if_neg (by omega)]
    have hm : min ((n : Int).toNat) (IntKind.bits .u64) = n := by simp [IntKind.bits]; omega
    simp only [hm]
    refine congrArg (fun z => pure (Value.int .u64 z)) ?_
    rw [Bt.wrap_u, BitVec.toNat_shiftLeft, Nat.shiftLeft_eq]
    simp
  exact ⟨_, fun w' => by rw [binOp_shl, e]; rfl, h⟩
theorem get_t {X : Option Addr} {cp at_ n : Nat} {b : Bs} (hr : Rw (rI .u8) w X b) (hb : WfB b) (hn : n ≤ 8) (hl : at_ + n ≤ b.length) (hbl : b.length ≤ 1000) : Cz Tryd.prog 87 [.agg [I at_, I n].toArray, .slice X b.length cp] w (fun r w' => r = .int .u64 (le ((b.drop at_).take n)) ∧ Fr [] w w') Z := by
  refine go mixed Tryd.func87 Tryd.call87 rfl (Tr.e87 _ _) ?_
  refine r_box (fun p w1 hp Pb f1 => ?_)
  refine r_ld (Pb.cell (o := 1) rfl) ?_
  refine r_loop (fun (i : Nat) => [I (i : Int), .int .u64 (le ((b.drop at_).take i))]) (fun i w' => i ≤ n ∧ w' = w1) (fun i => n - i) 0 ⟨Nat.zero_le _, rfl⟩ rfl ?_
  rintro i _ ⟨hi, rfl⟩
  refine r_if (fun h => ?_) (fun h => ?_)
  · obtain ⟨z, hz⟩ := gt (xs := b) (j := at_ + i) (by omega)
    have hzb := hb.at hz
    refine r_ld (Pb.cell (o := 0) rfl) ?_
    refine r_ar (by omega) ?_
    obtain ⟨ad, es, rfl, rd, e3⟩ := hr _ z hz
    obtain rfl := e3
    refine r_ob ⟨by omega, by omega⟩ ?_
    refine r_ld (by
      show _ = some _
      rw [show ((((at_ : Nat) : Int) + (i : Nat)).toNat * 1) = (at_ + i) * 1 by omega]
      exact u8cell (rd.fr f1)) ?_
    refine r_are (wrap_u64 (by omega)) ?_
    refine r_are (wrap_u64 (by omega)) ?_
    refine r_are (wrap_u64 (by omega)) ?_
    have hz2 : ((b.drop at_)[i]? = some z) := by rw [List.getElem?_drop]; exact hz
    have hlen : ((b.drop at_).take i).length = i := by rw [List.length_take, List.length_drop]; omega
    have h0 := le_bound ((hb.drop at_).take i)
    have hm := le_max ((hb.drop at_).take i) (by omega)
    rw [hlen] at h0
    obtain ⟨s1, s2, s3⟩ := shl_or (i := i) (by omega) h0 hzb
    rw [u_eq (x := z) (by omega)]
    refine r_shlu (n := 8 * i) (by omega) (by omega) ?_
    show wp _ _ _ _ (.pu (binOp .or _ (.int .u64 (le ((b.drop at_).take i))) _) _) _ _ _
    rw [u_eq (x := le ((b.drop at_).take i)) (by omega)]
    refine r_or ?_
    refine r_ar (by omega) ?_
    refine r_ag (i + 1) ⟨by omega, rfl⟩ (by omega) ?_
    show [I _, .int .u64 (le ((b.drop at_).take (i + 1)))] = [I _, .int .u64 _]
    rw [s1, take_s hz2, le_snoc, hlen]
    have : ((le ((b.drop at_).take i) + 256 ^ i * z).toNat : Int) = le ((b.drop at_).take i) + 256 ^ i * z := by omega
    rw [this]; rfl
  · obtain rfl : i = n := by omega
    exact r_brk (r_ret ⟨rfl, f1⟩)
end
end Go.Proofs.YtbljpcikcefkiaaDoor.Hd

/- Requests, over trees: which are well-formed; both texts. -/
set_option linter.unusedVariables false
set_option linter.unusedSimpArgs false
namespace Go.Proofs.YtbljpcikcefkiaaDoor.Hd
open Go Go.RowKit Go.Proofs.YtbljpcikcefkiaaDoor.Sx
open Go.Proofs.YtbljpcikcefkiaaDoor.Bi (mixed take_s)
def rtB (q : GRequest) : Bool := decide (1 ≤ q.rights) && decide (q.rights ≤ 7)
/-- Is a request well-formed? -/
def isReq (q : GRequest) : Bool :=
  if q.kind = 1 then rtB q && (decide (q.handle = 0) && decide (q.payload = 0))
  else if q.kind = 2 ∨ q.kind = 4 ∨ q.kind = 6 ∨ q.kind = 7 then decide (q.a = 0) && (decide (q.rights = 0) && decide (q.payload = 0))
  else if q.kind = 3 then decide (q.a = 0) && decide (q.rights = 0)
  else if q.kind = 5 then rtB q && decide (q.payload = 0)
  else if q.kind = 8 then decide (q.rights = 0) && decide (q.handle = 0)
  else if q.kind = 9 then decide (q.a = 0) && (decide (q.rights = 0) && (decide (q.handle = 0) && decide (q.payload = 0)))
  else false
section
variable {Z : ZP} {w : World}
end
/-- What a request's kind names of it. -/
def nmR (q : GRequest) : GRequest :=
  if q.kind = 5 then ⟨q.kind, q.a, q.rights, q.handle, 0⟩
  else if q.kind = 1 then ⟨q.kind, q.a, q.rights, 0, 0⟩
  else if q.kind = 3 then ⟨q.kind, 0, 0, q.handle, q.payload⟩
  else if q.kind = 2 ∨ q.kind = 4 ∨ q.kind = 6 ∨ q.kind = 7 then ⟨q.kind, 0, 0, q.handle, 0⟩
  else if q.kind = 8 then ⟨q.kind, q.a, 0, 0, q.payload⟩
  else ⟨q.kind, 0, 0, 0, 0⟩
def nmB (q : GRequest) : Bool :=
  if q.kind = 5 ∨ q.kind = 1 then rtB q
  else decide (q.kind = 2 ∨ q.kind = 3 ∨ q.kind = 4 ∨ q.kind = 6 ∨ q.kind = 7 ∨ q.kind = 8 ∨ q.kind = 9)
theorem isReq_eq (q : GRequest) : isReq q = (nmB q && decide (nmR q = q)) := by
  obtain ⟨kd, a, rt, ha, pa⟩ := q
  unfold isReq nmB nmR rtB
  dsimp only
  by_cases h5 : kd = 5
  · subst h5; simp <;> grind
  by_cases h1 : kd = 1
  · subst h1; simp <;> grind
  by_cases h3 : kd = 3
  · subst h3; simp <;> grind
  by_cases h2 : kd = 2 ∨ kd = 4 ∨ kd = 6 ∨ kd = 7
  · simp [h1, h3, h5, h2] <;> grind
  by_cases h8 : kd = 8
  · subst h8; simp <;> grind
  by_cases h9 : kd = 9
  · subst h9; simp <;> grind
  simp [h1, h2, h3, h5, h8, h9] <;> grind
def zReq : List Value := [.int .u8 0, .int .u8 0, .int .u8 0, .int .u32 0, .int .u64 0]
structure N3 (w0 w : World) (b x o : Nat) (q xs : List Value) : Prop where
  bB : Blk w b 100 q
  xB : Blk w x 100 xs
  oB : Blk w o 100 zReq
  nb : b ≠ x
  no : o ≠ x
  F : Fr [] w0 w
  hx : w0.heap.size ≤ x
  ho : w0.heap.size ≤ o
section
variable {Z : ZP} {w0 w : World} {R : Value → World → Prop} {A : List Nat → List Value → World → Prop} {B' : List Nat → Nat → List Value → World → Prop} {k : Value → T} {t : T} {b x o : Nat} {q xs : List Value}
theorem N3.ld {j : Nat} {v : Value} (h : N3 w0 w b x o q xs) (hv : q[j]? = some v) (hk : wp Tryd.prog Z R [] (k v) w A B') : wp Tryd.prog Z R [] (.ld (Pt b j) k) w A B' := r_ld (h.bB.cell hv) hk
theorem N3.chk {j : Nat} {v : Value} (h : N3 w0 w b x o q xs) (hv : q[j]? = some v) (hk : wp Tryd.prog Z R [] t w A B') : wp Tryd.prog Z R [] (.chk none (Pt b j) v t) w A B' := r_chk (h.bB.cell hv) hk
theorem N3.fr0 {w' : World} (h : N3 w0 w b x o q xs) (f : Fr [] w w') : N3 w0 w' b x o q xs := ⟨h.bB.fr0 f, h.xB.fr0 f, h.oB.fr0 f, h.nb, h.no, h.F.trans f, h.hx, h.ho⟩
theorem N3.dr (h : N3 w0 w b x o q xs) (hk : ∀ w', N3 w0 w' b x o q xs → wp Tryd.prog Z R [] t w' A B') : wp Tryd.prog Z R [] (.dr t) w A B' := r_dr (fun w' f => hk w' (h.fr0 f))
theorem N3.st {j ty : Nat} {v : Value} (h : N3 w0 w b x o q xs) (hs : ∀ w, (sizeOf ty).run Tryd.prog w = .ok 1 w) (h1 : v.cells = #[v]) (h2 : v.oneCell' = true) (hj : Nat.blt j xs.length = true) (hk : ∀ w', N3 w0 w' b x o q (xs.set j v) → wp Tryd.prog Z R [] t w' A B') : wp Tryd.prog Z R [] (.ef (Instr.storeAt ty (Pt x j) v) t) w A B' :=
  r_st1 h.xB hs (fun w' B f => hk w' ⟨h.bB.fr f (by simpa using h.nb), B, h.oB.fr f (by simpa using h.no), h.nb, h.no, h.F.trans_new f (fun q hq => .inr (by simp at hq; subst hq; exact h.hx)), h.hx, h.ho⟩) h1 h2 hj
theorem N3.fin {ok : Bool} (h : N3 w0 w b x o q xs) (hl : xs.length = 5) (h1 : ∀ v ∈ xs, v.oneCell' = true) (hR : ∀ w', Fr [] w0 w' → R (.tuple #[.agg xs.toArray, B ok]) w') : wp Tryd.prog Z R [] (.ldn 5 (Pt x 0) fun v55 => .ef (Instr.storeAt 100 (Pt o 0) v55) (.ldn 5 (Pt o 0) fun r0 => .ret (.tuple [r0, B ok].toArray))) w A B' := by
  refine r_ldn (h.xB.rd hl) ?_
  refine r_stn (n := 5) (cs := xs) h.oB Tryd.sizeOf100 h1 (fun w4 B4 f4 => ?_) rfl hl rfl
  refine r_ldn (B4.rd hl) ?_
  exact r_ret (hR w4 (h.F.trans_new f4 (fun q hq => .inr (by simp at hq; subst hq; exact h.ho))))
theorem szs {ty : Nat} (h : ty = 5 ∨ ty = 98 ∨ ty = 36) (w : World) : (sizeOf ty).run Tryd.prog w = .ok 1 w := by
  rcases h with rfl | rfl | rfl
  · exact Tryd.sizeOf5 w
  · exact Tryd.sizeOf98 w
  · exact Tryd.sizeOf36 w
theorem named_t {w : World} (q : GRequest) : Cz Tryd.prog 95 [.agg (eRequest q).toArray] w (fun r w' => r = .tuple #[.agg (eRequest (nmR q)).toArray, B (nmB q)] ∧ Fr [] w w') Z := by
  obtain ⟨kd, a, rt, ha, pa⟩ := q
  refine go mixed Tryd.func95 Tryd.call95 rfl (Tr.e95 _) ?_
  refine r_box (fun b w1 hb Bb f1 => ?_)
  refine r_al (zs := zReq) Tryd.zeroValue100 (fun o w2 ho Oo f2 => ?_)
  have hbl := Bb.lt
  have Bb2 := Bb.fr0 f2
  refine r_ld (Bb2.cell (o := 0) rfl) ?_
  refine r_as (cs := [.int .u8 kd, .int .u8 0, .int .u8 0, .int .u32 0, .int .u64 0]) (zs := zReq) (n := 5) (fun x w3 hx Xb f3 => ?_) Tryd.zeroValue100 Tryd.sizeOf100 (by intro v hv; simp at hv; rcases hv with rfl | rfl | rfl | rfl | rfl <;> rfl)
  have hol := Oo.lt
  have s1 := f1.size
  have s2 := f2.size
  have N : N3 w w3 b x o (eRequest ⟨kd, a, rt, ha, pa⟩) [.int .u8 kd, .int .u8 0, .int .u8 0, .int .u32 0, .int .u64 0] := ⟨Bb2.fr0 f3, Xb, Oo.fr0 f3, by have := Bb2.lt; omega, by omega, (f1.trans f2).trans f3, by omega, by omega⟩
  clear Bb Bb2 Oo Xb f1 f2 f3 hb ho hx hbl hol s1 s2
  have e0 : ∀ {xs : List Value} {ok : Bool} {w' : World}, xs = eRequest (nmR ⟨kd, a, rt, ha, pa⟩) → ok = nmB ⟨kd, a, rt, ha, pa⟩ → Fr [] w w' → (Value.tuple #[.agg xs.toArray, B ok] = .tuple #[.agg (eRequest (nmR ⟨kd, a, rt, ha, pa⟩)).toArray, B (nmB ⟨kd, a, rt, ha, pa⟩)] ∧ Fr [] w w') := fun h1 h2 f => ⟨by rw [h1, h2], f⟩
  refine N3.ld N rfl ?_
  repeat' (first
    | (refine r_if (fun _ => ?_) (fun _ => ?_))
    | (refine N3.ld (by assumption) rfl ?_)
    | (refine N3.dr (by assumption) (fun _ _ => ?_))
    | (refine N3.chk (by assumption) rfl ?_)
    | (refine N3.st (by assumption) (szs (by decide)) rfl rfl rfl (fun _ _ => ?_))
    | (exfalso; omega)
    | (refine N3.fin (by assumption) rfl (by intro v hv; simp at hv; rcases hv with rfl | rfl | rfl | rfl | rfl <;> rfl) (fun _ f => e0 ?_ ?_ f)))
  all_goals (first | (simp_all [nmR, nmB, eRequest, rtB]; done) | (simp_all [nmR, nmB, eRequest, rtB] <;> omega))
end
end Go.Proofs.YtbljpcikcefkiaaDoor.Hd

/- Pieces, over trees: read; both texts. -/
set_option linter.unusedVariables false
set_option linter.unusedSimpArgs false
namespace Go.Proofs.YtbljpcikcefkiaaDoor.Hd
open Go Go.RowKit Go.Proofs.YtbljpcikcefkiaaDoor.Sx
open Go.Proofs.YtbljpcikcefkiaaDoor.Bi (mixed take_s)
theorem neReq (u v : GRequest) (w : World) : (binOp .neq 100 (.agg (eRequest u).toArray) (.agg (eRequest v).toArray)).run Tryd.prog w = .ok (.bool (decide (¬ u = v))) w := by
  obtain ⟨a, b, c, d, e⟩ := u
  obtain ⟨a', b', c', d', e'⟩ := v
  unfold eRequest
  go_simp
  (repeat' split) <;> simp_all
theorem egReq (op : BinOp) (x y : Operand) (u v : GRequest) (w : World) : (eqGuard op 100 x y (.agg (eRequest u).toArray) (.agg (eRequest v).toArray)).run Tryd.prog w = .ok () w := by
  unfold eRequest
  cases op <;> go_simp
def at0 (b : Bs) (i : Nat) : Int := (b[i]?).getD 0
theorem at0_some {b : Bs} {i : Nat} (h : i < b.length) : b[i]? = some (at0 b i) := by unfold at0; rw [List.getElem?_eq_getElem h]; rfl
def reqOf (b : Bs) : GRequest := ⟨at0 b 0, at0 b 1, at0 b 2, le ((b.drop 4).take 4), le (b.drop 8)⟩
def zR : GRequest := ⟨0, 0, 0, 0, 0⟩
/-- A piece, read. -/
def parse (b : Bs) : GRequest × Int := if b.length = 16 ∧ at0 b 3 = 0 ∧ isReq (reqOf b) = true then (reqOf b, 0) else (zR, 30)
/-- The parts' places, as they were laid. -/
structure Gl (w : World) : Prop where
  h : Rd w 2 ⟨0, 0, none⟩ [I 4, I 4]
  p : Rd w 2 ⟨1, 0, none⟩ [I 8, I 8]
theorem Gl.up {w w' : World} (h : Gl w) (f : Fr [] w w') : Gl w' := ⟨h.h.fr f, h.p.fr f⟩
theorem oReq (q : GRequest) : ∀ v ∈ eRequest q, v.oneCell' = true := iRequest q
section
variable {Z : ZP} {w : World}
theorem Check_t (q : GRequest) : Cz Tryd.prog 88 [.agg (eRequest q).toArray] w (fun r w' => r = I (if isReq q = true then 0 else 30) ∧ Fr [] w w') Z := by
  refine go mixed Tryd.func88 Tryd.call88 rfl (Tr.e88 _) ?_
  refine b_box (Bx.nil w) (fun b w1 H => ?_)
  refine b_ldn H 0 rfl ?_
  refine r_call (named_t q) ?_
  rintro _ w2 ⟨rfl, f2⟩
  replace H := H.fr f2
  refine b_as (cs := eRequest (nmR q)) (zs := zReq) (n := 5) H Tryd.zeroValue100 Tryd.sizeOf100 (oReq _) (fun x w3 H => ?_)
  have e := isReq_eq q
  refine r_ifbn (fun h => ?_) (fun h => ?_)
  · exact b_ret H (fun F => ⟨by rw [e, h]; rfl, F⟩)
  refine b_ldn H 0 rfl ?_
  refine b_ldn H 1 rfl ?_
  refine ⟨_, fun w' => by
    rw [Sem.run_bind, egReq, Result.andThen_ok, neReq], ?_⟩
  rw [h, Bool.true_and] at e
  refine r_if (fun h2 => ?_) (fun h2 => ?_)
  · exact b_ret H (fun F => ⟨by rw [e, decide_eq_false h2]; rfl, F⟩)
  · exact b_ret H (fun F => ⟨by rw [e, decide_eq_true (Classical.not_not.1 h2)]; rfl, F⟩)
def RP (w0 : World) (b : Bs) : Value → World → Prop := fun r w' => r = .tuple #[.agg (eRequest (parse b).1).toArray, I (parse b).2] ∧ Fr [] w0 w'
theorem wrap_u32 {z : Int} (h : 0 ≤ z ∧ z < 4294967296) : IntKind.u32.wrap z = z := by simp [IntKind.wrap, IntKind.bits, IntKind.signed]; omega
theorem le4 {b : Bs} (h : WfB b) : 0 ≤ le ((b.drop 4).take 4) ∧ le ((b.drop 4).take 4) < 4294967296 := by
  have h0 := le_bound ((h.drop 4).take 4)
  refine ⟨h0.1, Int.lt_of_lt_of_le h0.2 ?_⟩
  have h1 := Int.ofNat_le.2 (Nat.pow_le_pow_right (by decide : 0 < 256) (List.length_take_le 4 (b.drop 4)))
  rwa [Int.natCast_pow, Int.natCast_pow] at h1
/-- The end of the program's reading. -/
def tlW (v2 v4 : Value) (cs : List Value) : T := .ef (Instr.storeAt 100 v4 (.agg cs.toArray)) (.ldn 5 v4 fun v33 => .call 88 [v33] fun v34 => biT true .neq v34 (I 0) fun v36 => gi v36 (bdT [] [(.int .u8 0), (.int .u8 0), (.int .u8 0), (.int .u32 0), (.int .u64 0)] fun v37 => .ef (Instr.storeAt 100 v2 (.agg v37.toArray)) (.ldn 5 v2 fun r0 => .ret (.tuple [r0, v34].toArray))) (.ldn 5 v4 fun v39 => .ef (Instr.storeAt 100 v2 v39) (.ldn 5 v2 fun r0 => .ret (.tuple [r0, (I 0)].toArray))))
theorem tlW_ok {w0 w : World} {v2 v4 : Nat} {b : Bs} (H : Bx w0 w [(v4, 100, zReq), (v2, 100, zReq)]) (hl : b.length = 16) (h3 : at0 b 3 = 0) : wp Tryd.prog Z (RP w0 b) [] (tlW (Pt v2 0) (Pt v4 0) (eRequest (reqOf b))) w nA nB := by
  unfold tlW
  refine b_stn (cs := eRequest (reqOf b)) (n := 5) H 0 rfl Tryd.sizeOf100 (oReq _) (fun w1 H => ?_)
  refine b_ldn H 0 rfl ?_
  refine b_call H (Check_t (reqOf b)) (fun w2 H => ?_)
  by_cases hq : isReq (reqOf b) = true
  · have e : parse b = (reqOf b, 0) := by unfold parse; rw [if_pos ⟨hl, h3, hq⟩]
    rw [if_pos hq]
    refine b_ldn H 0 rfl ?_
    refine b_stn (cs := eRequest (reqOf b)) (n := 5) H 1 rfl Tryd.sizeOf100 (oReq _) (fun w1 H => ?_)
    refine b_ldn H 1 rfl ?_
    exact b_ret H (fun F => ⟨by rw [e], F⟩)
  · have e : parse b = (zR, 30) := by unfold parse; rw [if_neg (fun h => hq h.2.2)]
    rw [if_neg hq]
    refine b_stn (cs := eRequest zR) (n := 5) H 1 rfl Tryd.sizeOf100 (oReq _) (fun w1 H => ?_)
    refine b_ldn H 1 rfl ?_
    exact b_ret H (fun F => ⟨by rw [e], F⟩)
theorem Parse_t {X : Option Addr} {cp : Nat} {b : Bs} (G : Gl w) (hr : Rw (rI .u8) w X b) (hb : WfB b) : Cz Tryd.prog 79 [.slice X b.length cp] w (RP w b) Z := by
  refine go mixed Tryd.func79 Tryd.call79 rfl (Tr.e79 _) ?_
  refine b_al (zs := zReq) (Bx.nil w) Tryd.zeroValue100 (fun v2 w1 H => ?_)
  have bad : ¬ (b.length = 16 ∧ at0 b 3 = 0 ∧ isReq (reqOf b) = true) → parse b = (zR, 30) := fun h => by unfold parse; rw [if_neg h]
  refine r_if (fun h => ?_) (fun h => ?_)
  · refine b_stn (cs := eRequest zR) (n := 5) H 0 rfl Tryd.sizeOf100 (oReq _) (fun w1 H => ?_)
    refine b_ldn H 0 rfl ?_
    exact b_ret H (fun F => ⟨by rw [bad (fun h2 => h (by omega))], F⟩)
  have hl : b.length = 16 := by omega
  have hX : ∃ ad, X = some ad := by obtain ⟨a, _, h, _⟩ := hr 0 _ (at0_some (by omega)); exact ⟨a, h⟩
  obtain ⟨ad, rfl⟩ := hX
  have hcell : ∀ {w' : World} (i : Nat), i < 16 → Fr [] w w' → w'.cell? (addA ad (i * 1)) = some (.int .u8 (at0 b i)) := by
    intro w' i hi F
    obtain ⟨a, es, e0, rd, e3⟩ := hr i _ (at0_some (b := b) (i := i) (by omega))
    cases e0
    obtain rfl := e3
    exact u8cell (rd.fr F)
  have h4 := le4 hb
  rw [hl]
  refine r_ob ⟨by decide, by decide⟩ ?_
  refine r_ld (hcell 3 (by omega) H.F) ?_
  refine r_if (fun h3 => ?_) (fun h3 => ?_)
  · refine b_stn (cs := eRequest zR) (n := 5) H 0 rfl Tryd.sizeOf100 (oReq _) (fun w1 H => ?_)
    refine b_ldn H 0 rfl ?_
    exact b_ret H (fun F => ⟨by rw [bad (fun h2 => h3 h2.2.1)], F⟩)
  replace h3 := Classical.not_not.1 h3
  refine b_dr H (fun w2 H => ?_)
  refine r_ob ⟨by decide, by decide⟩ ?_
  refine r_ld (hcell 0 (by omega) H.F) ?_
  refine r_ob ⟨by decide, by decide⟩ ?_
  refine r_ld (hcell 1 (by omega) H.F) ?_
  refine r_ob ⟨by decide, by decide⟩ ?_
  refine r_ld (hcell 2 (by omega) H.F) ?_
  refine r_ldn (G.up H.F).h ?_
  refine r_ldn (G.up H.F).p ?_
  have e2 : (b.drop 8).take 8 = b.drop 8 := List.take_of_length_le (by simp [hl])
  have n1 : ∀ {w' : World} {Z : ZP}, Fr [] w w' → Cz Tryd.prog 87 [.agg [I 4, I 4].toArray, .slice (some ad) 16 cp] w' (fun r w2 => r = .int .u64 (le ((b.drop 4).take 4)) ∧ Fr [] w' w2) Z := by
    intro w' Z F
    have := get_t (Z := Z) (cp := cp) (at_ := 4) (n := 4) (hr.up F) hb (by omega) (by omega) (by omega)
    rwa [hl] at this
  have n2 : ∀ {w' : World} {Z : ZP}, Fr [] w w' → Cz Tryd.prog 87 [.agg [I 8, I 8].toArray, .slice (some ad) 16 cp] w' (fun r w2 => r = .int .u64 (le (b.drop 8)) ∧ Fr [] w' w2) Z := by
    intro w' Z F
    have := get_t (Z := Z) (cp := cp) (at_ := 8) (n := 8) (hr.up F) hb (by omega) (by omega) (by omega)
    rwa [hl, e2] at this
  have c3 : ∀ {w' : World} {t : T}, Fr [] w w' → wp Tryd.prog Z (RP w b) [] t w' nA nB → wp Tryd.prog Z (RP w b) [] (.chk none (.pointer (some (addA ad (0 * 1)))) (.int .u8 (at0 b 0)) (.chk none (.pointer (some (addA ad (1 * 1)))) (.int .u8 (at0 b 1)) (.chk none (.pointer (some (addA ad (2 * 1)))) (.int .u8 (at0 b 2)) t))) w' nA nB := fun F h => r_chk (hcell 0 (by omega) F) (r_chk (hcell 1 (by omega) F) (r_chk (hcell 2 (by omega) F) h))
  have g0 : ∀ {w' : World} {t : T}, Fr [] w w' → wp Tryd.prog Z (RP w b) [] t w' nA nB → wp Tryd.prog Z (RP w b) [] (.chk (some 2) (Pt 0 0) (.agg [I 4, I 4].toArray) t) w' nA nB := fun F h => r_chkn (G.up F).h h
  have g1 : ∀ {w' : World} {t : T}, Fr [] w w' → wp Tryd.prog Z (RP w b) [] t w' nA nB → wp Tryd.prog Z (RP w b) [] (.chk (some 2) (Pt 1 0) (.agg [I 8, I 8].toArray) t) w' nA nB := fun F h => r_chkn (G.up F).p h
  refine ⟨?_, ?_⟩
  · refine b_call H (n1 H.F) (fun w3 H => ?_)
    refine c3 H.F (g1 H.F ?_)
    refine r_are (wrap_u32 h4) ?_
    refine ⟨?_, ?_⟩
    · refine b_call H (n2 H.F) (fun w4 H => ?_)
      refine c3 H.F ?_
      refine b_al (zs := zReq) H Tryd.zeroValue100 (fun v4 w3 H => ?_)
      refine c3 H.F (g0 H.F (g1 H.F ?_))
      exact tlW_ok H hl h3
    · refine b_al (zs := zReq) H Tryd.zeroValue100 (fun v4 w3 H => ?_)
      refine c3 H.F (g0 H.F (g1 H.F ?_))
      refine b_call H (n2 H.F) (fun w4 H => ?_)
      refine c3 H.F ?_
      exact tlW_ok H hl h3
  · refine b_al (zs := zReq) H Tryd.zeroValue100 (fun v4 w3 H => ?_)
    refine c3 H.F (g0 H.F (g1 H.F ?_))
    refine b_call H (n1 H.F) (fun w3 H => ?_)
    refine c3 H.F (g1 H.F ?_)
    refine r_are (wrap_u32 h4) ?_
    refine b_call H (n2 H.F) (fun w4 H => ?_)
    refine c3 H.F ?_
    exact tlW_ok H hl h3
end
end Go.Proofs.YtbljpcikcefkiaaDoor.Hd

/- Bytes cut into pieces, over trees; both texts. -/
set_option linter.unusedVariables false
set_option linter.unusedSimpArgs false
namespace Go.Proofs.YtbljpcikcefkiaaDoor.Hd
open Go Go.RowKit Go.Proofs.YtbljpcikcefkiaaDoor.Sx
open Go.Proofs.YtbljpcikcefkiaaDoor.Bi (mixed take_s)
/-- Bytes cut into pieces of 16, most of them. -/
def split : Nat → Bs → List Bs
  | 0, _ => []
  | m + 1, b => if b.length = 0 then [] else b.take 16 :: split m (b.drop 16)
theorem split_len (m : Nat) : ∀ b, (split m b).length ≤ m := by
  induction m with
  | zero => intro b; exact Nat.le_refl _
  | succ m ih => intro b; unfold split; split
                 · simp
                 · simp; exact ih _
theorem split_wf {m : Nat} : ∀ {b : Bs}, WfB b → ∀ p ∈ split m b, WfB p ∧ p.length ≤ 16 := by
  induction m with
  | zero => intro b _ p hp; simp [split] at hp
  | succ m ih =>
    intro b hb p hp
    unfold split at hp
    split at hp
    · simp at hp
    · rcases List.mem_cons.1 hp with rfl | hp
      · exact ⟨hb.take 16, List.length_take_le _ _⟩
      · exact ih (hb.drop 16) p hp
theorem split_nil (m : Nat) {b : Bs} (h : b.length = 0) : split m b = [] := by
  cases m with
  | zero => rfl
  | succ m => unfold split; rw [if_pos h]
theorem split_step {m : Nat} {b : Bs} (hm : 0 < m) (h : ¬ b.length = 0) : split m b = b.take 16 :: split (m - 1) (b.drop 16) := by
  obtain ⟨k, rfl⟩ : ∃ k, m = k + 1 := ⟨m - 1, by omega⟩
  show split (k + 1) b = _
  rw [split, if_neg h]; rfl
section
variable {Z : ZP} {w : World}
theorem Ebyte : El Tryd.prog 49 5 1 1 (.int .u8 0) := ⟨by kernel_rfl, by kernel_rfl, Tryd.sizeOf5, Tryd.zeroValue5, rfl⟩
theorem Split_t {w0 : World} {X : Option Addr} {cp m : Nat} {b : Bs} (hr : Rw (rI .u8) w0 X b) (hb : b.length ≤ big) (hc : b.length ≤ cp) (hm : m ≤ 1000) : Cz Tryd.prog 78 [.slice X b.length cp, I m] w (fun r w' => Or ((rL (rI .u8)).at w0) 49 w.heap.size [] w' r (split m b) ∧ Fr [] w w') Z := by
  refine go mixed Tryd.func78 Tryd.call78 rfl (Tr.e78 _ _) ?_
  have hb1 := hb
  simp only [big] at hb
  refine r_loop (fun (s : Value × List Bs) => [I (16 * (s.2.length : Int)), s.1]) (fun s w' => Or ((rL (rI .u8)).at w0) 49 w.heap.size [] w' s.1 s.2 ∧ s.2.length ≤ m ∧ 16 * s.2.length ≤ b.length + 16 ∧ s.2 ++ split (m - s.2.length) (b.drop (16 * s.2.length)) = split m b ∧ Fr [] w w') (fun s => m - s.2.length) (.slice none 0 0, []) ⟨Or.nil, Nat.zero_le _, Nat.zero_le _, by simp, Fr.refl _ _⟩ rfl ?_
  rintro ⟨u, ps⟩ w1 ⟨HU, hpm, hpb, hsp, F⟩
  dsimp only at HU hpm hpb hsp
  have hpl : ps.length ≤ big := by simp only [big]; omega
  obtain ⟨U1, c1, rfl, uc, _, _⟩ := HU.row hpl
  have out : b.length ≤ 16 * ps.length ∨ m ≤ ps.length → wp Tryd.prog Z (fun r w' => Or ((rL (rI .u8)).at w0) 49 w.heap.size [] w' r (split m b) ∧ Fr [] w w') [] (.ret (.slice U1 ps.length c1)) w1 nA nB := by
    intro h
    have e : ps = split m b := by
      rcases h with h | h
      · rw [split_nil _ (by simp; omega), List.append_nil] at hsp; exact hsp
      · rw [show m - ps.length = 0 by omega] at hsp; simpa [split] using hsp
    refine r_ret ⟨?_, F⟩
    rw [← e]
    exact HU
  refine r_if (fun h => ?_) (fun h => r_brk (out (.inl (by first | omega | (dsimp only at h; omega)))))
  refine r_if (fun h2 => ?_) (fun h2 => r_brk (out (.inr (by first | omega | (dsimp only at h2; omega)))))
  try dsimp only at h h2
  have hge : ∀ q ∈ (Value.slice U1 ps.length c1).ownBlock.toList ++ [], w.heap.size ≤ q := fun q hq => by rw [List.append_nil] at hq; exact (HU.lt q hq).1
  refine r_ar (by first | omega | (dsimp only; omega)) ?_
  refine r_min ?_
  obtain ⟨n, hn, hn16⟩ : ∃ n : Nat, (if (16 : Int) < ((b.length : Int) - 16 * (ps.length : Int)) then (16 : Int) else ((b.length : Int) - 16 * (ps.length : Int))) = n ∧ n = min 16 (b.length - 16 * ps.length) := by
    by_cases h3 : (16 : Int) < ((b.length : Int) - 16 * (ps.length : Int))
    · exact ⟨16, by rw [if_pos h3]; rfl, by omega⟩
    · exact ⟨b.length - 16 * ps.length, by rw [if_neg h3]; omega, by omega⟩
  rw [hn]
  refine r_ar (by first | omega | (dsimp only; omega)) ?_
  refine r_sl3 (e := rI .u8) (l := 16 * ps.length) (h := n + 16 * ps.length) (m := n + 16 * ps.length) (ety := 5) (by kernel_rfl) Tryd.sizeOf5 (by first | omega | (dsimp only; omega)) (by first | omega | (dsimp only; omega)) (by first | omega | (dsimp only; omega)) (by first | omega | (dsimp only; omega)) (by first | omega | (dsimp only; omega)) (by first | omega | (dsimp only; omega)) (fun X1 hX1 => ?_)
  have hx := hX1 w0 b hr
  rw [show n + 16 * ps.length - 16 * ps.length = n by omega] at hx ⊢
  have e16 : (b.drop (16 * ps.length)).take n = (b.drop (16 * ps.length)).take 16 := by
    rw [hn16, show b.length - 16 * ps.length = (b.drop (16 * ps.length)).length by simp, ← List.take_eq_take_min]
  rw [e16] at hx
  have hnl : n = ((b.drop (16 * ps.length)).take 16).length := by simp; omega
  refine r_appL (x := (b.drop (16 * ps.length)).take 16) (es := [.slice X1 n n]) Erow HU (fun _ _ => ⟨X1, n, by rw [← hnl], by omega, by simp only [big]; omega, hx⟩) (by simp [big]; omega) F.size (fun v26 w4 H4 f4 o4 => ?_)
  refine r_ar (by first | omega | (dsimp only; omega)) ?_
  refine r_ag (v26, ps ++ [(b.drop (16 * ps.length)).take 16]) ⟨H4, by dsimp only; simp; omega, by dsimp only; simp; omega, ?_, F.trans_new f4 (fun q hq => .inr (HU.lt q hq).1)⟩ (by dsimp only; simp; omega) ?_
  · dsimp only
    rw [split_step (by first | omega | (dsimp only; omega)) (by simp; omega)] at hsp
    rw [← hsp, List.append_assoc, List.length_append]
    simp [Nat.sub_sub, Nat.mul_add]
  · dsimp only
    rw [List.length_append]
    show [I _, _] = [I _, _]
    congr 2
end
end Go.Proofs.YtbljpcikcefkiaaDoor.Hd

/- What a tick asks, over trees; both texts; rows compared. -/
set_option linter.unusedVariables false
set_option linter.unusedSimpArgs false
namespace Go.Proofs.YtbljpcikcefkiaaDoor.Hd
open Go Go.RowKit Go.Proofs.YtbljpcikcefkiaaDoor.Sx
open Go.Proofs.YtbljpcikcefkiaaDoor.Bi (mixed take_s)
def ask1 (p : Bs) : GAsked := ⟨(parse p).1, decide ((parse p).2 = 0)⟩
/-- What a tick asks of an owner. -/
def asked (c : GConf) (t : GTick) (o : Int) : List GAsked := if 0 ≤ o ∧ o < t.bytes.length then (split c.requests.toNat ((t.bytes[o.toNat]?).getD [])).map ask1 else []
def WfT (t : GTick) : Prop := ∀ b ∈ t.bytes, WfB b
theorem eq_all {α : Type} {xs ys : List α} (hl : xs.length = ys.length) (h : ∀ j, j < xs.length → xs[j]? = ys[j]?) : xs = ys := by
  apply List.ext_getElem?
  intro j
  rcases Nat.lt_or_ge j xs.length with h1 | h1
  · exact h j h1
  · rw [List.getElem?_eq_none h1, List.getElem?_eq_none (by omega)]
theorem plainE {α : Type} {enc : α → List Value} {n : Nat} {hl : ∀ x, (enc x).length = n} {h1 : ∀ x, ∀ v ∈ enc x, v.oneCell' = true} : Plain (rE enc n hl h1) := fun _ _ _ _ h => h
section
variable {Z : ZP} {w : World}
theorem EAsked : El Tryd.prog 96 102 6 24 (.agg #[.int .u8 0, .int .u8 0, .int .u8 0, .int .u32 0, .int .u64 0, .bool false]) := ⟨by kernel_rfl, by kernel_rfl, Tryd.sizeOf102, Tryd.zeroValue102, rfl⟩
theorem bldAsked (a b c d e : Int) (f : Bool) (w : World) : (Instr.build 102 [(0, (.agg [.int .u8 a, .int .u8 b, .int .u8 c, .int .u32 d, .int .u64 e].toArray)), (1, (B f))].toArray).run Tryd.prog w = .ok (.agg [.int .u8 a, .int .u8 b, .int .u8 c, .int .u32 d, .int .u64 e, .bool f].toArray) w := by kernel_rfl
theorem pieces_t {cs ts : List Value} {c : GConf} {t : GTick} (hc : rConf.r w cs c) (ht : rTick.r w ts t) (o : Int) : Cz Tryd.prog 69 [.agg cs.toArray, .agg ts.toArray, I o] w (fun r w' => ∃ b1 b2 b3, r = .func (.func 77) [].toArray [Pt b3 0, Pt b2 0, Pt b1 0].toArray ∧ Bx w w' [(b3, 3, [I o]), (b2, 52, ts), (b1, 28, cs)]) Z := by
  refine go mixed Tryd.func69 Tryd.call69 rfl (Tr.e69 _ _ _) ?_
  refine b_box (Bx.nil w) (fun b1 w1 H => ?_)
  refine b_box H (fun b2 w2 H => ?_)
  refine b_box (cs := [I o]) H (fun b3 w3 H => ?_)
  exact r_ret ⟨b1, b2, b3, rfl, H⟩
/-- What an iterator over a row of plain data tells. -/
def StP {α : Type} (e : α → List Value) (xs : List α) : Nat → List Value → Nat → Prop := fun m vs m' => ∃ z, xs[m]? = some z ∧ vs = [.agg (e z).toArray] ∧ m' = m + 1
theorem pieces1_it {cs ts : List Value} {c : GConf} {t : GTick} {w0 : World} {b1 b2 b3 : Nat} (hc : rConf.r w0 cs c) (ht : rTick.r w0 ts t) (hw : WfT t) (h4 : 1 ≤ c.requests ∧ c.requests ≤ 4) {o : Int} {L : Nat} {J : List Nat → Nat → World → Prop} {K : List Nat → World → Prop} (RG : Rg Tryd.prog L (StP eAsked (asked c t o)) J K) (hG : Gl w0)
    (hb : ∀ V m w, J V m w → Fr [] w0 w ∧ Blk w b3 3 [I o] ∧ Blk w b2 52 ts ∧ Blk w b1 28 cs) (h0 : J [] 0 w) :
    Cz Tryd.prog 77 [.func (.yield L) #[] #[], Pt b3 0, Pt b2 0, Pt b1 0] w (fun _ w' => ∃ V, J V (asked c t o).length w' ∨ K V w') Z := by
  obtain ⟨A0, c0, A1, c1, A2, c2, A3, c3, A4, c4, rfl, k0, k1, k2, k3, k4⟩ := oConf hc
  obtain ⟨T1, d1, T2, d2, rfl, m1, m2⟩ := oTick ht
  refine go mixed Tryd.func77 Tryd.call77 rfl (Tr.e77 _ _ _ _) ?_
  obtain ⟨F, B3, B2, B1⟩ := hb _ _ _ h0
  have no : ¬ (0 ≤ o ∧ o < t.bytes.length) → asked c t o = [] := fun h => by unfold asked; rw [if_neg h]
  refine r_ld (B3.cell (o := 0) rfl) ?_
  refine r_if (fun h => ?_) (fun h => ?_)
  · exact r_ret ⟨[], .inl (by rw [no (by omega)]; exact h0)⟩
  refine r_ld (B3.cell (o := 0) rfl) ?_
  refine r_ld (B2.cell (o := 0) rfl) ?_
  refine r_if (fun h2 => ?_) (fun h2 => ?_)
  · exact r_ret ⟨[], .inl (by rw [no (by omega)]; exact h0)⟩
  refine r_dr (fun w1 f1 => ?_)
  have h1 := (RG.js _).1 _ _ _ h0 f1
  obtain ⟨bo, hbo⟩ := gt (xs := t.bytes) (j := o.toNat) (by omega)
  have ea : asked c t o = (split c.requests.toNat bo).map ask1 := by unfold asked; rw [if_pos (by omega), hbo]; rfl
  have hwb : WfB bo := hw bo (List.mem_of_getElem? hbo)
  obtain ⟨ad, es, rfl, rd, e4⟩ := m1.2.2 _ bo hbo
  obtain ⟨X, cx, rfl, x1, x2, x3⟩ := e4
  have F1 := F.trans f1
  refine r_ld ((B2.fr0 f1).cell (o := 0) rfl) ?_
  refine r_ld ((B3.fr0 f1).cell (o := 0) rfl) ?_
  refine r_ob ⟨by omega, by omega⟩ ?_
  refine r_ld (cell1 (rd.fr F1)) ?_
  refine r_ld ((B1.fr0 f1).cell (o := 6) rfl) ?_
  obtain ⟨q, hq⟩ := Int.eq_ofNat_of_zero_le (show 0 ≤ c.requests by omega)
  rw [hq] at ea ⊢
  rw [Int.toNat_natCast] at ea
  refine r_call (Split_t (cp := cx) (m := q) x3 x2 x1 (by omega)) ?_
  rintro r w4 ⟨HO, f4⟩
  have hpl := split_len q bo
  have hq4 : q ≤ 4 := by omega
  have hsl : (split q bo).length ≤ big := by simp only [big]; omega
  have hJ4 := RG.rowO h1 HO (Nat.le_refl _) f4
  obtain ⟨S, sc, rfl, s1, s2, s3⟩ := HO.row hsl
  rw [ea] at RG ⊢
  have hlen : ((split q bo).map ask1).length = (split q bo).length := by simp
  obtain ⟨V, hV⟩ : ∃ V, V = (Value.slice S (split q bo).length sc).ownBlock.toList := ⟨_, rfl⟩
  rw [← hV] at hJ4
  refine r_loop (fun (i : Nat) => [I (i : Int)]) (fun i W => i ≤ (split q bo).length ∧ J V i W ∧ Or ((rL (rI .u8)).at w0) 49 w1.heap.size [] W (.slice S (split q bo).length sc) (split q bo)) (fun i => (split q bo).length - i) 0 ⟨Nat.zero_le _, hJ4, HO⟩ rfl ?_
  rintro i W ⟨hi, hJ, HO5⟩
  refine r_if (fun h5 => ?_) (fun h5 => ?_)
  · obtain ⟨p, hp⟩ := gt (xs := split q bo) (j := i) (by omega)
    have hpw := split_wf (m := q) hwb p (List.mem_of_getElem? hp)
    obtain ⟨_, _, e0, _, _, s5⟩ := HO5.row hsl
    cases e0
    obtain ⟨ad2, es2, rfl, rd2, e5⟩ := s5 i p hp
    obtain ⟨Y, cy, rfl, y1, y2, y3⟩ := e5
    obtain ⟨F5, _⟩ := hb _ _ _ hJ
    refine r_ob ⟨by omega, by omega⟩ ?_
    refine r_ld (cell1 rd2) ?_
    refine r_call (Parse_t (hG.up F5) (y3.up F5) hpw.1) ?_
    rintro _ w6 ⟨rfl, f6⟩
    refine r_as (cs := eRequest (parse p).1) (zs := zReq) (n := 5) (fun x w7 hx Xb f7 => ?_) Tryd.zeroValue100 Tryd.sizeOf100 (oReq _)
    have f67 := f6.trans f7
    have hJ7 := (RG.js _).1 _ _ _ hJ (f67.mono (by simp))
    refine r_ldn Xb.rd ?_
    refine ⟨_, fun w' => bldAsked _ _ _ _ _ _ w', ?_⟩
    have HO7 := HO5.fr0 f67
    refine r_yld (RG.yd V i (i + 1) _ _ hJ7 (fun q hq => (HO7.lt q (hV ▸ hq)).2) ⟨ask1 p, by rw [List.getElem?_map, hp]; rfl, rfl, rfl⟩) ?_
    rintro v w8 ⟨⟨rfl, hJ2⟩ | ⟨rfl, hK⟩, _, hkeep⟩
    · refine r_ar (z := (i : Int) + 1) (by omega) ?_
      exact r_ag (i + 1) ⟨by omega, hJ2, HO7.keepP (plainAt _ _) (fun q hq => hkeep q (hV ▸ hq))⟩ (by omega) rfl
    · exact r_ret ⟨V, .inr hK⟩
  · obtain rfl : i = (split q bo).length := by omega
    exact r_brk (r_ret ⟨V, .inl (by rw [hlen]; exact hJ)⟩)
theorem Tick_t {cs ts : List Value} {c : GConf} {t : GTick} (hc : rConf.r w cs c) (ht : rTick.r w ts t) (hw : WfT t) (h4 : 1 ≤ c.requests ∧ c.requests ≤ 4) (hG : Gl w) (o : Int) : Cz Tryd.prog 50 [.agg cs.toArray, .agg ts.toArray, I o] w (fun r w' => Sl rAsked w' r (asked c t o) ∧ Fr [] w w') Z := by
  have hlc := rConf.len hc
  have hlt := rTick.len ht
  refine go mixed Tryd.func50 Tryd.call50 rfl (Tr.e50 _ _ _) ?_
  refine b_box (Bx.nil w) (fun b1 w1 H => ?_)
  refine b_box H (fun b2 w2 H => ?_)
  refine b_al (zs := [.slice none 0 0]) H Tryd.zeroValue96 (fun v w3 H => ?_)
  refine b_ldn H 2 rfl ?_ hlc
  refine b_ldn H 1 rfl ?_ hlt
  refine r_call (pieces_t (rConf.up H.F hc) (rTick.up H.F ht) o) ?_
  rintro _ w4 ⟨x1, x2, x3, rfl, X⟩
  have H4 := H.fr X.F
  have Bv := H4.blk (i := 0) rfl
  have hvx : ∀ q ∈ [x1, x2, x3], v ≠ q := by
    have h1 := X.ge (i := 0) rfl
    have h2 := X.ge (i := 1) rfl
    have h3 := X.ge (i := 2) rfl
    have := (H.blk (i := 0) rfl).lt
    intro q hq; simp at hq; omega
  have hal : (asked c t o).length ≤ 4 := by
    unfold asked
    split
    · rw [List.length_map]
      have := split_len c.requests.toNat ((t.bytes[o.toNat]?).getD [])
      omega
    · simp
  refine r_rf (StP eAsked (asked c t o)) (fun m bs W => Gv rAsked 96 102 w4 v ((asked c t o).take m) bs W) (fun _ _ _ => False) 0 (asked c t o).length [v] Tryd.call77 (Gv.new Bv) (fun s bs W W' S h f hS => h.st plainE f hS) (fun _ _ _ _ _ h => h.elim) (fun s bs W h => h.lt) (fun _ _ _ h => h.elim) ?_ ?_ ?_ (fun _ _ _ _ h => h.elim)
  · rintro L a b m _ _ bs W hL hwL hLW ⟨u, g1, g2, rfl, g4, g5⟩ hLa ⟨z, hz, rfl, rfl⟩
    refine ⟨rfl, ?_⟩
    have hm := (List.getElem?_eq_some_iff.1 hz).1
    refine r_as (cs := eAsked z) (zs := eAsked ⟨⟨0, 0, 0, 0, 0⟩, false⟩) (n := 6) (fun x W1 hx Xb f1 => ?_) Tryd.zeroValue102 Tryd.sizeOf102 (iAsked z)
    refine r_rb ((f1.keep L hLW (by simp)).trans hLa) (fun W2 f2 hL2 => ?_)
    have f12 : Fr [L] W W2 := (f1.mono (by simp)).trans f2
    have hvL : v ≠ L := fun e => hL (by simp [e])
    have huL : L ∉ u.ownBlock.toList := fun h => hL (List.mem_cons_of_mem _ h)
    have g1' := g1.fr f12 (by simpa using hvL)
    have g2' : Or rAsked 102 w4.heap.size [] W2 u ((asked c t o).take m) := g2.upP plainE f12 (fun q hq hu => huL (by simp at hq; subst hq; exact hu))
    refine r_ld (g1'.cell (o := 0) rfl) ?_
    refine r_ldn ((Xb.fr f2 (by simp; omega)).rd) ?_
    refine r_gapp (x := z) (es := eAsked z) plainE EAsked Tryd.sizeOf96 g1' g2' g4 (Nat.le_trans g5.size f12.size) rfl (by simp [big]; omega) (fun W3 bs' g6 g7 g8 => ?_)
    obtain ⟨v', k1, k2, rfl⟩ := g6
    have F3 : Fr (L :: v :: u.ownBlock.toList) W W3 := (f12.mono (by simp)).trans (g8.mono (fun q hq => List.mem_cons_of_mem _ hq))
    refine ⟨⟨_, ⟨v', k1, by rw [take_s hz]; exact k2, rfl, g4, ?_⟩, fun q hq => ?_⟩, F3, ?_⟩
    · refine g5.trans_new F3 (fun q hq => ?_)
      rcases List.mem_cons.1 hq with rfl | hq
      · exact .inr hwL
      · rcases List.mem_cons.1 hq with rfl | hq
        · exact .inl (by simp)
        · exact .inr (g2.lt q hq).1
    · rcases g7 q hq with h | h
      · exact .inl h
      · exact .inr (Nat.le_trans f12.size h)
    · exact (g8.keep L (Array.getElem?_eq_some_iff.1 hL2).1 hL).trans hL2
  · intro L D J K' w5 RG hJ h0
    refine pieces1_it (w0 := w) hc ht hw h4 RG hG (fun V m W hJW => ?_) h0
    obtain ⟨bs, hg⟩ := hJ V m W hJW
    have Fv := hg.F
    have hv0 := H.ge (i := 0) rfl
    refine ⟨H4.F.trans_new Fv (fun q hq => .inr (by simp at hq; subst hq; exact hv0)), (X.blk (i := 0) rfl).fr Fv (by simp; exact fun e => hvx _ (by simp) e.symm), (X.blk (i := 1) rfl).fr Fv (by simp; exact fun e => hvx _ (by simp) e.symm), (X.blk (i := 2) rfl).fr Fv (by simp; exact fun e => hvx _ (by simp) e.symm)⟩
  · rintro D bs W ⟨u, g1, g2, rfl, g4, g5⟩ hD hwD hDd
    rw [List.take_length] at g2
    refine r_ld (g1.cell (o := 0) rfl) ?_
    refine r_ret1 hDd (fun w' f => ⟨?_, ?_⟩)
    · exact (g2.upP (S2 := []) plainE f (fun q hq hu => hD (by simp at hq; subst hq; exact List.mem_cons_of_mem _ hu))).row (by simp [big]; omega)
    · exact (H4.F.trans_new g5 (fun q hq => .inr (by simp at hq; subst hq; exact H.ge (i := 0) rfl))).trans_new f (fun q hq => .inr (by simp at hq; subst hq; exact Nat.le_trans H4.F.size hwD))
end
end Go.Proofs.YtbljpcikcefkiaaDoor.Hd

/- Who owns a tick, what a tenant looks at, over trees; both texts. -/
set_option linter.unusedVariables false
set_option linter.unusedSimpArgs false
namespace Go.Proofs.YtbljpcikcefkiaaDoor.Hd
open Go Go.RowKit Go.Proofs.YtbljpcikcefkiaaDoor.Sx
open Go.Proofs.YtbljpcikcefkiaaDoor.Bi (mixed take_s Has_t rHas_t)
open Go.Proofs.YtbljpcikcefkiaaDoor.Cf
theorem first_all {e : Int} (he : ¬ e = 0) {bad : Nat → Bool} : ∀ {n : Nat}, (first e bad n).2 = 0 → ∀ i, i < n → bad i = false := by
  intro n
  induction n with
  | zero => intro _ i hi; omega
  | succ n ih =>
    intro h i hi
    unfold first at h
    split at h
    · rename_i h0
      split at h
      · exact absurd h he
      · rename_i hb
        rcases Nat.lt_or_ge i n with hin | hin
        · exact ih h0 i hin
        · obtain rfl : i = n := by omega
          simpa using hb
    · rename_i h0; exact absurd h h0
/-- What holds of settings that may be. -/
structure Cok (c : GConf) : Prop where
  req : 1 ≤ c.requests ∧ c.requests ≤ 4
  bud : 1 ≤ c.budget ∧ c.budget ≤ 16
  fr : 1 ≤ c.frame.length ∧ c.frame.length ≤ 64
  own : ∀ (i : Nat) t, c.frame[i]? = some t → 0 ≤ t ∧ t < c.tenants.length
  ten : c.tenants.length ≤ 16
theorem cok {c : GConf} (h : (confE c).2 = 0) : Cok c := by
  obtain ⟨h0, h1, h2, h3, h4, h5, h6⟩ := conf_ok h
  have hb : (win c.budget 1 16 && win c.requests 1 4 && win c.pending 1 4) = true := by
    unfold budE at h6
    split at h6
    · assumption
    · cases h6
  rw [Bool.and_eq_true, Bool.and_eq_true] at hb
  have b1 := of_decide_eq_true hb.1.1
  have b2 := of_decide_eq_true hb.1.2
  have hf : 1 ≤ c.frame.length ∧ c.frame.length ≤ 64 ∧ ∀ i, i < c.frame.length → fraB c i = false := by
    unfold fraE at h5
    split at h5
    · cases h5
    · split at h5
      · cases h5
      · split at h5
        · rename_i h7
          exact ⟨by omega, by omega, first_all (by decide) h7⟩
        · rename_i h7; exact absurd h5 h7
  refine ⟨b2, b1, ⟨hf.1, hf.2.1⟩, fun i t ht => ?_, (ten_ok h1).1⟩
  have := hf.2.2 i (List.getElem?_eq_some_iff.1 ht).1
  unfold fraB at this
  rw [ht] at this
  have h8 : isT c t = true := by simpa using this
  exact of_decide_eq_true h8
/-- Whose tick it is. -/
def ownI (fr : List Int) (n : Nat) : Int := (fr[n % fr.length]?).getD 0
theorem own_at {fr : List Int} (h : 1 ≤ fr.length) (n : Nat) : fr[n % fr.length]? = some (ownI fr n) := by
  unfold ownI
  rw [List.getElem?_eq_getElem (Nat.mod_lt _ (by omega))]; rfl
def ownC (c : GConf) (n : Nat) : Int := ownI c.frame n
theorem Cok.ownC {c : GConf} (h : Cok c) (n : Nat) : 0 ≤ ownC c n ∧ ownC c n < c.tenants.length ∧ Hd.ownC c n < 16 := by
  have h1 := h.own _ _ (own_at h.fr.1 n)
  have h2 := h.ten
  unfold Hd.ownC
  omega
section
variable {Z : ZP} {w : World}
theorem may_t {X : Option Addr} {cp : Nat} {n : Nat} (h : 1 ≤ n ∧ n ≤ 64) : Cz Tryd.prog 51 [.slice X n cp] w (fun r w' => r = B true ∧ w' = w) Z := by
  refine go mixed Tryd.func51 Tryd.call51 rfl (Tr.e51 _) ?_
  refine r_if (fun h => ?_) (fun h => absurd h (by omega))
  exact r_ret ⟨by rw [decide_eq_true (by omega)], rfl⟩
theorem tick_t {n : Nat} (h : n ≤ 1000000) : Cz Tryd.prog 52 [I n] w (fun r w' => r = B true ∧ w' = w) Z := by
  refine go mixed Tryd.func52 Tryd.call52 rfl (Tr.e52 _) ?_
  exact r_ret ⟨by rw [decide_eq_true (show (n : Int) ≤ 1048576 by omega)], rfl⟩
theorem tmodN {n l : Nat} : ((n : Int).tmod (l : Int)) = ((n % l : Nat) : Int) := by
  rw [Int.tmod_eq_emod_of_nonneg (by omega)]; rfl
theorem rowOwner_t {X : Option Addr} {cp : Nat} {fr : List Int} (hr : Rw (rI .i64) w X fr) (h : 1 ≤ fr.length ∧ fr.length ≤ 64) (n : Nat) : Cz Tryd.prog 53 [.slice X fr.length cp, I n] w (fun r w' => r = I (ownI fr n) ∧ w' = w) Z := by
  refine go mixed Tryd.func53 Tryd.call53 rfl (Tr.e53 _ _) ?_
  refine r_rem (by omega) ?_
  rw [tmodN]
  have hm := Nat.mod_lt n (show 0 < fr.length by omega)
  obtain ⟨ad, es, rfl, rd, e3⟩ := hr _ _ (own_at h.1 n)
  obtain rfl := e3
  refine r_ob ⟨by omega, by omega⟩ ?_
  exact r_ld (cell_int rd) (r_ret ⟨rfl, rfl⟩)
theorem Owner_t {X : Option Addr} {cp : Nat} {fr : List Int} (hr : Rw (rI .i64) w X fr) (h : 1 ≤ fr.length ∧ fr.length ≤ 64) {n : Nat} (hn : n ≤ 1000000) : Cz Tryd.prog 35 [.slice X fr.length cp, I n] w (fun r w' => r = .tuple #[I (ownI fr n), I 0] ∧ w' = w) Z := by
  refine go mixed Tryd.func35 Tryd.call35 rfl (Tr.e35 _ _) ?_
  refine r_call (may_t h) ?_
  rintro _ _ ⟨rfl, rfl⟩
  refine r_call (tick_t hn) ?_
  rintro _ _ ⟨rfl, rfl⟩
  refine r_call (rowOwner_t hr h n) ?_
  rintro _ _ ⟨rfl, rfl⟩
  exact r_ret ⟨rfl, rfl⟩
/-- A look: settings, and what is known. -/
def lk (cs : List Value) (s : BitVec 64) : List Value := cs ++ [U s]
theorem lookOwner_t {cs : List Value} {c : GConf} (hc : rConf.r w cs c) (C : Cok c) (s : BitVec 64) {n : Nat} (hn : n ≤ 1000000) : Cz Tryd.prog 22 [.agg (lk cs s).toArray, I n] w (fun r w' => r = .tuple #[I (ownC c n), B (Bt.has s (ownC c n))] ∧ Fr [] w w') Z := by
  obtain ⟨A0, c0, A1, c1, A2, c2, A3, c3, A4, c4, rfl, k0, k1, k2, k3, k4⟩ := oConf hc
  refine go mixed Tryd.func22 Tryd.call22 rfl (Tr.e22 _ _) ?_
  refine b_box (Bx.nil w) (fun b w1 H => ?_)
  refine b_ld H 0 rfl rfl ?_
  refine r_call (Owner_t (k4.2.2.up H.F) C.fr hn) ?_
  rintro _ _ ⟨rfl, rfl⟩
  refine b_ld H 0 rfl rfl ?_
  refine r_call (Has_t s _) ?_
  rintro _ _ ⟨rfl, rfl⟩
  exact b_ret H (fun F => ⟨rfl, F⟩)
/-- What is wrong with scripts. -/
def sE (c : GConf) (t : Int) (ls : List (List GTick)) : Int := if lowE c t = 0 then (if ls.all (fun l => decide (l.length = (ls[0]?.getD []).length)) = true then 0 else 250) else lowE c t
def zLk : List Value := [.slice none 0 0, .slice none 0 0, .slice none 0 0, .slice none 0 0, .slice none 0 0, I 0, I 0, I 0, .int .u64 0]
theorem sE_low {c : GConf} {t : Int} {ls : List (List GTick)} (h : ¬ lowE c t = 0) : sE c t ls = lowE c t := by unfold sE; rw [if_neg h]
theorem lowE_conf {c : GConf} {t : Int} (h : lowE c t = 0) : (confE c).2 = 0 ∧ isT c t = true := by
  unfold lowE at h
  split at h
  · rename_i h0
    split at h
    · exact ⟨h0, by assumption⟩
    · cases h
  · rename_i h0; exact absurd h h0
theorem ask9 (x0 x1 x2 x3 x4 x5 x6 x7 : Value) (s : BitVec 64) (w : World) : (Instr.build 57 [(0, (.agg [x0, x1, x2, x3, x4, x5, x6, x7].toArray)), (1, U s)].toArray).run Tryd.prog w = .ok (.agg [x0, x1, x2, x3, x4, x5, x6, x7, U s].toArray) w := by kernel_rfl
theorem looks_t {cs : List Value} {c : GConf} (hc : rConf.r w cs c) (hw : Wf c) (t : Int) {X : Option Addr} {cp : Nat} {ls : List (List GTick)} (hl : Rw (rL rTick) w X ls) (hll : ls.length ≤ 10) (hsm : ∀ l ∈ ls, l.length ≤ 1048576) : Cz Tryd.prog 16 [.agg cs.toArray, I t, .slice X ls.length cp] w (fun r w' => r = .tuple #[.agg (if sE c t ls = 0 then lk cs (lowV c t) else zLk).toArray, I (sE c t ls)] ∧ Fr [] w w') Z := by
  have hcl := rConf.len hc
  have hc1 := rConf.one hc
  have hc0 := hc
  obtain ⟨A0, c0, A1, c1, A2, c2, A3, c3, A4, c4, rfl, _⟩ := oConf hc
  refine go mixed Tryd.func16 Tryd.call16 rfl (Tr.e16 _ _ _) ?_
  refine b_box (Bx.nil w) (fun b w1 H => ?_)
  refine b_al (zs := zLk) H Tryd.zeroValue57 (fun o w2 H => ?_)
  refine b_ldn H 1 rfl ?_
  refine b_call H (Knows_t (rConf.up H.F hc0) hw t) (fun w3 H => ?_)
  have z1 : ∀ v ∈ zLk, v.oneCell' = true := by intro v hv; simp [zLk] at hv; rcases hv with rfl | rfl | rfl <;> rfl
  refine r_if (fun h => ?_) (fun h => ?_)
  · refine b_stn (cs := zLk) (n := 9) H 0 rfl Tryd.sizeOf57 z1 (fun w4 H => ?_)
    refine b_ldn H 0 rfl ?_
    exact b_ret H (fun F => ⟨by rw [sE_low h, if_neg h]; rfl, F⟩)
  replace h := Classical.not_not.1 h
  refine r_loop (fun (i : Nat) => [I (i : Int), I 0]) (fun i w' => i ≤ ls.length ∧ Bx w w' [(o, 57, zLk), (b, 28, _)]) (fun i => ls.length - i) 0 ⟨Nat.zero_le _, H⟩ rfl ?_
  rintro i w4 ⟨hi, H⟩
  refine r_if (fun h1 => ?_) (fun h1 => ?_)
  · obtain ⟨l, hl1⟩ := gt (xs := ls) (j := i) (by omega)
    obtain ⟨ad, es, rfl, rd, e4⟩ := hl i l hl1
    obtain ⟨Y, cy, rfl, _⟩ := e4
    have := hsm l (List.mem_of_getElem? hl1)
    refine r_ob ⟨by omega, by omega⟩ ?_
    refine r_ld (cell1 (rd.fr H.F)) ?_
    refine r_if (fun h2 => absurd h2 (by omega)) (fun h2 => ?_)
    refine r_ar (by omega) ?_
    exact r_ag (i + 1) ⟨by omega, H⟩ (by omega) rfl
  obtain rfl : i = ls.length := by omega
  refine r_brk ?_
  refine r_loop (fun (i : Nat) => [I (i : Int), I 0]) (fun i w' => i ≤ ls.length ∧ (∀ l ∈ ls.take i, l.length = (ls[0]?.getD []).length) ∧ Bx w w' [(o, 57, zLk), (b, 28, _)]) (fun i => ls.length - i) 0 ⟨Nat.zero_le _, by simp, H⟩ rfl ?_
  rintro i w5 ⟨hi, hok, H⟩
  refine r_if (fun h1 => ?_) (fun h1 => ?_)
  · obtain ⟨l, hl1⟩ := gt (xs := ls) (j := i) (by omega)
    obtain ⟨l0, hl0⟩ := gt (xs := ls) (j := 0) (by omega)
    obtain ⟨ad, es, rfl, rd, e4⟩ := hl i l hl1
    obtain ⟨Y, cy, rfl, _⟩ := e4
    obtain ⟨ad2, es2, e0, rd2, e5⟩ := hl 0 l0 hl0
    cases e0
    obtain ⟨Y2, cy2, rfl, _⟩ := e5
    refine r_ob ⟨by omega, by omega⟩ ?_
    refine r_ld (cell1 (rd.fr H.F)) ?_
    refine r_ob ⟨by omega, by omega⟩ ?_
    refine r_ld (cell1 (rd2.fr H.F)) ?_
    refine r_if (fun h2 => ?_) (fun h2 => ?_)
    · have e : sE c t ls = 250 := by
        unfold sE
        rw [if_pos h, if_neg]
        intro ha
        rw [List.all_eq_true] at ha
        have := of_decide_eq_true (ha l (List.mem_of_getElem? hl1))
        rw [hl0] at this
        exact h2 (congrArg _ this)
      refine b_stn (cs := zLk) (n := 9) H 0 rfl Tryd.sizeOf57 z1 (fun w6 H => ?_)
      refine b_ldn H 0 rfl ?_
      exact b_ret H (fun F => ⟨by rw [e, if_neg (by decide)], F⟩)
    · refine r_ar (by omega) ?_
      refine r_ag (i + 1) ⟨by omega, fun y hy => ?_, H⟩ (by omega) rfl
      rw [take_s hl1] at hy
      rcases List.mem_append.1 hy with hy | hy
      · exact hok y hy
      · simp at hy; subst hy; rw [hl0]; show y.length = l0.length; omega
  obtain rfl : i = ls.length := by omega
  have e : sE c t ls = 0 := by
    unfold sE
    rw [if_pos h, if_pos]
    rw [List.all_eq_true]
    intro l hl2
    rw [List.take_length] at hok
    exact decide_eq_true (hok l hl2)
  refine r_brk ?_
  refine b_ldn H 1 rfl ?_
  refine ⟨_, fun w' => ask9 _ _ _ _ _ _ _ _ _ w', ?_⟩
  refine b_stn (n := 9) H 0 rfl Tryd.sizeOf57 (fun v hv => ?_) (fun w6 H => ?_)
  · rcases List.mem_append.1 (show v ∈ [.slice A0 c.flows.length c0, .slice A1 c.tenants.length c1, .slice A2 c.channels.length c2, .slice A3 c.gates.length c3, .slice A4 c.frame.length c4, .int .i64 c.budget, .int .i64 c.requests, .int .i64 c.pending] ++ [U (lowV c t)] from hv) with hv | hv
    · exact hc1 v hv
    · simp at hv; subst hv; rfl
  refine b_ldn H 0 rfl ?_
  exact b_ret H (fun F => ⟨by rw [e, if_pos rfl]; rfl, F⟩)
end
end Go.Proofs.YtbljpcikcefkiaaDoor.Hd
