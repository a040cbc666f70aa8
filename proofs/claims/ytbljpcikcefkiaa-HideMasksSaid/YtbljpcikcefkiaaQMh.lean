/- Scripts, over trees: what is looked at; slices cut short. -/
import Derived.Test.YtbljpcikcefkiaaQMd
import Derived.Test.YtbljpcikcefkiaaQMg
import Derived.Tactics
set_option linter.unusedVariables false
set_option linter.unusedSimpArgs false
namespace Go.Proofs.Ytbljpcikcefkiaa.Hd
open Go Go.RowKit Go.Proofs.Ytbljpcikcefkiaa.Sx
open Go.Proofs.Ytbljpcikcefkiaa.Bi (mixed)
/-- What is looked at. -/
def chSmall (x : GChannel) : Bool := !(decide (17 < x.lanes.length)) && !(decide (17 < x.receivers.length))
def small (c : GConf) : Bool := !(decide (17 < c.flows.length)) && (!(decide (8 < c.tenants.length)) && (!(decide (10 < c.channels.length)) && (!(decide (17 < c.gates.length)) && (!(decide (65 < c.frame.length)) && c.channels.all chSmall))))
def fewT (t : GTick) : GTick := { bytes := (t.bytes.take 10).map (·.take 80), picks := t.picks.take 16 }
def few (l : List GTick) (m : Nat) : List GTick := (l.take m).map fewT
theorem take_map_s {α β : Type} (f : α → β) {l : List α} {m : Nat} {x : α} (h : l[m]? = some x) : (l.take (m + 1)).map f = (l.take m).map f ++ [f x] := by
  rw [List.take_add_one, h, List.map_append]; rfl
section
variable {Z : ZP} {w : World}
theorem Small_t {cs : List Value} {c : GConf} (hc : rConf.r w cs c) : Cz Try.prog 4 [.agg cs.toArray] w (fun r w' => r = B (small c) ∧ Fr [] w w') Z := by
  obtain ⟨A0, c0, A1, c1, A2, c2, A3, c3, A4, c4, rfl, k0, k1, k2, k3, k4⟩ := oConf hc
  refine go mixed Try.func4 Try.call4 rfl (Tr.e4 _) ?_
  refine r_box (fun b w1 hb Bb f1 => ?_)
  have n0 : ∀ {a : Bool} {p : Prop} [Decidable p], p → (!decide p && a) = false := by
    intro a p _ h; rw [decide_eq_true h]; rfl
  have n1 : ∀ {a : Bool} {p : Prop} [Decidable p], ¬ p → (!decide p && a) = a := by
    intro a p _ h; rw [decide_eq_false h]; rfl
  refine r_ld (Bb.cell (o := 0) rfl) ?_
  refine r_if (fun h => ?_) (fun h => ?_)
  · exact r_ret ⟨by unfold small; rw [n0 (by omega)], f1⟩
  refine r_ld (Bb.cell (o := 1) rfl) ?_
  refine r_if (fun h1 => ?_) (fun h1 => ?_)
  · exact r_ret ⟨by unfold small; rw [n1 (by omega), n0 (by omega)], f1⟩
  refine r_ld (Bb.cell (o := 2) rfl) ?_
  refine r_if (fun h2 => ?_) (fun h2 => ?_)
  · exact r_ret ⟨by unfold small; rw [n1 (by omega), n1 (by omega), n0 (by omega)], f1⟩
  refine r_ld (Bb.cell (o := 3) rfl) ?_
  refine r_if (fun h3 => ?_) (fun h3 => ?_)
  · exact r_ret ⟨by unfold small; rw [n1 (by omega), n1 (by omega), n1 (by omega), n0 (by omega)], f1⟩
  refine r_ld (Bb.cell (o := 4) rfl) ?_
  refine r_if (fun h4 => ?_) (fun h4 => ?_)
  · exact r_ret ⟨by unfold small; rw [n1 (by omega), n1 (by omega), n1 (by omega), n1 (by omega), n0 (by omega)], f1⟩
  have e : small c = c.channels.all chSmall := by unfold small; rw [n1 (by omega), n1 (by omega), n1 (by omega), n1 (by omega), n1 (by omega)]
  rw [e]
  refine r_loop (fun (i : Nat) => [I (i : Int), B false]) (fun i w' => i ≤ c.channels.length ∧ (∀ x ∈ c.channels.take i, chSmall x = true) ∧ w' = w1) (fun i => c.channels.length - i) 0 ⟨Nat.zero_le _, by simp, rfl⟩ rfl ?_
  rintro i _ ⟨hi, hok, rfl⟩
  refine r_ld (Bb.cell (o := 2) rfl) ?_
  refine r_if (fun h5 => ?_) (fun h5 => ?_)
  · obtain ⟨x, hx⟩ := gt (xs := c.channels) (j := i) (by omega)
    obtain ⟨ad, es, rfl, rd, e3⟩ := (k2.2.2.up f1) i x hx
    obtain ⟨L1, d1, L2, d2, rfl, m1, m2⟩ := oChannel e3
    have hno : chSmall x = false → c.channels.all chSmall = false := fun h => by
      cases ha : c.channels.all chSmall with
      | false => rfl
      | true => rw [List.all_eq_true] at ha; rw [ha x (List.mem_of_getElem? hx)] at h; cases h
    refine r_ld (Bb.cell (o := 2) rfl) ?_
    refine r_ob ⟨by omega, by omega⟩ ?_
    refine r_ld (rd.2 1 _ rfl) ?_
    refine r_if (fun h6 => ?_) (fun h6 => ?_)
    · exact r_ret ⟨by rw [hno (by unfold chSmall; rw [n0 (by omega)])], f1⟩
    refine r_ld (Bb.cell (o := 2) rfl) ?_
    refine r_ob ⟨by omega, by omega⟩ ?_
    refine r_ld (rd.2 2 _ rfl) ?_
    refine r_if (fun h7 => ?_) (fun h7 => ?_)
    · exact r_ret ⟨by rw [hno (by unfold chSmall; rw [n1 (by omega), decide_eq_true (by omega)]; rfl)], f1⟩
    refine r_ar (by have := k2.2.1; simp only [big] at this; omega) ?_
    refine r_ag (i + 1) ⟨by omega, fun y hy => ?_, rfl⟩ (by omega) rfl
    rw [Bi.take_s hx] at hy
    rcases List.mem_append.1 hy with hy | hy
    · exact hok y hy
    · simp at hy; subst hy; unfold chSmall; rw [n1 (by omega), decide_eq_false (by omega)]; rfl
  · obtain rfl : i = c.channels.length := by omega
    refine r_brk (r_ret ⟨?_, f1⟩)
    rw [List.take_length] at hok
    rw [List.all_eq_true.2 hok]
theorem Erow : El Try.prog 52 51 1 24 (.slice none 0 0) := ⟨by kernel_rfl, by kernel_rfl, Try.sizeOf51, Try.zeroValue51, rfl⟩
theorem Etick : El Try.prog 29 54 2 48 (.agg #[.slice none 0 0, .slice none 0 0]) := ⟨by kernel_rfl, by kernel_rfl, Try.sizeOf54, Try.zeroValue54, rfl⟩
theorem fewT_at {t : GTick} {k : Nat} {x : List Int} (h : t.bytes[k]? = some x) : ((t.bytes.take (k + 1)).map (·.take 80)) = (t.bytes.take k).map (·.take 80) ++ [x.take 80] := take_map_s (fun x : List Int => x.take 80) h
theorem Few_t {A : Option Addr} {cp m : Nat} {l : List GTick} (hl : Rw rTick w A l) (hm : m ≤ 1000) : Cz Try.prog 6 [.slice A l.length cp, I m] w (fun r w' => Sl rTick w' r (few l m) ∧ Fr [] w w') Z := by
  refine go mixed Try.func6 Try.call6 rfl (Tr.e6 _ _) ?_
  refine r_loop (fun (s : Nat × Value) => [I (s.1 : Int), s.2]) (fun s w' => s.1 ≤ l.length ∧ s.1 ≤ m ∧ Or rTick 54 w.heap.size [] w' s.2 ((l.take s.1).map fewT) ∧ Fr [] w w') (fun s => m - s.1) (0, .slice none 0 0) ⟨Nat.zero_le _, Nat.zero_le _, Or.nil, Fr.refl _ _⟩ rfl ?_
  rintro ⟨i, v⟩ w1 ⟨hi, him, HO, F1⟩
  dsimp only at hi him HO
  have out : ¬ (i < l.length ∧ i < m) → Sl rTick w1 v (few l m) := by
    intro h
    have e : (l.take i).map fewT = few l m := by
      unfold few
      rcases Nat.lt_or_ge i m with h1 | h1
      · have : i = l.length := by omega
        subst this
        rw [List.take_length, List.take_of_length_le (by omega)]
      · rw [show i = m by omega]
    rw [← e]
    exact HO.row (by simp [big]; omega)
  refine r_if (fun h => ?_) (fun h => ?_)
  · refine r_if (fun h2 => ?_) (fun h2 => ?_)
    · obtain ⟨t, ht⟩ := gt (xs := l) (j := i) (by omega)
      obtain ⟨ad, es, rfl, rd, e3⟩ := hl i t ht
      obtain ⟨T1, d1, T2, d2, rfl, m1, m2⟩ := oTick e3
      refine r_ob ⟨by omega, by omega⟩ ?_
      refine r_ldn (rd.fr F1) ?_
      refine r_as (cs := [.slice T1 t.bytes.length d1, .slice T2 t.picks.length d2]) (zs := [.slice none 0 0, .slice none 0 0]) (n := 2) (fun b w2 hb Bb f2 => ?_) Try.zeroValue54 Try.sizeOf54 (by intro v hv; simp at hv; rcases hv with rfl | rfl <;> rfl)
      have hbw : w.heap.size ≤ b := by have := F1.size; omega
      have hvb : ∀ q ∈ v.ownBlock.toList, q ≠ b := fun q hq => by have := (HO.lt q hq).2; omega
      refine r_ld (Bb.cell (o := 1) rfl) ?_
      refine r_ifj (fun w3 => Blk w3 b 54 [.slice T1 t.bytes.length d1, .slice T2 (t.picks.take 16).length d2] ∧ Fr [b] w1 w3) ?_ ?_ ?_
      · rintro w3 ⟨B3, f3⟩
        have F3 : Fr [] w w3 := F1.trans_new f3 (fun q hq => .inr (by simp at hq; omega))
        have HO3 : Or rTick 54 w.heap.size [] w3 v ((l.take i).map fewT) := HO.up f3 (fun q hq hv => hvb q hv (by simpa using hq)) (fun q hq => .inr (by simp at hq; omega))
        refine r_loop (fun (s : Nat × Value) => [I (s.1 : Int), s.2]) (fun s w' => s.1 ≤ t.bytes.length ∧ s.1 ≤ 10 ∧ Or (rL (rI .u8)) 51 w3.heap.size v.ownBlock.toList w' s.2 ((t.bytes.take s.1).map (·.take 80)) ∧ Fr [] w3 w') (fun s => 10 - s.1) (0, .slice none 0 0) ⟨Nat.zero_le _, Nat.zero_le _, Or.nil, Fr.refl _ _⟩ rfl ?_
        rintro ⟨k, u⟩ w4 ⟨hk, hk10, HU, F4⟩
        dsimp only at hk hk10 HU
        have F4' := F3.trans F4
        have B4 := B3.fr0 F4
        have HO4 := HO3.fr0 F4
        have ge : ∀ q ∈ u.ownBlock.toList ++ v.ownBlock.toList, w.heap.size ≤ q := by
          intro q hq
          rcases List.mem_append.1 hq with h | h
          · have := (HU.lt q h).1; have := F3.size; omega
          · exact (HO.lt q h).1
        refine r_ld (B4.cell (o := 0) rfl) ?_
        refine r_ifj (fun w' => w' = w4 ∧ ¬ (k < t.bytes.length ∧ k < 10)) ?_ ?_ (fun h => ⟨rfl, by omega⟩)
        · rintro _ ⟨rfl, hno⟩
          have e : (t.bytes.take k).map (·.take 80) = (fewT t).bytes := by
            unfold fewT
            dsimp only
            rcases Nat.lt_or_ge k 10 with h1 | h1
            · have : k = t.bytes.length := by omega
              subst this
              rw [List.take_length, List.take_of_length_le (by omega)]
            · rw [show k = 10 by omega]
          rw [e] at HU
          refine r_brk ?_
          refine r_ld (B4.cell (o := 1) rfl) ?_
          have hbl : (fewT t).bytes.length ≤ big := by rw [← e]; simp [big]; omega
          obtain ⟨U1, e1, rfl, _⟩ := HU.row hbl
          refine r_appL (x := fewT t) (es := [.slice U1 (fewT t).bytes.length e1, .slice T2 (t.picks.take 16).length d2]) Etick HO4 (fun w5 f5 => ?_) (by simp [big]; omega) F4'.size (fun v' w5 h1 h2 h3 => ?_)
          · obtain ⟨_, _, e2, g1⟩ := (HU.up f5 (fun q hq hu => by have := HU.lt q hu; rw [List.append_nil] at hq; have := (HO3.lt q hq).2; omega) (fun q hq => .inl (by rw [List.append_nil] at hq; exact hq))).row hbl
            cases e2
            have F5 : Fr [] w w5 := F4'.trans_new f5 (fun q hq => .inr ((HO.lt q (by rw [List.append_nil] at hq; exact hq)).1))
            exact mTick (x := fewT t) g1 ⟨Nat.le_trans (List.length_take_le' _ _) m2.1, Nat.le_trans (List.length_take_le' _ _) m2.2.1, (m2.2.2.take 16).up F5⟩
          · refine r_ar (by omega) ?_
            refine r_ag (s := (i, v)) (i + 1, v') ⟨by dsimp only; omega, by dsimp only; omega, ?_, F4'.trans_new h2 (fun q hq => .inr (HO.lt q hq).1)⟩ (by dsimp only; omega) rfl
            dsimp only
            rw [take_map_s fewT ht]
            exact h1
        · intro key h5
          refine r_if (fun h6 => ?_) (fun h6 => key _ ⟨rfl, by omega⟩)
          obtain ⟨x, hx⟩ := gt (xs := t.bytes) (j := k) (by omega)
          obtain ⟨ad2, es2, rfl, rd2, e4⟩ := m1.2.2 k x hx
          obtain ⟨X, cx, rfl, x1, x2, x3⟩ := e4
          refine r_ld (B4.cell (o := 0) rfl) ?_
          refine r_ob ⟨by omega, by omega⟩ ?_
          refine r_ld (cell1 (rd2.fr F4')) ?_
          have rel : ∀ {n cy : Nat}, n = (x.take 80).length → n ≤ cy → Off (u.ownBlock.toList ++ v.ownBlock.toList) (fun w => (rL (rI .u8)).r w [.slice X n cy] (x.take 80)) w4 := by
            rintro n cy rfl hn
            exact Rl.off (rL (rI .u8)) ⟨X, cy, rfl, hn, Nat.le_trans (List.length_take_le' _ _) x2, x3.take 80⟩ F4' ge
          refine r_if (fun h7 => ?_) (fun h7 => ?_)
          · refine r_slh (e := 5) (by kernel_rfl) Try.sizeOf5 (by omega) (by omega) rfl ?_
            refine r_appL (x := x.take 80) Erow HU (rel (n := 80) (cy := cx) (by simp; omega) (by omega)) (by simp [big]; omega) F4.size (fun v' w5 g1 g2 g3 => ?_)
            refine r_ar (by omega) ?_
            refine r_ag (s := (k, u)) (k + 1, v') ⟨by dsimp only; omega, by dsimp only; omega, ?_, F4.trans_new g2 (fun q hq => .inr (HU.lt q hq).1)⟩ (by dsimp only; omega) rfl
            dsimp only
            rw [fewT_at hx]
            exact g1
          · refine r_appL (x := x.take 80) Erow HU (rel (n := x.length) (cy := cx) (by simp; omega) (by omega)) (by simp [big]; omega) F4.size (fun v' w5 g1 g2 g3 => ?_)
            refine r_ar (by omega) ?_
            refine r_ag (s := (k, u)) (k + 1, v') ⟨by dsimp only; omega, by dsimp only; omega, ?_, F4.trans_new g2 (fun q hq => .inr (HU.lt q hq).1)⟩ (by dsimp only; omega) rfl
            dsimp only
            rw [fewT_at hx]
            exact g1
      · intro key h3
        refine r_ld (Bb.cell (o := 1) rfl) ?_
        refine r_slh (e := 3) (by kernel_rfl) Try.sizeOf3 (by omega) (by omega) rfl ?_
        refine r_st1 Bb Try.sizeOf26 (fun w3 B3 f3 => key w3 ⟨?_, ?_⟩)
        · rw [show (t.picks.take 16).length = 16 by simp; omega]; exact B3
        · exact (f2.mono (by simp)).trans f3
      · intro h3
        refine ⟨?_, f2.mono (by simp)⟩
        rw [show (t.picks.take 16).length = t.picks.length by simp; omega]; exact Bb
    · exact r_brk (r_ret ⟨out (by omega), F1⟩)
  · exact r_brk (r_ret ⟨out (by omega), F1⟩)
end
end Go.Proofs.Ytbljpcikcefkiaa.Hd

/- Pieces, over trees: numbers of bytes. -/
set_option linter.unusedVariables false
set_option linter.unusedSimpArgs false
namespace Go.Proofs.Ytbljpcikcefkiaa.Hd
open Go Go.RowKit Go.Proofs.Ytbljpcikcefkiaa.Sx
open Go.Proofs.Ytbljpcikcefkiaa.Bi (mixed take_s)
abbrev Bs := List Int
def WfB (b : Bs) : Prop := ∀ z ∈ b, 0 ≤ z ∧ z < 256
theorem WfB.at {b : Bs} (h : WfB b) {j : Nat} {z : Int} (hz : b[j]? = some z) : 0 ≤ z ∧ z < 256 := h z (List.mem_of_getElem? hz)
theorem WfB.take {b : Bs} (h : WfB b) (n : Nat) : WfB (b.take n) := fun z hz => h z (List.mem_of_mem_take hz)
theorem WfB.drop {b : Bs} (h : WfB b) (n : Nat) : WfB (b.drop n) := fun z hz => h z (List.mem_of_mem_drop hz)
/-- The number of bytes, the lowest first. -/
def le : Bs → Int
  | [] => 0
  | z :: r => le r * 256 + z
theorem le_bound : ∀ {b : Bs}, WfB b → 0 ≤ le b ∧ le b < 256 ^ b.length := by
  intro b
  induction b with
  | nil => intro _; exact ⟨by decide, by decide⟩
  | cons z r ih =>
    intro h
    have hz := h z (by simp)
    have hr := ih (fun y hy => h y (by simp [hy]))
    unfold le
    rw [List.length_cons, Int.pow_succ]
    omega
theorem le_max {b : Bs} (h : WfB b) (hl : b.length ≤ 8) : le b < 18446744073709551616 := by
  have h1 := (le_bound h).2
  have h2 : (256 : Int) ^ b.length ≤ 256 ^ 8 := by
    have h := Int.ofNat_le.2 (Nat.pow_le_pow_right (by decide : 0 < 256) hl)
    rwa [Int.natCast_pow, Int.natCast_pow] at h
  have h3 : (256 : Int) ^ 8 = 18446744073709551616 := by decide
  omega
theorem le_drop {b : Bs} {i : Nat} {z : Int} (h : b[i]? = some z) : le (b.drop i) = le (b.drop (i + 1)) * 256 + z := by
  have hi := (List.getElem?_eq_some_iff.1 h)
  rw [List.drop_eq_getElem_cons hi.1, hi.2]
  rfl
theorem le_snoc : ∀ (b : Bs) (z : Int), le (b ++ [z]) = le b + 256 ^ b.length * z := by
  intro b
  induction b with
  | nil => intro z; simp [le]
  | cons y r ih =>
    intro z
    rw [List.cons_append, le, ih, le, List.length_cons, Int.pow_succ]
    rw [Int.add_mul]
    have : (256 : Int) ^ r.length * z * 256 = 256 ^ r.length * 256 * z := by rw [Int.mul_assoc, Int.mul_comm z, ← Int.mul_assoc]
    omega
theorem shl_or {x z : Int} {i : Nat} (hi : i < 8) (hx : 0 ≤ x ∧ x < 256 ^ i) (hz : 0 ≤ z ∧ z < 256) :
    ((BitVec.ofInt 64 x) ||| ((BitVec.ofInt 64 z) <<< (8 * i))).toNat = (x + 256 ^ i * z).toNat ∧ 0 ≤ x + 256 ^ i * z ∧ x + 256 ^ i * z < 256 ^ (i + 1) := by
  obtain ⟨a, rfl⟩ := Int.eq_ofNat_of_zero_le hx.1
  obtain ⟨b, rfl⟩ := Int.eq_ofNat_of_zero_le hz.1
  have e : ((256 : Int) ^ i) = ((2 ^ (8 * i) : Nat) : Int) := by rw [Nat.pow_mul]; simp
  have hp : (2 ^ (8 * i) : Nat) * 256 ≤ 18446744073709551616 := by
    have : (2 ^ (8 * i) : Nat) * 256 = 2 ^ (8 * i + 8) := by rw [Nat.pow_add]
    rw [this]
    exact Nat.le_trans (Nat.pow_le_pow_right (by decide) (by omega : 8 * i + 8 ≤ 64)) (by decide)
  have ha : a < 2 ^ (8 * i) := by have := hx.2; rw [e] at this; exact Int.ofNat_lt.1 this
  have hb : b < 256 := by omega
  have hor := Nat.two_pow_add_eq_or_of_lt ha b
  have hsh : b <<< (8 * i) = 2 ^ (8 * i) * b := by rw [Nat.shiftLeft_eq, Nat.mul_comm]
  rw [Int.pow_succ]
  rw [e] at hx ⊢
  rw [BitVec.toNat_or, BitVec.toNat_shiftLeft, BitVec.toNat_ofInt, BitVec.toNat_ofInt]
  have e1 : ((a : Int) % ((2 ^ 64 : Nat) : Int)).toNat = a := by omega
  have e2 : ((b : Int) % ((2 ^ 64 : Nat) : Int)).toNat = b := by omega
  rw [e1, e2, hsh]
  generalize 2 ^ (8 * i) = M at hp ha hor ⊢
  have h1 : M * b + M ≤ M * 256 := by
    rw [← Nat.mul_succ]
    exact Nat.mul_le_mul_left _ hb
  have h2 : (M : Int) * b = ((M * b : Nat) : Int) := by simp
  have h3 : (M : Int) * 256 = ((M * 256 : Nat) : Int) := by simp
  rw [h2, h3]
  have h4 : M * b % 2 ^ 64 = M * b := Nat.mod_eq_of_lt (by omega)
  rw [h4, Nat.or_comm, ← hor]
  omega
section
variable {Z : ZP} {w : World}
theorem u8cell {w : World} {a : Addr} {m : Nat} {z : Int} (h : Rd w 1 (addA a m) [.int .u8 z]) : w.cell? (addA a m) = some (.int .u8 z) := cell1 h
theorem wrap_u64 {z : Int} (h : 0 ≤ z ∧ z < 18446744073709551616) : IntKind.u64.wrap z = z := by rw [Bt.wrap_u]; omega
theorem u_eq {x : Int} (h : 0 ≤ x ∧ x < 18446744073709551616) : (Value.int .u64 x) = U (BitVec.ofInt 64 x) := by
  have : ((BitVec.ofInt 64 x).toNat : Int) = x := by rw [BitVec.toNat_ofInt]; omega
  unfold U
  rw [this]
theorem r_shlu {P : Program} {Z : ZP} {R : Value → World → Prop} {w : World} {A : List Nat → List Value → World → Prop} {B : List Nat → Nat → List Value → World → Prop} {ds : List Nat} {k : Value → T} {t : TypeId} {kd : IntKind} {a : BitVec 64} {i : Int} {n : Nat} (hi : i = n) (h64 : n < 64) (h : wp P Z R ds (k (U (a <<< n))) w A B) : wp P Z R ds (.pu (binOp .shl t (U a) (.int kd i)) k) w A B := by
  subst hi
  have e : Op.shift .shl .u64 ((a.toNat : Nat) : Int) kd n = pure (U (a <<< n)) := by
    unfold Op.shift
    rw [if_neg (by omega)]
    have hm : min ((n : Int).toNat) (IntKind.bits .u64) = n := by simp [IntKind.bits]; omega
    simp only [hm]
    refine congrArg (fun z => pure (Value.int .u64 z)) ?_
    rw [Bt.wrap_u, BitVec.toNat_shiftLeft, Nat.shiftLeft_eq]
    simp
  exact ⟨_, fun w' => by rw [binOp_shl, e]; rfl, h⟩
end
end Go.Proofs.Ytbljpcikcefkiaa.Hd

/- Requests, over trees: which are well-formed; both texts. -/
set_option linter.unusedVariables false
set_option linter.unusedSimpArgs false
namespace Go.Proofs.Ytbljpcikcefkiaa.Hd
open Go Go.RowKit Go.Proofs.Ytbljpcikcefkiaa.Sx
open Go.Proofs.Ytbljpcikcefkiaa.Bi (mixed take_s)
def rtB (q : GRequest) : Bool := decide (1 ≤ q.rights) && decide (q.rights ≤ 7)
/-- Is a request well-formed? -/
def isReq (q : GRequest) : Bool :=
  if q.kind = 1 then rtB q && (decide (q.handle = 0) && decide (q.payload = 0))
  else if q.kind = 2 ∨ q.kind = 4 ∨ q.kind = 6 ∨ q.kind = 7 then decide (q.a = 0) && (decide (q.rights = 0) && decide (q.payload = 0))
  else if q.kind = 3 then decide (q.a = 0) && decide (q.rights = 0)
  else if q.kind = 5 then rtB q && decide (q.payload = 0)
  else if q.kind = 8 then decide (q.rights = 0) && decide (q.handle = 0)
  else if q.kind = 9 then decide (q.a = 0) && (decide (q.rights = 0) && (decide (q.handle = 0) && decide (q.payload = 0)))
  else false
section
variable {Z : ZP} {w : World}
end
/-- What a request's kind names of it. -/
def nmR (q : GRequest) : GRequest :=
  if q.kind = 5 then ⟨q.kind, q.a, q.rights, q.handle, 0⟩
  else if q.kind = 1 then ⟨q.kind, q.a, q.rights, 0, 0⟩
  else if q.kind = 3 then ⟨q.kind, 0, 0, q.handle, q.payload⟩
  else if q.kind = 2 ∨ q.kind = 4 ∨ q.kind = 6 ∨ q.kind = 7 then ⟨q.kind, 0, 0, q.handle, 0⟩
  else if q.kind = 8 then ⟨q.kind, q.a, 0, 0, q.payload⟩
  else ⟨q.kind, 0, 0, 0, 0⟩
def nmB (q : GRequest) : Bool :=
  if q.kind = 5 ∨ q.kind = 1 then rtB q
  else decide (q.kind = 2 ∨ q.kind = 3 ∨ q.kind = 4 ∨ q.kind = 6 ∨ q.kind = 7 ∨ q.kind = 8 ∨ q.kind = 9)
theorem isReq_eq (q : GRequest) : isReq q = (nmB q && decide (nmR q = q)) := by
  obtain ⟨kd, a, rt, ha, pa⟩ := q
  unfold isReq nmB nmR rtB
  dsimp only
  by_cases h5 : kd = 5
  · subst h5; simp <;> grind
  by_cases h1 : kd = 1
  · subst h1; simp <;> grind
  by_cases h3 : kd = 3
  · subst h3; simp <;> grind
  by_cases h2 : kd = 2 ∨ kd = 4 ∨ kd = 6 ∨ kd = 7
  · simp [h1, h3, h5, h2] <;> grind
  by_cases h8 : kd = 8
  · subst h8; simp <;> grind
  by_cases h9 : kd = 9
  · subst h9; simp <;> grind
  simp [h1, h2, h3, h5, h8, h9] <;> grind
def zReq : List Value := [.int .u8 0, .int .u8 0, .int .u8 0, .int .u32 0, .int .u64 0]
section
variable {Z : ZP} {w0 w : World} {R : Value → World → Prop} {A : List Nat → List Value → World → Prop} {B' : List Nat → Nat → List Value → World → Prop} {k : Value → T} {t : T} {b x o : Nat} {q xs : List Value}
theorem szs {ty : Nat} (h : ty = 5 ∨ ty = 149 ∨ ty = 33) (w : World) : (sizeOf ty).run Try.prog w = .ok 1 w := by
  rcases h with rfl | rfl | rfl
  · exact Try.sizeOf5 w
  · exact Try.sizeOf149 w
  · exact Try.sizeOf33 w
end
end Go.Proofs.Ytbljpcikcefkiaa.Hd

/- Pieces, over trees: read; both texts. -/
set_option linter.unusedVariables false
set_option linter.unusedSimpArgs false
namespace Go.Proofs.Ytbljpcikcefkiaa.Hd
open Go Go.RowKit Go.Proofs.Ytbljpcikcefkiaa.Sx
open Go.Proofs.Ytbljpcikcefkiaa.Bi (mixed take_s)
def at0 (b : Bs) (i : Nat) : Int := (b[i]?).getD 0
theorem at0_some {b : Bs} {i : Nat} (h : i < b.length) : b[i]? = some (at0 b i) := by unfold at0; rw [List.getElem?_eq_getElem h]; rfl
def reqOf (b : Bs) : GRequest := ⟨at0 b 0, at0 b 1, at0 b 2, le ((b.drop 4).take 4), le (b.drop 8)⟩
def zR : GRequest := ⟨0, 0, 0, 0, 0⟩
/-- A piece, read. -/
def parse (b : Bs) : GRequest × Int := if b.length = 16 ∧ at0 b 3 = 0 ∧ isReq (reqOf b) = true then (reqOf b, 0) else (zR, 30)
theorem oReq (q : GRequest) : ∀ v ∈ eRequest q, v.oneCell' = true := iRequest q
section
variable {Z : ZP} {w : World}
def RP (w0 : World) (b : Bs) : Value → World → Prop := fun r w' => r = .tuple #[.agg (eRequest (parse b).1).toArray, I (parse b).2] ∧ Fr [] w0 w'
theorem wrap_u32 {z : Int} (h : 0 ≤ z ∧ z < 4294967296) : IntKind.u32.wrap z = z := by simp [IntKind.wrap, IntKind.bits, IntKind.signed]; omega
theorem le4 {b : Bs} (h : WfB b) : 0 ≤ le ((b.drop 4).take 4) ∧ le ((b.drop 4).take 4) < 4294967296 := by
  have h0 := le_bound ((h.drop 4).take 4)
  refine ⟨h0.1, Int.lt_of_lt_of_le h0.2 ?_⟩
  have h1 := Int.ofNat_le.2 (Nat.pow_le_pow_right (by decide : 0 < 256) (List.length_take_le 4 (b.drop 4)))
  rwa [Int.natCast_pow, Int.natCast_pow] at h1
end
end Go.Proofs.Ytbljpcikcefkiaa.Hd

/- Bytes cut into pieces, over trees; both texts. -/
set_option linter.unusedVariables false
set_option linter.unusedSimpArgs false
namespace Go.Proofs.Ytbljpcikcefkiaa.Hd
open Go Go.RowKit Go.Proofs.Ytbljpcikcefkiaa.Sx
open Go.Proofs.Ytbljpcikcefkiaa.Bi (mixed take_s)
/-- Bytes cut into pieces of 16, most of them. -/
def split : Nat → Bs → List Bs
  | 0, _ => []
  | m + 1, b => if b.length = 0 then [] else b.take 16 :: split m (b.drop 16)
theorem split_len (m : Nat) : ∀ b, (split m b).length ≤ m := by
  induction m with
  | zero => intro b; exact Nat.le_refl _
  | succ m ih => intro b; unfold split; split
                 · simp
                 · simp; exact ih _
theorem split_wf {m : Nat} : ∀ {b : Bs}, WfB b → ∀ p ∈ split m b, WfB p ∧ p.length ≤ 16 := by
  induction m with
  | zero => intro b _ p hp; simp [split] at hp
  | succ m ih =>
    intro b hb p hp
    unfold split at hp
    split at hp
    · simp at hp
    · rcases List.mem_cons.1 hp with rfl | hp
      · exact ⟨hb.take 16, List.length_take_le _ _⟩
      · exact ih (hb.drop 16) p hp
theorem split_nil (m : Nat) {b : Bs} (h : b.length = 0) : split m b = [] := by
  cases m with
  | zero => rfl
  | succ m => unfold split; rw [if_pos h]
theorem split_step {m : Nat} {b : Bs} (hm : 0 < m) (h : ¬ b.length = 0) : split m b = b.take 16 :: split (m - 1) (b.drop 16) := by
  obtain ⟨k, rfl⟩ : ∃ k, m = k + 1 := ⟨m - 1, by omega⟩
  show split (k + 1) b = _
  rw [split, if_neg h]; rfl
section
variable {Z : ZP} {w : World}
theorem Ebyte : El Try.prog 51 5 1 1 (.int .u8 0) := ⟨by kernel_rfl, by kernel_rfl, Try.sizeOf5, Try.zeroValue5, rfl⟩
end
end Go.Proofs.Ytbljpcikcefkiaa.Hd

/- What a tick asks, over trees; both texts; rows compared. -/
set_option linter.unusedVariables false
set_option linter.unusedSimpArgs false
namespace Go.Proofs.Ytbljpcikcefkiaa.Hd
open Go Go.RowKit Go.Proofs.Ytbljpcikcefkiaa.Sx
open Go.Proofs.Ytbljpcikcefkiaa.Bi (mixed take_s)
def ask1 (p : Bs) : GAsked := ⟨(parse p).1, decide ((parse p).2 = 0)⟩
/-- What a tick asks of an owner. -/
def asked (c : GConf) (t : GTick) (o : Int) : List GAsked := if 0 ≤ o ∧ o < t.bytes.length then (split c.requests.toNat ((t.bytes[o.toNat]?).getD [])).map ask1 else []
def WfT (t : GTick) : Prop := ∀ b ∈ t.bytes, WfB b
theorem eq_all {α : Type} {xs ys : List α} (hl : xs.length = ys.length) (h : ∀ j, j < xs.length → xs[j]? = ys[j]?) : xs = ys := by
  apply List.ext_getElem?
  intro j
  rcases Nat.lt_or_ge j xs.length with h1 | h1
  · exact h j h1
  · rw [List.getElem?_eq_none h1, List.getElem?_eq_none (by omega)]
theorem plainE {α : Type} {enc : α → List Value} {n : Nat} {hl : ∀ x, (enc x).length = n} {h1 : ∀ x, ∀ v ∈ enc x, v.oneCell' = true} : Plain (rE enc n hl h1) := fun _ _ _ _ h => h
section
variable {Z : ZP} {w : World}
/-- What an iterator over a row of plain data tells. -/
def StP {α : Type} (e : α → List Value) (xs : List α) : Nat → List Value → Nat → Prop := fun m vs m' => ∃ z, xs[m]? = some z ∧ vs = [.agg (e z).toArray] ∧ m' = m + 1
end
end Go.Proofs.Ytbljpcikcefkiaa.Hd

/- Who owns a tick, what a tenant looks at, over trees; both texts. -/
set_option linter.unusedVariables false
set_option linter.unusedSimpArgs false
namespace Go.Proofs.Ytbljpcikcefkiaa.Hd
open Go Go.RowKit Go.Proofs.Ytbljpcikcefkiaa.Sx
open Go.Proofs.Ytbljpcikcefkiaa.Bi (mixed take_s Has_t rHas_t)
open Go.Proofs.Ytbljpcikcefkiaa.Cf
theorem first_all {e : Int} (he : ¬ e = 0) {bad : Nat → Bool} : ∀ {n : Nat}, (first e bad n).2 = 0 → ∀ i, i < n → bad i = false := by
  intro n
  induction n with
  | zero => intro _ i hi; omega
  | succ n ih =>
    intro h i hi
    unfold first at h
    split at h
    · rename_i h0
      split at h
      · exact absurd h he
      · rename_i hb
        rcases Nat.lt_or_ge i n with hin | hin
        · exact ih h0 i hin
        · obtain rfl : i = n := by omega
          simpa using hb
    · rename_i h0; exact absurd h h0
/-- What holds of settings that may be. -/
structure Cok (c : GConf) : Prop where
  req : 1 ≤ c.requests ∧ c.requests ≤ 4
  bud : 1 ≤ c.budget ∧ c.budget ≤ 16
  fr : 1 ≤ c.frame.length ∧ c.frame.length ≤ 64
  own : ∀ (i : Nat) t, c.frame[i]? = some t → 0 ≤ t ∧ t < c.tenants.length
  ten : c.tenants.length ≤ 16
theorem cok {c : GConf} (h : (confE c).2 = 0) : Cok c := by
  obtain ⟨h0, h1, h2, h3, h4, h5, h6⟩ := conf_ok h
  have hb : (win c.budget 1 16 && win c.requests 1 4 && win c.pending 1 4) = true := by
    unfold budE at h6
    split at h6
    · assumption
    · cases h6
  rw [Bool.and_eq_true, Bool.and_eq_true] at hb
  have b1 := of_decide_eq_true hb.1.1
  have b2 := of_decide_eq_true hb.1.2
  have hf : 1 ≤ c.frame.length ∧ c.frame.length ≤ 64 ∧ ∀ i, i < c.frame.length → fraB c i = false := by
    unfold fraE at h5
    split at h5
    · cases h5
    · split at h5
      · cases h5
      · split at h5
        · rename_i h7
          exact ⟨by omega, by omega, first_all (by decide) h7⟩
        · rename_i h7; exact absurd h5 h7
  refine ⟨b2, b1, ⟨hf.1, hf.2.1⟩, fun i t ht => ?_, (ten_ok h1).1⟩
  have := hf.2.2 i (List.getElem?_eq_some_iff.1 ht).1
  unfold fraB at this
  rw [ht] at this
  have h8 : isT c t = true := by simpa using this
  exact of_decide_eq_true h8
/-- Whose tick it is. -/
def ownI (fr : List Int) (n : Nat) : Int := (fr[n % fr.length]?).getD 0
theorem own_at {fr : List Int} (h : 1 ≤ fr.length) (n : Nat) : fr[n % fr.length]? = some (ownI fr n) := by
  unfold ownI
  rw [List.getElem?_eq_getElem (Nat.mod_lt _ (by omega))]; rfl
def ownC (c : GConf) (n : Nat) : Int := ownI c.frame n
theorem Cok.ownC {c : GConf} (h : Cok c) (n : Nat) : 0 ≤ ownC c n ∧ ownC c n < c.tenants.length ∧ Hd.ownC c n < 16 := by
  have h1 := h.own _ _ (own_at h.fr.1 n)
  have h2 := h.ten
  unfold Hd.ownC
  omega
section
variable {Z : ZP} {w : World}
theorem may_t {X : Option Addr} {cp : Nat} {n : Nat} (h : 1 ≤ n ∧ n ≤ 64) : Cz Try.prog 61 [.slice X n cp] w (fun r w' => r = B true ∧ w' = w) Z := by
  refine go mixed Try.func61 Try.call61 rfl (Tr.e61 _) ?_
  refine r_if (fun h => ?_) (fun h => absurd h (by omega))
  exact r_ret ⟨by rw [decide_eq_true (by omega)], rfl⟩
theorem tick_t {n : Nat} (h : n ≤ 1000000) : Cz Try.prog 62 [I n] w (fun r w' => r = B true ∧ w' = w) Z := by
  refine go mixed Try.func62 Try.call62 rfl (Tr.e62 _) ?_
  exact r_ret ⟨by rw [decide_eq_true (show (n : Int) ≤ 1048576 by omega)], rfl⟩
theorem rRow_t {X : Option Addr} {cp : Nat} {n : Nat} (h : 1 ≤ n ∧ n ≤ 64) : Cz Try.prog 59 [.slice X n cp] w (fun r w' => r = B true ∧ w' = w) Z := by
  refine go mixed Try.func59 Try.call59 rfl (Tr.e59 _) ?_
  refine r_if (fun h => ?_) (fun h => absurd h (by omega))
  exact r_ret ⟨by rw [decide_eq_true (by omega)], rfl⟩
theorem rTk_t {n : Nat} (h : n ≤ 1000000) : Cz Try.prog 60 [I n] w (fun r w' => r = B true ∧ w' = w) Z := by
  refine go mixed Try.func60 Try.call60 rfl (Tr.e60 _) ?_
  exact r_ret ⟨by rw [decide_eq_true (show (n : Int) ≤ 1048576 by omega)], rfl⟩
theorem tmodN {n l : Nat} : ((n : Int).tmod (l : Int)) = ((n % l : Nat) : Int) := by
  rw [Int.tmod_eq_emod_of_nonneg (by omega)]; rfl
theorem rowOwner_t {X : Option Addr} {cp : Nat} {fr : List Int} (hr : Rw (rI .i64) w X fr) (h : 1 ≤ fr.length ∧ fr.length ≤ 64) (n : Nat) : Cz Try.prog 63 [.slice X fr.length cp, I n] w (fun r w' => r = I (ownI fr n) ∧ w' = w) Z := by
  refine go mixed Try.func63 Try.call63 rfl (Tr.e63 _ _) ?_
  refine r_rem (by omega) ?_
  rw [tmodN]
  have hm := Nat.mod_lt n (show 0 < fr.length by omega)
  obtain ⟨ad, es, rfl, rd, e3⟩ := hr _ _ (own_at h.1 n)
  obtain rfl := e3
  refine r_ob ⟨by omega, by omega⟩ ?_
  exact r_ld (cell_int rd) (r_ret ⟨rfl, rfl⟩)
theorem Owner_t {X : Option Addr} {cp : Nat} {fr : List Int} (hr : Rw (rI .i64) w X fr) (h : 1 ≤ fr.length ∧ fr.length ≤ 64) {n : Nat} (hn : n ≤ 1000000) : Cz Try.prog 41 [.slice X fr.length cp, I n] w (fun r w' => r = .tuple #[I (ownI fr n), I 0] ∧ w' = w) Z := by
  refine go mixed Try.func41 Try.call41 rfl (Tr.e41 _ _) ?_
  refine r_call (may_t h) ?_
  rintro _ _ ⟨rfl, rfl⟩
  refine r_call (tick_t hn) ?_
  rintro _ _ ⟨rfl, rfl⟩
  refine r_call (rowOwner_t hr h n) ?_
  rintro _ _ ⟨rfl, rfl⟩
  exact r_ret ⟨rfl, rfl⟩
theorem rOwner_t {X : Option Addr} {cp : Nat} {fr : List Int} (hr : Rw (rI .i64) w X fr) (h : 1 ≤ fr.length ∧ fr.length ≤ 64) {n : Nat} (hn : n ≤ 1000000) : Cz Try.prog 40 [.slice X fr.length cp, I n] w (fun r w' => r = .tuple #[I (ownI fr n), I 0] ∧ w' = w) Z := by
  refine go mixed Try.func40 Try.call40 rfl (Tr.e40 _ _) ?_
  refine r_call (rRow_t h) ?_
  rintro _ _ ⟨rfl, rfl⟩
  refine r_call (rTk_t hn) ?_
  rintro _ _ ⟨rfl, rfl⟩
  refine r_rem (by omega) ?_
  rw [tmodN]
  have hm := Nat.mod_lt n (show 0 < fr.length by omega)
  obtain ⟨ad, es, rfl, rd, e3⟩ := hr _ _ (own_at h.1 n)
  obtain rfl := e3
  refine r_ob ⟨by omega, by omega⟩ ?_
  exact r_ld (cell_int rd) (r_ret ⟨rfl, rfl⟩)
theorem owner_t {cs : List Value} {c : GConf} (hc : rConf.r w cs c) (C : Cok c) {n : Nat} (hn : n ≤ 1000000) : Cz Try.prog 22 [.agg cs.toArray, I n] w (fun r w' => r = I (ownC c n) ∧ Fr [] w w') Z := by
  obtain ⟨A0, c0, A1, c1, A2, c2, A3, c3, A4, c4, rfl, k0, k1, k2, k3, k4⟩ := oConf hc
  refine go mixed Try.func22 Try.call22 rfl (Tr.e22 _ _) ?_
  refine b_box (Bx.nil w) (fun b w1 H => ?_)
  refine b_ld H 0 rfl rfl ?_
  refine r_call (rOwner_t (k4.2.2.up H.F) C.fr hn) ?_
  rintro _ _ ⟨rfl, rfl⟩
  exact b_ret H (fun F => ⟨rfl, F⟩)
/-- A look: settings, and what is known. -/
def lk (cs : List Value) (s : BitVec 64) : List Value := cs ++ [U s]
theorem lookOwner_t {cs : List Value} {c : GConf} (hc : rConf.r w cs c) (C : Cok c) (s : BitVec 64) {n : Nat} (hn : n ≤ 1000000) : Cz Try.prog 26 [.agg (lk cs s).toArray, I n] w (fun r w' => r = .tuple #[I (ownC c n), B (Bt.has s (ownC c n))] ∧ Fr [] w w') Z := by
  obtain ⟨A0, c0, A1, c1, A2, c2, A3, c3, A4, c4, rfl, k0, k1, k2, k3, k4⟩ := oConf hc
  refine go mixed Try.func26 Try.call26 rfl (Tr.e26 _ _) ?_
  refine b_box (Bx.nil w) (fun b w1 H => ?_)
  refine b_ld H 0 rfl rfl ?_
  refine r_call (Owner_t (k4.2.2.up H.F) C.fr hn) ?_
  rintro _ _ ⟨rfl, rfl⟩
  refine b_ld H 0 rfl rfl ?_
  refine r_call (Has_t s _) ?_
  rintro _ _ ⟨rfl, rfl⟩
  exact b_ret H (fun F => ⟨rfl, F⟩)
/-- What is wrong with scripts. -/
def sE (c : GConf) (t : Int) (ls : List (List GTick)) : Int := if lowE c t = 0 then (if ls.all (fun l => decide (l.length = (ls[0]?.getD []).length)) = true then 0 else 250) else lowE c t
def zLk : List Value := [.slice none 0 0, .slice none 0 0, .slice none 0 0, .slice none 0 0, .slice none 0 0, I 0, I 0, I 0, .int .u64 0]
theorem sE_low {c : GConf} {t : Int} {ls : List (List GTick)} (h : ¬ lowE c t = 0) : sE c t ls = lowE c t := by unfold sE; rw [if_neg h]
theorem lowE_conf {c : GConf} {t : Int} (h : lowE c t = 0) : (confE c).2 = 0 ∧ isT c t = true := by
  unfold lowE at h
  split at h
  · rename_i h0
    split at h
    · exact ⟨h0, by assumption⟩
    · cases h
  · rename_i h0; exact absurd h h0
theorem ask9 (x0 x1 x2 x3 x4 x5 x6 x7 : Value) (s : BitVec 64) (w : World) : (Instr.build 57 [(0, (.agg [x0, x1, x2, x3, x4, x5, x6, x7].toArray)), (1, U s)].toArray).run Try.prog w = .ok (.agg [x0, x1, x2, x3, x4, x5, x6, x7, U s].toArray) w := by kernel_rfl
theorem looks_t {cs : List Value} {c : GConf} (hc : rConf.r w cs c) (hw : Wf c) (t : Int) {X : Option Addr} {cp : Nat} {ls : List (List GTick)} (hl : Rw (rL rTick) w X ls) (hll : ls.length ≤ 10) (hsm : ∀ l ∈ ls, l.length ≤ 1048576) : Cz Try.prog 18 [.agg cs.toArray, I t, .slice X ls.length cp] w (fun r w' => r = .tuple #[.agg (if sE c t ls = 0 then lk cs (lowV c t) else zLk).toArray, I (sE c t ls)] ∧ Fr [] w w') Z := by
  have hcl := rConf.len hc
  have hc1 := rConf.one hc
  have hc0 := hc
  obtain ⟨A0, c0, A1, c1, A2, c2, A3, c3, A4, c4, rfl, _⟩ := oConf hc
  refine go mixed Try.func18 Try.call18 rfl (Tr.e18 _ _ _) ?_
  refine b_box (Bx.nil w) (fun b w1 H => ?_)
  refine b_al (zs := zLk) H Try.zeroValue57 (fun o w2 H => ?_)
  refine b_ldn H 1 rfl ?_
  refine b_call H (Knows_t (rConf.up H.F hc0) hw t) (fun w3 H => ?_)
  have z1 : ∀ v ∈ zLk, v.oneCell' = true := by intro v hv; simp [zLk] at hv; rcases hv with rfl | rfl | rfl <;> rfl
  refine r_if (fun h => ?_) (fun h => ?_)
  · refine b_stn (cs := zLk) (n := 9) H 0 rfl Try.sizeOf57 z1 (fun w4 H => ?_)
    refine b_ldn H 0 rfl ?_
    exact b_ret H (fun F => ⟨by rw [sE_low h, if_neg h]; rfl, F⟩)
  replace h := Classical.not_not.1 h
  refine r_loop (fun (i : Nat) => [I (i : Int), I 0]) (fun i w' => i ≤ ls.length ∧ Bx w w' [(o, 57, zLk), (b, 28, _)]) (fun i => ls.length - i) 0 ⟨Nat.zero_le _, H⟩ rfl ?_
  rintro i w4 ⟨hi, H⟩
  refine r_if (fun h1 => ?_) (fun h1 => ?_)
  · obtain ⟨l, hl1⟩ := gt (xs := ls) (j := i) (by omega)
    obtain ⟨ad, es, rfl, rd, e4⟩ := hl i l hl1
    obtain ⟨Y, cy, rfl, _⟩ := e4
    have := hsm l (List.mem_of_getElem? hl1)
    refine r_ob ⟨by omega, by omega⟩ ?_
    refine r_ld (cell1 (rd.fr H.F)) ?_
    refine r_if (fun h2 => absurd h2 (by omega)) (fun h2 => ?_)
    refine r_ar (by omega) ?_
    exact r_ag (i + 1) ⟨by omega, H⟩ (by omega) rfl
  obtain rfl : i = ls.length := by omega
  refine r_brk ?_
  refine r_loop (fun (i : Nat) => [I (i : Int), I 0]) (fun i w' => i ≤ ls.length ∧ (∀ l ∈ ls.take i, l.length = (ls[0]?.getD []).length) ∧ Bx w w' [(o, 57, zLk), (b, 28, _)]) (fun i => ls.length - i) 0 ⟨Nat.zero_le _, by simp, H⟩ rfl ?_
  rintro i w5 ⟨hi, hok, H⟩
  refine r_if (fun h1 => ?_) (fun h1 => ?_)
  · obtain ⟨l, hl1⟩ := gt (xs := ls) (j := i) (by omega)
    obtain ⟨l0, hl0⟩ := gt (xs := ls) (j := 0) (by omega)
    obtain ⟨ad, es, rfl, rd, e4⟩ := hl i l hl1
    obtain ⟨Y, cy, rfl, _⟩ := e4
    obtain ⟨ad2, es2, e0, rd2, e5⟩ := hl 0 l0 hl0
    cases e0
    obtain ⟨Y2, cy2, rfl, _⟩ := e5
    refine r_ob ⟨by omega, by omega⟩ ?_
    refine r_ld (cell1 (rd.fr H.F)) ?_
    refine r_ob ⟨by omega, by omega⟩ ?_
    refine r_ld (cell1 (rd2.fr H.F)) ?_
    refine r_if (fun h2 => ?_) (fun h2 => ?_)
    · have e : sE c t ls = 250 := by
        unfold sE
        rw [if_pos h, if_neg]
        intro ha
        rw [List.all_eq_true] at ha
        have := of_decide_eq_true (ha l (List.mem_of_getElem? hl1))
        rw [hl0] at this
        exact h2 (congrArg _ this)
      refine b_stn (cs := zLk) (n := 9) H 0 rfl Try.sizeOf57 z1 (fun w6 H => ?_)
      refine b_ldn H 0 rfl ?_
      exact b_ret H (fun F => ⟨by rw [e, if_neg (by decide)], F⟩)
    · refine r_ar (by omega) ?_
      refine r_ag (i + 1) ⟨by omega, fun y hy => ?_, H⟩ (by omega) rfl
      rw [take_s hl1] at hy
      rcases List.mem_append.1 hy with hy | hy
      · exact hok y hy
      · simp at hy; subst hy; rw [hl0]; show y.length = l0.length; omega
  obtain rfl : i = ls.length := by omega
  have e : sE c t ls = 0 := by
    unfold sE
    rw [if_pos h, if_pos]
    rw [List.all_eq_true]
    intro l hl2
    rw [List.take_length] at hok
    exact decide_eq_true (hok l hl2)
  refine r_brk ?_
  refine b_ldn H 1 rfl ?_
  refine ⟨_, fun w' => ask9 _ _ _ _ _ _ _ _ _ w', ?_⟩
  refine b_stn (n := 9) H 0 rfl Try.sizeOf57 (fun v hv => ?_) (fun w6 H => ?_)
  · rcases List.mem_append.1 (show v ∈ [.slice A0 c.flows.length c0, .slice A1 c.tenants.length c1, .slice A2 c.channels.length c2, .slice A3 c.gates.length c3, .slice A4 c.frame.length c4, .int .i64 c.budget, .int .i64 c.requests, .int .i64 c.pending] ++ [U (lowV c t)] from hv) with hv | hv
    · exact hc1 v hv
    · simp at hv; subst hv; rfl
  refine b_ldn H 0 rfl ?_
  exact b_ret H (fun F => ⟨by rw [e, if_pos rfl]; rfl, F⟩)
theorem rasked_t {cs : List Value} {c : GConf} (hc : rConf.r w cs c) (hw : Wf c) (t : Int) {X : Option Addr} {cp : Nat} {ls : List (List GTick)} (hl : Rw (rL rTick) w X ls) (hll : ls.length = 1 ∨ ls.length = 2) (hsm : ∀ l ∈ ls, l.length ≤ 1048576) : Cz Try.prog 21 [.agg cs.toArray, I t, .slice X ls.length cp] w (fun r w' => r = .tuple #[U (if sE c t ls = 0 then lowV c t else 0#64), I (sE c t ls)] ∧ Fr [] w w') Z := by
  have hc0 := hc
  obtain ⟨A0, c0, A1, c1, A2, c2, A3, c3, A4, c4, rfl, _⟩ := oConf hc
  refine go mixed Try.func21 Try.call21 rfl (Tr.e21 _ _ _) ?_
  refine b_box (Bx.nil w) (fun b w1 H => ?_)
  refine b_ldn H 0 rfl ?_
  refine b_call H (rKnows_t (rConf.up H.F hc0) hw t) (fun w3 H => ?_)
  refine r_if (fun h => ?_) (fun h => ?_)
  · exact b_ret H (fun F => ⟨by rw [sE_low h, if_neg h]; rfl, F⟩)
  replace h := Classical.not_not.1 h
  refine r_loop (fun (i : Nat) => [I (i : Int), I 0, .int .u64 0]) (fun i w' => i ≤ ls.length ∧ Bx w w' [(b, 28, _)]) (fun i => ls.length - i) 0 ⟨Nat.zero_le _, H⟩ rfl ?_
  rintro i w4 ⟨hi, H⟩
  refine r_if (fun h1 => ?_) (fun h1 => ?_)
  · obtain ⟨l, hl1⟩ := gt (xs := ls) (j := i) (by omega)
    obtain ⟨ad, es, rfl, rd, e4⟩ := hl i l hl1
    obtain ⟨Y, cy, rfl, _⟩ := e4
    have := hsm l (List.mem_of_getElem? hl1)
    refine r_ob ⟨by omega, by omega⟩ ?_
    refine r_ld (cell1 (rd.fr H.F)) ?_
    refine r_if (fun h2 => absurd h2 (by omega)) (fun h2 => ?_)
    refine r_ar (by omega) ?_
    exact r_ag (i + 1) ⟨by omega, H⟩ (by omega) rfl
  obtain rfl : i = ls.length := by omega
  refine r_brk ?_
  refine b_dr H (fun w5 H => ?_)
  rcases hll with hll | hll
  · obtain ⟨l0, rfl⟩ := List.length_eq_one_iff.1 hll
    have e : sE c t [l0] = 0 := by unfold sE; rw [if_pos h, if_pos (by simp)]
    rw [e, if_pos rfl]
    exact b_ret H (fun F => ⟨rfl, F⟩)
  · obtain ⟨l0, l1, rfl⟩ : ∃ a b, ls = [a, b] := by
      match ls, hll with
      | [a, b], _ => exact ⟨a, b, rfl⟩
    obtain ⟨ad, es, rfl, rd, e4⟩ := hl 0 l0 rfl
    obtain ⟨Y, cy, rfl, _⟩ := e4
    obtain ⟨ad2, es2, e0, rd2, e5⟩ := hl 1 l1 rfl
    cases e0
    obtain ⟨Y2, cy2, rfl, _⟩ := e5
    refine r_ob ⟨by simp, by simp⟩ ?_
    refine r_ld (cell1 (rd.fr H.F)) ?_
    refine r_ob ⟨by simp, by simp⟩ ?_
    refine r_ld (cell1 (rd2.fr H.F)) ?_
    refine r_if (fun h2 => ?_) (fun h2 => ?_)
    · have e : sE c t [l0, l1] = 250 := by unfold sE; rw [if_pos h, if_neg (by simp; omega)]
      rw [e, if_neg (by decide)]
      exact b_ret H (fun F => ⟨rfl, F⟩)
    · have e : sE c t [l0, l1] = 0 := by unfold sE; rw [if_pos h, if_pos (by simp; omega)]
      rw [e, if_pos rfl]
      exact b_ret H (fun F => ⟨rfl, F⟩)
end
end Go.Proofs.Ytbljpcikcefkiaa.Hd
