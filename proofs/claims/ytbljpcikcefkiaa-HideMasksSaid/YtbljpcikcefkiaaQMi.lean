/- Rows compared, over trees. -/
import Derived.Test.YtbljpcikcefkiaaQMh
import Derived.Tactics
set_option linter.unusedVariables false
set_option linter.unusedSimpArgs false
namespace Go.Proofs.Ytbljpcikcefkiaa.Hd
open Go Go.RowKit Go.Proofs.Ytbljpcikcefkiaa.Sx
open Go.Proofs.Ytbljpcikcefkiaa.Bi (mixed take_s)
section
variable {Z : ZP} {w : World}
theorem EqI_t {X Y : Option Addr} {cp cq : Nat} {xs ys : List Int} (hx : Rw (rI .i64) w X xs) (hy : Rw (rI .i64) w Y ys) (hb : xs.length ≤ big) : Cz Try.prog 29 [.slice X xs.length cp, .slice Y ys.length cq] w (fun r w' => r = B (decide (xs = ys)) ∧ Fr [] w w') Z := by
  refine go mixed Try.func29 Try.call29 rfl (Tr.e29 _ _) ?_
  simp only [big] at hb
  refine r_if (fun h => ?_) (fun h => ?_)
  · exact r_ret ⟨by rw [decide_eq_false (fun e => h (by rw [e]))], Fr.refl _ _⟩
  have hl : xs.length = ys.length := by omega
  refine r_loop (fun (i : Nat) => [I (i : Int), B false]) (fun i w' => i ≤ xs.length ∧ (∀ j, j < i → xs[j]? = ys[j]?) ∧ Fr [] w w') (fun i => xs.length - i) 0 ⟨Nat.zero_le _, fun _ h => by omega, Fr.refl _ _⟩ rfl ?_
  rintro i w1 ⟨hi, hok, F⟩
  refine r_if (fun h1 => ?_) (fun h1 => ?_)
  · obtain ⟨x, hx1⟩ := gt (xs := xs) (j := i) (by omega)
    obtain ⟨y, hy1⟩ := gt (xs := ys) (j := i) (by omega)
    obtain ⟨ad, es, rfl, rd, e3⟩ := hx i x hx1
    obtain ⟨ad2, es2, rfl, rd2, e4⟩ := hy i y hy1
    obtain rfl := e3
    obtain rfl := e4
    refine r_dr (fun w2 f2 => ?_)
    have F2 := F.trans f2
    refine r_ob ⟨by omega, by omega⟩ ?_
    refine r_ld (cell1 (rd.fr F2)) ?_
    refine r_ob ⟨by omega, by omega⟩ ?_
    refine r_ld (cell1 (rd2.fr F2)) ?_
    refine r_if (fun h2 => ?_) (fun h2 => ?_)
    · exact r_ret ⟨by rw [decide_eq_false (fun e => h2 (by rw [e, hy1] at hx1; cases hx1; rfl))], F2⟩
    · refine r_ar (by omega) ?_
      refine r_ag (i + 1) ⟨by omega, fun j hj => ?_, F2⟩ (by omega) rfl
      rcases Nat.lt_or_ge j i with h' | h'
      · exact hok j h'
      · obtain rfl : j = i := by omega
        rw [hx1, hy1, Classical.not_not.1 h2]
  · obtain rfl : i = xs.length := by omega
    exact r_brk (r_ret ⟨by rw [decide_eq_true (eq_all hl hok)], F⟩)
theorem EqB_t {X Y : Option Addr} {cp cq : Nat} {xs ys : List Int} (hx : Rw (rI .u8) w X xs) (hy : Rw (rI .u8) w Y ys) (hb : xs.length ≤ big) : Cz Try.prog 31 [.slice X xs.length cp, .slice Y ys.length cq] w (fun r w' => r = B (decide (xs = ys)) ∧ Fr [] w w') Z := by
  refine go mixed Try.func31 Try.call31 rfl (Tr.e31 _ _) ?_
  simp only [big] at hb
  refine r_if (fun h => ?_) (fun h => ?_)
  · exact r_ret ⟨by rw [decide_eq_false (fun e => h (by rw [e]))], Fr.refl _ _⟩
  have hl : xs.length = ys.length := by omega
  refine r_loop (fun (i : Nat) => [I (i : Int), B false]) (fun i w' => i ≤ xs.length ∧ (∀ j, j < i → xs[j]? = ys[j]?) ∧ Fr [] w w') (fun i => xs.length - i) 0 ⟨Nat.zero_le _, fun _ h => by omega, Fr.refl _ _⟩ rfl ?_
  rintro i w1 ⟨hi, hok, F⟩
  refine r_if (fun h1 => ?_) (fun h1 => ?_)
  · obtain ⟨x, hx1⟩ := gt (xs := xs) (j := i) (by omega)
    obtain ⟨y, hy1⟩ := gt (xs := ys) (j := i) (by omega)
    obtain ⟨ad, es, rfl, rd, e3⟩ := hx i x hx1
    obtain ⟨ad2, es2, rfl, rd2, e4⟩ := hy i y hy1
    obtain rfl := e3
    obtain rfl := e4
    refine r_dr (fun w2 f2 => ?_)
    have F2 := F.trans f2
    refine r_ob ⟨by omega, by omega⟩ ?_
    refine r_ld (cell1 (rd.fr F2)) ?_
    refine r_ob ⟨by omega, by omega⟩ ?_
    refine r_ld (cell1 (rd2.fr F2)) ?_
    refine r_if (fun h2 => ?_) (fun h2 => ?_)
    · exact r_ret ⟨by rw [decide_eq_false (fun e => h2 (by rw [e, hy1] at hx1; cases hx1; rfl))], F2⟩
    · refine r_ar (by omega) ?_
      refine r_ag (i + 1) ⟨by omega, fun j hj => ?_, F2⟩ (by omega) rfl
      rcases Nat.lt_or_ge j i with h' | h'
      · exact hok j h'
      · obtain rfl : j = i := by omega
        rw [hx1, hy1, Classical.not_not.1 h2]
  · obtain rfl : i = xs.length := by omega
    exact r_brk (r_ret ⟨by rw [decide_eq_true (eq_all hl hok)], F⟩)
end
end Go.Proofs.Ytbljpcikcefkiaa.Hd

/- Which ticks are alike, over trees; both texts. -/
set_option linter.unusedVariables false
set_option linter.unusedSimpArgs false
namespace Go.Proofs.Ytbljpcikcefkiaa.Hd
open Go Go.RowKit Go.Proofs.Ytbljpcikcefkiaa.Sx
open Go.Proofs.Ytbljpcikcefkiaa.Bi (mixed take_s Has_t rHas_t)
open Go.Proofs.Ytbljpcikcefkiaa.Cf
/-- The pick at a place. -/
def pk (t : GTick) (i : Nat) : Int := (t.picks[i]?).getD 0
def nb (c : GConf) : Nat := (c.budget - 1).toNat
/-- Does of two ticks the same count? -/
def al (c : GConf) (o : Int) (a b : GTick) : Bool := (List.range (nb c)).all (fun i => decide (pk a i = pk b i)) && decide (asked c a o = asked c b o)
theorem al_no {c : GConf} {o : Int} {a b : GTick} {i : Nat} (hi : i < nb c) (h : ¬ pk a i = pk b i) : al c o a b = false := by
  unfold al
  rw [Bool.and_eq_false_iff]
  left
  cases ha : (List.range (nb c)).all (fun i => decide (pk a i = pk b i)) with
  | false => rfl
  | true => rw [List.all_eq_true] at ha; exact absurd (of_decide_eq_true (ha i (List.mem_range.2 hi))) h
theorem al_yes {c : GConf} {o : Int} {a b : GTick} (h : ∀ i, i < nb c → pk a i = pk b i) : al c o a b = decide (asked c a o = asked c b o) := by
  unfold al
  rw [List.all_eq_true.2 (fun i hi => decide_eq_true (h i (List.mem_range.1 hi))), Bool.true_and]
theorem asked_len (c : GConf) (t : GTick) (o : Int) (h : c.requests ≤ 4) : (asked c t o).length ≤ 4 := by
  unfold asked
  split
  · rw [List.length_map]
    have := split_len c.requests.toNat ((t.bytes[o.toNat]?).getD [])
    omega
  · simp
section
variable {Z : ZP} {w : World}
/-- What the iterator over picks tells. -/
def StK (t : GTick) (n : Nat) : Nat → List Value → Nat → Prop := fun m vs m' => m < n ∧ vs = [I m, I (pk t m)] ∧ m' = m + 1
theorem picks_t {cs ts : List Value} {c : GConf} {t : GTick} (hc : rConf.r w cs c) (ht : rTick.r w ts t) (s : BitVec 64) : Cz Try.prog 39 [.agg (lk cs s).toArray, .agg ts.toArray] w (fun r w' => ∃ b1 b2, r = .func (.func 58) [].toArray [Pt b1 0, Pt b2 0].toArray ∧ Bx w w' [(b2, 54, ts), (b1, 57, lk cs s)]) Z := by
  refine go mixed Try.func39 Try.call39 rfl (Tr.e39 _ _) ?_
  refine b_box (Bx.nil w) (fun b1 w1 H => ?_)
  refine b_box H (fun b2 w2 H => ?_)
  exact r_ret ⟨b1, b2, rfl, H⟩
theorem picks1_it {cs ts : List Value} {c : GConf} {t : GTick} {w0 : World} {b1 b2 : Nat} {s : BitVec 64} (hc : rConf.r w0 cs c) (ht : rTick.r w0 ts t) (C : Cok c) {L : Nat} {J : List Nat → Nat → World → Prop} {K : List Nat → World → Prop} (RG : Rg Try.prog L (StK t (nb c)) J K)
    (hb : ∀ V m w, J V m w → Fr [] w0 w ∧ Blk w b2 54 ts ∧ Blk w b1 57 (lk cs s)) (h0 : J [] 0 w) :
    Cz Try.prog 58 [.func (.yield L) #[] #[], Pt b1 0, Pt b2 0] w (fun _ w' => ∃ V, J V (nb c) w' ∨ K V w') Z := by
  obtain ⟨A0, c0, A1, c1, A2, c2, A3, c3, A4, c4, rfl, k0, k1, k2, k3, k4⟩ := oConf hc
  obtain ⟨T1, d1, T2, d2, rfl, m1, m2⟩ := oTick ht
  refine go mixed Try.func58 Try.call58 rfl (Tr.e58 _ _ _) ?_
  obtain ⟨F, B2, B1⟩ := hb _ _ _ h0
  have hbd := C.bud
  have hnb : (nb c : Int) = c.budget - 1 := by unfold nb; omega
  refine r_ld (B1.cell (o := 5) rfl) ?_
  refine r_ar (by omega) ?_
  refine r_loop (fun (i : Nat) => [I (i : Int)]) (fun i W => i ≤ nb c ∧ J [] i W) (fun i => nb c - i) 0 ⟨Nat.zero_le _, h0⟩ rfl ?_
  rintro i W ⟨hi, hJ⟩
  obtain ⟨F5, B2, B1⟩ := hb _ _ _ hJ
  refine r_if (fun h => ?_) (fun h => ?_)
  · refine r_ld (B2.cell (o := 1) rfl) ?_
    refine r_if (fun h2 => ?_) (fun h2 => ?_)
    · obtain ⟨x, hx1⟩ := gt (xs := t.picks) (j := i) (by omega)
      obtain ⟨ad, es, rfl, rd, e3⟩ := m2.2.2 i x hx1
      obtain rfl := e3
      refine r_ld (B2.cell (o := 1) rfl) ?_
      refine r_ob ⟨by omega, by omega⟩ ?_
      refine r_ld (cell_int (rd.fr F5)) ?_
      refine r_yld (RG.yd [] i (i + 1) _ _ hJ (by simp) ⟨by omega, by unfold pk; rw [hx1]; rfl, rfl⟩) ?_
      rintro v w3 ⟨⟨rfl, hJ2⟩ | ⟨rfl, hK⟩, _, _⟩
      · refine r_ar (z := (i : Int) + 1) (by omega) ?_
        exact r_ag (i + 1) ⟨by omega, hJ2⟩ (by omega) rfl
      · exact r_ret ⟨[], .inr hK⟩
    · refine r_yld (RG.yd [] i (i + 1) _ _ hJ (by simp) ⟨by omega, by unfold pk; rw [List.getElem?_eq_none (by omega)]; rfl, rfl⟩) ?_
      rintro v w3 ⟨⟨rfl, hJ2⟩ | ⟨rfl, hK⟩, _, _⟩
      · refine r_ar (z := (i : Int) + 1) (by omega) ?_
        exact r_ag (i + 1) ⟨by omega, hJ2⟩ (by omega) rfl
      · exact r_ret ⟨[], .inr hK⟩
  · obtain rfl : i = nb c := by omega
    exact r_brk (r_ret ⟨[], .inl hJ⟩)
def pks (t : GTick) (m : Nat) : List Int := (List.range m).map (pk t)
theorem pks_at {t : GTick} {m n : Nat} (h : n < m) : (pks t m)[n]? = some (pk t n) := by unfold pks; rw [List.getElem?_map, List.getElem?_range h]; rfl
theorem pks_succ (t : GTick) (m : Nat) : pks t (m + 1) = pks t m ++ [pk t m] := by unfold pks; rw [List.range_succ, List.map_append]; rfl
end
end Go.Proofs.Ytbljpcikcefkiaa.Hd

/- The first tick that is not alike, and what is told, over trees; both texts. -/
set_option linter.unusedVariables false
set_option linter.unusedSimpArgs false
namespace Go.Proofs.Ytbljpcikcefkiaa.Hd
open Go Go.RowKit Go.Proofs.Ytbljpcikcefkiaa.Sx
open Go.Proofs.Ytbljpcikcefkiaa.Bi (mixed take_s Has_t rHas_t)
open Go.Proofs.Ytbljpcikcefkiaa.Cf
theorem Rw.blk {α : Type} {e : Rl α} {w : World} {b : Nat} {T : TypeId} {cells : List Value} {xs : List α} (hB : Blk w b T cells) (h : ∀ (j : Nat) x, xs[j]? = some x → e.r w ((cells.drop (j * e.n)).take e.n) x) : Rw e w (some ⟨b, 0, none⟩) xs := by
  intro j x hj
  have hr := h j x hj
  refine ⟨_, _, rfl, ⟨e.len hr, fun i u hi => ?_⟩, hr⟩
  have hi2 : cells[j * e.n + i]? = some u := by
    rw [List.getElem?_take] at hi
    split at hi
    · rw [List.getElem?_drop] at hi; exact hi
    · cases hi
  show w.cell? ⟨b, 0 + j * e.n + i, none⟩ = some u
  rw [Nat.zero_add]
  exact hB.cell hi2
def tk (l : List GTick) (i : Nat) : GTick := (l[i]?).getD ⟨[], []⟩
/-- Is a tick not alike? -/
def badI (c : GConf) (t : Int) (a b : List GTick) (i : Nat) : Bool := Bt.has (lowV c t) (ownC c i) && !al c (ownC c i) (tk a i) (tk b i)
def fstB (f : Nat → Bool) : Nat → Nat × Bool
  | 0 => (0, false)
  | n + 1 => if (fstB f n).2 = true then fstB f n else if f n = true then (n, true) else (0, false)
theorem fstB_no {f : Nat → Bool} : ∀ {n : Nat}, (∀ i, i < n → f i = false) → fstB f n = (0, false) := by
  intro n
  induction n with
  | zero => intro _; rfl
  | succ n ih =>
    intro h
    unfold fstB
    rw [ih (fun i hi => h i (by omega)), if_neg (by simp), if_neg (by rw [h n (by omega)]; simp)]
theorem fstB_at {f : Nat → Bool} {i : Nat} : ∀ {n : Nat}, i < n → (∀ j, j < i → f j = false) → f i = true → fstB f n = (i, true) := by
  intro n
  induction n with
  | zero => intro h; omega
  | succ n ih =>
    intro hi h hb
    unfold fstB
    by_cases hn : i < n
    · rw [ih hn h hb, if_pos rfl]
    · obtain rfl : i = n := by omega
      rw [fstB_no h, if_neg (by simp), if_pos hb]
def fstR (c : GConf) (t : Int) (a b : List GTick) : Nat × Bool := if sE c t [a, b] = 0 then fstB (badI c t a b) a.length else (0, false)
def WfS (l : List GTick) : Prop := ∀ t ∈ l, WfT t
theorem sE_two {c : GConf} {t : Int} {a b : List GTick} (h : sE c t [a, b] = 0) : (confE c).2 = 0 ∧ a.length = b.length := by
  unfold sE at h
  split at h
  · rename_i h0
    refine ⟨(lowE_conf h0).1, ?_⟩
    split at h
    · rename_i h1; simp at h1; omega
    · cases h
  · rename_i h0; exact absurd h h0
section
variable {Z : ZP} {w : World}
theorem bs2 (X Y : Option Addr) (m n c d : Nat) (w : World) : (Instr.buildSlice 63 2 [(0, (.slice X m c)), (1, (.slice Y n d))].toArray).run Try.prog w = .ok (.slice (some ⟨w.heap.size, 0, none⟩) 2 2) (w.alloc (.cells [Value.slice X m c, Value.slice Y n d].toArray 29)) := by kernel_rfl
def alkR (c : GConf) (t : Int) (a b : List GTick) : Bool := decide (sE c t [a, b] = 0) && !(fstR c t a b).2
/-- What is told. -/
def toldB (c : GConf) (t : Int) (r : GRecord) : Bool := decide (0 ≤ r.gate ∧ r.gate < c.gates.length) && Bt.has (lowV c t) (((c.gates[r.gate.toNat]?).map (·.til)).getD 0)
def toldL (c : GConf) (t : Int) (l : List GRecord) : List GRecord := if lowE c t = 0 then l.filter (toldB c t) else []
theorem sE_none (c : GConf) (t : Int) : sE c t [] = lowE c t := by unfold sE; split <;> simp_all
theorem filter_s {α : Type} (p : α → Bool) {l : List α} {m : Nat} {x : α} (h : l[m]? = some x) : (l.take (m + 1)).filter p = (l.take m).filter p ++ (if p x = true then [x] else []) := by
  rw [take_s h, List.filter_append]
  by_cases hp : p x = true <;> simp [hp]
end
end Go.Proofs.Ytbljpcikcefkiaa.Hd

/- Masks, over trees. -/
set_option linter.unusedVariables false
set_option linter.unusedSimpArgs false
namespace Go.Proofs.Ytbljpcikcefkiaa.Hd
open Go Go.RowKit Go.Proofs.Ytbljpcikcefkiaa.Sx
open Go.Proofs.Ytbljpcikcefkiaa.Bi (mixed take_s Has_t rHas_t)
open Go.Proofs.Ytbljpcikcefkiaa.Cf
/-- What a mask keeps of a tick of a known owner. -/
def mskT (c : GConf) (o : Int) (t : GTick) : GTick :=
  { bytes := if o < t.bytes.length ∧ 0 < ((t.bytes[o.toNat]?).getD []).length then List.replicate o.toNat [] ++ [((t.bytes[o.toNat]?).getD []).take (16 * c.requests).toNat] else []
    picks := t.picks.take (nb c) }
def mskI (c : GConf) (s : BitVec 64) (i : Nat) (t : GTick) : GTick := if Bt.has s (ownC c i) = true then mskT c (ownC c i) t else ⟨[], []⟩
def Fresh (w w' : World) (φ : World → Prop) : Prop := ∀ W S, Fr S w' W → (∀ q ∈ S, q < w.heap.size ∨ w'.heap.size ≤ q) → φ W
theorem Fresh.off {w w' : World} {φ : World → Prop} (h : Fresh w w' φ) {S : List Nat} (hS : ∀ q ∈ S, q < w.heap.size ∨ w'.heap.size ≤ q) : Off S φ w' := fun W f => h W S f hS
theorem Fresh.now {w w' : World} {φ : World → Prop} (h : Fresh w w' φ) : φ w' := h w' [] (Fr.refl _ _) (by simp)
theorem plainI {kd : IntKind} : Plain (rI kd) := plainE
theorem nilTick (w : World) : rTick.r w [.slice none 0 0, .slice none 0 0] ⟨[], []⟩ := mTick (x := ⟨[], []⟩) ⟨Nat.le_refl _, Nat.zero_le _, Rw.nil⟩ ⟨Nat.le_refl _, Nat.zero_le _, Rw.nil⟩
section
variable {P : Program} {Z : ZP} {R : Value → World → Prop} {w W Wb : World} {A : List Nat → List Value → World → Prop} {B : List Nat → Nat → List Value → World → Prop} {ds : List Nat} {t : T}
/-- In a round: append of an element given by its cells; a cell of a variable is written. -/
theorem r_gappJ {α : Type} {e : Rl α} (hp : Plain e) {Te ety bytes ty c T j : Nat} {z v x1 : Value} {cs : List Value} {xs : List α} {x : α} {es : List Value} (E : El P Te ety e.n bytes z) (hsz : ∀ w, (sizeOf Te).run P w = .ok 1 w) (h1 : Blk W c T cs) (hj : Nat.blt j cs.length = true) (h2 : Or e ety w.heap.size [] W v xs) (hc : c < w.heap.size) (hw : w.heap.size ≤ W.heap.size) (hx : e.r W es x) (hb : (xs.length + 1) * bytes ≤ big)
    (hk : ∀ W' v', Blk W' c T (cs.set j v') → Or e ety w.heap.size [] W' v' (xs ++ [x]) → (∀ q ∈ v'.ownBlock.toList, q ∈ v.ownBlock.toList ∨ W.heap.size ≤ q) → Fr (c :: v.ownBlock.toList) W W' → wp P Z R ds t W' A B) (hv : x1.cells = es.toArray := by rfl) (hl : es.length = e.n := by rfl) (h0 : Nat.blt 0 e.n = true := by rfl) (hn : Nat.ble e.n 1000 = true := by rfl) (hby : Nat.blt 0 bytes = true := by rfl) :
    wp P Z R ds (.hv (Instr.buildSlice Te 1 [(0, x1)].toArray) fun s => .hv (Builtin.append_ #[Te, Te] ty [v, s].toArray) fun v' => .ef (Instr.storeAt Te (Pt c j) v') t) W A B := by
  refine r_appL (x := x) (es := es) E h2 (fun w' f => hp _ _ _ _ hx) hb hw (fun v' W1 g1 g2 g3 => ?_) hv hl h0 hn hby
  have hcv : ∀ q ∈ v.ownBlock.toList, q ≠ c := fun q hq => by have := (h2.lt q hq).1; omega
  have hcv' : ∀ q ∈ v'.ownBlock.toList, q ≠ c := fun q hq => by have := (g1.lt q hq).1; omega
  have h1' := h1.fr g2 (fun hq => hcv c hq rfl)
  have hlen : (xs ++ [x]).length ≤ big := by
    have : xs.length + 1 ≤ (xs.length + 1) * bytes := Nat.le_mul_of_pos_right _ (by simpa using hby)
    simp only [List.length_append, List.length_singleton]
    omega
  obtain ⟨X, cp, rfl, _⟩ := g1.row hlen
  refine r_st1 h1' hsz (fun W2 B2 f2 => ?_) rfl rfl hj
  exact hk W2 _ B2 (g1.upP hp f2 (fun q hq hv => hcv' q hv (by simpa using hq))) g3 ((g2.mono (fun q hq => List.mem_cons_of_mem _ hq)).trans (f2.mono (by simp)))
end
section
variable {Z : ZP} {w : World}
theorem Clone_t {ad : Addr} {cp : Nat} {xs : List Int} (hx : Rw (rI .u8) w (some ad) xs) (hb : xs.length ≤ big) : Cz Try.prog 38 [.slice (some ad) xs.length cp] w (fun r w' => Or (rI .u8) 5 w.heap.size [] w' r xs ∧ Fr [] w w') Z := by
  refine go mixed Try.func38 Try.call38 rfl (Tr.e38 _) ?_
  refine ⟨B false, fun w' => by kernel_rfl, ?_⟩
  refine r_ifb (fun h => by cases h) (fun _ => ?_)
  refine r_bs0 (e := rI .u8) (S := []) Ebyte (fun v5 w2 HV f2 hv5 => ?_)
  refine r_apps (xs := xs) Ebyte HV rfl (hx.off f2 (fun q hq => by rw [List.append_nil] at hq; exact (HV.lt q hq).1)) (by simp only [big] at *; simp; omega) f2.size (fun v7 w3 H3 f3 o3 => ?_)
  rw [List.nil_append] at H3
  exact r_ret ⟨H3, f2.trans_new f3 (fun q hq => .inr (HV.lt q hq).1)⟩
theorem r_mknil {R : Value → World → Prop} {A : List Nat → List Value → World → Prop} {B : List Nat → Nat → List Value → World → Prop} {ds : List Nat} {k : Value → T} {m : Nat} {j : Int} (hj : j = m) (hm : m ≤ 1000000) (hk : ∀ b w', b = w.heap.size → Blk w' b 51 (List.replicate m (.slice none 0 0)) → Fr [] w w' → wp Try.prog Z R ds (k (.slice (some ⟨b, 0, none⟩) m m)) w' A B) : wp Try.prog Z R ds (.hv (Instr.makeSlice 52 (I j) (I j)) k) w A B := by
  subst hj
  have hmk : madeCells (Value.slice none 0 0).cells (m * 1) = (List.replicate m (Value.slice none 0 0)).toArray := by
    have := made_flat (enc := fun (_ : Unit) => [Value.slice none 0 0]) (k := 1) (fun _ => rfl) () m
    rw [show flat (fun (_ : Unit) => [Value.slice none 0 0]) (List.replicate m ()) = List.replicate m (Value.slice none 0 0) by
      simp [flat, List.flatMap_replicate]] at this
    exact this
  refine r_hv (o := ⟨none, .makeSlice 52 (.const (I m)) (.const (I m)), 0, "", #[], none⟩) (x_mk (l := []) (e := 51) 1 24 (.slice none 0 0) rfl rfl (by kernel_rfl) (by kernel_rfl) hmk (by omega) (by omega)).ev ?_ rfl
  rintro _ w2 ⟨rfl, rfl⟩
  exact hk _ _ rfl (Blk.alloc w _ _) (Fr.alloc w _)
theorem drop1 {cells : List Value} {j : Nat} {u : Value} (h : cells[j]? = some u) : (cells.drop (j * 1)).take 1 = [u] := by
  have hl := List.getElem?_eq_some_iff.1 h
  rw [Nat.mul_one, List.drop_eq_getElem_cons hl.1, hl.2]; rfl
theorem lk_req {cs : List Value} {c : GConf} (hc : rConf.r w cs c) (s : BitVec 64) : (lk cs s)[6]? = some (I c.requests) := by
  obtain ⟨A0, c0, A1, c1, A2, c2, A3, c3, A4, c4, rfl, _⟩ := oConf hc
  rfl
/-- A row of nothing but its last one. -/
theorem lastRow {W : World} {b1 o cp : Nat} {v : Value} {bt : Bs} (hB : Blk W b1 51 ((List.replicate (o + 1) (.slice none 0 0)).set o v)) (hv : Sl (rI .u8) W v bt) (ho : o ≤ 1000) (hc : o + 1 ≤ cp) : Sl (rL (rI .u8)) W (.slice (some ⟨b1, 0, none⟩) (o + 1) cp) (List.replicate o [] ++ [bt]) := by
  refine ⟨_, cp, by simp, by simpa using hc, by simp [big]; omega, Rw.blk hB (fun j x hj => ?_)⟩
  show (rL (rI .u8)).r W (((List.replicate (o + 1) (Value.slice none 0 0)).set o v).drop (j * 1) |>.take 1) x
  rcases Nat.lt_or_ge j o with h | h
  · rw [List.getElem?_append_left (by simpa using h), List.getElem?_replicate, if_pos h] at hj
    cases hj
    rw [drop1 (u := .slice none 0 0) (by rw [List.getElem?_set_ne (by omega), List.getElem?_replicate, if_pos (by omega)])]
    exact Sl.nil.r
  · rw [List.getElem?_append_right (by simpa using h)] at hj
    have hj0 : j = o := by
      have := (List.getElem?_eq_some_iff.1 hj).1
      simp at this; omega
    subst hj0
    simp at hj
    subst hj
    rw [drop1 (u := v) (by rw [List.getElem?_set_self (by simp)])]
    exact hv.r
theorem masked_t {cs ts : List Value} {c : GConf} {t : GTick} (hc : rConf.r w cs c) (C : Cok c) (ht : rTick.r w ts t) (s : BitVec 64) {n : Nat} (hn : n ≤ 1000000) : Cz Try.prog 20 [.agg (lk cs s).toArray, I n, .agg ts.toArray] w (fun r w' => ∃ us, r = .agg us.toArray ∧ Fresh w w' (fun W => rTick.r W us (mskI c s n t)) ∧ Fr [] w w') Z := by
  have hlc := rConf.len hc
  have hlk : (lk cs s).length = 9 := by unfold lk; rw [List.length_append, hlc]; rfl
  have ht0 := ht
  obtain ⟨T1, d1, T2, d2, rfl, m1, m2⟩ := oTick ht
  refine go mixed Try.func20 Try.call20 rfl (Tr.e20 _ _ _) ?_
  refine b_box (Bx.nil w) (fun v3 w1 H => ?_)
  refine b_box H (fun v5 w2 H => ?_)
  refine b_al (zs := [.slice none 0 0, .slice none 0 0]) H Try.zeroValue54 (fun v6 w3 H => ?_)
  refine b_ldn H 2 rfl ?_ hlk
  refine b_call H (lookOwner_t (rConf.up H.F hc) C s hn) (fun w4 H => ?_)
  have hbd := C.bud
  have hrq := C.req
  have hown := C.ownC n
  refine r_ifbn (fun h => ?_) (fun h => ?_)
  · refine b_stn (cs := [.slice none 0 0, .slice none 0 0]) (n := 2) H 0 rfl Try.sizeOf54 (by intro v hv; simp at hv; subst hv; rfl) (fun w5 H => ?_)
    refine b_ldn H 0 rfl ?_
    have e : mskI c s n t = ⟨[], []⟩ := by unfold mskI; rw [if_neg (by rw [h]; simp)]
    exact b_ret H (fun F => ⟨_, rfl, fun W S _ _ => by rw [e]; exact nilTick W, F⟩)
  have eM : mskI c s n t = mskT c (ownC c n) t := by unfold mskI; rw [if_pos h]
  rw [eM]
  refine b_al (zs := [.slice none 0 0, .slice none 0 0]) H Try.zeroValue54 (fun v9 w5 H => ?_)
  obtain ⟨o, ho⟩ := Int.eq_ofNat_of_zero_le hown.1
  rw [ho] at hown ⊢
  have g9 := H.ge (i := 0) rfl
  have g6 := H.ge (i := 1) rfl
  have n69 : v9 ≠ v6 := by have := H.N; simp at this; exact this.1.1
  have nbt : (nb c : Int) = c.budget - 1 := by unfold nb; omega
  refine b_ld H 2 rfl rfl ?_
  refine r_ifj (fun W0 => ∃ x, Bx w W0 [(v9, 54, [x, .slice none 0 0]), (v6, 54, [.slice none 0 0, .slice none 0 0]), (v5, 54, [.slice T1 t.bytes.length d1, .slice T2 t.picks.length d2]), (v3, 57, lk cs s)] ∧ x.oneCell' = true ∧ ∀ W S, Fr S W0 W → (∀ q ∈ S, q = v9 ∨ q = v6 ∨ q < w.heap.size ∨ W0.heap.size ≤ q) → Sl (rL (rI .u8)) W x (mskT c o t).bytes) ?_ ?_ ?_
  · rintro W0 ⟨x, H, hx1, hxr⟩
    refine b_ldn H 3 rfl ?_ hlk
    refine b_ldn H 2 rfl ?_
    refine r_call (picks_t (rConf.up H.F hc) (rTick.up H.F ht0) s) ?_
    rintro _ w8 ⟨p1, p2, rfl, X8⟩
    have H8 := H.fr X8.F
    have B9 := H8.blk (i := 0) rfl
    have l9 : v9 < W0.heap.size := (H.blk (i := 0) rfl).lt
    have np1 : p1 ≠ v9 := by have := X8.ge (i := 1) rfl; omega
    have np2 : p2 ≠ v9 := by have := X8.ge (i := 0) rfl; omega
    have n59 : v5 ≠ v9 := by have := H.N; simp at this; omega
    have nb16 : nb c ≤ 16 := by omega
    refine r_rf (StK t (nb c)) (fun m bs W => m ≤ nb c ∧ ∃ v, Blk W v9 54 [x, v] ∧ Or (rI .i64) 3 w8.heap.size [] W v (t.picks.take m) ∧ bs = v9 :: v.ownBlock.toList ∧ Fr [v9] w8 W) (fun _ _ _ => False) 0 (nb c) [v9] Try.call58 ⟨Nat.zero_le _, _, B9, Or.nil, rfl, (Fr.refl [] w8).mono (by simp)⟩ ?_ (fun _ _ _ _ _ h => h.elim) ?_ (fun _ _ _ h => h.elim) ?_ ?_ ?_ (fun _ _ _ _ h => h.elim)
    · rintro m bs W W' S ⟨hm, v, h1, h2, rfl, h4⟩ f hS
      exact ⟨hm, v, h1.fr f (fun hq => (hS v9 hq).1 (by simp)), h2.upP plainI f (fun q hq hv => (hS q hq).1 (List.mem_cons_of_mem _ hv)), rfl, h4.trans_new f (fun q hq => .inr (hS q hq).2)⟩
    · rintro m bs W ⟨hm, v, h1, h2, rfl, h4⟩
      refine ⟨fun q hq => ?_, h4.size⟩
      rcases List.mem_cons.1 hq with rfl | hq
      · exact h1.lt
      · exact (h2.lt q hq).2
    · rintro L a' b' m _ _ bs W hL hwL hLW ⟨hm, v, g1, g2, rfl, g4⟩ hLa ⟨hm1, rfl, rfl⟩
      refine ⟨rfl, ?_⟩
      have hLv : v9 ≠ L := fun e => hL (by simp [e])
      have huL : L ∉ v.ownBlock.toList := fun h => hL (List.mem_cons_of_mem _ h)
      refine r_rb hLa (fun W2 f2 hL2 => ?_)
      have B5 := ((H8.blk (i := 2) rfl).fr g4 (by simpa using n59)).fr f2 (by have := (H8.blk (i := 2) rfl).lt; simp; omega)
      refine r_ld (B5.cell (o := 1) rfl) ?_
      have g1' := g1.fr f2 (by simpa using hLv)
      have g2' : Or (rI .i64) 3 w8.heap.size [] W2 v (t.picks.take m) := g2.upP plainI f2 (fun q hq hu => huL (by simp at hq; subst hq; exact hu))
      refine r_if (fun h5 => ?_) (fun h5 => ?_)
      · obtain ⟨z, hz⟩ := gt (xs := t.picks) (j := m) (by omega)
        have epk : pk t m = z := by unfold pk; rw [hz]; rfl
        refine r_ld (g1'.cell (o := 1) rfl) ?_
        rw [epk]
        have l98 : v9 < w8.heap.size := B9.lt
        refine r_gappJ (x := z) (es := [I z]) (j := 1) plainI Bi.Eint Try.sizeOf26 g1' rfl g2' l98 (Nat.le_trans g4.size f2.size) rfl (by simp only [big]; simp; omega) (fun W3 v' k1 k2 k3 k4 => ?_)
        have F3 : Fr (L :: v9 :: v.ownBlock.toList) W W3 := (f2.mono (by simp)).trans (k4.mono (fun q hq => List.mem_cons_of_mem _ hq))
        refine ⟨⟨v9 :: v'.ownBlock.toList, ⟨by omega, v', k1, by rw [take_s hz]; exact k2, rfl, g4.trans_new F3 (fun q hq => ?_)⟩, fun q hq => ?_⟩, F3, ?_⟩
        · rcases List.mem_cons.1 hq with rfl | hq
          · exact .inr hwL
          · rcases List.mem_cons.1 hq with rfl | hq
            · exact .inl (by simp)
            · exact .inr (g2.lt q hq).1
        · rcases List.mem_cons.1 hq with rfl | hq
          · exact .inl (by simp)
          · rcases k3 q hq with h | h
            · exact .inl (List.mem_cons_of_mem _ h)
            · exact .inr (Nat.le_trans f2.size h)
        · exact (k4.keep L (Array.getElem?_eq_some_iff.1 hL2).1 hL).trans hL2
      · have e : t.picks.take (m + 1) = t.picks.take m := by rw [List.take_of_length_le (by omega), List.take_of_length_le (by omega)]
        exact ⟨⟨_, ⟨by omega, v, g1', by rw [e]; exact g2', rfl, g4.trans_new f2 (fun q hq => .inr (by simp at hq; omega))⟩, fun q hq => .inl hq⟩, f2.mono (by simp), hL2⟩
    · intro L D J K w9 RG hJ h0
      refine picks1_it (w0 := w) (s := s) hc ht0 C RG (fun V m W hJW => ?_) h0
      obtain ⟨bs, _, v, _, _, _, g2⟩ := hJ V m W hJW
      exact ⟨H8.F.trans_new g2 (fun q hq => .inr (by simp at hq; omega)), (X8.blk (i := 0) rfl).fr g2 (by simpa using np2), (X8.blk (i := 1) rfl).fr g2 (by simpa using np1)⟩
    · rintro D bs W ⟨hm, v, g1, g2, rfl, g4⟩ hD hwD hDd
      have B6 := (H8.blk (i := 1) rfl).fr g4 (by simpa using n69.symm)
      have hpl : (t.picks.take (nb c)).length ≤ big := by simp only [big]; simp; omega
      obtain ⟨Y, cy, rfl, _⟩ := g2.row hpl
      refine r_ldn g1.rd ?_
      refine r_stn (cs := [x, .slice Y (t.picks.take (nb c)).length cy]) B6 Try.sizeOf54 (by intro u hu; simp at hu; rcases hu with rfl | rfl; exact hx1; rfl) (fun W2 B2 f2 => ?_)
      refine r_ldn B2.rd ?_
      have hD6 : D ≠ v6 := dne hDd B6
      refine r_ret1 (dkeep hDd f2 (by simpa using hD6)) (fun w' f => ?_)
      have FW : Fr [v9, v6, D] w8 w' := ((g4.mono (by simp)).trans (f2.mono (by simp))).trans (f.mono (by simp))
      have sW := FW.size
      have s8 := H8.F.size
      have hown6 : v6 ∉ (Value.slice Y (t.picks.take (nb c)).length cy).ownBlock.toList := fun hq => by have := (g2.lt _ hq).1; have := (H8.blk (i := 1) rfl).lt; omega
      have hownD : D ∉ (Value.slice Y (t.picks.take (nb c)).length cy).ownBlock.toList := fun hq => hD (List.mem_cons_of_mem _ hq)
      have O3 := (g2.upP (S2 := []) plainI f2 (fun q hq hu => by simp at hq; subst hq; exact hown6 hu)).upP (S2 := []) plainI f (fun q hq hu => by simp at hq; subst hq; exact hownD hu)
      refine ⟨_, rfl, fun W' S g hS => ?_, ?_⟩
      · have G : Fr ([v9, v6, D] ++ S) W0 W' := ((X8.F.mono (by simp)).trans (FW.mono (by simp))).trans (g.mono (fun q hq => List.mem_append.2 (.inr hq)))
        have Wx := hxr W' _ G (fun q hq => by
          rcases List.mem_append.1 hq with hq | hq
          · simp at hq
            rcases hq with rfl | rfl | rfl
            · exact .inl rfl
            · exact .inr (.inl rfl)
            · have := X8.F.size; exact .inr (.inr (.inr (by omega)))
          · rcases hS q hq with h | h
            · exact .inr (.inr (.inl h))
            · have := X8.F.size; exact .inr (.inr (.inr (by omega))))
        obtain ⟨X1, cx, e1, y1, y2, y3⟩ := Wx
        subst e1
        have O4 := O3.upP (S2 := []) plainI g (fun q hq hu => by
          have := O3.lt q hu
          rcases hS q hq with h | h <;> omega)
        obtain ⟨_, _, e2, z1, z2, z3⟩ := O4.row hpl
        cases e2
        exact mTick (x := mskT c o t) ⟨y1, y2, y3⟩ ⟨z1, z2, z3⟩
      · exact H8.F.trans_new FW (fun q hq => .inr (by simp at hq; omega))
  · intro key h1
    obtain ⟨bo, hbo⟩ := gt (xs := t.bytes) (j := o) (by omega)
    obtain ⟨ad, es, rfl, rd, e4⟩ := m1.2.2 _ bo hbo
    obtain ⟨X, cx, rfl, x1, x2, x3⟩ := e4
    refine b_ld H 2 rfl rfl ?_
    refine r_ob ⟨by omega, by omega⟩ ?_
    refine r_ld (cell1 (rd.fr H.F)) ?_
    refine r_if (fun h2 => ?_) (fun h2 => key _ ⟨.slice none 0 0, H, rfl, fun W S _ _ => ?_⟩)
    · refine b_ld H 2 rfl rfl ?_
      refine r_ob ⟨by omega, by omega⟩ ?_
      refine r_ld (cell1 (rd.fr H.F)) ?_
      refine b_ld H 3 rfl (lk_req hc s) ?_
      refine r_ar (by omega) ?_
      refine r_min ?_
      obtain ⟨m, hm, hm16⟩ : ∃ m : Nat, (if (16 * c.requests) < (bo.length : Int) then (16 * c.requests) else (bo.length : Int)) = m ∧ m = min (16 * c.requests).toNat bo.length := by
        by_cases h3 : (16 * c.requests) < (bo.length : Int)
        · exact ⟨(16 * c.requests).toNat, by rw [if_pos h3]; omega, by omega⟩
        · exact ⟨bo.length, by rw [if_neg h3], by omega⟩
      rw [hm]
      refine r_ar (by omega) ?_
      refine r_mknil (m := o + 1) (by omega) (by omega) (fun b1 w6 hb1 B1 f6 => ?_)
      have l9 := (H.blk (i := 0) rfl).lt
      have l6 := (H.blk (i := 1) rfl).lt
      have l5 := (H.blk (i := 2) rfl).lt
      have l3 := (H.blk (i := 3) rfl).lt
      have s5 := H.F.size
      have n9 : v9 ≠ b1 := by omega
      replace H := H.fr f6
      refine r_st1 (H.blk (i := 0) rfl) Try.sizeOf52 (fun w7 B9 f7 => ?_)
      have H7 := H.set (i := 0) rfl B9 f7
      have B17 := B1.fr f7 (by simpa using n9.symm)
      refine r_dr (fun w8 f8 => ?_)
      have H8 := H7.fr f8
      have B18 := B17.fr0 f8
      refine r_ld ((H8.blk (i := 0) rfl).cell (o := 0) rfl) ?_
      refine r_slh3 (ety := 5) (h := m) (m := m) (by kernel_rfl) Try.sizeOf5 rfl rfl (Nat.le_refl _) (Nat.le_trans (show m ≤ bo.length by omega) x1) ?_
      have hml : (bo.take m).length = m := by simp; omega
      have hX : ∃ a0, X = some a0 := by
        obtain ⟨z, hz⟩ := gt (xs := bo) (j := 0) (by omega)
        obtain ⟨a, _, h, _⟩ := x3 0 z hz
        exact ⟨a, h⟩
      obtain ⟨a0, rfl⟩ := hX
      have hcl := Clone_t (Z := ZD [] Z) (cp := m) ((x3.take m).up H8.F) (by rw [hml]; simp only [big] at x2 ⊢; omega)
      rw [hml] at hcl
      refine r_call hcl ?_
      rintro v60 w9 ⟨O9, f9⟩
      have hbl : (bo.take m).length ≤ big := by rw [hml]; simp only [big] at x2 ⊢; omega
      have H9 := H8.fr f9
      have B19 := B18.fr0 f9
      refine r_chk ((H9.blk (i := 0) rfl).cell (o := 0) rfl) ?_
      refine r_ob ⟨by omega, by omega⟩ ?_
      obtain ⟨C1, cc, rfl, _⟩ := O9.row hbl
      refine r_st1 B19 Try.sizeOf51 (fun w10 B10 f10 => ?_) rfl rfl (by simp)
      rw [show (0 + ((o : Nat) : Int).toNat * 1) = o by omega] at B10
      have g1b : w.heap.size ≤ b1 := by omega
      have H10 := H9.frS f10 (fun q hq => by simp at hq; omega) (fun q hq p hp => by
        simp at hq hp
        rcases hp with rfl | rfl | rfl | rfl <;> dsimp only <;> omega)
      have c1b : ∀ q ∈ (Value.slice C1 (bo.take m).length cc).ownBlock.toList, w8.heap.size ≤ q ∧ q < w9.heap.size := O9.lt
      have b1lt := B18.lt
      have O10 := O9.upP (S2 := []) plainI f10 (fun q hq hu => by have := c1b q hu; simp at hq; omega)
      refine key w10 ⟨_, H10, rfl, fun W S g hS => ?_⟩
      have eb : (mskT c o t).bytes = List.replicate o [] ++ [bo.take m] := by
        unfold mskT
        dsimp only
        rw [if_pos ⟨h1, by rw [Int.toNat_natCast, hbo]; show 0 < bo.length; omega⟩, Int.toNat_natCast, hbo]
        show _ ++ [bo.take (16 * c.requests).toNat] = _
        rw [List.take_eq_take_min, ← hm16]
      rw [eb]
      have hb1S : b1 ∉ S := fun hq => by
        have := f9.size; have := f10.size
        rcases hS b1 hq with h | h | h | h <;> omega
      refine lastRow (B10.fr g hb1S) ((O10.upP (S2 := []) plainI g (fun q hq hu => ?_)).row hbl) (by omega) (Nat.le_refl _)
      have := c1b q hu
      have := f10.size
      have s8 := H8.F.size
      have k9 := (H8.blk (i := 0) rfl).lt
      have k6 := (H8.blk (i := 1) rfl).lt
      rcases hS q hq with h | h | h | h <;> omega
    · have e : (mskT c o t).bytes = [] := by unfold mskT; dsimp only; rw [if_neg (fun h3 => h2 (by rw [Int.toNat_natCast, hbo] at h3; have := h3.2; simp at this; omega))]
      rw [e]
      exact Sl.nil
  · intro h1
    refine ⟨.slice none 0 0, H, rfl, fun W S _ _ => ?_⟩
    have e : (mskT c o t).bytes = [] := by unfold mskT; dsimp only; rw [if_neg (fun h2 => h1 h2.1)]
    rw [e]
    exact Sl.nil
theorem mapIdx_s {α β : Type} (f : Nat → α → β) {l : List α} {m : Nat} {x : α} (h : l[m]? = some x) : (l.take (m + 1)).mapIdx f = (l.take m).mapIdx f ++ [f m x] := by
  have hm := (List.getElem?_eq_some_iff.1 h).1
  rw [take_s h, List.mapIdx_concat]
  congr 3
  rw [List.length_take]; omega
/-- What a function makes of each tick. -/
theorem each_t {g : Nat} {pre cap : List Value} {X : Option Addr} {cx : Nat} {l : List GTick} {f : Nat → GTick → GTick} (hl : Rw rTick w X l) (ll : l.length ≤ 1000000)
    (hcb : ∀ (Z : ZP) (i : Nat) x vs w1 (S : List Nat), l[i]? = some x → rTick.r w vs x → Fr [] w w1 → (∀ q ∈ S, w.heap.size ≤ q ∧ q < w1.heap.size) → Cz Try.prog g (pre ++ ([I i, .agg vs.toArray] ++ cap)) w1 (fun r w' => ∃ us, r = .agg us.toArray ∧ Off S (fun W => rTick.r W us (f i x)) w' ∧ Fr [] w1 w') Z) :
    Cz Try.prog 19 [.slice X l.length cx, .func (.func g) pre.toArray cap.toArray] w (fun r w' => Sl rTick w' r (l.mapIdx f) ∧ Fr [] w w') Z := by
  refine go mixed Try.func19 Try.call19 rfl (Tr.e19 _ _) ?_
  refine r_loop (fun (s : Nat × Value) => [I (s.1 : Int), s.2]) (fun s w' => s.1 ≤ l.length ∧ Or rTick 54 w.heap.size [] w' s.2 ((l.take s.1).mapIdx f) ∧ Fr [] w w') (fun s => l.length - s.1) (0, .slice none 0 0) ⟨Nat.zero_le _, by simpa using Or.nil, Fr.refl _ _⟩ rfl ?_
  rintro ⟨i, v⟩ w1 ⟨hi, HO, F⟩
  dsimp only at hi HO
  refine r_if (fun h => ?_) (fun h => ?_)
  · obtain ⟨x, hx⟩ := gt (xs := l) (j := i) (by omega)
    obtain ⟨ad, es, rfl, rd, e3⟩ := hl i x hx
    obtain ⟨T1, d1, T2, d2, rfl, m1, m2⟩ := oTick e3
    refine r_ob ⟨by omega, by omega⟩ ?_
    refine r_ldn (rd.fr F) ?_
    refine r_as (cs := [.slice T1 x.bytes.length d1, .slice T2 x.picks.length d2]) (zs := [.slice none 0 0, .slice none 0 0]) (n := 2) (fun b w2 hb Bb f2 => ?_) Try.zeroValue54 Try.sizeOf54 (by intro v hv; simp at hv; rcases hv with rfl | rfl <;> rfl)
    refine r_ldn Bb.rd ?_
    have F2 := F.trans f2
    refine r_call (hcb _ i x _ w2 v.ownBlock.toList hx e3 F2 (fun q hq => ⟨(HO.lt q hq).1, Nat.lt_of_lt_of_le (HO.lt q hq).2 f2.size⟩)) ?_
    rintro _ w3 ⟨us, rfl, hus, f3⟩
    have F3 := F2.trans f3
    refine r_appL (x := f i x) (es := us) Etick ((HO.fr0 f2).fr0 f3) (by rw [List.append_nil]; exact hus) (by simp only [big]; simp; omega) F3.size (fun v' w4 g1 g2 g3 => ?_) rfl (rTick.len hus.now)
    refine r_ar (by dsimp only; omega) ?_
    refine r_ag (s := (i, v)) (i + 1, v') ⟨by dsimp only; omega, ?_, F3.trans_new g2 (fun q hq => .inr (HO.lt q hq).1)⟩ (by dsimp only; omega) rfl
    dsimp only
    rw [mapIdx_s f hx]
    exact g1
  · obtain rfl : i = l.length := by omega
    rw [List.take_length] at HO
    exact r_brk (r_ret ⟨HO.row (by simp only [big]; simp; omega), F⟩)
theorem sE_one (c : GConf) (t : Int) (l : List GTick) : sE c t [l] = lowE c t := by unfold sE; split <;> simp_all
def mskL (c : GConf) (t : Int) (l : List GTick) : List GTick := if lowE c t = 0 then l.mapIdx (mskI c (lowV c t)) else []
theorem bs1S (X : Option Addr) (m c : Nat) (w : World) : (Instr.buildSlice 63 1 [(0, (.slice X m c))].toArray).run Try.prog w = .ok (.slice (some ⟨w.heap.size, 0, none⟩) 1 1) (w.alloc (.cells [Value.slice X m c].toArray 29)) := by kernel_rfl
theorem Mask_t {cs : List Value} {c : GConf} (hc : rConf.r w cs c) (hw : Wf c) (t : Int) {X : Option Addr} {cx : Nat} {l : List GTick} (hl : Rw rTick w X l) (kl : l.length ≤ cx) (ll : l.length ≤ 1000000) : Cz Try.prog 9 [.agg cs.toArray, I t, .slice X l.length cx] w (fun r w' => ∃ v, r = .tuple #[v, I (lowE c t)] ∧ Sl rTick w' v (mskL c t l) ∧ Fr [] w w') Z := by
  have hlc := rConf.len hc
  have hc1 := rConf.one hc
  refine go mixed Try.func9 Try.call9 rfl (Tr.e9 _ _ _) ?_
  refine b_box (Bx.nil w) (fun b1 w1 H => ?_)
  refine b_ldn H 0 rfl ?_ hlc
  refine r_new (bs1S X l.length cx _) (fun q w2 hq Bq f2 => ?_)
  subst hq
  replace H := H.fr f2
  refine r_call (looks_t (rConf.up H.F hc) hw t (ls := [l]) (Rw.blk Bq (fun j x hj => ?_)) (by simp) (fun l hl => by simp at hl; subst hl; omega)) ?_
  · match j with
    | 0 => cases hj; exact ⟨X, cx, rfl, kl, by simp only [big]; omega, hl.up H.F⟩
    | j + 1 => cases hj
  rintro _ w3 ⟨rfl, f3⟩
  replace H := H.fr f3
  rw [sE_one]
  by_cases hs : lowE c t = 0
  · have eR : mskL c t l = l.mapIdx (mskI c (lowV c t)) := by unfold mskL; rw [if_pos hs]
    have C := cok (lowE_conf hs).1
    rw [hs, if_pos rfl, eR]
    have h1 : ∀ v ∈ lk cs (lowV c t), v.oneCell' = true := fun v hv => by
      rcases List.mem_append.1 hv with hv | hv
      · exact hc1 v hv
      · simp at hv; subst hv; rfl
    have hl9 : (lk cs (lowV c t)).length = 9 := by unfold lk; rw [List.length_append, hlc]; rfl
    refine b_as (cs := lk cs (lowV c t)) (zs := zLk) (n := 9) H Try.zeroValue57 Try.sizeOf57 h1 (fun k w4 H => ?_) rfl rfl rfl hl9
    refine b_ldn H 0 rfl ?_ hl9
    refine r_call (each_t (g := 20) (pre := [.agg (lk cs (lowV c t)).toArray]) (cap := []) (f := mskI c (lowV c t)) (hl.up H.F) ll (fun Z i x vs w5 S hx hr F hS => ?_)) ?_
    · have hi := (List.getElem?_eq_some_iff.1 hx).1
      refine (masked_t (Z := Z) (rConf.up (H.F.trans F) hc) C (rTick.up F hr) (lowV c t) (n := i) (by omega)).mono (fun r w' ⟨us, h1, h2, h3⟩ => ⟨us, h1, h2.off (fun q hq => .inl (hS q hq).2), h3⟩)
    · rintro r w5 ⟨hr, f5⟩
      replace H := H.fr f5
      exact b_ret H (fun F => ⟨_, rfl, hr, F⟩)
  · have eR : mskL c t l = [] := by unfold mskL; rw [if_neg hs]
    rw [if_neg hs, eR]
    refine b_as (cs := zLk) (zs := zLk) (n := 9) H Try.zeroValue57 Try.sizeOf57 (by intro v hv; simp [zLk] at hv; rcases hv with rfl | rfl | rfl <;> rfl) (fun k w4 H => ?_)
    refine r_if (fun h5 => ?_) (fun h5 => absurd hs h5)
    exact b_ret H (fun F => ⟨_, rfl, Sl.nil, F⟩)
theorem EqBB_t {X Y : Option Addr} {cp cq : Nat} {xs ys : List Bs} (hx : Rw (rL (rI .u8)) w X xs) (hy : Rw (rL (rI .u8)) w Y ys) (hb : xs.length ≤ big) : Cz Try.prog 30 [.slice X xs.length cp, .slice Y ys.length cq, .func (.func 31) #[] #[]] w (fun r w' => r = B (decide (xs = ys)) ∧ Fr [] w w') Z := by
  refine go mixed Try.func30 Try.call30 rfl (Tr.e30 _ _ _) ?_
  simp only [big] at hb
  refine r_if (fun h => ?_) (fun h => ?_)
  · exact r_ret ⟨by rw [decide_eq_false (fun e => h (by rw [e]))], Fr.refl _ _⟩
  have hl : xs.length = ys.length := by omega
  refine r_loop (fun (i : Nat) => [I (i : Int), B false]) (fun i w' => i ≤ xs.length ∧ (∀ j, j < i → xs[j]? = ys[j]?) ∧ Fr [] w w') (fun i => xs.length - i) 0 ⟨Nat.zero_le _, fun _ h => by omega, Fr.refl _ _⟩ rfl ?_
  rintro i w1 ⟨hi, hok, F⟩
  refine r_if (fun h1 => ?_) (fun h1 => ?_)
  · obtain ⟨x, hx1⟩ := gt (xs := xs) (j := i) (by omega)
    obtain ⟨y, hy1⟩ := gt (xs := ys) (j := i) (by omega)
    obtain ⟨ad, es, rfl, rd, e3⟩ := hx i x hx1
    obtain ⟨ad2, es2, rfl, rd2, e4⟩ := hy i y hy1
    obtain ⟨X1, c1, rfl, x1, x2, x3⟩ := e3
    obtain ⟨Y1, d1, rfl, y1, y2, y3⟩ := e4
    refine r_ob ⟨by omega, by omega⟩ ?_
    refine r_ld (cell1 (rd.fr F)) ?_
    refine r_ob ⟨by omega, by omega⟩ ?_
    refine r_ld (cell1 (rd2.fr F)) ?_
    refine r_call (EqB_t (x3.up F) (y3.up F) x2) ?_
    rintro _ w2 ⟨rfl, f2⟩
    have F2 := F.trans f2
    refine r_ifn (fun h2 => ?_) (fun h2 => ?_)
    · exact r_ret ⟨by rw [decide_eq_false (fun e => h2 (by rw [e, hy1] at hx1; cases hx1; rfl))], F2⟩
    · refine r_ar (by omega) ?_
      refine r_ag (i + 1) ⟨by omega, fun j hj => ?_, F2⟩ (by omega) rfl
      rcases Nat.lt_or_ge j i with h' | h'
      · exact hok j h'
      · obtain rfl : j = i := by omega
        rw [hx1, hy1, h2]
  · obtain rfl : i = xs.length := by omega
    exact r_brk (r_ret ⟨by rw [decide_eq_true (eq_all hl hok)], F⟩)
theorem same1_t {xs ys : List Value} {x y : GTick} (hx : rTick.r w xs x) (hy : rTick.r w ys y) : Cz Try.prog 28 [.agg xs.toArray, .agg ys.toArray] w (fun r w' => r = B (decide (x = y)) ∧ Fr [] w w') Z := by
  obtain ⟨T1, d1, T2, d2, rfl, m1, m2⟩ := oTick hx
  obtain ⟨S1, e1, S2, e2, rfl, n1, n2⟩ := oTick hy
  refine go mixed Try.func28 Try.call28 rfl (Tr.e28 _ _) ?_
  refine b_box (Bx.nil w) (fun b1 w1 H => ?_)
  refine b_box H (fun b2 w2 H => ?_)
  refine b_ld H 1 rfl rfl ?_
  refine b_ld H 0 rfl rfl ?_
  refine b_call H (EqI_t (m2.2.2.up H.F) (n2.2.2.up H.F) m2.2.1) (fun w3 H => ?_)
  refine r_if (fun h => ?_) (fun h => ?_)
  · refine b_ld H 1 rfl rfl ?_
    refine b_ld H 0 rfl rfl ?_
    refine b_call H (EqBB_t (m1.2.2.up H.F) (n1.2.2.up H.F) m1.2.1) (fun w4 H => ?_)
    refine b_ret H (fun F => ⟨?_, F⟩)
    obtain ⟨xb, xp⟩ := x
    obtain ⟨yb, yp⟩ := y
    have h : xp = yp := h
    subst h
    refine congrArg B (decide_eq_decide.2 ?_)
    simp
  · refine b_ret H (fun F => ⟨?_, F⟩)
    rw [decide_eq_false (fun e => h (by rw [e]))]
theorem EqTT_t {X Y : Option Addr} {cp cq : Nat} {xs ys : List GTick} (hx : Rw rTick w X xs) (hy : Rw rTick w Y ys) (hb : xs.length ≤ big) : Cz Try.prog 27 [.slice X xs.length cp, .slice Y ys.length cq, .func (.func 28) #[] #[]] w (fun r w' => r = B (decide (xs = ys)) ∧ Fr [] w w') Z := by
  refine go mixed Try.func27 Try.call27 rfl (Tr.e27 _ _ _) ?_
  simp only [big] at hb
  refine r_if (fun h => ?_) (fun h => ?_)
  · exact r_ret ⟨by rw [decide_eq_false (fun e => h (by rw [e]))], Fr.refl _ _⟩
  have hl : xs.length = ys.length := by omega
  refine r_loop (fun (i : Nat) => [I (i : Int), B false]) (fun i w' => i ≤ xs.length ∧ (∀ j, j < i → xs[j]? = ys[j]?) ∧ Fr [] w w') (fun i => xs.length - i) 0 ⟨Nat.zero_le _, fun _ h => by omega, Fr.refl _ _⟩ rfl ?_
  rintro i w1 ⟨hi, hok, F⟩
  refine r_if (fun h1 => ?_) (fun h1 => ?_)
  · obtain ⟨x, hx1⟩ := gt (xs := xs) (j := i) (by omega)
    obtain ⟨y, hy1⟩ := gt (xs := ys) (j := i) (by omega)
    obtain ⟨ad, es, rfl, rd, e3⟩ := hx i x hx1
    obtain ⟨ad2, es2, rfl, rd2, e4⟩ := hy i y hy1
    refine r_ob ⟨by omega, by omega⟩ ?_
    refine r_ldn (rd.fr F) ?_
    refine b_as (n := 2) (cs := es) (zs := [.slice none 0 0, .slice none 0 0]) (Bx.of F) Try.zeroValue54 Try.sizeOf54 (rTick.one e3) (fun b1 w2 H => ?_) rfl rfl rfl (rTick.len e3)
    refine r_ob ⟨by omega, by omega⟩ ?_
    refine r_ldn (rd2.fr H.F) ?_
    refine b_as (n := 2) (cs := es2) (zs := [.slice none 0 0, .slice none 0 0]) H Try.zeroValue54 Try.sizeOf54 (rTick.one e4) (fun b2 w3 H => ?_) rfl rfl rfl (rTick.len e4)
    refine b_ldn H 1 rfl ?_ (rTick.len e3)
    refine b_ldn H 0 rfl ?_ (rTick.len e4)
    refine b_call H (same1_t (rTick.up H.F e3) (rTick.up H.F e4)) (fun w4 H => ?_)
    refine r_ifn (fun h2 => ?_) (fun h2 => ?_)
    · exact b_ret H (fun F => ⟨by rw [decide_eq_false (fun e => h2 (by rw [e, hy1] at hx1; cases hx1; rfl))], F⟩)
    · refine r_ar (by omega) ?_
      refine r_ag (i + 1) ⟨by omega, fun j hj => ?_, H.F⟩ (by omega) rfl
      rcases Nat.lt_or_ge j i with h' | h'
      · exact hok j h'
      · obtain rfl : j = i := by omega
        rw [hx1, hy1, h2]
  · obtain rfl : i = xs.length := by omega
    exact r_brk (r_ret ⟨by rw [decide_eq_true (eq_all hl hok)], F⟩)
theorem Same_t {X Y : Option Addr} {cp cq : Nat} {xs ys : List GTick} (hx : Rw rTick w X xs) (hy : Rw rTick w Y ys) (hb : xs.length ≤ big) : Cz Try.prog 14 [.slice X xs.length cp, .slice Y ys.length cq] w (fun r w' => r = B (decide (xs = ys)) ∧ Fr [] w w') Z := by
  refine go mixed Try.func14 Try.call14 rfl (Tr.e14 _ _) ?_
  refine r_call (EqTT_t hx hy hb) ?_
  rintro _ w2 ⟨rfl, f⟩
  exact r_ret ⟨rfl, f⟩
end
end Go.Proofs.Ytbljpcikcefkiaa.Hd

/- The law's own settings, and what it asks of them, over trees. -/
set_option linter.unusedVariables false
set_option linter.unusedSimpArgs false
namespace Go.Proofs.Ytbljpcikcefkiaa.Hd
open Go Go.RowKit Go.Proofs.Ytbljpcikcefkiaa.Sx
open Go.Proofs.Ytbljpcikcefkiaa.Bi (mixed take_s Has_t rHas_t)
open Go.Proofs.Ytbljpcikcefkiaa.Cf
def twoC : GConf := ⟨[3, 2], [⟨0, 0⟩, ⟨1, 0⟩], [], [], [0, 1], 2, 1, 1⟩
def tk0 : GTick := ⟨[[1], [2]], [5]⟩
theorem two_wf : Wf twoC := by intro z hz; simp [twoC] at hz; omega
theorem two_0 : lowE twoC 0 = 0 := by decide +kernel
theorem two_1 : lowE twoC 1 = 0 := by decide +kernel
theorem two_v : lowV twoC 1 = 3#64 := by decide +kernel
theorem two_m : mskL twoC 0 [tk0, tk0] = [⟨[[1]], [5]⟩, ⟨[], []⟩] := by decide +kernel
section
variable {Z : ZP} {w : World}
theorem bsF (w : World) : (Instr.buildSlice 22 2 [(0, (.int .u64 3)), (1, (.int .u64 2))].toArray).run Try.prog w = .ok (.slice (some ⟨w.heap.size, 0, none⟩) 2 2) (w.alloc (.cells [Value.int .u64 3, Value.int .u64 2].toArray 33)) := by kernel_rfl
theorem bsT (w : World) : (Instr.buildSlice 23 2 [(0, (.agg [I 0, I 0].toArray)), (1, (.agg [I 1, I 0].toArray))].toArray).run Try.prog w = .ok (.slice (some ⟨w.heap.size, 0, none⟩) 2 2) (w.alloc (.cells [I 0, I 0, I 1, I 0].toArray 75)) := by kernel_rfl
theorem bsI (w : World) : (Instr.buildSlice 26 2 [(0, (I 0)), (1, (I 1))].toArray).run Try.prog w = .ok (.slice (some ⟨w.heap.size, 0, none⟩) 2 2) (w.alloc (.cells [I 0, I 1].toArray 3)) := by kernel_rfl
theorem two_t : Cz Try.prog 15 [] w (fun r w' => ∃ cs, r = .agg cs.toArray ∧ rConf.r w' cs twoC ∧ Fr [] w w') Z := by
  refine go mixed Try.func15 Try.call15 rfl Tr.e15 ?_
  refine r_al (zs := [.slice none 0 0, .slice none 0 0, .slice none 0 0, .slice none 0 0, .slice none 0 0, I 0, I 0, I 0]) Try.zeroValue28 (fun o w1 ho Oo f1 => ?_)
  refine r_new (bsF _) (fun b2 w2 h2 B2 f2 => ?_)
  subst h2
  refine r_new (bsT _) (fun b3 w3 h3 B3 f3 => ?_)
  subst h3
  refine r_new (bsI _) (fun b4 w4 h4 B4 f4 => ?_)
  subst h4
  have l1 := Oo.lt
  have s2 := f2.size
  have s3 := f3.size
  refine r_stn (n := 8) (cs := [.slice (some ⟨w1.heap.size, 0, none⟩) 2 2, .slice (some ⟨w2.heap.size, 0, none⟩) 2 2, .slice none 0 0, .slice none 0 0, .slice (some ⟨w3.heap.size, 0, none⟩) 2 2, I 2, I 1, I 1]) (((Oo.fr0 f2).fr0 f3).fr0 f4) Try.sizeOf28 (by intro v hv; simp at hv; rcases hv with rfl | rfl | rfl | rfl | rfl | rfl <;> rfl) (fun w5 B5 f5 => ?_)
  refine r_ldn B5.rd ?_
  refine r_ret ⟨_, rfl, mConf (x := twoC) ⟨Nat.le_refl _, by simp [big, twoC, tk0], Rw.blk (((B2.fr0 f3).fr0 f4).fr f5 (by simp; omega)) ?_⟩ ⟨Nat.le_refl _, by simp [big, twoC, tk0], Rw.blk ((B3.fr0 f4).fr f5 (by simp; omega)) ?_⟩ ⟨Nat.le_refl _, by simp [big, twoC, tk0], Rw.nil⟩ ⟨Nat.le_refl _, by simp [big, twoC, tk0], Rw.nil⟩ ⟨Nat.le_refl _, by simp [big, twoC, tk0], Rw.blk (B4.fr f5 (by simp; omega)) ?_⟩, ((f1.trans f2).trans (f3.trans f4)).trans_new f5 (fun q hq => .inr (by simp at hq; omega))⟩
  · intro j x hj
    match j with
    | 0 => cases hj; rfl
    | 1 => cases hj; rfl
    | j + 2 => cases hj
  · intro j x hj
    match j with
    | 0 => cases hj; rfl
    | 1 => cases hj; rfl
    | j + 2 => cases hj
  · intro j x hj
    match j with
    | 0 => cases hj; rfl
    | 1 => cases hj; rfl
    | j + 2 => cases hj
theorem bsB2 (a b : Nat) (w : World) : (Instr.buildSlice 52 2 [(0, (.slice (some ⟨a, 0, none⟩) 1 1)), (1, (.slice (some ⟨b, 0, none⟩) 1 1))].toArray).run Try.prog w = .ok (.slice (some ⟨w.heap.size, 0, none⟩) 2 2) (w.alloc (.cells [Value.slice (some ⟨a, 0, none⟩) 1 1, Value.slice (some ⟨b, 0, none⟩) 1 1].toArray 51)) := by kernel_rfl
theorem bsTk (A1 A2 B1 B2 : Option Addr) (m n m' n' c d c' d' : Nat) (w : World) : (Instr.buildSlice 29 2 [(0, (.agg [.slice A1 m c, .slice A2 n d].toArray)), (1, (.agg [.slice B1 m' c', .slice B2 n' d'].toArray))].toArray).run Try.prog w = .ok (.slice (some ⟨w.heap.size, 0, none⟩) 2 2) (w.alloc (.cells [Value.slice A1 m c, Value.slice A2 n d, Value.slice B1 m' c', Value.slice B2 n' d'].toArray 54)) := by kernel_rfl
theorem row1 {α : Type} {e : Rl α} {w : World} {b : Nat} {T : TypeId} {cells : List Value} {x : α} (hB : Blk w b T cells) (h : e.r w cells x) : Rw e w (some ⟨b, 0, none⟩) [x] := Rw.blk hB (fun j y hj => by
  match j with
  | 0 =>
    cases hj
    rw [Nat.zero_mul, List.drop_zero, List.take_of_length_le (by rw [e.len h]; exact Nat.le_refl _)]
    exact h
  | j + 1 => cases hj)
/-- The end of the law's own question. -/
def tlA (v12 v15 : Value) : T := .call 9 [v12, (I 0), v15] fun v16 => exT 0 v16 fun v17 => exT 1 v16 fun v18 => .call 15 [] fun v20 => .call 7 [v20, (I 1)] fun v21 => exT 0 v21 fun v22 => exT 1 v21 fun v23 => biT true .eql v18 (I 0) fun v25 => gi v25 (biT true .eql v23 (I 0) fun v28 => gi v28 (biT true .eql v22 (.int .u64 3) fun v32 => gi v32 (.hv (Instr.buildSlice 51 1 [(0, (.int .u8 1))].toArray) fun v36 => .hv (Instr.buildSlice 52 1 [(0, v36)].toArray) fun v37 => .hv (Instr.buildSlice 26 1 [(0, (I 5))].toArray) fun v38 => bdT [(0, v37), (1, v38)] [(.slice none 0 0), (.slice none 0 0)] fun v39 => bdT [] [(.slice none 0 0), (.slice none 0 0)] fun v40 => .hv (Instr.buildSlice 29 2 [(0, (.agg v39.toArray)), (1, (.agg v40.toArray))].toArray) fun v41 => .call 14 [v17, v41] fun v42 => .ret v42) (.ret (B false))) (.ret (B false))) (.ret (B false))
theorem tlA_ok {w0 : World} {cs : List Value} {X : Option Addr} (F : Fr [] w0 w) (hc : rConf.r w cs twoC) (hl : Rw rTick w X [tk0, tk0]) : wp Try.prog Z (fun r w' => r = B true ∧ Fr [] w0 w') [] (tlA (.agg cs.toArray) (.slice X 2 2)) w nA nB := by
  unfold tlA
  have h2 : [tk0, tk0].length = 2 := rfl
  have hM := Mask_t (Z := ZD [] Z) (cx := 2) hc two_wf 0 hl (by rw [h2]; omega) (by rw [h2]; omega)
  rw [h2] at hM
  refine r_call hM ?_
  clear hM
  rintro _ w2 ⟨v, rfl, hv, f2⟩
  obtain ⟨Y, cy, rfl, y1, y2, y3⟩ := hv
  refine r_call two_t ?_
  rintro _ w3 ⟨cs2, rfl, hc2, f3⟩
  refine r_call (Knows_t hc2 two_wf 1) ?_
  rintro _ w4 ⟨rfl, f4⟩
  rw [two_1, two_0, two_v]
  refine r_bs1 (cs := [.int .u8 1]) Ebyte (fun b5 w5 h5 B5 f5 => ?_)
  refine r_bs1 (cs := [.slice (some ⟨b5, 0, none⟩) 1 1]) Erow (fun b6 w6 h6 B6 f6 => ?_)
  refine r_bs1 (cs := [I 5]) Bi.Eint (fun b7 w7 h7 B7 f7 => ?_)
  refine r_new (bsTk _ _ _ _ _ _ _ _ _ _ _ _ _) (fun b8 w8 h8 B8 f8 => ?_)
  subst h8
  have g5 := ((B5.fr0 f6).fr0 f7).fr0 f8
  have g6 := (B6.fr0 f7).fr0 f8
  have g7 := B7.fr0 f8
  have F8 := (((f4.trans f5).trans f6).trans f7).trans f8
  refine r_call (Same_t (ys := [⟨[[1]], [5]⟩, ⟨[], []⟩]) (y3.up (f3.trans F8)) (Rw.blk B8 ?_) y2) ?_
  · intro j x hj
    match j with
    | 0 =>
      cases hj
      exact mTick (x := ⟨[[1]], [5]⟩) ⟨Nat.le_refl _, by simp [big, twoC, tk0], row1 g6 ⟨_, 1, rfl, Nat.le_refl _, by simp [big, twoC, tk0], row1 g5 rfl⟩⟩ ⟨Nat.le_refl _, by simp [big, twoC, tk0], row1 g7 rfl⟩
    | 1 => cases hj; exact nilTick _
    | j + 2 => cases hj
  rintro _ w9 ⟨rfl, f9⟩
  refine r_ret ⟨?_, ((F.trans f2).trans (f3.trans F8)).trans f9⟩
  rw [decide_eq_true two_m]
theorem alive_t : Cz Try.prog 5 [] w (fun r w' => r = B true ∧ Fr [] w w') Z := by
  refine go mixed Try.func5 Try.call5 rfl Tr.e5 ?_
  refine r_bs1 (cs := [.int .u8 1]) Ebyte (fun b1 w1 h1 B1 f1 => ?_)
  refine r_bs1 (cs := [.int .u8 2]) Ebyte (fun b2 w2 h2 B2 f2 => ?_)
  refine r_new (bsB2 _ _ _) (fun b3 w3 h3 B3 f3 => ?_)
  subst h3
  refine r_bs1 (cs := [I 5]) Bi.Eint (fun b4 w4 h4 B4 f4 => ?_)
  have F4 := ((f1.trans f2).trans f3).trans f4
  have ht : rTick.r w4 [.slice (some ⟨w2.heap.size, 0, none⟩) 2 2, .slice (some ⟨b4, 0, none⟩) 1 1] tk0 := by
    refine mTick (x := tk0) ⟨Nat.le_refl _, by simp [big, twoC, tk0], Rw.blk (B3.fr0 f4) ?_⟩ ⟨Nat.le_refl _, by simp [big, twoC, tk0], row1 B4 rfl⟩
    intro j x hj
    match j with
    | 0 => cases hj; exact ⟨_, 1, rfl, Nat.le_refl _, by simp [big, twoC, tk0], row1 (((B1.fr0 f2).fr0 f3).fr0 f4) rfl⟩
    | 1 => cases hj; exact ⟨_, 1, rfl, Nat.le_refl _, by simp [big, twoC, tk0], row1 ((B2.fr0 f3).fr0 f4) rfl⟩
    | j + 2 => cases hj
  refine r_as (cs := [.slice (some ⟨w2.heap.size, 0, none⟩) 2 2, .slice (some ⟨b4, 0, none⟩) 1 1]) (zs := [.slice none 0 0, .slice none 0 0]) (n := 2) (fun v1 w5 h5 B5 f5 => ?_) Try.zeroValue54 Try.sizeOf54 (rTick.one ht)
  refine r_dr (fun w6 f6 => ?_)
  have B6 := B5.fr0 f6
  have F6 := (F4.trans f5).trans f6
  have ht6 := rTick.up (f5.trans f6) ht
  refine r_ldn B6.rd ?_
  refine r_ldn B6.rd ?_
  have row : ∀ {w' : World} {b : Nat}, Fr [] w6 w' → Blk w' b 54 [.slice (some ⟨w2.heap.size, 0, none⟩) 2 2, .slice (some ⟨b4, 0, none⟩) 1 1, .slice (some ⟨w2.heap.size, 0, none⟩) 2 2, .slice (some ⟨b4, 0, none⟩) 1 1] → Rw rTick w' (some ⟨b, 0, none⟩) [tk0, tk0] := fun f hB => Rw.blk hB (fun j x hj => by
    match j with
    | 0 => cases hj; exact rTick.up f ht6
    | 1 => cases hj; exact rTick.up f ht6
    | j + 2 => cases hj)
  refine ⟨?_, ?_⟩
  · refine r_call two_t ?_
    rintro _ w7 ⟨cs, rfl, hc, f7⟩
    refine r_chkn (B6.fr0 f7).rd (r_chkn (B6.fr0 f7).rd ?_)
    refine r_new (bsTk _ _ _ _ _ _ _ _ _ _ _ _ _) (fun b8 w8 h8 B8 f8 => ?_)
    subst h8
    exact tlA_ok ((F6.trans f7).trans f8) (rConf.up f8 hc) (row (f7.trans f8) B8)
  · refine r_new (bsTk _ _ _ _ _ _ _ _ _ _ _ _ _) (fun b8 w8 h8 B8 f8 => ?_)
    subst h8
    refine r_call two_t ?_
    rintro _ w7 ⟨cs, rfl, hc, f7⟩
    refine r_chkn ((B6.fr0 f8).fr0 f7).rd (r_chkn ((B6.fr0 f8).fr0 f7).rd ?_)
    exact tlA_ok ((F6.trans f8).trans f7) hc (row (f8.trans f7) (B8.fr0 f7))
end
end Go.Proofs.Ytbljpcikcefkiaa.Hd
