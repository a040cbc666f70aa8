/- Scripts swapped; scripts compared by the reference: over trees. -/
import Derived.Test.YtbljpcikcefkiaaQMi
import Derived.Laws.BytesArg
set_option linter.unusedVariables false
set_option linter.unusedSimpArgs false
namespace Go.Proofs.Ytbljpcikcefkiaa.Hd
open Go Go.RowKit Go.Proofs.Ytbljpcikcefkiaa.Sx
open Go.Proofs.Ytbljpcikcefkiaa.Bi (mixed take_s Has_t rHas_t)
open Go.WideShapes (bytes_inj)
open Go.Proofs.Ytbljpcikcefkiaa.Cf
theorem str_inj {a b : Bs} (ha : WfB a) (hb : WfB b) (h : strOfNums a = strOfNums b) : a = b := by
  have h1 : a.map (fun n => UInt8.ofNat n.toNat) = b.map (fun n => UInt8.ofNat n.toNat) := by
    have := congrArg (fun s : ByteArray => s.data.toList) h
    simpa [strOfNums] using this
  apply List.ext_getElem?
  intro i
  have h2 := congrArg (fun l => l[i]?) h1
  simp only [List.getElem?_map] at h2
  cases ea : a[i]? with
  | none =>
    cases eb : b[i]? with
    | none => rfl
    | some y => rw [ea, eb] at h2; simp at h2
  | some x =>
    cases eb : b[i]? with
    | none => rw [ea, eb] at h2; simp at h2
    | some y =>
      rw [ea, eb] at h2
      simp only [Option.map_some, Option.some.injEq] at h2
      have hx := ha.at ea
      have hy := hb.at eb
      have h3 := congrArg UInt8.toNat h2
      rw [UInt8.toNat_ofNat', UInt8.toNat_ofNat'] at h3
      congr 1
      omega
section
variable {P : Program} {Z : ZP} {R : Value → World → Prop} {w : World} {A : List Nat → List Value → World → Prop} {B : List Nat → Nat → List Value → World → Prop} {ds : List Nat} {k : Value → T}
theorem r_str {s d e : TypeId} {X : Option Addr} {cp n : Nat} {b : Bs} (hs : P.underlying s = some (.slice e)) (he : P.underlying e = some (.int .u8)) (hd : P.underlying d = some .string) (hr : Rw (rI .u8) w X b) (hn : n = b.length) (hk : wp P Z R ds (k (.string (strOfNums b))) w A B) : wp P Z R ds (.hv (convert s d (.slice X n cp)) k) w A B := by
  subst hn
  refine ⟨_, w, ?_, hk⟩
  cases X with
  | none =>
    have hb : b = [] := by
      cases b with
      | nil => rfl
      | cons z r => obtain ⟨a, _, h, _⟩ := hr 0 z rfl; cases h
    subst hb
    exact run_convert_bytes_nil w s e hs he _ _ d hd
  | some a =>
    have hl : (loadCells a b.length).run P w = .ok (b.map (Value.int .u8)).toArray w := by
      have := run_loadCells_list (P := P) w a (b.map (Value.int .u8)) (fun j v hj => by
        rw [List.getElem?_map] at hj
        cases hz : b[j]? with
        | none => rw [hz] at hj; cases hj
        | some z =>
          rw [hz] at hj
          cases hj
          obtain ⟨a', es, h1, h2, h3⟩ := hr j z hz
          cases h1
          obtain rfl := h3
          have := cell1 h2
          rwa [show j * (rI .u8).n = j from Nat.mul_one j, addA_eq] at this)
      simpa using this
    rw [run_convert_bytes_string w s d e _ _ cp hs he hd, run_bytesToString w _ _ cp b hl, foldl_push_bytes]
    simp [strOfNums, ByteArray.empty, ByteArray.emptyWithCapacity]
    rfl
theorem run_neS {t : TypeId} (hu : P.underlying t = some .string) (x y : Operand) (a b : ByteArray) (w : World) : (do eqGuard .neq t x y (.string a) (.string b); binOp .neq t (.string a) (.string b) : Sem Value).run P w = .ok (.bool (decide (¬ a = b))) w := by
  have e : (a.toList == b.toList) = decide (a = b) := by
    by_cases h : a = b
    · subst h; simp
    · rw [decide_eq_false h]
      have : a.toList ≠ b.toList := fun e => h (by
        rw [ByteArray.toList_eq, ByteArray.toList_eq] at e
        exact bytes_inj e)
      simpa using this
  simp only [Sem.run_bind, binOp_string_neq, e, Sem.run_pure]
  simp [eqGuard]
end
section
variable {Z : ZP} {w : World}
def swI (c : GConf) (s : BitVec 64) (b : List GTick) (i : Nat) (t : GTick) : GTick := if Bt.has s (ownC c i) = true then t else tk b i
def swL (c : GConf) (t : Int) (a b : List GTick) : List GTick := if sE c t [a, b] = 0 then a.mapIdx (swI c (lowV c t) b) else []
theorem swap1_t {w0 : World} {cs ts : List Value} {c : GConf} {t : GTick} {b : List GTick} {Y : Option Addr} {cy v10 v7 T7 : Nat} {s : BitVec 64} {n : Nat} (F0 : Fr [] w0 w) (hc : rConf.r w cs c) (C : Cok c) (ht : rTick.r w0 ts t) (B10 : Blk w v10 57 (lk cs s)) (B7 : Blk w v7 T7 [.slice Y b.length cy]) (hb : Rw rTick w0 Y b) (hn : n < b.length) (hbl : b.length ≤ 1000000) : Cz Try.prog 25 [I n, .agg ts.toArray, Pt v10 0, Pt v7 0] w (fun r w' => ∃ us, r = .agg us.toArray ∧ rTick.r w0 us (swI c s b n t) ∧ Fr [] w w') Z := by
  have hlc := rConf.len hc
  have hlk : (lk cs s).length = 9 := by unfold lk; rw [List.length_append, hlc]; rfl
  have hlt := rTick.len ht
  refine go mixed Try.func25 Try.call25 rfl (Tr.e25 _ _ _ _) ?_
  refine b_box (Bx.nil w) (fun v5 w1 H => ?_)
  refine b_al (zs := [.slice none 0 0, .slice none 0 0]) H Try.zeroValue54 (fun v6 w2 H => ?_)
  refine r_ldn ((B10.fr0 H.F).rd hlk) ?_
  refine b_call H (lookOwner_t (rConf.up H.F hc) C s (n := n) (by omega)) (fun w3 H => ?_)
  refine r_ifb (fun h => ?_) (fun h => ?_)
  · refine b_ldn H 1 rfl ?_ hlt
    refine b_stn (cs := ts) (n := 2) H 0 rfl Try.sizeOf54 (rTick.one ht) (fun w4 H => ?_) rfl hlt
    refine b_ldn H 0 rfl ?_ hlt
    exact b_ret H (fun F => ⟨_, rfl, by unfold swI; rw [if_pos h]; exact ht, F⟩)
  · obtain ⟨y, hy⟩ := gt (xs := b) (j := n) hn
    obtain ⟨ad, es, rfl, rd, e3⟩ := hb n y hy
    refine r_ld ((B7.fr0 H.F).cell (o := 0) rfl) ?_
    refine r_ob ⟨by omega, by omega⟩ ?_
    refine r_ldn ((rd.fr F0).fr H.F) ?_
    refine b_stn (cs := es) (n := 2) H 0 rfl Try.sizeOf54 (rTick.one e3) (fun w4 H => ?_) rfl (rTick.len e3)
    refine b_ldn H 0 rfl ?_ (rTick.len e3)
    exact b_ret H (fun F => ⟨_, rfl, by unfold swI tk; rw [if_neg (by rw [h]; simp), hy]; exact e3, F⟩)
theorem Swap_t {cs : List Value} {c : GConf} (hc : rConf.r w cs c) (hw : Wf c) (t : Int) {X Y : Option Addr} {cx cy : Nat} {a b : List GTick} (ha : Rw rTick w X a) (hb : Rw rTick w Y b) (ka : a.length ≤ cx) (kb : b.length ≤ cy) (la : a.length ≤ 1000000) (lb : b.length ≤ 1000000) : Cz Try.prog 11 [.agg cs.toArray, I t, .slice X a.length cx, .slice Y b.length cy] w (fun r w' => ∃ v, r = .tuple #[v, I (sE c t [a, b])] ∧ Sl rTick w' v (swL c t a b) ∧ Fr [] w w') Z := by
  have hlc := rConf.len hc
  have hc1 := rConf.one hc
  refine go mixed Try.func11 Try.call11 rfl (Tr.e11 _ _ _ _) ?_
  refine b_box (Bx.nil w) (fun b1 w1 H => ?_)
  refine b_box (cs := [.slice Y b.length cy]) H (fun v7 w2 H => ?_)
  refine b_ldn H 1 rfl ?_ hlc
  refine b_ld H 0 rfl rfl ?_
  refine r_new (bs2 X Y a.length b.length cx cy _) (fun q w3 hq Bq f3 => ?_)
  subst hq
  replace H := H.fr f3
  refine r_call (looks_t (rConf.up H.F hc) hw t (ls := [a, b]) (Rw.blk Bq (fun j x hj => ?_)) (by simp) (fun l hl => by simp at hl; rcases hl with rfl | rfl <;> omega)) ?_
  · match j with
    | 0 => cases hj; exact ⟨X, cx, rfl, ka, by simp only [big]; omega, ha.up H.F⟩
    | 1 => cases hj; exact ⟨Y, cy, rfl, kb, by simp only [big]; omega, hb.up H.F⟩
    | j + 2 => cases hj
  rintro _ w4 ⟨rfl, f4⟩
  replace H := H.fr f4
  by_cases hs : sE c t [a, b] = 0
  · have eR : swL c t a b = a.mapIdx (swI c (lowV c t) b) := by unfold swL; rw [if_pos hs]
    obtain ⟨hok, hlen⟩ := sE_two hs
    have C := cok hok
    rw [hs, if_pos rfl, eR]
    have h1 : ∀ v ∈ lk cs (lowV c t), v.oneCell' = true := fun v hv => by
      rcases List.mem_append.1 hv with hv | hv
      · exact hc1 v hv
      · simp at hv; subst hv; rfl
    have hl9 : (lk cs (lowV c t)).length = 9 := by unfold lk; rw [List.length_append, hlc]; rfl
    refine b_as (cs := lk cs (lowV c t)) (zs := zLk) (n := 9) H Try.zeroValue57 Try.sizeOf57 h1 (fun k w5 H => ?_) rfl rfl rfl hl9
    refine r_call (each_t (g := 25) (pre := []) (cap := [Pt k 0, Pt v7 0]) (f := swI c (lowV c t) b) (ha.up H.F) la (fun Z i x vs w6 S hx hr F hS => ?_)) ?_
    · have hi := (List.getElem?_eq_some_iff.1 hx).1
      have H6 := H.fr F
      refine (swap1_t (Z := Z) F (rConf.up H6.F hc) C hr (H6.blk (i := 0) rfl) (H6.blk (i := 1) rfl) (hb.up H.F) (n := i) (by omega) lb).mono ?_
      rintro r w' ⟨us, h1, h2, h3⟩
      exact ⟨us, h1, rTick.off h2 (F.trans h3) (fun q hq => (hS q hq).1), h3⟩
    · rintro r w6 ⟨hr, f6⟩
      replace H := H.fr f6
      exact b_ret H (fun F => ⟨_, rfl, hr, F⟩)
  · have eR : swL c t a b = [] := by unfold swL; rw [if_neg hs]
    rw [if_neg hs, eR]
    refine b_as (cs := zLk) (zs := zLk) (n := 9) H Try.zeroValue57 Try.sizeOf57 (by intro v hv; simp [zLk] at hv; rcases hv with rfl | rfl | rfl <;> rfl) (fun k w5 H => ?_)
    refine r_if (fun h5 => ?_) (fun h5 => absurd hs h5)
    exact b_ret H (fun F => ⟨_, rfl, Sl.nil, F⟩)
end
end Go.Proofs.Ytbljpcikcefkiaa.Hd

/- Scripts compared by the reference, over trees; what masks and swaps do to likeness, plain. -/
set_option linter.unusedVariables false
set_option linter.unusedSimpArgs false
namespace Go.Proofs.Ytbljpcikcefkiaa.Hd
open Go Go.RowKit Go.Proofs.Ytbljpcikcefkiaa.Sx
open Go.Proofs.Ytbljpcikcefkiaa.Bi (mixed take_s Has_t rHas_t)
open Go.Proofs.Ytbljpcikcefkiaa.Cf
theorem tick_ext {x y : GTick} (h1 : x.bytes = y.bytes) (h2 : x.picks = y.picks) : x = y := by cases x; cases y; simp_all
section
variable {Z : ZP} {w : World}
theorem rSame_t {X Y : Option Addr} {cx cy : Nat} {a b : List GTick} (ha : Rw rTick w X a) (hb : Rw rTick w Y b) (hl : a.length ≤ big) (wa : WfS a) (wb : WfS b) : Cz Try.prog 13 [.slice X a.length cx, .slice Y b.length cy] w (fun r w' => r = B (decide (a = b)) ∧ Fr [] w w') Z := by
  refine go mixed Try.func13 Try.call13 rfl (Tr.e13 _ _) ?_
  simp only [big] at hl
  refine r_if (fun h => ?_) (fun h => ?_)
  · exact r_ret ⟨by rw [decide_eq_false (fun e => h (by rw [e]))], Fr.refl _ _⟩
  have hlen : a.length = b.length := by omega
  refine r_loop (fun (i : Nat) => [I (i : Int), B false]) (fun i w' => i ≤ a.length ∧ (∀ j, j < i → a[j]? = b[j]?) ∧ Fr [] w w') (fun i => a.length - i) 0 ⟨Nat.zero_le _, fun _ h => by omega, Fr.refl _ _⟩ rfl ?_
  rintro i w1 ⟨hi, hok, F⟩
  refine r_if (fun h1 => ?_) (fun h1 => ?_)
  · refine r_dr (fun w2 f2 => ?_)
    have F2 := F.trans f2
    obtain ⟨x, hx⟩ := gt (xs := a) (j := i) (by omega)
    obtain ⟨y, hy⟩ := gt (xs := b) (j := i) (by omega)
    obtain ⟨ad, es, rfl, rd, e3⟩ := ha i x hx
    obtain ⟨ad2, es2, rfl, rd2, e4⟩ := hb i y hy
    obtain ⟨T1, d1, T2, d2, rfl, m1, m2⟩ := oTick e3
    obtain ⟨S1, e1, S2, e2, rfl, n1, n2⟩ := oTick e4
    have no : ¬ x = y → ∀ {w' : World}, Fr [] w w' → (B false = B (decide (a = b)) ∧ Fr [] w w') := fun hne w' f => ⟨by rw [decide_eq_false (fun e => hne (by rw [e, hy] at hx; cases hx; rfl))], f⟩
    have x0 : ∀ {w' : World}, Fr [] w w' → w'.cell? (addA (addA ad (((i : Nat) : Int).toNat * 2)) 0) = some (.slice T1 x.bytes.length d1) := fun f => (rd.fr f).2 0 _ rfl
    have x1 : ∀ {w' : World}, Fr [] w w' → w'.cell? (addA (addA ad (((i : Nat) : Int).toNat * 2)) 1) = some (.slice T2 x.picks.length d2) := fun f => (rd.fr f).2 1 _ rfl
    have y0 : ∀ {w' : World}, Fr [] w w' → w'.cell? (addA (addA ad2 (((i : Nat) : Int).toNat * 2)) 0) = some (.slice S1 y.bytes.length e1) := fun f => (rd2.fr f).2 0 _ rfl
    have y1 : ∀ {w' : World}, Fr [] w w' → w'.cell? (addA (addA ad2 (((i : Nat) : Int).toNat * 2)) 1) = some (.slice S2 y.picks.length e2) := fun f => (rd2.fr f).2 1 _ rfl
    have ob1 : 0 ≤ (i : Int) ∧ (i : Int) < a.length := ⟨by omega, by omega⟩
    have ob2 : 0 ≤ (i : Int) ∧ (i : Int) < b.length := ⟨by omega, by omega⟩
    refine r_ob ob1 ?_
    refine r_ld (x0 F2) ?_
    refine r_ob ob2 ?_
    refine r_ld (y0 F2) ?_
    refine r_if (fun h3 => r_ret (no (fun e => h3 (by rw [e])) F2)) (fun h3 => ?_)
    refine r_ob ob1 ?_
    refine r_ld (x1 F2) ?_
    refine r_ob ob2 ?_
    refine r_ld (y1 F2) ?_
    refine r_if (fun h4 => r_ret (no (fun e => h4 (by rw [e])) F2)) (fun h4 => ?_)
    have lb : x.bytes.length = y.bytes.length := by omega
    have lp : x.picks.length = y.picks.length := by omega
    have kb := m1.2.1
    have kp := m2.2.1
    simp only [big] at kb kp
    refine r_loop (fun (k : Nat) => [I (k : Int), B false]) (fun k w' => k ≤ x.bytes.length ∧ (∀ j, j < k → x.bytes[j]? = y.bytes[j]?) ∧ Fr [] w w') (fun k => x.bytes.length - k) 0 ⟨Nat.zero_le _, fun _ h => by omega, F2⟩ rfl ?_
    rintro k w3 ⟨hk, hkb, F3⟩
    refine r_ob ob1 ?_
    refine r_ld (x0 F3) ?_
    refine r_if (fun h5 => ?_) (fun h5 => ?_)
    · refine r_dr (fun w4 f4 => ?_)
      have F4 := F3.trans f4
      obtain ⟨p, hp⟩ := gt (xs := x.bytes) (j := k) (by omega)
      obtain ⟨q, hq⟩ := gt (xs := y.bytes) (j := k) (by omega)
      have wp' := wa x (List.mem_of_getElem? hx) p (List.mem_of_getElem? hp)
      have wq' := wb y (List.mem_of_getElem? hy) q (List.mem_of_getElem? hq)
      obtain ⟨a3, es3, rfl, rd3, e5⟩ := m1.2.2 k p hp
      obtain ⟨P1, c1, rfl, p1, p2, p3⟩ := e5
      obtain ⟨a4, es4, rfl, rd4, e6⟩ := n1.2.2 k q hq
      obtain ⟨Q1, c2, rfl, q1, q2, q3⟩ := e6
      have cp1 := cell1 (rd3.fr F4)
      have cq1 := cell1 (rd4.fr F4)
      refine r_ob ob1 ?_
      refine r_ld (x0 F4) ?_
      refine r_ob ⟨by omega, by omega⟩ ?_
      refine r_ld cp1 ?_
      refine r_ob ob2 ?_
      refine r_ld (y0 F4) ?_
      refine r_ob ⟨by omega, by omega⟩ ?_
      refine r_ld cq1 ?_
      have fin : ∀ {A' : List Nat → List Value → World → Prop} {t u : T}, (p ≠ q → wp Try.prog Z (fun r w' => r = B (decide (a = b)) ∧ Fr [] w w') [] t w4 A' nB) → True := fun _ => trivial
      refine ⟨?_, ?_⟩
      · refine r_str (e := 5) (by kernel_rfl) (by kernel_rfl) (by kernel_rfl) (p3.up F4) rfl ?_
        refine r_chk (y0 F4) (r_chk cq1 ?_)
        refine r_str (e := 5) (by kernel_rfl) (by kernel_rfl) (by kernel_rfl) (q3.up F4) rfl ?_
        refine r_chk (x0 F4) (r_chk cp1 ?_)
        refine ⟨_, fun w' => run_neS (by kernel_rfl) _ _ _ _ w', ?_⟩
        refine r_if (fun h6 => r_ret (no (fun e => h6 (by subst e; rw [hp] at hq; cases hq; rfl)) F4)) (fun h6 => ?_)
        have epq := str_inj wp' wq' (Classical.not_not.1 h6)
        refine r_ar (by omega) ?_
        refine r_ag (k + 1) ⟨by omega, fun j hj => ?_, F4⟩ (by omega) rfl
        rcases Nat.lt_or_ge j k with h' | h'
        · exact hkb j h'
        · obtain rfl : j = k := by omega
          rw [hp, hq, epq]
      · refine r_str (e := 5) (by kernel_rfl) (by kernel_rfl) (by kernel_rfl) (q3.up F4) rfl ?_
        refine r_chk (x0 F4) (r_chk cp1 ?_)
        refine r_str (e := 5) (by kernel_rfl) (by kernel_rfl) (by kernel_rfl) (p3.up F4) rfl ?_
        refine r_chk (y0 F4) (r_chk cq1 ?_)
        refine ⟨_, fun w' => run_neS (by kernel_rfl) _ _ _ _ w', ?_⟩
        refine r_if (fun h6 => r_ret (no (fun e => h6 (by subst e; rw [hp] at hq; cases hq; rfl)) F4)) (fun h6 => ?_)
        have epq := str_inj wp' wq' (Classical.not_not.1 h6)
        refine r_ar (by omega) ?_
        refine r_ag (k + 1) ⟨by omega, fun j hj => ?_, F4⟩ (by omega) rfl
        rcases Nat.lt_or_ge j k with h' | h'
        · exact hkb j h'
        · obtain rfl : j = k := by omega
          rw [hp, hq, epq]
    · obtain rfl : k = x.bytes.length := by omega
      have eb : x.bytes = y.bytes := eq_all lb hkb
      refine r_brk ?_
      refine r_loop (fun (k : Nat) => [I (k : Int), B false]) (fun k w' => k ≤ x.picks.length ∧ (∀ j, j < k → x.picks[j]? = y.picks[j]?) ∧ Fr [] w w') (fun k => x.picks.length - k) 0 ⟨Nat.zero_le _, fun _ h => by omega, F3⟩ rfl ?_
      rintro k w4 ⟨hk2, hkp, F4⟩
      refine r_ob ob1 ?_
      refine r_ld (x1 F4) ?_
      refine r_if (fun h6 => ?_) (fun h6 => ?_)
      · refine r_dr (fun w5 f5 => ?_)
        have F5 := F4.trans f5
        obtain ⟨p, hp⟩ := gt (xs := x.picks) (j := k) (by omega)
        obtain ⟨q, hq⟩ := gt (xs := y.picks) (j := k) (by omega)
        obtain ⟨a3, es3, rfl, rd3, e5⟩ := m2.2.2 k p hp
        obtain rfl := e5
        obtain ⟨a4, es4, rfl, rd4, e6⟩ := n2.2.2 k q hq
        obtain rfl := e6
        refine r_ob ob1 ?_
        refine r_ld (x1 F5) ?_
        refine r_ob ⟨by omega, by omega⟩ ?_
        refine r_ld (cell_int (rd3.fr F5)) ?_
        refine r_ob ob2 ?_
        refine r_ld (y1 F5) ?_
        refine r_ob ⟨by omega, by omega⟩ ?_
        refine r_ld (cell_int (rd4.fr F5)) ?_
        refine r_if (fun h7 => r_ret (no (fun e => h7 (by subst e; rw [hp] at hq; cases hq; rfl)) F5)) (fun h7 => ?_)
        refine r_ar (by omega) ?_
        refine r_ag (k + 1) ⟨by omega, fun j hj => ?_, F5⟩ (by omega) rfl
        rcases Nat.lt_or_ge j k with h' | h'
        · exact hkp j h'
        · obtain rfl : j = k := by omega
          rw [hp, hq, Classical.not_not.1 h7]
      · obtain rfl : k = x.picks.length := by omega
        refine r_brk ?_
        refine r_ar (by omega) ?_
        refine r_ag (i + 1) ⟨by omega, fun j hj => ?_, F4⟩ (by omega) rfl
        rcases Nat.lt_or_ge j i with h' | h'
        · exact hok j h'
        · obtain rfl : j = i := by omega
          rw [hx, hy, tick_ext eb (eq_all lp hkp)]
  · obtain rfl : i = a.length := by omega
    exact r_brk (r_ret ⟨by rw [decide_eq_true (eq_all hlen hok)], F⟩)
end
/-! ### plain -/
theorem split_take (q : Nat) : ∀ b : Bs, split q (b.take (16 * q)) = split q b := by
  induction q with
  | zero => intro b; rfl
  | succ q ih =>
    intro b
    unfold split
    by_cases h : b.length = 0
    · rw [if_pos h, if_pos (by rw [List.length_take]; omega)]
    · rw [if_neg h, if_neg (by rw [List.length_take]; omega), List.take_take, show min 16 (16 * (q + 1)) = 16 by omega, List.drop_take, show 16 * (q + 1) - 16 = 16 * q by omega, ih]
theorem asked_no {c : GConf} {t : GTick} {o : Nat} (h : ¬ (o : Int) < t.bytes.length) : asked c t o = [] := by unfold asked; rw [if_neg (fun hh => h hh.2)]
theorem asked_at {c : GConf} {t : GTick} {o : Nat} {bo : Bs} (h : t.bytes[o]? = some bo) : asked c t o = (split c.requests.toNat bo).map ask1 := by
  have := (List.getElem?_eq_some_iff.1 h).1
  unfold asked
  rw [if_pos ⟨by omega, by omega⟩, Int.toNat_natCast, h]; rfl
theorem msk_bytes (c : GConf) (o : Nat) (t : GTick) : (mskT c o t).bytes = if (o : Int) < t.bytes.length ∧ 0 < ((t.bytes[o]?).getD []).length then List.replicate o [] ++ [((t.bytes[o]?).getD []).take (16 * c.requests).toNat] else [] := by
  unfold mskT
  simp only [Int.toNat_natCast]
theorem msk_asked {c : GConf} (C : Cok c) {o : Nat} (t : GTick) : asked c (mskT c o t) o = asked c t o := by
  have hr := C.req
  have e16 : (16 * c.requests).toNat = 16 * c.requests.toNat := by omega
  have hb := msk_bytes c o t
  by_cases h : (o : Int) < t.bytes.length
  · obtain ⟨bo, hbo⟩ := gt (xs := t.bytes) (j := o) (by omega)
    rw [hbo, Option.getD_some] at hb
    rw [asked_at hbo]
    by_cases h0 : 0 < bo.length
    · rw [if_pos ⟨h, h0⟩] at hb
      rw [asked_at (bo := bo.take (16 * c.requests).toNat) (by rw [hb, List.getElem?_append_right (by simp)]; simp), e16, split_take]
    · rw [if_neg (fun hh => h0 hh.2)] at hb
      rw [asked_no (by rw [hb]; simp), split_nil _ (by omega)]; rfl
  · rw [if_neg (fun hh => h hh.1)] at hb
    rw [asked_no (by rw [hb]; simp), asked_no h]
theorem pk_take (t : GTick) (bs : List Bs) {n i : Nat} (h : i < n) : pk ⟨bs, t.picks.take n⟩ i = pk t i := by
  unfold pk
  dsimp only
  rw [List.getElem?_take, if_pos h]
theorem msk_al {c : GConf} (C : Cok c) {o : Nat} (a b : GTick) : al c o (mskT c o a) (mskT c o b) = al c o a b ∧ al c o a (mskT c o a) = true := by
  have e1 : ∀ (t : GTick) i, i < nb c → pk (mskT c o t) i = pk t i := fun t i hi => pk_take t _ hi
  unfold al
  rw [msk_asked C, msk_asked C]
  refine ⟨?_, ?_⟩
  · congr 1
    apply Bool.eq_iff_iff.2
    rw [List.all_eq_true, List.all_eq_true]
    constructor
    · intro h i hi
      have := h i hi
      rwa [e1 a i (List.mem_range.1 hi), e1 b i (List.mem_range.1 hi)] at this
    · intro h i hi
      rw [e1 a i (List.mem_range.1 hi), e1 b i (List.mem_range.1 hi)]
      exact h i hi
  · rw [decide_eq_true rfl, Bool.and_true, List.all_eq_true]
    intro i hi
    rw [e1 a i (List.mem_range.1 hi)]
    exact decide_eq_true rfl
theorem al_self (c : GConf) (o : Int) (a : GTick) : al c o a a = true := by
  unfold al
  simp
theorem msk_msk {c : GConf} (C : Cok c) {o : Nat} (t : GTick) : mskT c o (mskT c o t) = mskT c o t := by
  have hr := C.req
  apply tick_ext
  · unfold mskT
    dsimp only
    simp only [Int.toNat_natCast]
    by_cases h : (o : Int) < t.bytes.length ∧ 0 < ((t.bytes[o]?).getD []).length
    · rw [if_pos h]
      have e : (List.replicate o ([] : Bs) ++ [((t.bytes[o]?).getD []).take (16 * c.requests).toNat])[o]? = some (((t.bytes[o]?).getD []).take (16 * c.requests).toNat) := by
        rw [List.getElem?_append_right (by simp)]; simp
      rw [e, Option.getD_some, if_pos ⟨by simp; omega, by rw [List.length_take]; omega⟩, List.take_take, Nat.min_self]
    · rw [if_neg h, if_neg (by simp)]
  · show (t.picks.take (nb c)).take (nb c) = t.picks.take (nb c)
    rw [List.take_take, Nat.min_self]
theorem mskI_mskI {c : GConf} (C : Cok c) (s : BitVec 64) (i : Nat) (t : GTick) : mskI c s i (mskI c s i t) = mskI c s i t := by
  unfold mskI
  by_cases h : Bt.has s (ownC c i) = true
  · rw [if_pos h, if_pos h]
    obtain ⟨o, ho⟩ := Int.eq_ofNat_of_zero_le (C.ownC i).1
    rw [ho]
    exact msk_msk C t
  · rw [if_neg h, if_neg h]
theorem mapIdx_tk {f : Nat → GTick → GTick} {l : List GTick} {i : Nat} (h : i < l.length) : tk (l.mapIdx f) i = f i (tk l i) := by
  unfold tk
  rw [List.getElem?_mapIdx, List.getElem?_eq_getElem h]; rfl
theorem fstB_congr {f g : Nat → Bool} : ∀ {n : Nat}, (∀ i, i < n → f i = g i) → fstB f n = fstB g n := by
  intro n
  induction n with
  | zero => intro _; rfl
  | succ n ih =>
    intro h
    unfold fstB
    rw [ih (fun i hi => h i (by omega)), h n (by omega)]
theorem sE_same {c : GConf} {t : Int} {a b x y : List GTick} (h1 : a.length = x.length) (h2 : b.length = y.length) : sE c t [a, b] = sE c t [x, y] := by
  unfold sE
  simp only [List.all_cons, List.all_nil, List.getElem?_cons_zero, Option.getD_some, h1, h2]
theorem sE_eq {c : GConf} {t : Int} {a b : List GTick} (h : a.length = b.length) (h0 : lowE c t = 0) : sE c t [a, b] = 0 := by
  unfold sE
  rw [if_pos h0, if_pos (by simp; omega)]
theorem mskI_bad {c : GConf} (C : Cok c) {t : Int} {a b : List GTick} {i : Nat} (ha : i < a.length) (hb : i < b.length) : badI c t (a.mapIdx (mskI c (lowV c t))) (b.mapIdx (mskI c (lowV c t))) i = badI c t a b i := by
  unfold badI
  rw [mapIdx_tk ha, mapIdx_tk hb]
  cases h : Bt.has (lowV c t) (ownC c i) with
  | false => rfl
  | true =>
    unfold mskI
    rw [if_pos h, if_pos h]
    obtain ⟨o, ho⟩ := Int.eq_ofNat_of_zero_le (C.ownC i).1
    rw [ho, (msk_al C _ _).1]
theorem mskI_own {c : GConf} (C : Cok c) {t : Int} {a : List GTick} {i : Nat} (ha : i < a.length) : badI c t a (a.mapIdx (mskI c (lowV c t))) i = false := by
  unfold badI
  rw [mapIdx_tk ha]
  cases h : Bt.has (lowV c t) (ownC c i) with
  | false => rfl
  | true =>
    unfold mskI
    rw [if_pos h]
    obtain ⟨o, ho⟩ := Int.eq_ofNat_of_zero_le (C.ownC i).1
    rw [ho, (msk_al C _ (tk a i)).2]; rfl
theorem mask_own {c : GConf} {t : Int} (h : lowE c t = 0) (a : List GTick) : alkR c t a (mskL c t a) = true ∧ sE c t [a, mskL c t a] = 0 := by
  have C := cok (lowE_conf h).1
  have e : mskL c t a = a.mapIdx (mskI c (lowV c t)) := by unfold mskL; rw [if_pos h]
  rw [e]
  have hs := sE_eq (c := c) (t := t) (a := a) (b := a.mapIdx (mskI c (lowV c t))) (by simp) h
  refine ⟨?_, hs⟩
  unfold alkR fstR
  rw [hs, if_pos rfl, fstB_no (fun i hi => mskI_own C hi)]
  rfl
theorem mask_two {c : GConf} {t : Int} (h : lowE c t = 0) (a b : List GTick) : alkR c t (mskL c t a) (mskL c t b) = alkR c t a b ∧ sE c t [mskL c t a, mskL c t b] = sE c t [a, b] := by
  have C := cok (lowE_conf h).1
  have e : ∀ a, mskL c t a = a.mapIdx (mskI c (lowV c t)) := fun a => by unfold mskL; rw [if_pos h]
  rw [e, e]
  have hs := sE_same (c := c) (t := t) (a := a.mapIdx (mskI c (lowV c t))) (b := b.mapIdx (mskI c (lowV c t))) (x := a) (y := b) (by simp) (by simp)
  refine ⟨?_, hs⟩
  unfold alkR fstR
  rw [hs]
  by_cases h0 : sE c t [a, b] = 0
  · rw [if_pos h0, if_pos h0]
    have hl := (sE_two h0).2
    rw [List.length_mapIdx, fstB_congr (fun i hi => mskI_bad C hi (by omega))]
  · rw [if_neg h0, if_neg h0]
theorem mask_mask {c : GConf} {t : Int} (h : lowE c t = 0) (a : List GTick) : mskL c t (mskL c t a) = mskL c t a := by
  have C := cok (lowE_conf h).1
  have e : ∀ a, mskL c t a = a.mapIdx (mskI c (lowV c t)) := fun a => by unfold mskL; rw [if_pos h]
  rw [e, e]
  apply List.ext_getElem?
  intro i
  rw [List.getElem?_mapIdx, List.getElem?_mapIdx]
  cases a[i]? with
  | none => rfl
  | some x => simp [mskI_mskI C]
theorem mask_len (c : GConf) (t : Int) (a : List GTick) : (mskL c t a).length ≤ a.length := by unfold mskL; split <;> simp
theorem mask_wf {c : GConf} {t : Int} {a : List GTick} (h : WfS a) : WfS (mskL c t a) := by
  unfold mskL
  split
  · intro x hx b hb
    obtain ⟨i, hi⟩ := List.mem_iff_getElem?.1 hx
    rw [List.getElem?_mapIdx] at hi
    cases ha : a[i]? with
    | none => rw [ha] at hi; cases hi
    | some y =>
      rw [ha] at hi
      simp at hi
      subst hi
      unfold mskI at hb
      split at hb
      · unfold mskT at hb
        dsimp only at hb
        split at hb
        · rename_i hc
          rcases List.mem_append.1 hb with hb | hb
          · obtain rfl := (List.mem_replicate.1 hb).2
            intro z hz; cases hz
          · simp at hb
            subst hb
            intro z hz
            have hz' := List.mem_of_mem_take hz
            cases hbo : y.bytes[(ownC c i).toNat]? with
            | none => rw [hbo] at hz'; cases hz'
            | some bo => rw [hbo] at hz'; exact h y (List.mem_of_getElem? ha) bo (List.mem_of_getElem? hbo) z hz'
        · cases hb
      · cases hb
  · intro x hx; cases hx
/-! swaps -/
theorem swap_own {c : GConf} {t u : Int} {a b : List GTick} (h : lowE c t = 0) (hu : lowE c u = 0) (hl : a.length = b.length) (hsub : ∀ o, Bt.has (lowV c u) o = true → Bt.has (lowV c t) o = true) : alkR c u a (swL c t a b) = true ∧ sE c u [a, swL c t a b] = 0 := by
  have e : swL c t a b = a.mapIdx (swI c (lowV c t) b) := by unfold swL; rw [if_pos (sE_eq hl h)]
  rw [e]
  have hs := sE_eq (c := c) (t := u) (a := a) (b := a.mapIdx (swI c (lowV c t) b)) (by simp) hu
  refine ⟨?_, hs⟩
  unfold alkR fstR
  rw [hs, if_pos rfl, fstB_no (fun i hi => ?_)]
  · rfl
  · unfold badI
    rw [mapIdx_tk hi]
    cases h1 : Bt.has (lowV c u) (ownC c i) with
    | false => rfl
    | true =>
      unfold swI
      rw [if_pos (hsub _ h1), al_self]; rfl
theorem swap_len {c : GConf} {t : Int} {a b : List GTick} : (swL c t a b).length ≤ a.length := by unfold swL; split <;> simp
theorem swap_wf {c : GConf} {t : Int} {a b : List GTick} (ha : WfS a) (hb : WfS b) : WfS (swL c t a b) := by
  unfold swL
  split
  · intro x hx
    obtain ⟨i, hi⟩ := List.mem_iff_getElem?.1 hx
    rw [List.getElem?_mapIdx] at hi
    cases h : a[i]? with
    | none => rw [h] at hi; cases hi
    | some y =>
      rw [h] at hi
      simp at hi
      subst hi
      unfold swI
      split
      · exact ha y (List.mem_of_getElem? h)
      · unfold tk
        cases h2 : b[i]? with
        | none => intro q hq; cases hq
        | some z => exact hb z (List.mem_of_getElem? h2)
  · intro x hx; cases hx
end Go.Proofs.Ytbljpcikcefkiaa.Hd

/- The reference's masks and swaps, and the law HideMasks: over trees. -/
set_option linter.unusedVariables false
set_option linter.unusedSimpArgs false
namespace Go.Proofs.Ytbljpcikcefkiaa.Hd
open Go Go.RowKit Go.Proofs.Ytbljpcikcefkiaa.Sx
open Go.Proofs.Ytbljpcikcefkiaa.Bi (mixed take_s Has_t rHas_t)
open Go.Proofs.Ytbljpcikcefkiaa.Cf
section
variable {Z : ZP} {w : World}
theorem conf_req {cs : List Value} {c : GConf} (hc : rConf.r w cs c) : cs[6]? = some (I c.requests) ∧ cs[5]? = some (I c.budget) := by
  obtain ⟨A0, c0, A1, c1, A2, c2, A3, c3, A4, c4, rfl, _⟩ := oConf hc
  exact ⟨rfl, rfl⟩
/-- The end of what a tick of a known owner becomes. -/
def tlO (v3 v5 v6 v7 : Value) : T := .dr (faT 1 v7 fun v46 => .ld v46 fun v47 => faT 1 v5 fun v48 => .ld v48 fun v49 => faT 1 v5 fun v50 => .ld v50 fun v51 => lnT v51 fun v52 => faT 5 v3 fun v53 => .ld v53 fun v54 => biT false .sub v54 (I 1) fun v55 => .hv (Builtin.min_ #[3, 3] 3 [v52, v55].toArray) fun v56 => .chk none v46 v47 (.chk none v48 v49 (.pu (Instr.sliceAt 26 v49 none (some v56) none) fun v57 => .hv (Builtin.append_ #[26, 26] 26 [v47, v57].toArray) fun v58 => faT 1 v7 fun v59 => .ef (Instr.storeAt 26 v59 v58) (.ldn 2 v7 fun v60 => .ef (Instr.storeAt 54 v6 v60) (.ldn 2 v6 fun r0 => .ret r0)))))
theorem tlO_ok {W0 : World} {cs : List Value} {c : GConf} {t : GTick} {T1 T2 : Option Addr} {d1 d2 o v3 v5 v6 v7 : Nat} {x : Value} (hc : rConf.r w cs c) (C : Cok c) (m2 : t.picks.length ≤ d2 ∧ t.picks.length ≤ big ∧ Rw (rI .i64) w T2 t.picks) (H : Bx w W0 [(v7, 54, [x, .slice none 0 0]), (v6, 54, [.slice none 0 0, .slice none 0 0]), (v5, 54, [.slice T1 t.bytes.length d1, .slice T2 t.picks.length d2]), (v3, 28, cs)]) (hx1 : x.oneCell' = true) (hxr : ∀ W S, Fr S W0 W → (∀ q ∈ S, q = v7 ∨ q = v6 ∨ q < w.heap.size ∨ W0.heap.size ≤ q) → Sl (rL (rI .u8)) W x (mskT c o t).bytes) :
    wp Try.prog Z (fun r w' => ∃ us, r = .agg us.toArray ∧ Fresh w w' (fun W => rTick.r W us (mskT c o t)) ∧ Fr [] w w') [] (tlO (Pt v3 0) (Pt v5 0) (Pt v6 0) (Pt v7 0)) W0 nA nB := by
  unfold tlO
  have hbd := C.bud
  have nbt : (nb c : Int) = c.budget - 1 := by unfold nb; omega
  refine r_dr (fun W1 f1 => ?_)
  have H1 := H.fr f1
  refine b_ld H1 0 rfl rfl ?_
  refine b_ld H1 2 rfl rfl ?_
  refine b_ld H1 2 rfl rfl ?_
  refine b_ld H1 3 rfl (conf_req hc).2 ?_
  refine r_ar (by omega) ?_
  refine r_min ?_
  obtain ⟨m, hm, hm16⟩ : ∃ m : Nat, (if (c.budget - 1) < (t.picks.length : Int) then (c.budget - 1) else (t.picks.length : Int)) = m ∧ m = min (nb c) t.picks.length := by
    by_cases h3 : (c.budget - 1) < (t.picks.length : Int)
    · exact ⟨nb c, by rw [if_pos h3]; omega, by omega⟩
    · exact ⟨t.picks.length, by rw [if_neg h3], by omega⟩
  rw [hm]
  refine b_chk H1 0 rfl rfl ?_
  refine b_chk H1 2 rfl rfl ?_
  have hcap := m2.1
  refine r_slh (e := 3) (m := m) (by kernel_rfl) Try.sizeOf3 (by omega) (by omega) (by omega) ?_
  have hml : (t.picks.take m).length = m := by rw [List.length_take]; omega
  refine r_apps (base := W1.heap.size) (S := []) (ys := []) (xs := t.picks.take m) Bi.Eint Or.nil hml.symm ((m2.2.2.take m).off H1.F (fun q hq => by simp [Value.ownBlock] at hq)) (by rw [hml]; simp only [big]; simp; omega) (Nat.le_refl _) (fun v58 w2 O2 f2 o2 => ?_)
  rw [List.nil_append] at O2
  have f2' : Fr [] W1 w2 := f2
  have hpl : (t.picks.take m).length ≤ big := by rw [hml]; simp only [big]; omega
  have H2 := H1.fr f2'
  have l7 := (H1.blk (i := 0) rfl).lt
  have l6 := (H1.blk (i := 1) rfl).lt
  have n76 : v7 ≠ v6 := by have := H.N; simp at this; exact this.1.1
  obtain ⟨Y, cy, rfl, _⟩ := O2.row hpl
  have hown := O2.lt
  refine r_st1 (H2.blk (i := 0) rfl) Try.sizeOf26 (fun w3 B3 f3 => ?_)
  have B63 := (H2.blk (i := 1) rfl).fr f3 (by simpa using n76.symm)
  refine r_ldn B3.rd ?_
  refine r_stn (cs := [x, .slice Y (t.picks.take m).length cy]) B63 Try.sizeOf54 (by intro u hu; simp at hu; rcases hu with rfl | rfl; exact hx1; rfl) (fun w4 B4 f4 => ?_)
  refine r_ldn B4.rd ?_
  have O4 := (O2.upP (S2 := []) plainI f3 (fun q hq hu => by have := hown q hu; simp at hq; omega)).upP (S2 := []) plainI f4 (fun q hq hu => by have := hown q hu; simp at hq; omega)
  have s0 := H.F.size
  have s1 := f1.size
  have s2 := f2'.size
  have s3 := f3.size
  have s4 := f4.size
  have g7 := H.ge (i := 0) rfl
  have g6 := H.ge (i := 1) rfl
  have FW : Fr [v7, v6] W0 w4 := (((f1.mono (by simp)).trans (f2'.mono (by simp))).trans (f3.mono (by simp))).trans (f4.mono (by simp))
  refine r_ret ⟨_, rfl, fun W' S g hS => ?_, H.F.trans_new FW (fun q hq => .inr (by simp at hq; omega))⟩
  have G : Fr ([v7, v6] ++ S) W0 W' := (FW.mono (by simp)).trans (g.mono (fun q hq => List.mem_append.2 (.inr hq)))
  obtain ⟨X1, cx, e1, y1, y2, y3⟩ := hxr W' _ G (fun q hq => by
    rcases List.mem_append.1 hq with hq | hq
    · simp at hq
      rcases hq with rfl | rfl
      · exact .inl rfl
      · exact .inr (.inl rfl)
    · rcases hS q hq with h | h
      · exact .inr (.inr (.inl h))
      · exact .inr (.inr (.inr (by omega))))
  subst e1
  have O5 := O4.upP (S2 := []) plainI g (fun q hq hu => by
    have := hown q hu
    rcases hS q hq with h | h <;> omega)
  obtain ⟨_, _, e2, z1, z2, z3⟩ := O5.row hpl
  cases e2
  have ep : t.picks.take m = (mskT c o t).picks := by
    show _ = t.picks.take (nb c)
    rw [hm16, ← List.take_eq_take_min]
  rw [ep] at z1 z2 z3 ⊢
  exact mTick (x := mskT c o t) ⟨y1, y2, y3⟩ ⟨z1, z2, z3⟩
theorem one_t {cs ts : List Value} {c : GConf} {t : GTick} (hc : rConf.r w cs c) (C : Cok c) (ht : rTick.r w ts t) {o : Nat} (ho : o < 16) : Cz Try.prog 24 [.agg cs.toArray, I o, .agg ts.toArray] w (fun r w' => ∃ us, r = .agg us.toArray ∧ Fresh w w' (fun W => rTick.r W us (mskT c o t)) ∧ Fr [] w w') Z := by
  have hlc := rConf.len hc
  obtain ⟨T1, d1, T2, d2, rfl, m1, m2⟩ := oTick ht
  refine go mixed Try.func24 Try.call24 rfl (Tr.e24 _ _ _) ?_
  refine b_box (Bx.nil w) (fun v3 w1 H => ?_)
  refine b_box H (fun v5 w2 H => ?_)
  refine b_al (zs := [.slice none 0 0, .slice none 0 0]) H Try.zeroValue54 (fun v6 w3 H => ?_)
  refine b_al (zs := [.slice none 0 0, .slice none 0 0]) H Try.zeroValue54 (fun v7 w4 H => ?_)
  have hrq := C.req
  have hmb := msk_bytes c o t
  refine b_ld H 2 rfl rfl ?_
  refine r_if (fun h1 => ?_) (fun h1 => ?_)
  · obtain ⟨bo, hbo⟩ := gt (xs := t.bytes) (j := o) (by omega)
    rw [hbo, Option.getD_some] at hmb
    obtain ⟨ad, es, rfl, rd, e4⟩ := m1.2.2 _ bo hbo
    obtain ⟨X, cx, rfl, x1, x2, x3⟩ := e4
    refine b_ld H 2 rfl rfl ?_
    refine r_ob ⟨by omega, by omega⟩ ?_
    refine r_ld (cell1 (rd.fr H.F)) ?_
    refine r_if (fun h2 => ?_) (fun h2 => ?_)
    · rw [if_pos ⟨h1, by omega⟩] at hmb
      refine r_ar (by omega) ?_
      refine r_mknil (m := o + 1) (by omega) (by omega) (fun b1 w6 hb1 B1 f6 => ?_)
      have l7 := (H.blk (i := 0) rfl).lt
      have l6 := (H.blk (i := 1) rfl).lt
      have l5 := (H.blk (i := 2) rfl).lt
      have l3 := (H.blk (i := 3) rfl).lt
      have s5 := H.F.size
      have n7 : v7 ≠ b1 := by omega
      replace H := H.fr f6
      refine r_st1 (H.blk (i := 0) rfl) Try.sizeOf52 (fun w7 B7 f7 => ?_)
      have H7 := H.set (i := 0) rfl B7 f7
      have B17 := B1.fr f7 (by simpa using n7.symm)
      refine b_ld H7 2 rfl rfl ?_
      refine r_ob ⟨by omega, by omega⟩ ?_
      refine r_ld (cell1 (rd.fr H7.F)) ?_
      refine r_dr (fun w8 f8 => ?_)
      have H8 := H7.fr f8
      have B18 := B17.fr0 f8
      refine b_ld H8 0 rfl rfl ?_
      refine b_ld H8 3 rfl (conf_req hc).1 ?_
      refine r_ar (by omega) ?_
      obtain ⟨m, hm, hm16⟩ : ∃ m : Nat, (if (16 * c.requests) < (bo.length : Int) then (16 * c.requests) else (bo.length : Int)) = m ∧ m = min (16 * c.requests).toNat bo.length := by
        by_cases h3 : (16 * c.requests) < (bo.length : Int)
        · exact ⟨(16 * c.requests).toNat, by rw [if_pos h3]; omega, by omega⟩
        · exact ⟨bo.length, by rw [if_neg h3], by omega⟩
      have hml : (bo.take m).length = m := by rw [List.length_take]; omega
      have hbl : (bo.take m).length ≤ big := by rw [hml]; simp only [big] at x2 ⊢; omega
      have b1lt := B18.lt
      have g1b : w.heap.size ≤ b1 := by omega
      -- the copy, however it came
      have fin : ∀ {w9 : World} {v44 : Value}, Bx w w9 [(v7, 54, [.slice (some ⟨b1, 0, none⟩) (o + 1) (o + 1), .slice none 0 0]), (v6, 54, [.slice none 0 0, .slice none 0 0]), (v5, 54, [.slice (some ad) t.bytes.length d1, .slice T2 t.picks.length d2]), (v3, 28, cs)] → Blk w9 b1 51 (List.replicate (o + 1) (.slice none 0 0)) → Or (rI .u8) 5 w8.heap.size [] w9 v44 (bo.take m) → Fr [] w8 w9 → wp Try.prog Z (fun r w' => ∃ us, r = .agg us.toArray ∧ Fresh w w' (fun W => rTick.r W us (mskT c o t)) ∧ Fr [] w w') [] (.chk none (Pt v7 0) (.slice (some ⟨b1, 0, none⟩) (o + 1) (o + 1)) (ixT 1 (.slice (some ⟨b1, 0, none⟩) (o + 1) (o + 1)) (I o) fun v45 => .ef (Instr.storeAt 51 v45 v44) (tlO (Pt v3 0) (Pt v5 0) (Pt v6 0) (Pt v7 0)))) w9 nA nB := by
        intro w9 v44 H9 B19 O9 f9
        refine b_chk H9 0 rfl rfl ?_
        refine r_ob ⟨by omega, by omega⟩ ?_
        obtain ⟨C1, cc, rfl, _⟩ := O9.row hbl
        refine r_st1 B19 Try.sizeOf51 (fun w10 B10 f10 => ?_) rfl rfl (by simp)
        rw [show (0 + ((o : Nat) : Int).toNat * 1) = o by omega] at B10
        have H10 := H9.frS f10 (fun q hq => by simp at hq; omega) (fun q hq p hp => by
          simp at hq hp
          rcases hp with rfl | rfl | rfl | rfl <;> dsimp only <;> omega)
        have c1b := O9.lt
        have O10 := O9.upP (S2 := []) plainI f10 (fun q hq hu => by have := c1b q hu; simp at hq; omega)
        have s9 := f9.size
        have s10 := f10.size
        have k7 := (H9.blk (i := 0) rfl).lt
        have s8 := H8.F.size
        refine tlO_ok hc C m2 H10 rfl (fun W S g hS => ?_)
        rw [hmb, List.take_eq_take_min, ← hm16]
        have hb1S : b1 ∉ S := fun hq => by
          rcases hS b1 hq with h | h | h | h <;> omega
        have k7' := (H8.blk (i := 0) rfl).lt
        have k6' := (H8.blk (i := 1) rfl).lt
        refine lastRow (B10.fr g hb1S) ((O10.upP (S2 := []) plainI g (fun q hq hu => ?_)).row hbl) (by omega) (Nat.le_refl _)
        have := c1b q hu
        rcases hS q hq with h | h | h | h <;> omega
      refine ⟨?_, ?_⟩
      · refine r_bs0 (e := rI .u8) (S := []) Ebyte (fun v35 w9 HV f9 hv35 => ?_)
        have H9 := H8.fr f9
        refine b_chk H9 0 rfl rfl ?_
        refine b_chk H9 3 rfl (conf_req hc).1 ?_
        refine r_min ?_
        rw [hm]
        refine b_chk H9 0 rfl rfl ?_
        refine r_slh (e := 5) (m := m) (by kernel_rfl) Try.sizeOf5 (by omega) (by omega) (by omega) ?_
        refine r_apps (xs := bo.take m) Ebyte HV hml.symm ((x3.take m).off H9.F (fun q hq => by rw [List.append_nil] at hq; have := (HV.lt q hq).1; have := H8.F.size; omega)) (by rw [hml]; simp only [big] at x2 ⊢; simp; omega) f9.size (fun v44 w10 H3 f10 o10 => ?_)
        rw [List.nil_append] at H3
        have hv : ∀ q ∈ v35.ownBlock.toList, w8.heap.size ≤ q := fun q hq => (HV.lt q hq).1
        have F10 : Fr [] w8 w10 := f9.trans_new f10 (fun q hq => .inr (hv q hq))
        exact fin (H8.fr F10) (B18.fr0 F10) H3 F10
      · refine r_min ?_
        rw [hm]
        refine b_chk H8 0 rfl rfl ?_
        refine r_slh (e := 5) (m := m) (by kernel_rfl) Try.sizeOf5 (by omega) (by omega) (by omega) ?_
        refine r_bs0 (e := rI .u8) (S := []) Ebyte (fun v35 w9 HV f9 hv35 => ?_)
        have H9 := H8.fr f9
        refine b_chk H9 0 rfl rfl ?_
        refine b_chk H9 3 rfl (conf_req hc).1 ?_
        refine r_apps (xs := bo.take m) Ebyte HV hml.symm ((x3.take m).off H9.F (fun q hq => by rw [List.append_nil] at hq; have := (HV.lt q hq).1; have := H8.F.size; omega)) (by rw [hml]; simp only [big] at x2 ⊢; simp; omega) f9.size (fun v44 w10 H3 f10 o10 => ?_)
        rw [List.nil_append] at H3
        have hv : ∀ q ∈ v35.ownBlock.toList, w8.heap.size ≤ q := fun q hq => (HV.lt q hq).1
        have F10 : Fr [] w8 w10 := f9.trans_new f10 (fun q hq => .inr (hv q hq))
        exact fin (H8.fr F10) (B18.fr0 F10) H3 F10
    · rw [if_neg (fun hh => h2 (by have := hh.2; omega))] at hmb
      exact tlO_ok hc C m2 H rfl (fun W S _ _ => by rw [hmb]; exact Sl.nil)
  · rw [if_neg (fun hh => h1 hh.1)] at hmb
    exact tlO_ok hc C m2 H rfl (fun W S _ _ => by rw [hmb]; exact Sl.nil)
theorem rMask_t {cs : List Value} {c : GConf} (hc : rConf.r w cs c) (hw : Wf c) (t : Int) {X : Option Addr} {cx : Nat} {l : List GTick} (hl : Rw rTick w X l) (kl : l.length ≤ cx) (ll : l.length ≤ 1000000) : Cz Try.prog 10 [.agg cs.toArray, I t, .slice X l.length cx] w (fun r w' => ∃ v, r = .tuple #[v, I (lowE c t)] ∧ Sl rTick w' v (mskL c t l) ∧ Fr [] w w') Z := by
  have hlc := rConf.len hc
  refine go mixed Try.func10 Try.call10 rfl (Tr.e10 _ _ _) ?_
  refine b_box (Bx.nil w) (fun b1 w1 H => ?_)
  refine b_ldn H 0 rfl ?_ hlc
  refine r_new (bs1S X l.length cx _) (fun q w2 hq Bq f2 => ?_)
  subst hq
  replace H := H.fr f2
  refine r_call (rasked_t (rConf.up H.F hc) hw t (ls := [l]) (Rw.blk Bq (fun j x hj => ?_)) (by simp) (fun l hl => by simp at hl; subst hl; omega)) ?_
  · match j with
    | 0 => cases hj; exact ⟨X, cx, rfl, kl, by simp only [big]; omega, hl.up H.F⟩
    | j + 1 => cases hj
  rintro _ w3 ⟨rfl, f3⟩
  replace H := H.fr f3
  rw [sE_one]
  refine r_if (fun hs => ?_) (fun hs => ?_)
  · exact b_ret H (fun F => ⟨_, rfl, by unfold mskL; rw [if_neg hs]; exact Sl.nil, F⟩)
  replace hs := Classical.not_not.1 hs
  have eR : mskL c t l = l.mapIdx (mskI c (lowV c t)) := by unfold mskL; rw [if_pos hs]
  have C := cok (lowE_conf hs).1
  rw [hs, if_pos rfl, eR]
  refine r_loop (fun (s : Nat × Value) => [I (s.1 : Int), s.2]) (fun s w' => s.1 ≤ l.length ∧ Or rTick 54 w3.heap.size [] w' s.2 ((l.take s.1).mapIdx (mskI c (lowV c t))) ∧ Fr [] w3 w') (fun s => l.length - s.1) (0, .slice none 0 0) ⟨Nat.zero_le _, by simpa using Or.nil, Fr.refl _ _⟩ rfl ?_
  rintro ⟨i, v⟩ w4 ⟨hi, HO, F⟩
  dsimp only at hi HO
  have H4 := H.fr F
  refine r_if (fun h => ?_) (fun h => ?_)
  · obtain ⟨x, hx⟩ := gt (xs := l) (j := i) (by omega)
    obtain ⟨ad, es, rfl, rd, e3⟩ := hl i x hx
    refine b_ldn H4 0 rfl ?_ hlc
    refine r_call (owner_t (rConf.up H4.F hc) C (n := i) (by omega)) ?_
    rintro _ w5 ⟨rfl, f5⟩
    have H5 := H4.fr f5
    have F5 := F.trans f5
    refine r_call (rHas_t _ _) ?_
    rintro _ _ ⟨rfl, rfl⟩
    refine r_ifb (fun h6 => ?_) (fun h6 => ?_)
    · refine r_dr (fun w6 f6 => ?_)
      have H6 := H5.fr f6
      have F6 := F5.trans f6
      refine b_ldn H6 0 rfl ?_ hlc
      refine r_ob ⟨by omega, by omega⟩ ?_
      refine r_ldn (rd.fr H6.F) ?_
      obtain ⟨o, ho⟩ := Int.eq_ofNat_of_zero_le (C.ownC i).1
      have ho16 := (C.ownC i).2.2
      have em : mskI c (lowV c t) i x = mskT c o x := by unfold mskI; rw [if_pos h6, ho]
      rw [ho]
      refine r_call (one_t (rConf.up H6.F hc) C (rTick.up H6.F e3) (o := o) (by omega)) ?_
      rintro _ w7 ⟨us, rfl, hus, f7⟩
      have F7 := F6.trans f7
      have HO6 := (HO.fr0 f5).fr0 f6
      refine r_appL (x := mskI c (lowV c t) i x) (es := us) Etick (HO6.fr0 f7) (by rw [em, List.append_nil]; exact hus.off (fun q hq => .inl (HO6.lt q hq).2)) (by simp only [big]; simp; omega) F7.size (fun v' w8 g1 g2 g3 => ?_) rfl (rTick.len hus.now)
      refine r_ar (by dsimp only; omega) ?_
      refine r_ag (s := (i, v)) (i + 1, v') ⟨by dsimp only; omega, ?_, F7.trans_new g2 (fun q hq => .inr (HO.lt q hq).1)⟩ (by dsimp only; omega) rfl
      dsimp only
      rw [mapIdx_s _ hx]
      exact g1
    · have em : mskI c (lowV c t) i x = ⟨[], []⟩ := by unfold mskI; rw [if_neg (by rw [h6]; simp)]
      refine r_appL (x := mskI c (lowV c t) i x) (es := [.slice none 0 0, .slice none 0 0]) Etick (HO.fr0 f5) (fun w' _ => by rw [em]; exact nilTick w') (by simp only [big]; simp; omega) F5.size (fun v' w8 g1 g2 g3 => ?_)
      refine r_ar (by dsimp only; omega) ?_
      refine r_ag (s := (i, v)) (i + 1, v') ⟨by dsimp only; omega, ?_, F5.trans_new g2 (fun q hq => .inr (HO.lt q hq).1)⟩ (by dsimp only; omega) rfl
      dsimp only
      rw [mapIdx_s _ hx]
      exact g1
  · obtain rfl : i = l.length := by omega
    rw [List.take_length] at HO
    exact r_brk (b_ret H4 (fun F => ⟨_, rfl, HO.row (by simp only [big]; simp; omega), F⟩))
theorem rSwap_t {cs : List Value} {c : GConf} (hc : rConf.r w cs c) (hw : Wf c) (t : Int) {X Y : Option Addr} {cx cy : Nat} {a b : List GTick} (ha : Rw rTick w X a) (hb : Rw rTick w Y b) (ka : a.length ≤ cx) (kb : b.length ≤ cy) (la : a.length ≤ 1000000) (lb : b.length ≤ 1000000) : Cz Try.prog 12 [.agg cs.toArray, I t, .slice X a.length cx, .slice Y b.length cy] w (fun r w' => ∃ v, r = .tuple #[v, I (sE c t [a, b])] ∧ Sl rTick w' v (swL c t a b) ∧ Fr [] w w') Z := by
  have hlc := rConf.len hc
  refine go mixed Try.func12 Try.call12 rfl (Tr.e12 _ _ _ _) ?_
  refine b_box (Bx.nil w) (fun b1 w1 H => ?_)
  refine b_ldn H 0 rfl ?_ hlc
  refine r_new (bs2 X Y a.length b.length cx cy _) (fun q w2 hq Bq f2 => ?_)
  subst hq
  replace H := H.fr f2
  refine r_call (rasked_t (rConf.up H.F hc) hw t (ls := [a, b]) (Rw.blk Bq (fun j x hj => ?_)) (by simp) (fun l hl => by simp at hl; rcases hl with rfl | rfl <;> omega)) ?_
  · match j with
    | 0 => cases hj; exact ⟨X, cx, rfl, ka, by simp only [big]; omega, ha.up H.F⟩
    | 1 => cases hj; exact ⟨Y, cy, rfl, kb, by simp only [big]; omega, hb.up H.F⟩
    | j + 2 => cases hj
  rintro _ w3 ⟨rfl, f3⟩
  replace H := H.fr f3
  refine r_if (fun hs => ?_) (fun hs => ?_)
  · exact b_ret H (fun F => ⟨_, rfl, by unfold swL; rw [if_neg hs]; exact Sl.nil, F⟩)
  replace hs := Classical.not_not.1 hs
  have eR : swL c t a b = a.mapIdx (swI c (lowV c t) b) := by unfold swL; rw [if_pos hs]
  obtain ⟨hok, hlen⟩ := sE_two hs
  have C := cok hok
  rw [hs, if_pos rfl, eR]
  refine r_loop (fun (s : Nat × Value) => [I (s.1 : Int), s.2]) (fun s w' => s.1 ≤ a.length ∧ Or rTick 54 w3.heap.size [] w' s.2 ((a.take s.1).mapIdx (swI c (lowV c t) b)) ∧ Fr [] w3 w') (fun s => a.length - s.1) (0, .slice none 0 0) ⟨Nat.zero_le _, by simpa using Or.nil, Fr.refl _ _⟩ rfl ?_
  rintro ⟨i, v⟩ w4 ⟨hi, HO, F⟩
  dsimp only at hi HO
  have H4 := H.fr F
  refine r_if (fun h => ?_) (fun h => ?_)
  · obtain ⟨x, hx⟩ := gt (xs := a) (j := i) (by omega)
    obtain ⟨y, hy⟩ := gt (xs := b) (j := i) (by omega)
    obtain ⟨ad, es, rfl, rd, e3⟩ := ha i x hx
    obtain ⟨ad2, es2, rfl, rd2, e4⟩ := hb i y hy
    refine b_ldn H4 0 rfl ?_ hlc
    refine r_call (owner_t (rConf.up H4.F hc) C (n := i) (by omega)) ?_
    rintro _ w5 ⟨rfl, f5⟩
    have H5 := H4.fr f5
    have F5 := F.trans f5
    have hge : ∀ q ∈ v.ownBlock.toList ++ [], w.heap.size ≤ q := fun q hq => by rw [List.append_nil] at hq; have := (HO.lt q hq).1; have := H.F.size; omega
    refine r_call (rHas_t _ _) ?_
    rintro _ _ ⟨rfl, rfl⟩
    refine r_ifb (fun h6 => ?_) (fun h6 => ?_)
    · have em : swI c (lowV c t) b i x = x := by unfold swI; rw [if_pos h6]
      refine r_ob ⟨by omega, by omega⟩ ?_
      refine r_ldn (rd.fr H5.F) ?_
      refine r_appL (x := swI c (lowV c t) b i x) (es := es) Etick (HO.fr0 f5) (by rw [em]; exact rTick.off e3 H5.F hge) (by simp only [big]; simp; omega) F5.size (fun v' w8 g1 g2 g3 => ?_) rfl (rTick.len e3)
      refine r_ar (by dsimp only; omega) ?_
      refine r_ag (s := (i, v)) (i + 1, v') ⟨by dsimp only; omega, ?_, F5.trans_new g2 (fun q hq => .inr (HO.lt q hq).1)⟩ (by dsimp only; omega) rfl
      dsimp only
      rw [mapIdx_s _ hx]
      exact g1
    · have em : swI c (lowV c t) b i x = y := by unfold swI tk; rw [if_neg (by rw [h6]; simp), hy]; rfl
      refine r_ob ⟨by omega, by omega⟩ ?_
      refine r_ldn (rd2.fr H5.F) ?_
      refine r_appL (x := swI c (lowV c t) b i x) (es := es2) Etick (HO.fr0 f5) (by rw [em]; exact rTick.off e4 H5.F hge) (by simp only [big]; simp; omega) F5.size (fun v' w8 g1 g2 g3 => ?_) rfl (rTick.len e4)
      refine r_ar (by dsimp only; omega) ?_
      refine r_ag (s := (i, v)) (i + 1, v') ⟨by dsimp only; omega, ?_, F5.trans_new g2 (fun q hq => .inr (HO.lt q hq).1)⟩ (by dsimp only; omega) rfl
      dsimp only
      rw [mapIdx_s _ hx]
      exact g1
  · obtain rfl : i = a.length := by omega
    rw [List.take_length] at HO
    exact r_brk (b_ret H4 (fun F => ⟨_, rfl, HO.row (by simp only [big]; simp; omega), F⟩))
theorem masks_t {cs : List Value} {c : GConf} (hc : rConf.r w cs c) (hw : Wf c) (t : Int) {X Y : Option Addr} {cx cy : Nat} {a b : List GTick} (ha : Rw rTick w X a) (hb : Rw rTick w Y b) (wa : WfS a) (wb : WfS b) : Cz Try.prog 3 [.agg cs.toArray, I t, .slice X a.length cx, .slice Y b.length cy] w (fun r w' => r = B true ∧ Fr [] w w') Z := by
  have hlc := rConf.len hc
  refine go mixed Try.func3 Try.call3 rfl (Tr.e3 _ _ _ _) ?_
  refine b_box (Bx.nil w) (fun b1 w1 H => ?_)
  refine b_ldn H 0 rfl ?_ hlc
  refine b_call H (Small_t (rConf.up H.F hc)) (fun w2 H => ?_)
  have last : ∀ {w6 : World}, Bx w w6 [(b1, 28, cs)] → wp Try.prog Z (fun r w' => r = B true ∧ Fr [] w w') [] (.call 5 [] fun v115 => .ret v115) w6 nA nB := by
    intro w6 H
    refine b_call H alive_t (fun w7 H => ?_)
    exact b_ret H (fun F => ⟨rfl, F⟩)
  refine r_ifbn (fun h => last H) (fun h => ?_)
  refine r_call (Few_t (ha.up H.F) (m := 40) (by omega)) ?_
  rintro _ w3 ⟨⟨X1, c1, rfl, x1, x2, x3⟩, f3⟩
  replace H := H.fr f3
  refine r_call (Few_t (hb.up H.F) (m := 40) (by omega)) ?_
  rintro _ w4 ⟨⟨Y1, d1, rfl, y1, y2, y3⟩, f4⟩
  replace H := H.fr f4
  have la : (few a 40).length ≤ 40 := by unfold few; simp; omega
  have lb : (few b 40).length ≤ 40 := by unfold few; simp; omega
  have fwf : ∀ {l : List GTick}, WfS l → WfS (few l 40) := by
    intro l h t ht b hb z hz
    unfold few at ht
    obtain ⟨u, hu, rfl⟩ := List.mem_map.1 ht
    obtain ⟨b0, hb0, rfl⟩ := List.mem_map.1 (show b ∈ (u.bytes.take 10).map (·.take 80) from hb)
    exact h u (List.mem_of_mem_take hu) b0 (List.mem_of_mem_take hb0) z (List.mem_of_mem_take hz)
  have wa' := fwf wa
  have wb' := fwf wb
  replace x3 := x3.up f4
  generalize few a 40 = a at *
  generalize few b 40 = b at *
  refine b_ldn H 0 rfl ?_ hlc
  refine r_call (Knows_t (rConf.up H.F hc) hw t) ?_
  rintro _ w5 ⟨rfl, f5⟩
  replace H := H.fr f5
  replace x3 := x3.up f5
  replace y3 := y3.up f5
  refine b_ldn H 0 rfl ?_ hlc
  refine r_call (rKnows_t (rConf.up H.F hc) hw t) ?_
  rintro _ w6 ⟨rfl, f6⟩
  replace H := H.fr f6
  replace x3 := x3.up f6
  replace y3 := y3.up f6
  refine b_ldn H 0 rfl ?_ hlc
  refine r_call (Mask_t (rConf.up H.F hc) hw t x3 x1 (by omega)) ?_
  rintro _ w7 ⟨_, rfl, ⟨P1, p1, rfl, p2, p3, p4⟩, f7⟩
  replace H := H.fr f7
  replace x3 := x3.up f7
  replace y3 := y3.up f7
  refine b_ldn H 0 rfl ?_ hlc
  refine r_call (rMask_t (rConf.up H.F hc) hw t x3 x1 (by omega)) ?_
  rintro _ w8 ⟨_, rfl, ⟨Q1, q1, rfl, q2, q3, q4⟩, f8⟩
  replace H := H.fr f8
  replace x3 := x3.up f8
  replace y3 := y3.up f8
  replace p4 := p4.up f8
  refine b_ldn H 0 rfl ?_ hlc
  refine r_call (Swap_t (rConf.up H.F hc) hw t x3 y3 x1 y1 (by omega) (by omega)) ?_
  rintro _ w9 ⟨_, rfl, ⟨R1, r1, rfl, r2, r3, r4⟩, f9⟩
  replace H := H.fr f9
  replace x3 := x3.up f9
  replace y3 := y3.up f9
  replace p4 := p4.up f9
  replace q4 := q4.up f9
  refine b_ldn H 0 rfl ?_ hlc
  refine r_call (rSwap_t (rConf.up H.F hc) hw t x3 y3 x1 y1 (by omega) (by omega)) ?_
  rintro _ w10 ⟨_, rfl, ⟨S1, s1, rfl, s2, s3, s4⟩, f10⟩
  replace H := H.fr f10
  replace x3 := x3.up f10
  replace y3 := y3.up f10
  replace p4 := p4.up f10
  replace q4 := q4.up f10
  replace r4 := r4.up f10
  have wm := mask_wf (c := c) (t := t) wa'
  have ws := swap_wf (c := c) (t := t) wa' wb'
  refine r_if (fun _ => ?_) (fun h => absurd rfl h)
  refine r_if (fun _ => ?_) (fun h => absurd rfl h)
  refine r_call (rSame_t p4 q4 p3 wm wm) ?_
  rintro _ w11 ⟨rfl, f11⟩
  replace H := H.fr f11
  replace x3 := x3.up f11
  replace y3 := y3.up f11
  replace r4 := r4.up f11
  replace s4 := s4.up f11
  refine r_if (fun _ => ?_) (fun h => absurd rfl h)
  refine r_if (fun _ => ?_) (fun h => absurd rfl h)
  refine r_call (rSame_t r4 s4 r3 ws ws) ?_
  rintro _ w12 ⟨rfl, f12⟩
  replace H := H.fr f12
  replace x3 := x3.up f12
  replace y3 := y3.up f12
  refine r_if (fun _ => ?_) (fun h => absurd rfl h)
  refine r_if (fun _ => ?_) (fun h => absurd rfl h)
  refine r_call (Same_t x3 y3 x2) ?_
  rintro _ w13 ⟨rfl, f13⟩
  replace H := H.fr f13
  replace x3 := x3.up f13
  replace y3 := y3.up f13
  refine r_call (rSame_t x3 y3 x2 wa' wb') ?_
  rintro _ w14 ⟨rfl, f14⟩
  replace H := H.fr f14
  replace x3 := x3.up f14
  refine r_ifb (fun _ => ?_) (fun h => absurd h (by simp))
  refine r_call (Same_t x3 x3 x2) ?_
  rintro _ w15 ⟨rfl, f15⟩
  replace H := H.fr f15
  refine r_if (fun _ => last H) (fun h => absurd rfl h)
theorem masks_c (W : World) {cs : List Value} {c : GConf} (hc : rConf.r W cs c) (wc : ∀ z ∈ c.flows, (Lit.int .u64 z).wf = true) (t : Int) {X Y : Option Addr} {cx cy : Nat} {a b : List GTick} (ha : Rw rTick W X a) (wa : ∀ t ∈ a, ∀ b ∈ t.bytes, ∀ z ∈ b, (Lit.int .u8 z).wf = true) (hb : Rw rTick W Y b) (wb : ∀ t ∈ b, ∀ b ∈ t.bytes, ∀ z ∈ b, (Lit.int .u8 z).wf = true) : Cl Try.prog 3 [.agg cs.toArray, I t, .slice X a.length cx, .slice Y b.length cy] W (fun r w' => r = B true ∧ Fr [] W w') := by
  have u8 : ∀ {z : Int}, (Lit.int .u8 z).wf = true → 0 ≤ z ∧ z < 256 := fun h => by simp [Lit.wf, IntKind.min, IntKind.max, IntKind.bits, IntKind.signed] at h; omega
  have u64 : ∀ {z : Int}, (Lit.int .u64 z).wf = true → 0 ≤ z ∧ z < 18446744073709551616 := fun h => by simp [Lit.wf, IntKind.min, IntKind.max, IntKind.bits, IntKind.signed] at h; omega
  exact (masks_t hc (fun z hz => u64 (wc z hz)) t ha hb (fun t ht b hb z hz => u8 (wa t ht b hb z hz)) (fun t ht b hb z hz => u8 (wb t ht b hb z hz))).cl
end
end Go.Proofs.Ytbljpcikcefkiaa.Hd
