/- Scripts swapped; scripts compared by the reference: over trees. -/
import Derived.Test.YtbljpcikcefkiaaDoorQMi
import Derived.Laws.BytesArg
set_option linter.unusedVariables false
set_option linter.unusedSimpArgs false
namespace Go.Proofs.YtbljpcikcefkiaaDoor.Hd
open Go Go.RowKit Go.Proofs.YtbljpcikcefkiaaDoor.Sx
open Go.Proofs.YtbljpcikcefkiaaDoor.Bi (mixed take_s Has_t rHas_t)
open Go.WideShapes (bytes_inj)
open Go.Proofs.YtbljpcikcefkiaaDoor.Cf
theorem str_inj {a b : Bs} (ha : WfB a) (hb : WfB b) (h : strOfNums a = strOfNums b) : a = b := by
  have h1 : a.map (fun n => UInt8.ofNat n.toNat) = b.map (fun n => UInt8.ofNat n.toNat) := by
    have := congrArg (fun s : ByteArray => s.data.toList) h
    simpa [strOfNums] using this
  apply List.ext_getElem?
  intro i
  have h2 := congrArg (fun l => l[i]?) h1
  simp only [List.getElem?_map] at h2
  cases ea : a[i]? with
  | none =>
    cases eb : b[i]? with
    | none => rfl
    | some y => rw [ea, eb] at h2; simp at h2
  | some x =>
    cases eb : b[i]? with
    | none => rw [ea, eb] at h2; simp at h2
    | some y =>
      rw [ea, eb] at h2
      simp only [Option.map_some, Option.some.injEq] at h2
      have hx := ha.at ea
      have hy := hb.at eb
      have h3 := congrArg UInt8.toNat h2
      rw [UInt8.toNat_ofNat', UInt8.toNat_ofNat'] at h3
      congr 1
      omega
section
variable {P : Program} {Z : ZP} {R : Value → World → Prop} {w : World} {A : List Nat → List Value → World → Prop} {B : List Nat → Nat → List Value → World → Prop} {ds : List Nat} {k : Value → T}
theorem r_str {s d e : TypeId} {X : Option Addr} {cp n : Nat} {b : Bs} (hs : P.underlying s = some (.slice e)) (he : P.underlying e = some (.int .u8)) (hd : P.underlying d = some .string) (hr : Rw (rI .u8) w X b) (hn : n = b.length) (hk : wp P Z R ds (k (.string (strOfNums b))) w A B) : wp P Z R ds (.hv (convert s d (.slice X n cp)) k) w A B := by
  subst hn
  refine ⟨_, w, ?_, hk⟩
  cases X with
  | none =>
    have hb : b = [] := by
      cases b with
      | nil => rfl
      | cons z r => obtain ⟨a, _, h, _⟩ := hr 0 z rfl; cases h
    subst hb
    exact run_convert_bytes_nil w s e hs he _ _ d hd
  | some a =>
    have hl : (loadCells a b.length).run P w = .ok (b.map (Value.int .u8)).toArray w := by
      have := run_loadCells_list (P := P) w a (b.map (Value.int .u8)) (fun j v hj => by
        rw [List.getElem?_map] at hj
        cases hz : b[j]? with
        | none => rw [hz] at hj; cases hj
        | some z =>
          rw [hz] at hj
          cases hj
          obtain ⟨a', es, h1, h2, h3⟩ := hr j z hz
          cases h1
          obtain rfl := h3
          have := cell1 h2
          rwa [show j * (rI .u8).n = j from Nat.mul_one j, addA_eq] at this)
      simpa using this
    rw [run_convert_bytes_string w s d e _ _ cp hs he hd, run_bytesToString w _ _ cp b hl, foldl_push_bytes]
    simp [strOfNums, ByteArray.empty, ByteArray.emptyWithCapacity]
    rfl
theorem run_neS {t : TypeId} (hu : P.underlying t = some .string) (x y : Operand) (a b : ByteArray) (w : World) : (do eqGuard .neq t x y (.string a) (.string b); binOp .neq t (.string a) (.string b) : Sem Value).run P w = .ok (.bool (decide (¬ a = b))) w := by
  have e : (a.toList == b.toList) = decide (a = b) := by
    by_cases h : a = b
    · subst h; simp
    · rw [decide_eq_false h]
      have : a.toList ≠ b.toList := fun e => h (by
        rw [ByteArray.toList_eq, ByteArray.toList_eq] at e
        exact bytes_inj e)
      simpa using this
  simp only [Sem.run_bind, binOp_string_neq, e, Sem.run_pure]
  simp [eqGuard]
end
section
variable {Z : ZP} {w : World}
def swI (c : GConf) (s : BitVec 64) (b : List GTick) (i : Nat) (t : GTick) : GTick := if Bt.has s (ownC c i) = true then t else tk b i
def swL (c : GConf) (t : Int) (a b : List GTick) : List GTick := if sE c t [a, b] = 0 then a.mapIdx (swI c (lowV c t) b) else []
theorem swap1_t {w0 : World} {cs ts : List Value} {c : GConf} {t : GTick} {b : List GTick} {Y : Option Addr} {cy v10 v7 T7 : Nat} {s : BitVec 64} {n : Nat} (F0 : Fr [] w0 w) (hc : rConf.r w cs c) (C : Cok c) (ht : rTick.r w0 ts t) (B10 : Blk w v10 57 (lk cs s)) (B7 : Blk w v7 T7 [.slice Y b.length cy]) (hb : Rw rTick w0 Y b) (hn : n < b.length) (hbl : b.length ≤ 1000000) : Cz Tryd.prog 21 [I n, .agg ts.toArray, Pt v10 0, Pt v7 0] w (fun r w' => ∃ us, r = .agg us.toArray ∧ rTick.r w0 us (swI c s b n t) ∧ Fr [] w w') Z := by
  have hlc := rConf.len hc
  have hlk : (lk cs s).length = 9 := by unfold lk; rw [List.length_append, hlc]; rfl
  have hlt := rTick.len ht
  refine go mixed Tryd.func21 Tryd.call21 rfl (Tr.e21 _ _ _ _) ?_
  refine b_box (Bx.nil w) (fun v5 w1 H => ?_)
  refine b_al (zs := [.slice none 0 0, .slice none 0 0]) H Tryd.zeroValue52 (fun v6 w2 H => ?_)
  refine r_ldn ((B10.fr0 H.F).rd hlk) ?_
  refine b_call H (lookOwner_t (rConf.up H.F hc) C s (n := n) (by omega)) (fun w3 H => ?_)
  refine r_ifb (fun h => ?_) (fun h => ?_)
  · refine b_ldn H 1 rfl ?_ hlt
    refine b_stn (cs := ts) (n := 2) H 0 rfl Tryd.sizeOf52 (rTick.one ht) (fun w4 H => ?_) rfl hlt
    refine b_ldn H 0 rfl ?_ hlt
    exact b_ret H (fun F => ⟨_, rfl, by unfold swI; rw [if_pos h]; exact ht, F⟩)
  · obtain ⟨y, hy⟩ := gt (xs := b) (j := n) hn
    obtain ⟨ad, es, rfl, rd, e3⟩ := hb n y hy
    refine r_ld ((B7.fr0 H.F).cell (o := 0) rfl) ?_
    refine r_ob ⟨by omega, by omega⟩ ?_
    refine r_ldn ((rd.fr F0).fr H.F) ?_
    refine b_stn (cs := es) (n := 2) H 0 rfl Tryd.sizeOf52 (rTick.one e3) (fun w4 H => ?_) rfl (rTick.len e3)
    refine b_ldn H 0 rfl ?_ (rTick.len e3)
    exact b_ret H (fun F => ⟨_, rfl, by unfold swI tk; rw [if_neg (by rw [h]; simp), hy]; exact e3, F⟩)
theorem Swap_t {cs : List Value} {c : GConf} (hc : rConf.r w cs c) (hw : Wf c) (t : Int) {X Y : Option Addr} {cx cy : Nat} {a b : List GTick} (ha : Rw rTick w X a) (hb : Rw rTick w Y b) (ka : a.length ≤ cx) (kb : b.length ≤ cy) (la : a.length ≤ 1000000) (lb : b.length ≤ 1000000) : Cz Tryd.prog 12 [.agg cs.toArray, I t, .slice X a.length cx, .slice Y b.length cy] w (fun r w' => ∃ v, r = .tuple #[v, I (sE c t [a, b])] ∧ Sl rTick w' v (swL c t a b) ∧ Fr [] w w') Z := by
  have hlc := rConf.len hc
  have hc1 := rConf.one hc
  refine go mixed Tryd.func12 Tryd.call12 rfl (Tr.e12 _ _ _ _) ?_
  refine b_box (Bx.nil w) (fun b1 w1 H => ?_)
  refine b_box (cs := [.slice Y b.length cy]) H (fun v7 w2 H => ?_)
  refine b_ldn H 1 rfl ?_ hlc
  refine b_ld H 0 rfl rfl ?_
  refine r_new (bs2 X Y a.length b.length cx cy _) (fun q w3 hq Bq f3 => ?_)
  subst hq
  replace H := H.fr f3
  refine r_call (looks_t (rConf.up H.F hc) hw t (ls := [a, b]) (Rw.blk Bq (fun j x hj => ?_)) (by simp) (fun l hl => by simp at hl; rcases hl with rfl | rfl <;> omega)) ?_
  · match j with
    | 0 => cases hj; exact ⟨X, cx, rfl, ka, by simp only [big]; omega, ha.up H.F⟩
    | 1 => cases hj; exact ⟨Y, cy, rfl, kb, by simp only [big]; omega, hb.up H.F⟩
    | j + 2 => cases hj
  rintro _ w4 ⟨rfl, f4⟩
  replace H := H.fr f4
  by_cases hs : sE c t [a, b] = 0
  · have eR : swL c t a b = a.mapIdx (swI c (lowV c t) b) := by unfold swL; rw [if_pos hs]
    obtain ⟨hok, hlen⟩ := sE_two hs
    have C := cok hok
    rw [hs, if_pos rfl, eR]
    have h1 : ∀ v ∈ lk cs (lowV c t), v.oneCell' = true := fun v hv => by
      rcases List.mem_append.1 hv with hv | hv
      · exact hc1 v hv
      · simp at hv; subst hv; rfl
    have hl9 : (lk cs (lowV c t)).length = 9 := by unfold lk; rw [List.length_append, hlc]; rfl
    refine b_as (cs := lk cs (lowV c t)) (zs := zLk) (n := 9) H Tryd.zeroValue57 Tryd.sizeOf57 h1 (fun k w5 H => ?_) rfl rfl rfl hl9
    refine r_call (each_t (g := 21) (pre := []) (cap := [Pt k 0, Pt v7 0]) (f := swI c (lowV c t) b) (ha.up H.F) la (fun Z i x vs w6 S hx hr F hS => ?_)) ?_
    · have hi := (List.getElem?_eq_some_iff.1 hx).1
      have H6 := H.fr F
      refine (swap1_t (Z := Z) F (rConf.up H6.F hc) C hr (H6.blk (i := 0) rfl) (H6.blk (i := 1) rfl) (hb.up H.F) (n := i) (by omega) lb).mono ?_
      rintro r w' ⟨us, h1, h2, h3⟩
      exact ⟨us, h1, rTick.off h2 (F.trans h3) (fun q hq => (hS q hq).1), h3⟩
    · rintro r w6 ⟨hr, f6⟩
      replace H := H.fr f6
      exact b_ret H (fun F => ⟨_, rfl, hr, F⟩)
  · have eR : swL c t a b = [] := by unfold swL; rw [if_neg hs]
    rw [if_neg hs, eR]
    refine b_as (cs := zLk) (zs := zLk) (n := 9) H Tryd.zeroValue57 Tryd.sizeOf57 (by intro v hv; simp [zLk] at hv; rcases hv with rfl | rfl | rfl <;> rfl) (fun k w5 H => ?_)
    refine r_if (fun h5 => ?_) (fun h5 => absurd hs h5)
    exact b_ret H (fun F => ⟨_, rfl, Sl.nil, F⟩)
end
end Go.Proofs.YtbljpcikcefkiaaDoor.Hd

/- Scripts compared by the reference, over trees; what masks and swaps do to likeness, plain. -/
set_option linter.unusedVariables false
set_option linter.unusedSimpArgs false
namespace Go.Proofs.YtbljpcikcefkiaaDoor.Hd
open Go Go.RowKit Go.Proofs.YtbljpcikcefkiaaDoor.Sx
open Go.Proofs.YtbljpcikcefkiaaDoor.Bi (mixed take_s Has_t rHas_t)
open Go.Proofs.YtbljpcikcefkiaaDoor.Cf
theorem tick_ext {x y : GTick} (h1 : x.bytes = y.bytes) (h2 : x.picks = y.picks) : x = y := by cases x; cases y; simp_all
section
variable {Z : ZP} {w : World}
theorem rSame_t {X Y : Option Addr} {cx cy : Nat} {a b : List GTick} (ha : Rw rTick w X a) (hb : Rw rTick w Y b) (hl : a.length ≤ big) (wa : WfS a) (wb : WfS b) : Cz Tryd.prog 11 [.slice X a.length cx, .slice Y b.length cy] w (fun r w' => r = B (decide (a = b)) ∧ Fr [] w w') Z := by
  refine go mixed Tryd.func11 Tryd.call11 rfl (Tr.e11 _ _) ?_
  simp only [big] at hl
  refine r_if (fun h => ?_) (fun h => ?_)
  · exact r_ret ⟨by rw [decide_eq_false (fun e => h (by rw [e]))], Fr.refl _ _⟩
  have hlen : a.length = b.length := by omega
  refine r_loop (fun (i : Nat) => [I (i : Int), B false]) (fun i w' => i ≤ a.length ∧ (∀ j, j < i → a[j]? = b[j]?) ∧ Fr [] w w') (fun i => a.length - i) 0 ⟨Nat.zero_le _, fun _ h => by omega, Fr.refl _ _⟩ rfl ?_
  rintro i w1 ⟨hi, hok, F⟩
  refine r_if (fun h1 => ?_) (fun h1 => ?_)
  · refine r_dr (fun w2 f2 => ?_)
    have F2 := F.trans f2
    obtain ⟨x, hx⟩ := gt (xs := a) (j := i) (by omega)
    obtain ⟨y, hy⟩ := gt (xs := b) (j := i) (by omega)
    obtain ⟨ad, es, rfl, rd, e3⟩ := ha i x hx
    obtain ⟨ad2, es2, rfl, rd2, e4⟩ := hb i y hy
    obtain ⟨T1, d1, T2, d2, rfl, m1, m2⟩ := oTick e3
    obtain ⟨S1, e1, S2, e2, rfl, n1, n2⟩ := oTick e4
    have no : ¬ x = y → ∀ {w' : World}, Fr [] w w' → (B false = B (decide (a = b)) ∧ Fr [] w w') := fun hne w' f => ⟨by rw [decide_eq_false (fun e => hne (by rw [e, hy] at hx; cases hx; rfl))], f⟩
    have x0 : ∀ {w' : World}, Fr [] w w' → w'.cell? (addA (addA ad (((i : Nat) : Int).toNat * 2)) 0) = some (.slice T1 x.bytes.length d1) := fun f => (rd.fr f).2 0 _ rfl
    have x1 : ∀ {w' : World}, Fr [] w w' → w'.cell? (addA (addA ad (((i : Nat) : Int).toNat * 2)) 1) = some (.slice T2 x.picks.length d2) := fun f => (rd.fr f).2 1 _ rfl
    have y0 : ∀ {w' : World}, Fr [] w w' → w'.cell? (addA (addA ad2 (((i : Nat) : Int).toNat * 2)) 0) = some (.slice S1 y.bytes.length e1) := fun f => (rd2.fr f).2 0 _ rfl
    have y1 : ∀ {w' : World}, Fr [] w w' → w'.cell? (addA (addA ad2 (((i : Nat) : Int).toNat * 2)) 1) = some (.slice S2 y.picks.length e2) := fun f => (rd2.fr f).2 1 _ rfl
    have ob1 : 0 ≤ (i : Int) ∧ (i : Int) < a.length := ⟨by omega, by omega⟩
    have ob2 : 0 ≤ (i : Int) ∧ (i : Int) < b.length := ⟨by omega, by omega⟩
    refine r_ob ob1 ?_
    refine r_ld (x0 F2) ?_
    refine r_ob ob2 ?_
    refine r_ld (y0 F2) ?_
    refine r_if (fun h3 => r_ret (no (fun e => h3 (by rw [e])) F2)) (fun h3 => ?_)
    refine r_ob ob1 ?_
    refine r_ld (x1 F2) ?_
    refine r_ob ob2 ?_
    refine r_ld (y1 F2) ?_
    refine r_if (fun h4 => r_ret (no (fun e => h4 (by rw [e])) F2)) (fun h4 => ?_)
    have lb : x.bytes.length = y.bytes.length := by omega
    have lp : x.picks.length = y.picks.length := by omega
    have kb := m1.2.1
    have kp := m2.2.1
    simp only [big] at kb kp
    refine r_loop (fun (k : Nat) => [I (k : Int), B false]) (fun k w' => k ≤ x.bytes.length ∧ (∀ j, j < k → x.bytes[j]? = y.bytes[j]?) ∧ Fr [] w w') (fun k => x.bytes.length - k) 0 ⟨Nat.zero_le _, fun _ h => by omega, F2⟩ rfl ?_
    rintro k w3 ⟨hk, hkb, F3⟩
    refine r_ob ob1 ?_
    refine r_ld (x0 F3) ?_
    refine r_if (fun h5 => ?_) (fun h5 => ?_)
    · refine r_dr (fun w4 f4 => ?_)
      have F4 := F3.trans f4
      obtain ⟨p, hp⟩ := gt (xs := x.bytes) (j := k) (by omega)
      obtain ⟨q, hq⟩ := gt (xs := y.bytes) (j := k) (by omega)
      have wp' := wa x (List.mem_of_getElem? hx) p (List.mem_of_getElem? hp)
      have wq' := wb y (List.mem_of_getElem? hy) q (List.mem_of_getElem? hq)
      obtain ⟨a3, es3, rfl, rd3, e5⟩ := m1.2.2 k p hp
      obtain ⟨P1, c1, rfl, p1, p2, p3⟩ := e5
      obtain ⟨a4, es4, rfl, rd4, e6⟩ := n1.2.2 k q hq
      obtain ⟨Q1, c2, rfl, q1, q2, q3⟩ := e6
      have cp1 := cell1 (rd3.fr F4)
      have cq1 := cell1 (rd4.fr F4)
      refine r_ob ob1 ?_
      refine r_ld (x0 F4) ?_
      refine r_ob ⟨by omega, by omega⟩ ?_
      refine r_ld cp1 ?_
      refine r_ob ob2 ?_
      refine r_ld (y0 F4) ?_
      refine r_ob ⟨by omega, by omega⟩ ?_
      refine r_ld cq1 ?_
      have fin : ∀ {A' : List Nat → List Value → World → Prop} {t u : T}, (p ≠ q → wp Tryd.prog Z (fun r w' => r = B (decide (a = b)) ∧ Fr [] w w') [] t w4 A' nB) → True := fun _ => trivial
      refine ⟨?_, ?_⟩
      · refine r_str (e := 5) (by kernel_rfl) (by kernel_rfl) (by kernel_rfl) (p3.up F4) rfl ?_
        refine r_chk (y0 F4) (r_chk cq1 ?_)
        refine r_str (e := 5) (by kernel_rfl) (by kernel_rfl) (by kernel_rfl) (q3.up F4) rfl ?_
        refine r_chk (x0 F4) (r_chk cp1 ?_)
        refine ⟨_, fun w' => run_neS (by kernel_rfl) _ _ _ _ w', ?_⟩
        refine r_if (fun h6 => r_ret (no (fun e => h6 (by subst e; rw [hp] at hq; cases hq; rfl)) F4)) (fun h6 => ?_)
        have epq := str_inj wp' wq' (Classical.not_not.1 h6)
        refine r_ar (by omega) ?_
        refine r_ag (k + 1) ⟨by omega, fun j hj => ?_, F4⟩ (by omega) rfl
        rcases Nat.lt_or_ge j k with h' | h'
        · exact hkb j h'
        · obtain rfl : j = k := by omega
          rw [hp, hq, epq]
      · refine r_str (e := 5) (by kernel_rfl) (by kernel_rfl) (by kernel_rfl) (q3.up F4) rfl ?_
        refine r_chk (x0 F4) (r_chk cp1 ?_)
        refine r_str (e := 5) (by kernel_rfl) (by kernel_rfl) (by kernel_rfl) (p3.up F4) rfl ?_
        refine r_chk (y0 F4) (r_chk cq1 ?_)
        refine ⟨_, fun w' => run_neS (by kernel_rfl) _ _ _ _ w', ?_⟩
        refine r_if (fun h6 => r_ret (no (fun e => h6 (by subst e; rw [hp] at hq; cases hq; rfl)) F4)) (fun h6 => ?_)
        have epq := str_inj wp' wq' (Classical.not_not.1 h6)
        refine r_ar (by omega) ?_
        refine r_ag (k + 1) ⟨by omega, fun j hj => ?_, F4⟩ (by omega) rfl
        rcases Nat.lt_or_ge j k with h' | h'
        · exact hkb j h'
        · obtain rfl : j = k := by omega
          rw [hp, hq, epq]
    · obtain rfl : k = x.bytes.length := by omega
      have eb : x.bytes = y.bytes := eq_all lb hkb
      refine r_brk ?_
      refine r_loop (fun (k : Nat) => [I (k : Int), B false]) (fun k w' => k ≤ x.picks.length ∧ (∀ j, j < k → x.picks[j]? = y.picks[j]?) ∧ Fr [] w w') (fun k => x.picks.length - k) 0 ⟨Nat.zero_le _, fun _ h => by omega, F3⟩ rfl ?_
      rintro k w4 ⟨hk2, hkp, F4⟩
      refine r_ob ob1 ?_
      refine r_ld (x1 F4) ?_
      refine r_if (fun h6 => ?_) (fun h6 => ?_)
      · refine r_dr (fun w5 f5 => ?_)
        have F5 := F4.trans f5
        obtain ⟨p, hp⟩ := gt (xs := x.picks) (j := k) (by omega)
        obtain ⟨q, hq⟩ := gt (xs := y.picks) (j := k) (by omega)
        obtain ⟨a3, es3, rfl, rd3, e5⟩ := m2.2.2 k p hp
        obtain rfl := e5
        obtain ⟨a4, es4, rfl, rd4, e6⟩ := n2.2.2 k q hq
        obtain rfl := e6
        refine r_ob ob1 ?_
        refine r_ld (x1 F5) ?_
        refine r_ob ⟨by omega, by omega⟩ ?_
        refine r_ld (cell_int (rd3.fr F5)) ?_
        refine r_ob ob2 ?_
        refine r_ld (y1 F5) ?_
        refine r_ob ⟨by omega, by omega⟩ ?_
        refine r_ld (cell_int (rd4.fr F5)) ?_
        refine r_if (fun h7 => r_ret (no (fun e => h7 (by subst e; rw [hp] at hq; cases hq; rfl)) F5)) (fun h7 => ?_)
        refine r_ar (by omega) ?_
        refine r_ag (k + 1) ⟨by omega, fun j hj => ?_, F5⟩ (by omega) rfl
        rcases Nat.lt_or_ge j k with h' | h'
        · exact hkp j h'
        · obtain rfl : j = k := by omega
          rw [hp, hq, Classical.not_not.1 h7]
      · obtain rfl : k = x.picks.length := by omega
        refine r_brk ?_
        refine r_ar (by omega) ?_
        refine r_ag (i + 1) ⟨by omega, fun j hj => ?_, F4⟩ (by omega) rfl
        rcases Nat.lt_or_ge j i with h' | h'
        · exact hok j h'
        · obtain rfl : j = i := by omega
          rw [hx, hy, tick_ext eb (eq_all lp hkp)]
  · obtain rfl : i = a.length := by omega
    exact r_brk (r_ret ⟨by rw [decide_eq_true (eq_all hlen hok)], F⟩)
end
/-! ### plain -/
theorem split_take (q : Nat) : ∀ b : Bs, split q (b.take (16 * q)) = split q b := by
  induction q with
  | zero => intro b; rfl
  | succ q ih =>
    intro b
    unfold split
    by_cases h : b.length = 0
    · rw [if_pos h, if_pos (by rw [List.length_take]; omega)]
    · rw [if_neg h, if_neg (by rw [List.length_take]; omega), List.take_take, show min 16 (16 * (q + 1)) = 16 by omega, List.drop_take, show 16 * (q + 1) - 16 = 16 * q by omega, ih]
theorem asked_no {c : GConf} {t : GTick} {o : Nat} (h : ¬ (o : Int) < t.bytes.length) : asked c t o = [] := by unfold asked; rw [if_neg (fun hh => h hh.2)]
theorem asked_at {c : GConf} {t : GTick} {o : Nat} {bo : Bs} (h : t.bytes[o]? = some bo) : asked c t o = (split c.requests.toNat bo).map ask1 := by
  have := (List.getElem?_eq_some_iff.1 h).1
  unfold asked
  rw [if_pos ⟨by omega, by omega⟩, Int.toNat_natCast, h]; rfl
theorem msk_bytes (c : GConf) (o : Nat) (t : GTick) : (mskT c o t).bytes = if (o : Int) < t.bytes.length ∧ 0 < ((t.bytes[o]?).getD []).length then List.replicate o [] ++ [((t.bytes[o]?).getD []).take (16 * c.requests).toNat] else [] := by
  unfold mskT
  simp only [Int.toNat_natCast]
theorem msk_asked {c : GConf} (C : Cok c) {o : Nat} (t : GTick) : asked c (mskT c o t) o = asked c t o := by
  have hr := C.req
  have e16 : (16 * c.requests).toNat = 16 * c.requests.toNat := by omega
  have hb := msk_bytes c o t
  by_cases h : (o : Int) < t.bytes.length
  · obtain ⟨bo, hbo⟩ := gt (xs := t.bytes) (j := o) (by omega)
    rw [hbo, Option.getD_some] at hb
    rw [asked_at hbo]
    by_cases h0 : 0 < bo.length
    · rw [if_pos ⟨h, h0⟩] at hb
      rw [asked_at (bo := bo.take (16 * c.requests).toNat) (by rw [hb, List.getElem?_append_right (by simp)]; simp), e16, split_take]
    · rw [if_neg (fun hh => h0 hh.2)] at hb
      rw [asked_no (by rw [hb]; simp), split_nil _ (by omega)]; rfl
  · rw [if_neg (fun hh => h hh.1)] at hb
    rw [asked_no (by rw [hb]; simp), asked_no h]
theorem pk_take (t : GTick) (bs : List Bs) {n i : Nat} (h : i < n) : pk ⟨bs, t.picks.take n⟩ i = pk t i := by
  unfold pk
  dsimp only
  rw [List.getElem?_take, if_pos h]
theorem msk_al {c : GConf} (C : Cok c) {o : Nat} (a b : GTick) : al c o (mskT c o a) (mskT c o b) = al c o a b ∧ al c o a (mskT c o a) = true := by
  have e1 : ∀ (t : GTick) i, i < nb c → pk (mskT c o t) i = pk t i := fun t i hi => pk_take t _ hi
  unfold al
  rw [msk_asked C, msk_asked C]
  refine ⟨?_, ?_⟩
  · congr 1
    apply Bool.eq_iff_iff.2
    rw [List.all_eq_true, List.all_eq_true]
    constructor
    · intro h i hi
      have := h i hi
      rwa [e1 a i (List.mem_range.1 hi), e1 b i (List.mem_range.1 hi)] at this
    · intro h i hi
      rw [e1 a i (List.mem_range.1 hi), e1 b i (List.mem_range.1 hi)]
      exact h i hi
  · rw [decide_eq_true rfl, Bool.and_true, List.all_eq_true]
    intro i hi
    rw [e1 a i (List.mem_range.1 hi)]
    exact decide_eq_true rfl
theorem al_self (c : GConf) (o : Int) (a : GTick) : al c o a a = true := by
  unfold al
  simp
theorem msk_msk {c : GConf} (C : Cok c) {o : Nat} (t : GTick) : mskT c o (mskT c o t) = mskT c o t := by
  have hr := C.req
  apply tick_ext
  · unfold mskT
    dsimp only
    simp only [Int.toNat_natCast]
    by_cases h : (o : Int) < t.bytes.length ∧ 0 < ((t.bytes[o]?).getD []).length
    · rw [if_pos h]
      have e : (List.replicate o ([] : Bs) ++ [((t.bytes[o]?).getD []).take (16 * c.requests).toNat])[o]? = some (((t.bytes[o]?).getD []).take (16 * c.requests).toNat) := by
        rw [List.getElem?_append_right (by simp)]; simp
      rw [e, Option.getD_some, if_pos ⟨by simp; omega, by rw [List.length_take]; omega⟩, List.take_take, Nat.min_self]
    · rw [if_neg h, if_neg (by simp)]
  · show (t.picks.take (nb c)).take (nb c) = t.picks.take (nb c)
    rw [List.take_take, Nat.min_self]
theorem mskI_mskI {c : GConf} (C : Cok c) (s : BitVec 64) (i : Nat) (t : GTick) : mskI c s i (mskI c s i t) = mskI c s i t := by
  unfold mskI
  by_cases h : Bt.has s (ownC c i) = true
  · rw [if_pos h, if_pos h]
    obtain ⟨o, ho⟩ := Int.eq_ofNat_of_zero_le (C.ownC i).1
    rw [ho]
    exact msk_msk C t
  · rw [if_neg h, if_neg h]
theorem mapIdx_tk {f : Nat → GTick → GTick} {l : List GTick} {i : Nat} (h : i < l.length) : tk (l.mapIdx f) i = f i (tk l i) := by
  unfold tk
  rw [List.getElem?_mapIdx, List.getElem?_eq_getElem h]; rfl
theorem fstB_congr {f g : Nat → Bool} : ∀ {n : Nat}, (∀ i, i < n → f i = g i) → fstB f n = fstB g n := by
  intro n
  induction n with
  | zero => intro _; rfl
  | succ n ih =>
    intro h
    unfold fstB
    rw [ih (fun i hi => h i (by omega)), h n (by omega)]
theorem sE_same {c : GConf} {t : Int} {a b x y : List GTick} (h1 : a.length = x.length) (h2 : b.length = y.length) : sE c t [a, b] = sE c t [x, y] := by
  unfold sE
  simp only [List.all_cons, List.all_nil, List.getElem?_cons_zero, Option.getD_some, h1, h2]
theorem sE_eq {c : GConf} {t : Int} {a b : List GTick} (h : a.length = b.length) (h0 : lowE c t = 0) : sE c t [a, b] = 0 := by
  unfold sE
  rw [if_pos h0, if_pos (by simp; omega)]
theorem mskI_bad {c : GConf} (C : Cok c) {t : Int} {a b : List GTick} {i : Nat} (ha : i < a.length) (hb : i < b.length) : badI c t (a.mapIdx (mskI c (lowV c t))) (b.mapIdx (mskI c (lowV c t))) i = badI c t a b i := by
  unfold badI
  rw [mapIdx_tk ha, mapIdx_tk hb]
  cases h : Bt.has (lowV c t) (ownC c i) with
  | false => rfl
  | true =>
    unfold mskI
    rw [if_pos h, if_pos h]
    obtain ⟨o, ho⟩ := Int.eq_ofNat_of_zero_le (C.ownC i).1
    rw [ho, (msk_al C _ _).1]
theorem mskI_own {c : GConf} (C : Cok c) {t : Int} {a : List GTick} {i : Nat} (ha : i < a.length) : badI c t a (a.mapIdx (mskI c (lowV c t))) i = false := by
  unfold badI
  rw [mapIdx_tk ha]
  cases h : Bt.has (lowV c t) (ownC c i) with
  | false => rfl
  | true =>
    unfold mskI
    rw [if_pos h]
    obtain ⟨o, ho⟩ := Int.eq_ofNat_of_zero_le (C.ownC i).1
    rw [ho, (msk_al C _ (tk a i)).2]; rfl
theorem mask_own {c : GConf} {t : Int} (h : lowE c t = 0) (a : List GTick) : alkR c t a (mskL c t a) = true ∧ sE c t [a, mskL c t a] = 0 := by
  have C := cok (lowE_conf h).1
  have e : mskL c t a = a.mapIdx (mskI c (lowV c t)) := by unfold mskL; rw [if_pos h]
  rw [e]
  have hs := sE_eq (c := c) (t := t) (a := a) (b := a.mapIdx (mskI c (lowV c t))) (by simp) h
  refine ⟨?_, hs⟩
  unfold alkR fstR
  rw [hs, if_pos rfl, fstB_no (fun i hi => mskI_own C hi)]
  rfl
theorem mask_two {c : GConf} {t : Int} (h : lowE c t = 0) (a b : List GTick) : alkR c t (mskL c t a) (mskL c t b) = alkR c t a b ∧ sE c t [mskL c t a, mskL c t b] = sE c t [a, b] := by
  have C := cok (lowE_conf h).1
  have e : ∀ a, mskL c t a = a.mapIdx (mskI c (lowV c t)) := fun a => by unfold mskL; rw [if_pos h]
  rw [e, e]
  have hs := sE_same (c := c) (t := t) (a := a.mapIdx (mskI c (lowV c t))) (b := b.mapIdx (mskI c (lowV c t))) (x := a) (y := b) (by simp) (by simp)
  refine ⟨?_, hs⟩
  unfold alkR fstR
  rw [hs]
  by_cases h0 : sE c t [a, b] = 0
  · rw [if_pos h0, if_pos h0]
    have hl := (sE_two h0).2
    rw [List.length_mapIdx, fstB_congr (fun i hi => mskI_bad C hi (by omega))]
  · rw [if_neg h0, if_neg h0]
theorem mask_mask {c : GConf} {t : Int} (h : lowE c t = 0) (a : List GTick) : mskL c t (mskL c t a) = mskL c t a := by
  have C := cok (lowE_conf h).1
  have e : ∀ a, mskL c t a = a.mapIdx (mskI c (lowV c t)) := fun a => by unfold mskL; rw [if_pos h]
  rw [e, e]
  apply List.ext_getElem?
  intro i
  rw [List.getElem?_mapIdx, List.getElem?_mapIdx]
  cases a[i]? with
  | none => rfl
  | some x => simp [mskI_mskI C]
theorem mask_len (c : GConf) (t : Int) (a : List GTick) : (mskL c t a).length ≤ a.length := by unfold mskL; split <;> simp
theorem mask_wf {c : GConf} {t : Int} {a : List GTick} (h : WfS a) : WfS (mskL c t a) := by
  unfold mskL
  split
  · intro x hx b hb
    obtain ⟨i, hi⟩ := List.mem_iff_getElem?.1 hx
    rw [List.getElem?_mapIdx] at hi
    cases ha : a[i]? with
    | none => rw [ha] at hi; cases hi
    | some y =>
      rw [ha] at hi
      simp at hi
      subst hi
      unfold mskI at hb
      split at hb
      · unfold mskT at hb
        dsimp only at hb
        split at hb
        · rename_i hc
          rcases List.mem_append.1 hb with hb | hb
          · obtain rfl := (List.mem_replicate.1 hb).2
            intro z hz; cases hz
          · simp at hb
            subst hb
            intro z hz
            have hz' := List.mem_of_mem_take hz
            cases hbo : y.bytes[(ownC c i).toNat]? with
            | none => rw [hbo] at hz'; cases hz'
            | some bo => rw [hbo] at hz'; exact h y (List.mem_of_getElem? ha) bo (List.mem_of_getElem? hbo) z hz'
        · cases hb
      · cases hb
  · intro x hx; cases hx
/-! swaps -/
theorem swap_own {c : GConf} {t u : Int} {a b : List GTick} (h : lowE c t = 0) (hu : lowE c u = 0) (hl : a.length = b.length) (hsub : ∀ o, Bt.has (lowV c u) o = true → Bt.has (lowV c t) o = true) : alkR c u a (swL c t a b) = true ∧ sE c u [a, swL c t a b] = 0 := by
  have e : swL c t a b = a.mapIdx (swI c (lowV c t) b) := by unfold swL; rw [if_pos (sE_eq hl h)]
  rw [e]
  have hs := sE_eq (c := c) (t := u) (a := a) (b := a.mapIdx (swI c (lowV c t) b)) (by simp) hu
  refine ⟨?_, hs⟩
  unfold alkR fstR
  rw [hs, if_pos rfl, fstB_no (fun i hi => ?_)]
  · rfl
  · unfold badI
    rw [mapIdx_tk hi]
    cases h1 : Bt.has (lowV c u) (ownC c i) with
    | false => rfl
    | true =>
      unfold swI
      rw [if_pos (hsub _ h1), al_self]; rfl
theorem swap_len {c : GConf} {t : Int} {a b : List GTick} : (swL c t a b).length ≤ a.length := by unfold swL; split <;> simp
theorem swap_wf {c : GConf} {t : Int} {a b : List GTick} (ha : WfS a) (hb : WfS b) : WfS (swL c t a b) := by
  unfold swL
  split
  · intro x hx
    obtain ⟨i, hi⟩ := List.mem_iff_getElem?.1 hx
    rw [List.getElem?_mapIdx] at hi
    cases h : a[i]? with
    | none => rw [h] at hi; cases hi
    | some y =>
      rw [h] at hi
      simp at hi
      subst hi
      unfold swI
      split
      · exact ha y (List.mem_of_getElem? h)
      · unfold tk
        cases h2 : b[i]? with
        | none => intro q hq; cases hq
        | some z => exact hb z (List.mem_of_getElem? h2)
  · intro x hx; cases hx
end Go.Proofs.YtbljpcikcefkiaaDoor.Hd

/- The laws HideMasked and HideSwapped: their walks. -/
set_option linter.unusedVariables false
set_option linter.unusedSimpArgs false
namespace Go.Proofs.YtbljpcikcefkiaaDoor.Hd
open Go Go.RowKit Go.Proofs.YtbljpcikcefkiaaDoor.Sx
open Go.Proofs.YtbljpcikcefkiaaDoor.Bi (mixed take_s Has_t rHas_t)
open Go.Proofs.YtbljpcikcefkiaaDoor.Cf
theorem few_len' (l : List GTick) (m : Nat) : (few l m).length ≤ m := by unfold few; simp; omega
theorem few_wf' {l : List GTick} (h : WfS l) (m : Nat) : WfS (few l m) := by
  intro t ht b hb z hz
  unfold few at ht
  obtain ⟨u, hu, rfl⟩ := List.mem_map.1 ht
  obtain ⟨b0, hb0, rfl⟩ := List.mem_map.1 (show b ∈ (u.bytes.take 10).map (·.take 80) from hb)
  exact h u (List.mem_of_mem_take hu) b0 (List.mem_of_mem_take hb0) z (List.mem_of_mem_take hz)
theorem wf_u8 {z : Int} (h : (Lit.int .u8 z).wf = true) : 0 ≤ z ∧ z < 256 := by simp [Lit.wf, IntKind.min, IntKind.max, IntKind.bits, IntKind.signed] at h; omega
theorem wf_u64 {z : Int} (h : (Lit.int .u64 z).wf = true) : 0 ≤ z ∧ z < 18446744073709551616 := by simp [Lit.wf, IntKind.min, IntKind.max, IntKind.bits, IntKind.signed] at h; omega
section
variable {Z : ZP} {w : World}
theorem lawMasked_t {cs : List Value} {c : GConf} (hc : rConf.r w cs c) (hw : Wf c) (t : Int) (hG : Gl w) {X Y : Option Addr} {cx cy : Nat} {a b : List GTick} (ha : Rw rTick w X a) (hb : Rw rTick w Y b) (wa : WfS a) (wb : WfS b) : Cz Tryd.prog 3 [.agg cs.toArray, I t, .slice X a.length cx, .slice Y b.length cy] w (fun r w' => r = B true ∧ Fr [] w w') Z := by
  have hlc := rConf.len hc
  refine go mixed Tryd.func3 Tryd.call3 rfl (Tr.e3 _ _ _ _) ?_
  refine b_box (Bx.nil w) (fun b1 w1 H => ?_)
  refine b_ldn H 0 rfl ?_ hlc
  refine b_call H (Small_t (rConf.up H.F hc)) (fun w2 H => ?_)
  have last : ∀ {w6 : World}, Bx w w6 [(b1, 28, cs)] → wp Tryd.prog Z (fun r w' => r = B true ∧ Fr [] w w') [] (.call 6 [] fun v115 => .ret v115) w6 nA nB := by
    intro w6 H
    refine b_call H alive_t (fun w7 H => ?_)
    exact b_ret H (fun F => ⟨rfl, F⟩)
  refine r_ifbn (fun h => last H) (fun h => ?_)
  refine r_call (Few_t (ha.up H.F) (m := 40) (by omega)) ?_
  rintro _ w3 ⟨⟨X1, c1, rfl, x1, x2, x3⟩, f3⟩
  replace H := H.fr f3
  refine r_call (Few_t (hb.up H.F) (m := 40) (by omega)) ?_
  rintro _ w4 ⟨⟨Y1, d1, rfl, y1, y2, y3⟩, f4⟩
  replace H := H.fr f4
  have la := few_len' a 40
  have lb := few_len' b 40
  have wa' := few_wf' wa 40
  have wb' := few_wf' wb 40
  replace x3 := x3.up f4
  generalize few a 40 = a at *
  generalize few b 40 = b at *
  refine b_ldn H 0 rfl ?_ hlc
  refine r_call (Mask_t (rConf.up H.F hc) hw t x3 x1 (by omega)) ?_
  rintro _ w5 ⟨_, rfl, ⟨P1, p1, rfl, p2, p3, p4⟩, f5⟩
  replace H := H.fr f5
  replace x3 := x3.up f5
  replace y3 := y3.up f5
  refine b_ldn H 0 rfl ?_ hlc
  refine r_call (Mask_t (rConf.up H.F hc) hw t y3 y1 (by omega)) ?_
  rintro _ w6 ⟨_, rfl, ⟨Q1, q1, rfl, q2, q3, q4⟩, f6⟩
  replace H := H.fr f6
  replace x3 := x3.up f6
  replace y3 := y3.up f6
  replace p4 := p4.up f6
  have lma := mask_len c t a
  have lmb := mask_len c t b
  have wma := mask_wf (c := c) (t := t) wa'
  have wmb := mask_wf (c := c) (t := t) wb'
  refine r_if (fun h1 => ?_) (fun h1 => ?_)
  · refine b_ldn H 0 rfl ?_ hlc
    refine b_call H (rKnows_t (rConf.up H.F hc) hw t) (fun w7 H => ?_)
    exact r_if (fun _ => last H) (fun h2 => absurd h1 h2)
  refine r_if (fun h2 => absurd h2 h1) (fun _ => ?_)
  have h0 := Classical.not_not.1 h1
  obtain ⟨o1, o2⟩ := mask_own h0 a
  obtain ⟨t1, t2⟩ := mask_two h0 a b
  have mm := mask_mask h0 a
  refine b_ldn H 0 rfl ?_ hlc
  refine r_call (Alike_t (rConf.up H.F hc) hw t (hG.up H.F) x3 p4 x1 p2 (by omega) (by omega) wa' wma) ?_
  rintro _ w7 ⟨rfl, f7⟩
  replace H := H.fr f7
  replace x3 := x3.up f7
  replace y3 := y3.up f7
  replace p4 := p4.up f7
  replace q4 := q4.up f7
  refine b_ldn H 0 rfl ?_ hlc
  refine r_call (Mask_t (rConf.up H.F hc) hw t p4 p2 (by omega)) ?_
  rintro _ w8 ⟨_, rfl, ⟨R1, r1, rfl, r2, r3, r4⟩, f8⟩
  replace H := H.fr f8
  replace x3 := x3.up f8
  replace y3 := y3.up f8
  replace p4 := p4.up f8
  replace q4 := q4.up f8
  refine r_if (fun h3 => absurd o2 h3) (fun _ => ?_)
  refine r_if (fun h3 => absurd h0 h3) (fun _ => ?_)
  refine r_ifbn (fun h3 => by rw [o1] at h3; cases h3) (fun _ => ?_)
  refine r_call (rSame_t p4 r4 p3 wma (by rw [mm]; exact wma)) ?_
  rintro _ w9 ⟨rfl, f9⟩
  replace H := H.fr f9
  replace x3 := x3.up f9
  replace y3 := y3.up f9
  replace p4 := p4.up f9
  replace q4 := q4.up f9
  refine r_ifn (fun h3 => absurd mm.symm h3) (fun _ => ?_)
  refine b_ldn H 0 rfl ?_ hlc
  refine r_call (Alike_t (rConf.up H.F hc) hw t (hG.up H.F) x3 y3 x1 y1 (by omega) (by omega) wa' wb') ?_
  rintro _ w10 ⟨rfl, f10⟩
  replace H := H.fr f10
  refine b_ldn H 0 rfl ?_ hlc
  refine r_call (Alike_t (rConf.up H.F hc) hw t (hG.up H.F) (p4.up f10) (q4.up f10) p2 q2 (by omega) (by omega) wma wmb) ?_
  rintro _ w11 ⟨rfl, f11⟩
  replace H := H.fr f11
  refine r_if (fun _ => ?_) (fun h4 => absurd t2.symm h4)
  refine r_ifb (fun _ => last H) (fun h4 => ?_)
  rw [t1] at h4
  simp at h4
theorem masked_c (W : World) (hG : Gl W) {cs : List Value} {c : GConf} (hc : rConf.r W cs c) (wc : ∀ z ∈ c.flows, (Lit.int .u64 z).wf = true) (t : Int) {X Y : Option Addr} {cx cy : Nat} {a b : List GTick} (ha : Rw rTick W X a) (wa : ∀ t ∈ a, ∀ b ∈ t.bytes, ∀ z ∈ b, (Lit.int .u8 z).wf = true) (hb : Rw rTick W Y b) (wb : ∀ t ∈ b, ∀ b ∈ t.bytes, ∀ z ∈ b, (Lit.int .u8 z).wf = true) : Cl Tryd.prog 3 [.agg cs.toArray, I t, .slice X a.length cx, .slice Y b.length cy] W (fun r w' => r = B true ∧ Fr [] W w') :=
  (lawMasked_t hc (fun z hz => wf_u64 (wc z hz)) t hG ha hb (fun t ht b hb z hz => wf_u8 (wa t ht b hb z hz)) (fun t ht b hb z hz => wf_u8 (wb t ht b hb z hz))).cl
theorem has_sub {k s : BitVec 64} (h : (((k &&& ~~~s).toNat : Nat) : Int) = 0) : ∀ o, Bt.has k o = true → Bt.has s o = true := by
  intro o ho
  unfold Bt.has at ho ⊢
  rw [Bool.and_eq_true] at ho ⊢
  have h1 := of_decide_eq_true ho.1
  exact ⟨ho.1, (Bt.andn_zero k s).1 h o.toNat (by omega) ho.2⟩
theorem lawSwapped_t {cs : List Value} {c : GConf} (hc : rConf.r w cs c) (hw : Wf c) (t u : Int) (hG : Gl w) {X Y : Option Addr} {cx cy : Nat} {a b : List GTick} (ha : Rw rTick w X a) (hb : Rw rTick w Y b) (wa : WfS a) (wb : WfS b) : Cz Tryd.prog 4 [.agg cs.toArray, I t, I u, .slice X a.length cx, .slice Y b.length cy] w (fun r w' => r = B true ∧ Fr [] w w') Z := by
  have hlc := rConf.len hc
  refine go mixed Tryd.func4 Tryd.call4 rfl (Tr.e4 _ _ _ _ _) ?_
  refine b_box (Bx.nil w) (fun b1 w1 H => ?_)
  refine b_ldn H 0 rfl ?_ hlc
  refine b_call H (Small_t (rConf.up H.F hc)) (fun w2 H => ?_)
  have last : ∀ {w6 : World}, Bx w w6 [(b1, 28, cs)] → wp Tryd.prog Z (fun r w' => r = B true ∧ Fr [] w w') [] (.call 6 [] fun v115 => .ret v115) w6 nA nB := by
    intro w6 H
    refine b_call H alive_t (fun w7 H => ?_)
    exact b_ret H (fun F => ⟨rfl, F⟩)
  refine r_ifbn (fun h => last H) (fun h => ?_)
  refine r_call (Few_t (ha.up H.F) (m := 40) (by omega)) ?_
  rintro _ w3 ⟨⟨X1, c1, rfl, x1, x2, x3⟩, f3⟩
  replace H := H.fr f3
  refine r_call (Few_t (hb.up H.F) (m := 40) (by omega)) ?_
  rintro _ w4 ⟨⟨Y1, d1, rfl, y1, y2, y3⟩, f4⟩
  replace H := H.fr f4
  have la := few_len' a 40
  have lb := few_len' b 40
  have wa' := few_wf' wa 40
  have wb' := few_wf' wb 40
  replace x3 := x3.up f4
  generalize few a 40 = a at *
  generalize few b 40 = b at *
  refine r_if (fun _ => last H) (fun hl => ?_)
  have hlen : a.length = b.length := by omega
  refine b_ldn H 0 rfl ?_ hlc
  refine r_call (Swap_t (rConf.up H.F hc) hw t x3 y3 x1 y1 (by omega) (by omega)) ?_
  rintro _ w5 ⟨_, rfl, ⟨P1, p1, rfl, p2, p3, p4⟩, f5⟩
  replace H := H.fr f5
  replace x3 := x3.up f5
  refine b_ldn H 0 rfl ?_ hlc
  refine r_call (rKnows_t (rConf.up H.F hc) hw t) ?_
  rintro _ w6 ⟨rfl, f6⟩
  replace H := H.fr f6
  replace x3 := x3.up f6
  replace p4 := p4.up f6
  have lsw := swap_len (c := c) (t := t) (a := a) (b := b)
  have wsw := swap_wf (c := c) (t := t) wa' wb'
  by_cases h0 : lowE c t = 0
  · have hs := sE_eq (c := c) (t := t) hlen h0
    obtain ⟨o1, o2⟩ := swap_own (u := t) h0 h0 hlen (fun _ h => h)
    refine r_if (fun h1 => absurd hs h1) (fun _ => ?_)
    refine r_if (fun h1 => absurd h0 h1) (fun _ => ?_)
    refine b_ldn H 0 rfl ?_ hlc
    refine r_call (Alike_t (rConf.up H.F hc) hw t (hG.up H.F) x3 p4 x1 p2 (by omega) (by omega) wa' wsw) ?_
    rintro _ w7 ⟨rfl, f7⟩
    replace H := H.fr f7
    replace x3 := x3.up f7
    replace p4 := p4.up f7
    refine b_ldn H 0 rfl ?_ hlc
    refine r_call (rKnows_t (rConf.up H.F hc) hw u) ?_
    rintro _ w8 ⟨rfl, f8⟩
    replace H := H.fr f8
    replace x3 := x3.up f8
    replace p4 := p4.up f8
    refine r_if (fun h1 => absurd o2 h1) (fun _ => ?_)
    refine r_ifbn (fun h1 => by rw [o1] at h1; cases h1) (fun _ => ?_)
    refine r_if (fun _ => last H) (fun h1 => ?_)
    have hu := Classical.not_not.1 h1
    refine r_andn ?_
    refine r_if (fun _ => last H) (fun h2 => ?_)
    obtain ⟨u1, u2⟩ := swap_own (u := u) h0 hu hlen (has_sub (Classical.not_not.1 h2))
    refine b_ldn H 0 rfl ?_ hlc
    refine r_call (Alike_t (rConf.up H.F hc) hw u (hG.up H.F) x3 p4 x1 p2 (by omega) (by omega) wa' wsw) ?_
    rintro _ w9 ⟨rfl, f9⟩
    replace H := H.fr f9
    refine r_if (fun _ => ?_) (fun h3 => absurd u2 h3)
    refine r_ifb (fun _ => last H) (fun h3 => ?_)
    rw [u1] at h3
    cases h3
  · have hs : sE c t [a, b] = lowE c t := sE_low h0
    refine r_if (fun _ => ?_) (fun h1 => absurd (by rw [hs]; exact h0) h1)
    refine r_ifb (fun _ => last H) (fun h1 => ?_)
    rw [hs, decide_eq_true h0] at h1
    cases h1
theorem swapped_c (W : World) (hG : Gl W) {cs : List Value} {c : GConf} (hc : rConf.r W cs c) (wc : ∀ z ∈ c.flows, (Lit.int .u64 z).wf = true) (t u : Int) {X Y : Option Addr} {cx cy : Nat} {a b : List GTick} (ha : Rw rTick W X a) (wa : ∀ t ∈ a, ∀ b ∈ t.bytes, ∀ z ∈ b, (Lit.int .u8 z).wf = true) (hb : Rw rTick W Y b) (wb : ∀ t ∈ b, ∀ b ∈ t.bytes, ∀ z ∈ b, (Lit.int .u8 z).wf = true) : Cl Tryd.prog 4 [.agg cs.toArray, I t, I u, .slice X a.length cx, .slice Y b.length cy] W (fun r w' => r = B true ∧ Fr [] W w') :=
  (lawSwapped_t hc (fun z hz => wf_u64 (wc z hz)) t u hG ha hb (fun t ht b hb z hz => wf_u8 (wa t ht b hb z hz)) (fun t ht b hb z hz => wf_u8 (wb t ht b hb z hz))).cl
end
end Go.Proofs.YtbljpcikcefkiaaDoor.Hd
