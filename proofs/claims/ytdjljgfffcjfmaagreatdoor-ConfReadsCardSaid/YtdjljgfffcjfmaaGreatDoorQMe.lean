/- The program's sets of bits, over trees: one member, whether there is one, all members. -/
import Derived.Test.YtdjljgfffcjfmaaGreatDoorQMc
import Derived.Test.YtdjljgfffcjfmaaGreatDoorQTr
set_option linter.unusedVariables false
set_option linter.unusedSimpArgs false
namespace Go.Proofs.YtdjljgfffcjfmaaGreatDoor.Bi
open Go Go.RowKit Go.Proofs.YtdjljgfffcjfmaaGreatDoor.Sx
theorem mixed : Tryz.prog.follows .mixedOrders = true := by kernel_rfl
section
variable {Z : ZP} {w : World}
theorem one_t {i : Nat} (hi : i < 64) : Cz Tryz.prog 138 [I i] w (fun r w' => r = U ((1#64) <<< i) ∧ w' = w) Z := by
  refine go mixed Tryz.func138 Tryz.call138 rfl (Tr.e138 _) ?_
  refine r_cu (by omega) ?_
  refine r_shl1 hi ?_
  exact r_ret ⟨rfl, rfl⟩
theorem Has_t (s : BitVec 64) (i : Int) : Cz Tryz.prog 141 [U s, I i] w (fun r w' => r = B (Bt.has s i) ∧ w' = w) Z := by
  refine go mixed Tryz.func141 Tryz.call141 rfl (Tr.e141 _ _) ?_
  unfold Bt.has
  refine r_if (fun h0 => ?_) (fun h0 => ?_)
  · refine r_if (fun h1 => ?_) (fun h1 => ?_)
    · obtain ⟨n, rfl⟩ : ∃ n : Nat, i = n := ⟨i.toNat, by omega⟩
      have hn : n < 64 := by omega
      refine r_call (one_t hn) ?_
      rintro _ w1 ⟨rfl, rfl⟩
      refine r_and ?_
      refine r_ret ⟨?_, rfl⟩
      rw [decide_eq_true (show 0 ≤ (n : Int) ∧ (n : Int) < 64 by omega), Bool.true_and, Int.toNat_natCast, ← Bt.and1 s hn]
    · exact r_ret ⟨by rw [decide_eq_false (fun h => h1 h.2)]; rfl, rfl⟩
  · exact r_ret ⟨by rw [decide_eq_false (fun h => h0 h.1)]; rfl, rfl⟩
theorem has_nat (s : BitVec 64) {i : Nat} (hi : i < 64) : Bt.has s (i : Int) = s.getLsbD i := by
  unfold Bt.has
  rw [decide_eq_true (show 0 ≤ (i : Int) ∧ (i : Int) < 64 by omega)]
  simp
/-- The iterator: its set lies in a box that rounds leave alone. -/
theorem All1_it {s : BitVec 64} {b T0 : Nat} {L : Nat} {J : List Nat → Nat → World → Prop} {K : List Nat → World → Prop} (RG : Rg Tryz.prog L (St (Bt.memI s)) J K) (hb : ∀ V m w, J V m w → Blk w b T0 [U s]) (h0 : J [] 0 w) :
    Cz Tryz.prog 140 [.func (.yield L) #[] #[], Pt b 0] w (fun _ w' => ∃ V, J V (Bt.memI s).length w' ∨ K V w') Z := by
  refine go mixed Tryz.func140 Tryz.call140 rfl (Tr.e140 _ _) ?_
  refine r_loop (fun (i : Nat) => [I (i : Int)]) (fun i w' => i ≤ 64 ∧ J [] (Bt.cnt s i) w') (fun i => 64 - i) 0 ⟨Nat.zero_le _, h0⟩ rfl ?_
  rintro i w1 ⟨hi, hJ⟩
  refine r_if (fun h => ?_) (fun h => ?_)
  · have hi2 : i < 64 := by omega
    refine r_ld ((hb _ _ _ hJ).cell rfl) ?_
    refine r_call (Has_t s i) ?_
    rintro _ w2 ⟨rfl, rfl⟩
    rw [has_nat s hi2]
    have hc := Bt.cnt_succ s i
    refine r_ifb (fun hs => ?_) (fun hs => ?_)
    · rw [if_pos hs] at hc
      refine r_yld (RG.yd [] _ _ _ _ hJ (by simp) ⟨_, Bt.cnt_at hi2 hs, rfl, rfl⟩) ?_
      rintro v w3 ⟨⟨rfl, hJ2⟩ | ⟨rfl, hK⟩, _, _⟩
      · refine r_ar (z := (i : Int) + 1) (by omega) ?_
        exact r_ag (i + 1) ⟨by omega, by rw [hc]; exact hJ2⟩ (by omega) rfl
      · exact r_ret ⟨[], .inr hK⟩
    · rw [if_neg (by rw [hs]; simp), Nat.add_zero] at hc
      refine r_ar (by omega) ?_
      exact r_ag (i + 1) ⟨by omega, by rw [hc]; exact hJ⟩ (by omega) rfl
  · have : i = 64 := by omega
    subst this
    rw [Bt.cnt_all] at hJ
    exact r_brk (r_ret ⟨[], .inl hJ⟩)
theorem All_t (s : BitVec 64) : Cz Tryz.prog 128 [U s] w (fun r w' => ∃ b, r = .func (.func 140) [].toArray [Pt b 0].toArray ∧ b = w.heap.size ∧ Blk w' b 48 [U s] ∧ Fr [] w w') Z := by
  refine go mixed Tryz.func128 Tryz.call128 rfl (Tr.e128 _) ?_
  refine r_box (cs := [U s]) (fun b w1 hb Bb f => ?_)
  exact r_ret ⟨b, rfl, hb, Bb, f⟩
theorem Eint : El Tryz.prog 26 3 1 8 (I 0) := ⟨by kernel_rfl, by kernel_rfl, Tryz.sizeOf3, Tryz.zeroValue3, rfl⟩
/-- A row made by a call. -/
def Nw (w w' : World) (v : Value) (xs : List Int) : Prop := w'.ownsRow 0 3 1 v xs.length (ints xs) ∧ ∀ q ∈ v.ownBlock.toList, w.heap.size ≤ q
theorem take_s {α : Type} {l : List α} {m : Nat} {x : α} (h : l[m]? = some x) : l.take (m + 1) = l.take m ++ [x] := by
  rw [List.take_add_one, h]; rfl
theorem List_t (s : BitVec 64) : Cz Tryz.prog 109 [U s] w (fun r w' => Nw w w' r (Bt.memI s) ∧ Fr [] w w') Z := by
  refine go mixed Tryz.func109 Tryz.call109 rfl (Tr.e109 _) ?_
  refine r_al Tryz.zeroValue26 (fun c w1 hc Bc f1 => ?_)
  refine r_call (All_t s) ?_
  rintro _ w2 ⟨b, rfl, hb, Bb, f2⟩
  have F2 := f1.trans f2
  have hc1 := Bc.lt
  have hc2 : c < w2.heap.size := (Bc.fr0 f2).lt
  have hb2 : b < w2.heap.size := Bb.lt
  have hbc : b ≠ c := by omega
  refine ⟨_, _, rfl, Tryz.call140, (fun L o h => by cases h), fun L0 D a0 b0 w3 hL0 hL1 f3 hLa hD => ?_⟩
  obtain ⟨hD0, hDL, hD1, hDd⟩ := hD
  obtain ⟨ks, hks⟩ : ∃ ks, ks = Bt.memI s := ⟨_, rfl⟩
  have hkl : ks.length ≤ 64 := by rw [hks]; unfold Bt.memI Bt.mem; rw [List.length_map]; exact Nat.le_trans (List.length_filter_le _ _) (by simp)
  rw [← hks]
  refine ⟨Nat, St ks, fun U m W => ∃ vc, (Blk W c 26 [vc] ∧ W.ownsRow 0 3 1 vc (ks.take m).length (ints (ks.take m)) ∧ c ∉ vc.ownBlock.toList) ∧ (∀ q ∈ c :: vc.ownBlock.toList, q ∉ U) ∧ (∀ q ∈ U, w2.heap.size ≤ q) ∧ (∀ q ∈ vc.ownBlock.toList, w2.heap.size ≤ q) ∧ Fr [c] w2 W, fun _ _ _ => False, 0, ks.length, ?_, ?_, ?_, ?_, ?_, ?_, ?_⟩
  · refine ⟨.slice none 0 0, ⟨(Bc.fr0 f2).fr0 f3, own_nil _ _ _, by simp [Value.ownBlock]⟩, fun q hq => ?_, fun q hq => ?_, by simp [Value.ownBlock], f3.mono (by simp)⟩
    · simp [Value.ownBlock] at hq; subst hq; simp [u0]; omega
    · simp [u0] at hq; rcases hq with rfl | rfl <;> assumption
  · intro m
    refine ⟨?_, ?_⟩
    · rintro V W W' ⟨vc, ⟨p1, p2, p3⟩, h1, h2, h3, F⟩ g
      exact ⟨vc, ⟨p1.fr g (h1 c (by simp)), own_f p2 g (fun q hq => h1 q (by simp [hq])), p3⟩, h1, h2, h3, F.trans_new g (fun q hq => .inr (h2 q hq))⟩
    · rintro V W x ⟨vc, ⟨p1, p2, p3⟩, h1, h2, h3, F⟩ hx
      have hlt : ∀ q ∈ c :: vc.ownBlock.toList, q < W.heap.size := fun q hq => by
        rcases List.mem_cons.1 hq with rfl | hq
        · exact p1.lt
        · exact (own_lt p2 q hq).2
      refine ⟨vc, ⟨p1, p2, p3⟩, fun q hq hU => ?_, fun q hq => ?_, h3, F⟩
      · rcases List.mem_cons.1 hU with rfl | hU
        · have := hlt _ hq; omega
        · exact h1 q hq hU
      · rcases List.mem_cons.1 hq with rfl | hq
        · exact Nat.le_trans F.size hx
        · exact h2 q hq
  · exact fun _ => ⟨fun _ _ _ h _ => h, fun _ _ _ h _ => h⟩
  · rintro V m m' _ W hLU _ hUs ⟨vc, ⟨p1, p2, p3⟩, h1, h2, h3, F⟩ hLW ⟨x, hx, rfl, rfl⟩
    refine ⟨rfl, ?_⟩
    have hcL : c ≠ L0 := fun e => h1 c (by simp) (e ▸ hLU)
    refine r_rb hLW (fun Wb fb hLb => ?_)
    have q1 := p1.fr fb (by simpa using hcL)
    have q2 := own_f p2 fb (fun q hq e => by simp at e; subst e; exact h1 _ (by simp [hq]) hLU)
    refine r_ld (q1.cell rfl) ?_
    refine r_bs1 Eint (fun e w5 he Be f5 => ?_)
    have hm : m < ks.length := (List.getElem?_eq_some_iff.1 hx).1
    refine r_appO Eint (own_fr0 q2 f5) (m := 1) (news := [I x]) rfl (by simp) (fun ad he j u hj => ?_) (one1 rfl) (by simp only [big]; simp; omega) (Nat.zero_le _) (fun v' w6 HO f6 hob => ?_)
    · cases he; exact Be.rd.2 j u hj
    have hB6 := (q1.fr0 f5).fr f6 p3
    have hO : ∀ q ∈ v'.ownBlock.toList, q ∈ vc.ownBlock.toList ∨ Wb.heap.size ≤ q := fun q hq => by
      rcases hob with h | h
      · exact .inl (h ▸ hq)
      · rw [h] at hq; simp at hq; subst hq; exact .inr f5.size
    have hnb : c ∉ v'.ownBlock.toList := fun hq => by
      rcases hO c hq with h | h
      · exact p3 h
      · have := q1.lt; omega
    obtain ⟨X, cp, rfl, _⟩ := own_slice HO
    refine r_st1 hB6 Tryz.sizeOf26 (fun w7 B7 f7 => ?_)
    have G : Fr (c :: vc.ownBlock.toList) Wb w7 := ((f5.mono (by simp)).trans (f6.mono (fun q hq => List.mem_cons_of_mem _ hq))).trans (f7.mono (by simp))
    refine ⟨⟨_, ⟨B7, ?_, hnb⟩, fun q hq hU => ?_, h2, fun q hq => ?_, ?_⟩, Kp.of fb G ((G.keep L0 (Array.getElem?_eq_some_iff.1 hLb).1 (fun e => h1 L0 e hLU)).trans hLb) (fun q hq e => h1 q e hq) hUs⟩
    · have := own_f HO f7 (fun q hq hb => hnb (by simp at hb; rw [← hb]; exact hq))
      rw [take_s hx]
      simpa [ints] using this
    · rcases List.mem_cons.1 hq with rfl | hq
      · exact h1 _ (by simp) hU
      · rcases hO q hq with h | h
        · exact h1 q (by simp [h]) hU
        · have := hUs q hU; have := fb.size; omega
    · rcases hO q hq with h | h
      · exact h3 q h
      · exact Nat.le_trans (Nat.le_trans F.size fb.size) h
    · refine (F.trans_new fb (fun q hq => .inr (h2 q (by simp at hq; subst hq; exact hLU)))).trans_new G (fun q hq => ?_)
      rcases List.mem_cons.1 hq with rfl | hq
      · exact .inl (by simp)
      · exact .inr (h3 q hq)
  · intro J K' RG hJI hJ0 _
    rw [hks] at RG ⊢
    refine All1_it (T0 := 48) RG (fun V m W hJ => ?_) hJ0
    obtain ⟨_, _, _, _, _, F⟩ := hJI _ _ _ hJ
    exact Bb.fr F (by simpa using hbc)
  · rintro V W ⟨vc, ⟨p1, p2, p3⟩, h1, h2, h3, Fc⟩ hDW
    rw [List.take_length] at p2
    refine r_ld (p1.cell rfl) ?_
    refine r_ret1 hDW (fun w5 f5 => ⟨⟨own_f p2 f5 (fun q hq e => ?_), fun q hq => Nat.le_trans F2.size (h3 q hq)⟩, ?_⟩)
    · exact own_nd p2 hDW q hq (by simpa using e)
    · exact (F2.trans_new Fc (fun q hq => .inr (by simp at hq; omega))).trans_new f5 (fun q hq => .inr (by simp at hq; subst hq; exact Nat.le_trans F2.size hD0))
  · rintro V W j h; exact h.elim
end
end Go.Proofs.YtdjljgfffcjfmaaGreatDoor.Bi

/- The reference's sets of bits, over trees. -/
set_option linter.unusedVariables false
set_option linter.unusedSimpArgs false
namespace Go.Proofs.YtdjljgfffcjfmaaGreatDoor.Bi
open Go Go.RowKit Go.Proofs.YtdjljgfffcjfmaaGreatDoor.Sx
section
variable {P : Program} {Z : ZP} {R : Value → World → Prop} {w : World} {A : List Nat → List Value → World → Prop} {B : List Nat → Nat → List Value → World → Prop} {ds : List Nat} {k : Value → T} {t : TypeId} {a : BitVec 64}
theorem r_quo2 (h : wp P Z R ds (k (U (a >>> 1))) w A B) : wp P Z R ds (.pu (binOp .quo t (U a) (.int .u64 2)) k) w A B := by
  have hv : IntKind.u64.wrap (((a.toNat : Nat) : Int).tdiv 2) = (((a >>> 1).toNat : Nat) : Int) := by
    have h := a.isLt
    rw [Bt.wrap_u, BitVec.toNat_ushiftRight, Nat.shiftRight_eq_div_pow, Int.tdiv_eq_ediv_of_nonneg (by omega)]
    omega
  have e : (Op.intDiv .quo .u64 ((a.toNat : Nat) : Int) 2 : Sem Value) = pure (U (a >>> 1)) := by
    unfold Op.intDiv
    rw [if_neg (by decide)]
    show (pure (.int .u64 (IntKind.u64.wrap (((a.toNat : Nat) : Int).tdiv 2))) : Sem Value) = _
    rw [hv]
  exact ⟨_, fun w' => by rw [binOp_quo, e]; rfl, h⟩
theorem r_rem2 (h : wp P Z R ds (k (.int .u64 (if a.getLsbD 0 = true then 1 else 0))) w A B) : wp P Z R ds (.pu (binOp .rem t (U a) (.int .u64 2)) k) w A B := by
  have hv : ((a.toNat : Nat) : Int).tmod 2 = if a.getLsbD 0 = true then 1 else 0 := by
    rw [Int.tmod_eq_emod_of_nonneg (by omega)]
    have : a.getLsbD 0 = decide (a.toNat % 2 = 1) := by
      show a.toNat.testBit 0 = _
      rw [Nat.testBit_zero]
    rw [this]
    by_cases e : a.toNat % 2 = 1
    · simp [e]; omega
    · simp [e]; omega
  refine r_pu (o := ⟨none, .binOp .rem t (.const (U a)) (.const (.int .u64 2)) 0, 0, "", #[], none⟩) (v := .int .u64 (if a.getLsbD 0 = true then 1 else 0)) (fun w' => ?_) h rfl
  have := x_rem (P := P) (l := []) (w := w') (d := none) (ty := 0) (t := t) (pos := "") (af := #[]) (g := none) (x := .const (U a)) (y := .const (.int .u64 2)) (ty2 := 0) (k := .u64) (a := ((a.toNat : Nat) : Int)) (b := 2) rfl rfl (by decide)
  rw [hv] at this
  exact this
end
section
variable {Z : ZP} {w : World}
theorem rHas_t (s : BitVec 64) (i : Int) : Cz Tryz.prog 31 [U s, I i] w (fun r w' => r = B (Bt.has s i) ∧ w' = w) Z := by
  refine go mixed Tryz.func31 Tryz.call31 rfl (Tr.e31 _ _) ?_
  unfold Bt.has
  refine r_if (fun h0 => ?_) (fun h0 => ?_)
  · exact r_ret ⟨by rw [decide_eq_false (fun h => by omega)]; rfl, rfl⟩
  refine r_if (fun h1 => ?_) (fun h1 => ?_)
  · exact r_ret ⟨by rw [decide_eq_false (fun h => by omega)]; rfl, rfl⟩
  obtain ⟨n, rfl⟩ : ∃ n : Nat, i = n := ⟨i.toNat, by omega⟩
  rw [decide_eq_true (show 0 ≤ (n : Int) ∧ (n : Int) < 64 by omega), Bool.true_and, Int.toNat_natCast]
  refine r_loop (fun (j : Nat) => [U (s >>> j), I ((n : Int) - j)]) (fun j w' => j ≤ n ∧ w' = w) (fun j => n - j) 0 ⟨Nat.zero_le _, rfl⟩ (by simp) ?_
  rintro j w1 ⟨hj, rfl⟩
  refine r_if (fun h => ?_) (fun h => ?_)
  · replace h : 0 < (n : Int) - j := h
    refine r_quo2 ?_
    refine r_ar (by show -9223372036854775808 ≤ (n : Int) - j - 1 ∧ (n : Int) - j - 1 ≤ _; omega) ?_
    exact r_ag (j + 1) ⟨by omega, rfl⟩ (by omega) (show [U (s >>> (j + 1)), I ((n : Int) - ((j + 1 : Nat) : Int))] = [U ((s >>> j) >>> 1), I ((n : Int) - j - 1)] by rw [← BitVec.shiftRight_add, show (n : Int) - ((j + 1 : Nat) : Int) = (n : Int) - j - 1 by omega])
  · replace h : ¬ 0 < (n : Int) - j := h
    have : j = n := by omega
    subst this
    refine r_brk ?_
    refine r_rem2 ?_
    refine r_ret ⟨?_, rfl⟩
    have e : (s >>> j).getLsbD 0 = s.getLsbD j := by simp
    rw [e]
    cases s.getLsbD j <;> rfl
/-- The members below a number. -/
def pre (s : BitVec 64) (i : Nat) : List Int := ((List.range i).filter (fun j => s.getLsbD j)).map (fun j : Nat => (j : Int))
theorem pre_succ (s : BitVec 64) (i : Nat) : pre s (i + 1) = pre s i ++ if s.getLsbD i = true then [(i : Int)] else [] := by
  unfold pre
  rw [List.range_succ, List.filter_append, List.map_append]
  congr 1
  by_cases h : s.getLsbD i = true <;> simp [h]
theorem pre_len (s : BitVec 64) (i : Nat) : (pre s i).length ≤ i := by
  unfold pre
  rw [List.length_map]
  exact Nat.le_trans (List.length_filter_le _ _) (by simp)
theorem rList_t (s : BitVec 64) : Cz Tryz.prog 77 [U s] w (fun r w' => Nw w w' r (Bt.memI s) ∧ Fr [] w w') Z := by
  refine go mixed Tryz.func77 Tryz.call77 rfl (Tr.e77 _) ?_
  refine r_loop (fun (t : Nat × Value) => [I (t.1 : Int), t.2]) (fun t w' => t.1 ≤ 64 ∧ Nw w w' t.2 (pre s t.1) ∧ Fr [] w w') (fun t => 64 - t.1) (0, .slice none 0 0) ⟨Nat.zero_le _, ⟨own_nil _ _ _, by simp [Value.ownBlock]⟩, Fr.refl _ _⟩ rfl ?_
  rintro ⟨i, u⟩ w1 ⟨hi, hu, F⟩
  dsimp only at hi hu F
  have hp := pre_succ s i
  have hl := pre_len s i
  refine r_if (fun h => ?_) (fun h => ?_)
  · have hi2 : i < 64 := by
      have h : (i : Int) < 64 := h
      omega
    refine r_call (rHas_t s i) ?_
    rintro _ w2 ⟨rfl, rfl⟩
    rw [has_nat s hi2]
    refine r_ifb (fun hs => ?_) (fun hs => ?_)
    · rw [if_pos hs] at hp
      refine r_bs1 Eint (cs := [I (i : Int)]) (fun c w3 hc Bc f3 => ?_)
      refine r_appO Eint (own_fr0 hu.1 f3) (m := 1) (news := [I (i : Int)]) rfl (by simp) (fun ad he j v hj => ?_) (one1 rfl) (by simp only [big]; omega) (Nat.zero_le _) (fun v' w4 HO f4 hob => ?_)
      · cases he; exact Bc.rd.2 j v hj
      refine r_ar (by show -9223372036854775808 ≤ (i : Int) + 1 ∧ (i : Int) + 1 ≤ _; omega) ?_
      refine r_ag (i + 1, v') ⟨by dsimp only; omega, ?_, (F.trans f3).trans_new f4 (fun q hq => .inr (hu.2 q hq))⟩ (by dsimp only; omega) rfl
      dsimp only
      rw [hp]
      refine ⟨by simpa [ints] using HO, fun q hq => ?_⟩
      rcases hob with h' | h'
      · exact hu.2 q (h' ▸ hq)
      · rw [h'] at hq; simp at hq; subst hq; exact Nat.le_trans F.size f3.size
    · rw [if_neg (by rw [hs]; simp), List.append_nil] at hp
      refine r_ar (by show -9223372036854775808 ≤ (i : Int) + 1 ∧ (i : Int) + 1 ≤ _; omega) ?_
      exact r_ag (i + 1, u) ⟨by dsimp only; omega, by dsimp only; rw [hp]; exact hu, F⟩ (by dsimp only; omega) rfl
  · have : i = 64 := by
      have h : ¬ (i : Int) < 64 := h
      omega
    subst this
    exact r_brk (r_ret ⟨hu, F⟩)
end
end Go.Proofs.YtdjljgfffcjfmaaGreatDoor.Bi

/- Relations as rows of bits, over trees: which may be. -/
set_option linter.unusedVariables false
set_option linter.unusedSimpArgs false
namespace Go.Proofs.YtdjljgfffcjfmaaGreatDoor.Bi
open Go Go.RowKit Go.Proofs.YtdjljgfffcjfmaaGreatDoor.Sx
/-- Rows in memory. -/
def RU (w : World) (X : Option Addr) (bs : List (BitVec 64)) : Prop := ∀ (j : Nat) b, bs[j]? = some b → ∃ ad, X = some ad ∧ w.cell? (addA ad (j * 1)) = some (U b)
theorem RU.up {w w' : World} {X : Option Addr} {bs : List (BitVec 64)} (h : RU w X bs) (f : Fr [] w w') : RU w' X bs := fun j b hb => let ⟨ad, h1, h2⟩ := h j b hb; ⟨ad, h1, f.c h2⟩
def okRow (n : Nat) (b : BitVec 64) : Bool := (List.range 64).all (fun j => !b.getLsbD j || decide (j < n))
theorem okRow_iff {n : Nat} {b : BitVec 64} : okRow n b = true ↔ ∀ j, j < 64 → b.getLsbD j = true → j < n := by
  unfold okRow
  rw [List.all_eq_true]
  constructor
  · intro h j hj hb
    have := h j (List.mem_range.2 hj)
    simpa [hb] using this
  · intro h j hj
    cases hb : b.getLsbD j with
    | false => rfl
    | true => simp [h j (List.mem_range.1 hj) hb]
theorem okRow_shr {n : Nat} {b : BitVec 64} (hn : n < 64) : okRow n b = decide ((((b >>> n).toNat : Nat) : Int) = 0) := by
  rw [Bool.eq_iff_iff, okRow_iff, decide_eq_true_iff, Bt.zero_iff]
  constructor
  · intro h j hj
    rw [BitVec.getLsbD_ushiftRight]
    cases hb : b.getLsbD (n + j) with
    | false => rfl
    | true =>
      have hlt : n + j < 64 := BitVec.lt_of_getLsbD hb
      have := h _ hlt hb
      omega
  · intro h j hj hb
    rcases Nat.lt_or_ge j n with h1 | h1
    · exact h1
    · have := h (j - n) (by omega)
      rw [BitVec.getLsbD_ushiftRight, show n + (j - n) = j by omega, hb] at this
      cases this
theorem okRow_64 (b : BitVec 64) : okRow 64 b = true := okRow_iff.2 (fun j hj _ => hj)
def chk (bs : List (BitVec 64)) : Int := if 64 < bs.length then 3 else if bs.all (okRow bs.length) = true then 0 else 10
section
variable {Z : ZP} {w : World}
end
end Go.Proofs.YtdjljgfffcjfmaaGreatDoor.Bi

/- The program's relations, over trees: their rows, their closure. -/
set_option linter.unusedVariables false
set_option linter.unusedSimpArgs false
namespace Go.Proofs.YtdjljgfffcjfmaaGreatDoor.Bi
open Go Go.RowKit Go.Proofs.YtdjljgfffcjfmaaGreatDoor.Sx
section
variable {P : Program} {Z : ZP} {R : Value → World → Prop} {w : World} {A : List Nat → List Value → World → Prop} {B : List Nat → Nat → List Value → World → Prop} {ds : List Nat} {k : Value → T}
/-- copy into the head of a block, of single cells. -/
theorem r_copy {T e ty b T0 len c1 m c : Nat} {X : Option Addr} {cs vs : List Value} (hu : P.underlying T = some (.slice e)) (hs : ∀ w, (sizeOf e).run P w = .ok 1 w) (hb : Blk w b T0 cs) (hl : vs.length = min m len) (hlc : len ≤ cs.length) (hX : X = none → m = 0) (hv : ∀ ad, X = some ad → ∀ j u, vs[j]? = some u → w.cell? (addA ad j) = some u) (h1 : ∀ u ∈ vs, u.oneCell' = true)
    (hk : ∀ w', Blk w' b T0 (splice cs 0 vs) → Fr [b] w w' → wp P Z R ds (k (I (min m len : Nat))) w' A B) : wp P Z R ds (.hv (Builtin.copy_ #[T, T] ty [.slice (some ⟨b, 0, none⟩) len c1, .slice X m c].toArray) k) w A B := by
  obtain ⟨w', hr, hb', hf⟩ := run_splice (P := P) vs h1 0 0 w cs hb (by omega)
  refine ⟨I (min m len : Nat), w', ?_, hk w' (by simpa using hb') hf⟩
  unfold Builtin.copy_
  have hfc : (Builtin.firstCells 1 (Nat.min m len) (.slice X m c)).run P w = .ok vs.toArray w := by
    cases X with
    | none =>
      have := hX rfl
      subst this
      have : vs = [] := List.eq_nil_of_length_eq_zero (by rw [hl]; simp)
      subst this
      rfl
    | some ad =>
      have := run_loadCells_list (P := P) (w := w) ad vs (fun j u hj => by rw [← addA_eq]; exact hv ad rfl j u hj)
      show (loadCells ad (Nat.min m len * 1)).run P w = _
      rw [Nat.mul_one]
      rw [show Nat.min m len = vs.length from hl.symm]
      exact this
  simp [run_underlying hu, Builtin.lenOf, hs, hfc, hr]
  rfl
end
/-- A relation as cells: 64 rows, and how many count. -/
def mC (rows : List (BitVec 64)) (n : Nat) : List Value := rows.map U ++ [I n]
theorem mC_len {rows : List (BitVec 64)} {n : Nat} (h : rows.length = 64) : (mC rows n).length = 65 := by simp [mC, h]
theorem mC_one (rows : List (BitVec 64)) (n : Nat) : ∀ v ∈ mC rows n, v.oneCell' = true := by
  intro v hv
  rcases List.mem_append.1 hv with h | h
  · obtain ⟨b, _, rfl⟩ := List.mem_map.1 h; rfl
  · simp at h; subst h; rfl
theorem mC_n {rows : List (BitVec 64)} {n : Nat} (h : rows.length = 64) : (mC rows n)[64]? = some (I n) := by
  unfold mC
  rw [List.getElem?_append_right (by simp [h])]
  simp [h]
theorem mC_at {rows : List (BitVec 64)} {n i : Nat} {b : BitVec 64} (h : rows[i]? = some b) : (mC rows n)[i]? = some (U b) := by
  have hl := (List.getElem?_eq_some_iff.1 h).1
  unfold mC
  rw [List.getElem?_append_left (by simpa using hl), List.getElem?_map, h]; rfl
theorem mC_set {rows : List (BitVec 64)} {n i : Nat} (b : BitVec 64) (hi : i < rows.length) : (mC rows n).set i (U b) = mC (rows.set i b) n := by
  unfold mC
  rw [List.set_append_left _ _ (by simpa using hi), List.map_set]
theorem mC_setn {rows : List (BitVec 64)} {n m : Nat} (h : rows.length = 64) : (mC rows n).set 64 (I m) = mC rows m := by
  unfold mC
  rw [List.set_append_right _ _ (by simp [h])]
  simp [h]
def zr : List (BitVec 64) := List.replicate 64 0#64
def padR (bs : List (BitVec 64)) : List (BitVec 64) := bs ++ List.replicate (64 - bs.length) 0#64
theorem padR_len {bs : List (BitVec 64)} (h : bs.length ≤ 64) : (padR bs).length = 64 := by unfold padR; simp; omega
/-- What is made of rows. -/
def ofR (bs : List (BitVec 64)) : List (BitVec 64) × Nat := if chk bs = 0 then (padR bs, bs.length) else (zr, 0)
theorem splice_pad {bs : List (BitVec 64)} (h : bs.length ≤ 64) : splice (mC zr 0) 0 (bs.map U) = mC (padR bs) 0 := by
  have e : mC zr 0 = [] ++ (List.replicate bs.length 0#64).map U ++ ((List.replicate (64 - bs.length) 0#64).map U ++ [I 0]) := by
    unfold mC zr
    rw [← List.append_assoc]
    congr 1
    rw [List.nil_append, ← List.map_append, List.replicate_append_replicate]
    congr 2; omega
  have := splice_eq (bs.map U) [] ((List.replicate bs.length 0#64).map U) ((List.replicate (64 - bs.length) 0#64).map U ++ [I 0]) (by simp)
  rw [e, show ([] : List Value).length = 0 from rfl] at *
  rw [this]
  unfold mC padR
  simp
theorem sl64 (b : Nat) (w : World) : (Instr.sliceAt 165 (Pt b 0) none none none).run Tryz.prog w = .ok (.slice (some ⟨b, 0, none⟩) 64 64) w := by kernel_rfl
section
variable {Z : ZP} {w : World}
theorem of_t {X : Option Addr} {c : Nat} {bs : List (BitVec 64)} (hR : RU w X bs) : Cz Tryz.prog 143 [.slice X bs.length c] w (fun r w' => r = .tuple #[.agg (mC (ofR bs).1 (ofR bs).2).toArray, I (chk bs)] ∧ Fr [] w w') Z := by
  refine go mixed Tryz.func143 Tryz.call143 rfl (Tr.e143 _) ?_
  have hz : (mC zr 0).length = 65 := mC_len (by simp [zr])
  refine r_al (zs := mC zr 0) Tryz.zeroValue167 (fun r0 w1 hr0 B0 f1 => ?_)
  refine r_al (zs := mC zr 0) Tryz.zeroValue167 (fun m0 w2 hm0 M0 f2 => ?_)
  have hrl := B0.lt
  have hne : r0 ≠ m0 := by omega
  have F2 := f1.trans f2
  have B2 := B0.fr0 f2
  -- what is handed back
  have fin : ∀ {w3 : World} {cs : List Value} {rows : List (BitVec 64)} {n : Nat} {e : Int}, Blk w3 r0 167 cs → cs.length = 65 → rows.length = 64 → Fr [] w w3 → ofR bs = (rows, n) → chk bs = e →
      wp Tryz.prog Z (fun r w' => r = .tuple #[.agg (mC (ofR bs).1 (ofR bs).2).toArray, I (chk bs)] ∧ Fr [] w w') [] (.ef (Instr.storeAt 167 (Pt r0 0) (.agg (mC rows n).toArray)) (.ldn 65 (Pt r0 0) fun r0 => .ret (.tuple [r0, (I e)].toArray))) w3 nA nB := by
    intro w3 cs rows n e hb hcl hrl F ho he
    refine r_stn hb Tryz.sizeOf167 (mC_one rows n) (fun w4 B4 f4 => ?_) rfl (mC_len hrl) hcl
    refine r_ldn (B4.rd (mC_len hrl)) ?_
    refine r_ret ⟨by rw [ho, he], F.trans_new f4 (fun q hq => .inr (by simp at hq; omega))⟩
  refine r_if (fun h => ?_) (fun h => ?_)
  · have h3 : chk bs = 3 := by unfold chk; rw [if_pos (by omega)]
    refine r_ldn (M0.rd hz) ?_
    exact fin B2 hz (by simp [zr]) F2 (by unfold ofR; rw [if_neg (by rw [h3]; decide)]) h3
  have hl : bs.length ≤ 64 := by omega
  refine ⟨_, fun w' => sl64 m0 w', ?_⟩
  refine r_copy (e := 48) (vs := bs.map U) (by kernel_rfl) Tryz.sizeOf48 M0 (by simp; omega) (by rw [hz]; omega) (fun hX => ?_) (fun ad hX j u hj => ?_) (fun u hu => ?_) (fun w3 M3 f3 => ?_)
  · rcases Nat.eq_zero_or_pos bs.length with h0 | h0
    · exact h0
    · obtain ⟨b, hb⟩ := gt h0
      obtain ⟨_, h1, _⟩ := hR 0 b hb
      rw [hX] at h1; cases h1
  · rw [List.getElem?_map] at hj
    obtain ⟨b, hb, rfl⟩ := Option.map_eq_some_iff.1 hj
    obtain ⟨ad', h1, h2⟩ := hR j b hb
    rw [hX] at h1; cases h1
    have := F2.c h2
    rwa [Nat.mul_one] at this
  · obtain ⟨b, _, rfl⟩ := List.mem_map.1 hu; rfl
  rw [splice_pad hl] at M3
  have hpl := padR_len hl
  rw [show min bs.length 64 = bs.length by omega]
  refine r_st1 M3 Tryz.sizeOf3 (fun w4 M4 f4 => ?_) rfl rfl (by rw [mC_len hpl]; rfl)
  rw [mC_setn hpl] at M4
  have F4 : Fr [] w w4 := (F2.trans_new f3 (fun q hq => .inr (by simp at hq; omega))).trans_new f4 (fun q hq => .inr (by simp at hq; omega))
  have B4 := (B2.fr f3 (by simpa using hne)).fr f4 (by simpa using hne)
  refine r_ld (M4.cell (mC_n hpl)) ?_
  refine r_loop (fun (i : Nat) => [I (i : Int), I 0]) (fun i w' => i ≤ bs.length ∧ (∀ (j : Nat) b, j < i → bs[j]? = some b → okRow bs.length b = true) ∧ Blk w' r0 167 (mC zr 0) ∧ Blk w' m0 167 (mC (padR bs) bs.length) ∧ Fr [] w w') (fun i => bs.length - i) 0 ⟨Nat.zero_le _, fun _ _ h => by omega, B4, M4, F4⟩ rfl ?_
  rintro i w5 ⟨hi, hok, B5, M5, F5⟩
  refine r_if (fun h1 => ?_) (fun h1 => ?_)
  · refine r_dr (fun w6 f6 => ?_)
    have B6 := B5.fr0 f6
    have M6 := M5.fr0 f6
    have F6 := F5.trans f6
    obtain ⟨b, hb⟩ := gt (xs := bs) (j := i) (by omega)
    have hpb : (padR bs)[i]? = some b := by unfold padR; rw [List.getElem?_append_left (by omega)]; exact hb
    have next : okRow bs.length b = true → ∀ (j : Nat) b', j < i + 1 → bs[j]? = some b' → okRow bs.length b' = true := fun h j b' hj hb' => by
      rcases Nat.lt_or_ge j i with h' | h'
      · exact hok j b' h' hb'
      · obtain rfl : j = i := by omega
        rw [hb] at hb'; cases hb'; exact h
    refine r_ld (M6.cell (mC_n hpl)) ?_
    refine r_if (fun h2 => ?_) (fun h2 => ?_)
    · have hn : bs.length < 64 := by omega
      refine r_ob ⟨by omega, by show ((i : Nat) : Int) < ((64 : Nat) : Int); omega⟩ ?_
      refine r_ld (v := U b) (by
        have := M6.cell (mC_at (n := bs.length) hpb)
        show w6.cell? ⟨m0, 0 + 0 + ((i : Nat) : Int).toNat * 1, none⟩ = _
        rw [show 0 + 0 + ((i : Nat) : Int).toNat * 1 = i by omega]
        exact this) ?_
      refine r_ld (M6.cell (mC_n hpl)) ?_
      refine r_cu (by omega) ?_
      refine r_shr hn ?_
      have ho := okRow_shr (b := b) hn
      refine r_if (fun h3 => ?_) (fun h3 => ?_)
      · have hf : okRow bs.length b = false := by rw [ho]; exact decide_eq_false h3
        have h10 : chk bs = 10 := by
          unfold chk
          rw [if_neg (by omega), if_neg]
          intro hall
          have := List.all_eq_true.1 hall b (List.mem_of_getElem? hb)
          rw [hf] at this; cases this
        exact fin (rows := zr) (n := 0) B6 hz (by simp [zr]) F6 (by unfold ofR; rw [if_neg (by rw [h10]; decide)]) h10
      · refine r_ar (by omega) ?_
        exact r_ag (i + 1) ⟨by omega, next (by rw [ho]; exact decide_eq_true (Decidable.not_not.1 h3)), B6, M6, F6⟩ (by omega) rfl
    · have hn : bs.length = 64 := by omega
      refine r_ar (by omega) ?_
      exact r_ag (i + 1) ⟨by omega, next (by rw [hn]; exact okRow_64 b), B6, M6, F6⟩ (by omega) rfl
  · have h0 : chk bs = 0 := by
      unfold chk
      rw [if_neg (by omega), if_pos]
      refine List.all_eq_true.2 (fun b hb => ?_)
      obtain ⟨j, hj⟩ := List.getElem?_of_mem hb
      have := (List.getElem?_eq_some_iff.1 hj).1
      exact hok j b (by omega) hj
    refine r_brk ?_
    refine r_ldn (M5.rd (mC_len hpl)) ?_
    exact fin B5 hz hpl F5 (by unfold ofR; rw [if_pos h0]) h0
end
end Go.Proofs.YtdjljgfffcjfmaaGreatDoor.Bi

/- The program's relations, over trees: the closure. -/
set_option linter.unusedVariables false
set_option linter.unusedSimpArgs false
namespace Go.Proofs.YtdjljgfffcjfmaaGreatDoor.Bi
open Go Go.RowKit Go.Proofs.YtdjljgfffcjfmaaGreatDoor.Sx
/-! ### plain -/
abbrev Rs := List (BitVec 64)
def at_ (r : Rs) (i : Nat) : BitVec 64 := (r[i]?).getD 0#64
def s1 (r : Rs) : Nat → Rs
  | 0 => r
  | i + 1 => (s1 r i).set i (at_ (s1 r i) i ||| ((1#64) <<< i))
def inn (r : Rs) (way : Nat) : Nat → Rs
  | 0 => r
  | i + 1 => if (at_ (inn r way i) i).getLsbD way = true then (inn r way i).set i (at_ (inn r way i) i ||| at_ (inn r way i) way) else inn r way i
def s2 (r : Rs) (n : Nat) : Nat → Rs
  | 0 => r
  | w + 1 => inn (s2 r n w) w n
def closed (r : Rs) (n : Nat) : Rs := s2 (s1 r n) n n
theorem s1_len (r : Rs) (i : Nat) : (s1 r i).length = r.length := by
  induction i with
  | zero => rfl
  | succ i ih => unfold s1; rw [List.length_set, ih]
theorem inn_len (r : Rs) (w i : Nat) : (inn r w i).length = r.length := by
  induction i with
  | zero => rfl
  | succ i ih => unfold inn; split <;> simp [ih]
theorem s2_len (r : Rs) (n w : Nat) : (s2 r n w).length = r.length := by
  induction w with
  | zero => rfl
  | succ w ih => unfold s2; rw [inn_len, ih]
theorem at_some {r : Rs} {i : Nat} (h : i < r.length) : r[i]? = some (at_ r i) := by unfold at_; rw [List.getElem?_eq_getElem h]; rfl
section
variable {Z : ZP} {w : World}
theorem Eu64 : El Tryz.prog 22 48 1 8 (.int .u64 0) := ⟨by kernel_rfl, by kernel_rfl, Tryz.sizeOf48, Tryz.zeroValue48, rfl⟩
theorem mcell {w : World} {b T0 : Nat} {rows : Rs} {n i : Nat} (h : Blk w b T0 (mC rows n)) (hi : i < rows.length) : w.cell? ⟨b, 0 + 0 + ((i : Nat) : Int).toNat * 1, none⟩ = some (U (at_ rows i)) := by
  rw [show 0 + 0 + ((i : Nat) : Int).toNat * 1 = i by omega]
  exact h.cell (mC_at (at_some hi))
theorem closed_t {rows : Rs} {n : Nat} (hr : rows.length = 64) (hn : n ≤ 64) : Cz Tryz.prog 144 [.agg (mC rows n).toArray] w (fun r w' => r = .agg (mC (closed rows n) n).toArray ∧ Fr [] w w') Z := by
  refine go mixed Tryz.func144 Tryz.call144 rfl (Tr.e144 _) ?_
  refine r_box (cs := mC rows n) (fun m w1 hm M1 f1 => ?_)
  refine r_al (zs := mC zr 0) Tryz.zeroValue167 (fun o w2 ho O2 f2 => ?_)
  have hml := M1.lt
  have hne : m ≠ o := by omega
  have F2 := f1.trans f2
  have M2 := M1.fr0 f2
  refine r_ld (M2.cell (mC_n hr)) ?_
  refine r_loop (fun (i : Nat) => [I (i : Int)]) (fun i w' => i ≤ n ∧ Blk w' m 167 (mC (s1 rows i) n) ∧ Blk w' o 167 (mC zr 0) ∧ Fr [] w w') (fun i => n - i) 0 ⟨Nat.zero_le _, M2, O2, F2⟩ rfl ?_
  rintro i w3 ⟨hi, M3, O3, F3⟩
  have hl3 : (s1 rows i).length = 64 := by rw [s1_len, hr]
  refine r_if (fun h => ?_) (fun h => ?_)
  · refine r_dr (fun w4 f4 => ?_)
    have M4 := M3.fr0 f4
    refine r_ob ⟨by omega, by show ((i : Nat) : Int) < ((64 : Nat) : Int); omega⟩ ?_
    refine r_ld (mcell M4 (by omega)) ?_
    refine r_call (one_t (i := i) (by omega)) ?_
    rintro _ w5 ⟨rfl, rfl⟩
    refine r_chk (mcell M4 (by omega)) ?_
    refine r_or ?_
    refine r_ob ⟨by omega, by show ((i : Nat) : Int) < ((64 : Nat) : Int); omega⟩ ?_
    refine r_st1 M4 Tryz.sizeOf48 (fun w6 M6 f6 => ?_) rfl rfl (by rw [mC_len hl3]; simp; omega)
    rw [show 0 + 0 + ((i : Nat) : Int).toNat * 1 = i by omega, mC_set _ (by omega)] at M6
    refine r_ar (by omega) ?_
    exact r_ag (i + 1) ⟨by omega, M6, (O3.fr0 f4).fr f6 (by simp; omega), (F3.trans f4).trans_new f6 (fun q hq => .inr (by simp at hq; omega))⟩ (by omega) rfl
  have : i = n := by omega
  subst this
  refine r_brk ?_
  refine r_ld (M3.cell (mC_n hl3)) ?_
  obtain ⟨r1, hr1⟩ : ∃ r1, r1 = s1 rows i := ⟨_, rfl⟩
  unfold closed
  rw [← hr1] at M3 hl3 ⊢
  refine r_loop (fun (y : Nat) => [I (y : Int)]) (fun y w' => y ≤ i ∧ Blk w' m 167 (mC (s2 r1 i y) i) ∧ Blk w' o 167 (mC zr 0) ∧ Fr [] w w') (fun y => i - y) 0 ⟨Nat.zero_le _, M3, O3, F3⟩ rfl ?_
  rintro y w4 ⟨hy, M4, O4, F4⟩
  have hl4 : (s2 r1 i y).length = 64 := by rw [s2_len, hl3]
  refine r_if (fun h1 => ?_) (fun h1 => ?_)
  · refine r_ld (M4.cell (mC_n hl4)) ?_
    refine r_loop (fun (j : Nat) => [I (j : Int)]) (fun j w' => j ≤ i ∧ Blk w' m 167 (mC (inn (s2 r1 i y) y j) i) ∧ Blk w' o 167 (mC zr 0) ∧ Fr [] w w') (fun j => i - j) 0 ⟨Nat.zero_le _, M4, O4, F4⟩ rfl ?_
    rintro j w5 ⟨hj, M5, O5, F5⟩
    obtain ⟨q, hq⟩ : ∃ q, q = inn (s2 r1 i y) y j := ⟨_, rfl⟩
    have hst : inn (s2 r1 i y) y (j + 1) = if (at_ q j).getLsbD y = true then q.set j (at_ q j ||| at_ q y) else q := by rw [hq]; rfl
    have hlq : q.length = 64 := by rw [hq, inn_len, hl4]
    rw [← hq] at M5
    refine r_if (fun h2 => ?_) (fun h2 => ?_)
    · refine r_ob ⟨by omega, by show ((j : Nat) : Int) < ((64 : Nat) : Int); omega⟩ ?_
      refine r_ld (mcell M5 (by omega)) ?_
      refine r_call (Has_t _ y) ?_
      rintro _ w6 ⟨rfl, rfl⟩
      rw [has_nat _ (by omega : y < 64)]
      refine r_ifb (fun hb => ?_) (fun hb => ?_)
      · rw [if_pos hb] at hst
        refine r_dr (fun w7 f7 => ?_)
        have M7 := M5.fr0 f7
        refine r_ob ⟨by omega, by show ((j : Nat) : Int) < ((64 : Nat) : Int); omega⟩ ?_
        refine r_ld (mcell M7 (by omega)) ?_
        refine r_ob ⟨by omega, by show ((y : Nat) : Int) < ((64 : Nat) : Int); omega⟩ ?_
        refine r_ld (mcell M7 (by omega)) ?_
        refine r_or ?_
        refine r_ob ⟨by omega, by show ((j : Nat) : Int) < ((64 : Nat) : Int); omega⟩ ?_
        refine r_st1 M7 Tryz.sizeOf48 (fun w8 M8 f8 => ?_) rfl rfl (by rw [mC_len hlq]; simp; omega)
        rw [show 0 + 0 + ((j : Nat) : Int).toNat * 1 = j by omega, mC_set _ (by omega), ← hst] at M8
        refine r_ar (by omega) ?_
        exact r_ag (j + 1) ⟨by omega, M8, (O5.fr0 f7).fr f8 (by simp; omega), (F5.trans f7).trans_new f8 (fun q hq => .inr (by simp at hq; omega))⟩ (by omega) rfl
      · rw [if_neg (by rw [hb]; simp)] at hst
        refine r_ar (by omega) ?_
        exact r_ag (j + 1) ⟨by omega, by rw [hst]; exact M5, O5, F5⟩ (by omega) rfl
    · have : j = i := by omega
      subst this
      refine r_brk ?_
      refine r_ar (by omega) ?_
      exact r_ag (y + 1) ⟨by omega, by rw [hq] at M5; exact M5, O5, F5⟩ (by omega) rfl
  · have : y = i := by omega
    subst this
    refine r_brk ?_
    refine r_ldn (M4.rd (mC_len hl4)) ?_
    refine r_stn O4 Tryz.sizeOf167 (mC_one _ _) (fun w5 O5 f5 => ?_) rfl (mC_len hl4) (mC_len (by simp [zr]))
    refine r_ldn (O5.rd (mC_len hl4)) ?_
    exact r_ret ⟨rfl, F4.trans_new f5 (fun q hq => .inr (by simp at hq; omega))⟩
end
end Go.Proofs.YtdjljgfffcjfmaaGreatDoor.Bi

/- The program's relations, over trees: Check, Closure; what a closure is like. -/
set_option linter.unusedVariables false
set_option linter.unusedSimpArgs false
namespace Go.Proofs.YtdjljgfffcjfmaaGreatDoor.Bi
open Go Go.RowKit Go.Proofs.YtdjljgfffcjfmaaGreatDoor.Sx
/-! ### plain -/
theorem at_set {r : Rs} {i j : Nat} {b : BitVec 64} (hi : i < r.length) : at_ (r.set i b) j = if i = j then b else at_ r j := by
  unfold at_
  rw [List.getElem?_set]
  by_cases h : i = j
  · subst h; rw [if_pos rfl, if_pos hi, if_pos rfl]; rfl
  · rw [if_neg h, if_neg h]
/-- Each row with itself, and closed. -/
def Pol (r : Rs) (n : Nat) : Prop := (∀ i, i < n → (at_ r i).getLsbD i = true) ∧ ∀ i j, i < n → j < n → (at_ r i).getLsbD j = true → ∀ k, (at_ r j).getLsbD k = true → (at_ r i).getLsbD k = true
theorem s1_at (r : Rs) {n : Nat} (hn : n ≤ r.length) (h64 : n ≤ 64) (i : Nat) : i ≤ n → ∀ j k, (at_ (s1 r i) j).getLsbD k = ((at_ r j).getLsbD k || decide (j < i ∧ k = j)) := by
  induction i with
  | zero => intro _ j k; simp [s1]
  | succ i ih =>
    intro hi j k
    unfold s1
    rw [at_set (by rw [s1_len]; omega)]
    by_cases h : i = j
    · subst h
      rw [if_pos rfl, Bt.or1 _ (by omega), ih (by omega)]
      by_cases hk : k = i <;> simp [hk]
    · rw [if_neg h, ih (by omega)]
      have : (j < i ∧ k = j) ↔ (j < i + 1 ∧ k = j) := by omega
      simp only [this]
/-- Rows only grow. -/
theorem inn_ge (r : Rs) (w : Nat) (i : Nat) : i ≤ r.length → ∀ j k, (at_ r j).getLsbD k = true → (at_ (inn r w i) j).getLsbD k = true := by
  induction i with
  | zero => intro _ j k h; exact h
  | succ i ih =>
    intro hi j k h
    have h1 := ih (by omega) j k h
    unfold inn
    split
    · rw [at_set (by rw [inn_len]; omega)]
      split
      · rename_i e; subst e; rw [BitVec.getLsbD_or, h1]; rfl
      · exact h1
    · exact h1
/-- What a way gives. -/
theorem inn_way (r : Rs) (w : Nat) (n : Nat) (hn : n ≤ r.length) (hw : w < n) (i : Nat) (hi : i < n) (hb : (at_ r i).getLsbD w = true) (k : Nat) (hk : (at_ r w).getLsbD k = true) : (at_ (inn r w n) i).getLsbD k = true := by
  have step : ∀ m, m ≤ n → i < m → (at_ (inn r w m) i).getLsbD k = true := by
    intro m
    induction m with
    | zero => intro _ h; omega
    | succ m ih =>
      intro hm h
      unfold inn
      by_cases e : m = i
      · subst e
        have h1 := inn_ge r w m (by omega) m w hb
        have h2 := inn_ge r w m (by omega) w k hk
        rw [if_pos h1, at_set (by rw [inn_len]; omega), if_pos rfl, BitVec.getLsbD_or, h2]
        simp
      · have h1 := ih (by omega) (by omega)
        split
        · rw [at_set (by rw [inn_len]; omega), if_neg e]; exact h1
        · exact h1
  exact step n (Nat.le_refl _) hi
theorem s2_ge (r : Rs) (n : Nat) (hn : n ≤ r.length) (w : Nat) : ∀ j k, (at_ r j).getLsbD k = true → (at_ (s2 r n w) j).getLsbD k = true := by
  induction w with
  | zero => intro j k h; exact h
  | succ w ih => intro j k h; unfold s2; exact inn_ge _ w n (by rw [s2_len]; exact hn) j k (ih j k h)
theorem s2_mono (r : Rs) (n : Nat) (hn : n ≤ r.length) {w w' : Nat} (hw : w ≤ w') : ∀ j k, (at_ (s2 r n w) j).getLsbD k = true → (at_ (s2 r n w') j).getLsbD k = true := by
  induction w' with
  | zero => intro j k h; have : w = 0 := by omega
            subst this; exact h
  | succ w' ih =>
    intro j k h
    rcases Nat.lt_or_ge w (w' + 1) with h1 | h1
    · unfold s2; exact inn_ge _ w' n (by rw [s2_len]; exact hn) j k (ih (by omega) j k h)
    · obtain rfl : w = w' + 1 := by omega
      exact h
/-- A policy is its own closure. -/
theorem inn_pol {r : Rs} {n : Nat} (hP : Pol r n) (hn : n ≤ r.length) {w : Nat} (hw : w < n) (i : Nat) : i ≤ n → inn r w i = r := by
  induction i with
  | zero => intro _; rfl
  | succ i ih =>
    intro hi
    unfold inn
    rw [ih (by omega)]
    split
    · rename_i h
      have e : at_ r i ||| at_ r w = at_ r i := Bt.ext (fun j _ => by
        rw [BitVec.getLsbD_or]
        cases hj : (at_ r w).getLsbD j with
        | false => simp
        | true => rw [hP.2 i w (by omega) hw h j hj]; rfl)
      rw [e]
      apply List.ext_getElem?
      intro j
      rw [List.getElem?_set]
      split
      · rename_i e2; subst e2
        rw [if_pos (by omega), at_some (by omega)]
      · rfl
    · rfl
theorem closed_pol {r : Rs} {n : Nat} (hP : Pol r n) (hn : n ≤ r.length) (h64 : n ≤ 64) : closed r n = r := by
  have e1 : ∀ i, i ≤ n → s1 r i = r := by
    intro i
    induction i with
    | zero => intro _; rfl
    | succ i ih =>
      intro hi
      unfold s1
      rw [ih (by omega)]
      have e : at_ r i ||| ((1#64) <<< i) = at_ r i := Bt.ext (fun j _ => by
        rw [Bt.or1 _ (by omega)]
        by_cases hj : j = i
        · subst hj; rw [hP.1 j (by omega)]; rfl
        · simp [hj])
      rw [e]
      apply List.ext_getElem?
      intro j
      rw [List.getElem?_set]
      split
      · rename_i e2; subst e2
        rw [if_pos (by omega), at_some (by omega)]
      · rfl
  unfold closed
  rw [e1 n (Nat.le_refl _)]
  have e2 : ∀ w, w ≤ n → s2 r n w = r := by
    intro w
    induction w with
    | zero => intro _; rfl
    | succ w ih => intro hw; unfold s2; rw [ih (by omega)]; exact inn_pol hP hn (by omega) n (Nat.le_refl _)
  exact e2 n (Nat.le_refl _)
/-- What the closure has beyond the rows tells that they are no policy. -/
theorem closed_more {r : Rs} {n : Nat} (hn : n ≤ r.length) (h64 : n ≤ 64) : Pol r n ↔ ∀ i, i < n → ∀ k, k < 64 → (at_ (closed r n) i).getLsbD k = true → (at_ r i).getLsbD k = true := by
  constructor
  · intro hP i hi k _ h
    rw [closed_pol hP hn h64] at h
    exact h
  · intro h
    have ge1 : ∀ j k, (at_ r j).getLsbD k = true → (at_ (s1 r n) j).getLsbD k = true := fun j k hb => by rw [s1_at r hn h64 n (Nat.le_refl _), hb]; rfl
    have hl1 : n ≤ (s1 r n).length := by rw [s1_len]; exact hn
    refine ⟨fun i hi => h i hi i (by omega) ?_, fun i j hi hj hb k hk => ?_⟩
    · refine s2_ge (s1 r n) n hl1 n i i ?_
      rw [s1_at r hn h64 n (Nat.le_refl _)]
      simp [hi]
    · have hk64 : k < 64 := BitVec.lt_of_getLsbD hk
      refine h i hi k hk64 ?_
      have a1 := s2_ge (s1 r n) n hl1 j i j (ge1 i j hb)
      have a2 := s2_ge (s1 r n) n hl1 j j k (ge1 j k hk)
      have a3 := inn_way (s2 (s1 r n) n j) j n (by rw [s2_len]; exact hl1) hj i hi a1 k a2
      exact s2_mono (s1 r n) n hl1 (w := j + 1) (w' := n) (by omega) i k a3
section
variable {Z : ZP} {w : World}
theorem Check_t {X : Option Addr} {c : Nat} {bs : Rs} (hR : RU w X bs) : Cz Tryz.prog 142 [.slice X bs.length c] w (fun r w' => r = I (chk bs) ∧ Fr [] w w') Z := by
  refine go mixed Tryz.func142 Tryz.call142 rfl (Tr.e142 _) ?_
  refine r_call (of_t hR) ?_
  rintro _ w1 ⟨rfl, f1⟩
  have hl : (ofR bs).1.length = 64 := by
    unfold ofR
    split
    · rename_i h
      unfold chk at h
      split at h
      · cases h
      · exact padR_len (by omega)
    · simp [zr]
  refine r_as (cs := mC (ofR bs).1 (ofR bs).2) (zs := mC zr 0) (n := 65) (fun b w2 hb Bb f2 => ?_) Tryz.zeroValue167 Tryz.sizeOf167 (mC_one _ _) rfl (mC_len (by simp [zr])) rfl (mC_len hl)
  exact r_ret ⟨rfl, f1.trans f2⟩
theorem sln {b n : Nat} (hn : n ≤ 64) (w : World) : (Instr.sliceAt 165 (Pt b 0) none (some (I n)) none).run Tryz.prog w = .ok (.slice (some ⟨b, 0, none⟩) n 64) w := by
  simp [Instr.sliceAt, run_underlying Tryz.underlying165, Instr.sureAddr, Instr.sliceBounds, run_sliceBound w .i64 n 64 _ (by omega) (by omega), Tryz.sizeOf48]
  try (unfold Addr.add; simp)
end
end Go.Proofs.YtdjljgfffcjfmaaGreatDoor.Bi

/- Policies, over trees: both texts' checks. -/
set_option linter.unusedVariables false
set_option linter.unusedSimpArgs false
namespace Go.Proofs.YtdjljgfffcjfmaaGreatDoor.Bi
open Go Go.RowKit Go.Proofs.YtdjljgfffcjfmaaGreatDoor.Sx
/-- A row of rows of one's own. -/
theorem own_RU {w : World} {v : Value} {bs : Rs} (h : w.ownsRow 0 48 1 v bs.length (bs.map U)) : ∃ X c, v = .slice X bs.length c ∧ RU w X bs := by
  obtain ⟨X, c, e1, h2⟩ := own_slice h
  refine ⟨X, c, e1, fun k b hb => ?_⟩
  have hlt := (List.getElem?_eq_some_iff.1 hb).1
  rcases h2 with h2 | h2 | ⟨g, rfl, _, _, h2⟩
  · rw [List.map_eq_nil_iff] at h2; subst h2; simp at hlt
  · omega
  · refine ⟨_, rfl, ?_⟩
    have := h2 k (U b) (by rw [List.getElem?_map, hb]; rfl)
    rw [addA_eq, addr_add]
    simpa using this
def NwU (w w' : World) (v : Value) (bs : Rs) : Prop := w'.ownsRow 0 48 1 v bs.length (bs.map U) ∧ ∀ q ∈ v.ownBlock.toList, w.heap.size ≤ q
section
variable {Z : ZP} {w : World}
theorem list_t {rows : Rs} {n : Nat} (hr : rows.length = 64) (hn : n ≤ 64) : Cz Tryz.prog 145 [.agg (mC rows n).toArray] w (fun r w' => NwU w w' r (rows.take n) ∧ Fr [] w w') Z := by
  refine go mixed Tryz.func145 Tryz.call145 rfl (Tr.e145 _) ?_
  refine r_box (cs := mC rows n) (fun m w1 hm M1 f1 => ?_)
  refine r_ld (M1.cell (mC_n hr)) ?_
  refine r_if (fun h => ?_) (fun h => ?_)
  · have : n = 0 := by omega
    subst this
    exact r_ret ⟨⟨by simp; exact own_nil _ _ _, by simp [Value.ownBlock]⟩, f1⟩
  refine ⟨_, _, bsl0 Eu64.u Eu64.s, ?_⟩
  have Be := Blk.alloc w1 48 []
  have f2 := Fr.alloc w1 (.cells ([] : List Value).toArray 48)
  have M2 := M1.fr0 f2
  refine r_ld (M2.cell (mC_n hr)) ?_
  refine ⟨_, fun w' => sln hn w', ?_⟩
  have hlt : (rows.take n).length = n := by rw [List.length_take]; omega
  refine r_appO (base := 0) Eu64 (own_lit (n := 0) (size := 1) Be (Nat.zero_le _) rfl (by omega)) (news := (rows.take n).map U) (by simp; omega) (by simp) (fun ad he j u hj => ?_) (fun u hu => ?_) (by simp only [big]; omega) (Nat.zero_le _) (fun v w3 HO f3 hob => ?_)
  · cases he
    rw [List.getElem?_map] at hj
    obtain ⟨b, hb, rfl⟩ := Option.map_eq_some_iff.1 hj
    have hb' : rows[j]? = some b := by
      rw [List.getElem?_take] at hb
      split at hb
      · exact hb
      · cases hb
    rw [addA_eq, addr_add, Nat.zero_add]
    exact M2.cell (mC_at hb')
  · obtain ⟨b, _, rfl⟩ := List.mem_map.1 hu; rfl
  refine r_ret ⟨⟨?_, fun q hq => ?_⟩, ?_⟩
  · rw [hlt]
    simpa using HO
  · rcases hob with h' | h'
    · rw [h'] at hq; simp [Value.ownBlock] at hq; subst hq; exact f1.size
    · rw [h'] at hq; simp at hq; subst hq; have := f1.size; omega
  · exact (f1.trans f2).trans_new f3 (fun q hq => .inr (by simp [Value.ownBlock] at hq; subst hq; exact f1.size))
/-- The closure's rows. -/
def clo (bs : Rs) : Rs := (closed (padR bs) bs.length).take bs.length
theorem chk_le {bs : Rs} (h : chk bs = 0) : bs.length ≤ 64 := by
  unfold chk at h
  split at h
  · cases h
  · omega
theorem Closure_t {X : Option Addr} {c : Nat} {bs : Rs} (hR : RU w X bs) (h0 : chk bs = 0) : Cz Tryz.prog 131 [.slice X bs.length c] w (fun r w' => ∃ v, r = .tuple #[v, I 0] ∧ NwU w w' v (clo bs) ∧ Fr [] w w') Z := by
  refine go mixed Tryz.func131 Tryz.call131 rfl (Tr.e131 _) ?_
  have hl := chk_le h0
  have ho : ofR bs = (padR bs, bs.length) := by unfold ofR; rw [if_pos h0]
  have hpl := padR_len hl
  have c1 := of_t (Z := ZD [] Z) (c := c) hR
  rw [ho, h0] at c1
  refine r_call c1 ?_
  rintro _ w1 ⟨rfl, f1⟩
  refine r_as (cs := mC (padR bs) bs.length) (zs := mC zr 0) (n := 65) (fun b w2 hb Bb f2 => ?_) Tryz.zeroValue167 Tryz.sizeOf167 (mC_one _ _) rfl (mC_len (by simp [zr])) rfl (mC_len hpl)
  refine r_ldn (Bb.rd (mC_len hpl)) ?_
  refine r_call (closed_t hpl hl) ?_
  rintro _ w3 ⟨rfl, f3⟩
  have hcl : (closed (padR bs) bs.length).length = 64 := by unfold closed; rw [s2_len, s1_len, hpl]
  refine r_call (list_t hcl hl) ?_
  rintro v w4 ⟨hv, f4⟩
  have F3 := (f1.trans f2).trans f3
  exact r_ret ⟨v, rfl, ⟨hv.1, fun q hq => Nat.le_trans F3.size (hv.2 q hq)⟩, F3.trans f4⟩
/-- The first check of settings: which flows may be. -/
def shp (bs : Rs) : Int := if 16 < bs.length then 3 else if bs.length = 0 then 1 else chk bs
def polB (bs : Rs) : Bool := (List.range bs.length).all fun i => (at_ bs i).getLsbD i && (List.range bs.length).all fun j => !(at_ bs i).getLsbD j || decide ((((at_ bs j &&& ~~~(at_ bs i)).toNat : Nat) : Int) = 0)
def polE (bs : Rs) : Int := if shp bs = 0 then (if polB bs = true then 0 else 20) else shp bs
theorem polB_iff {bs : Rs} : polB bs = true ↔ Pol bs bs.length := by
  unfold polB Pol
  rw [List.all_eq_true]
  constructor
  · intro h
    refine ⟨fun i hi => (Bool.and_eq_true_iff.1 (h i (List.mem_range.2 hi))).1, fun i j hi hj hb k hk => ?_⟩
    have := List.all_eq_true.1 (Bool.and_eq_true_iff.1 (h i (List.mem_range.2 hi))).2 j (List.mem_range.2 hj)
    rw [hb, Bool.not_true, Bool.false_or] at this
    exact (Bt.andn_zero _ _).1 (of_decide_eq_true this) k (BitVec.lt_of_getLsbD hk) hk
  · rintro ⟨h1, h2⟩ i hi
    have hi := List.mem_range.1 hi
    refine Bool.and_eq_true_iff.2 ⟨h1 i hi, List.all_eq_true.2 (fun j hj => ?_)⟩
    have hj := List.mem_range.1 hj
    cases hb : (at_ bs i).getLsbD j with
    | false => rfl
    | true => rw [Bool.not_true, Bool.false_or]; exact decide_eq_true ((Bt.andn_zero _ _).2 (fun k _ hk => h2 i j hi hj hb k hk))
theorem shape_t {X : Option Addr} {c : Nat} {bs : Rs} (hR : RU w X bs) : Cz Tryz.prog 130 [.slice X bs.length c] w (fun r w' => r = I (shp bs) ∧ Fr [] w w') Z := by
  refine go mixed Tryz.func130 Tryz.call130 rfl (Tr.e130 _) ?_
  unfold shp
  refine r_if (fun h => ?_) (fun h => ?_)
  · rw [if_pos (by omega)]; exact r_ret ⟨rfl, Fr.refl _ _⟩
  rw [if_neg (by omega)]
  refine r_if (fun h2 => ?_) (fun h2 => ?_)
  · rw [if_pos (by omega)]; exact r_ret ⟨rfl, Fr.refl _ _⟩
  rw [if_neg (by omega)]
  refine r_call (Check_t hR) ?_
  rintro _ w1 ⟨rfl, f⟩
  exact r_ret ⟨rfl, f⟩
end
end Go.Proofs.YtdjljgfffcjfmaaGreatDoor.Bi

/- Policies, over trees: the program's check, by way of what the closure has beyond. -/
set_option linter.unusedVariables false
set_option linter.unusedSimpArgs false
namespace Go.Proofs.YtdjljgfffcjfmaaGreatDoor.Bi
open Go Go.RowKit Go.Proofs.YtdjljgfffcjfmaaGreatDoor.Sx
abbrev Fl := List (Int × Int)
def encF (e : Int × Int) : List Value := [I e.1, I e.2]
theorem EFl : El Tryz.prog 138 161 2 16 (.agg #[I 0, I 0]) := ⟨by kernel_rfl, by kernel_rfl, Tryz.sizeOf161, Tryz.zeroValue161, rfl⟩
theorem oneF (e : Int × Int) : ∀ v ∈ encF e, v.oneCell' = true := by intro v hv; simp only [encF, List.mem_cons, List.not_mem_nil, or_false] at hv; rcases hv with rfl | rfl <;> rfl
/-- A local variable that holds a row of flows of one's own. -/
structure Lf (w : World) (b : Nat) (v : Value) (xs : Fl) : Prop where
  bl : Blk w b 138 [v]
  ow : w.ownsRow 0 161 2 v xs.length (flat encF xs)
  nb : b ∉ v.ownBlock.toList
theorem Lf.fr {w w' : World} {b : Nat} {v : Value} {xs : Fl} {S : List Nat} (h : Lf w b v xs) (f : Fr S w w') (h1 : b ∉ S) (h2 : ∀ q ∈ v.ownBlock.toList, q ∉ S) : Lf w' b v xs := ⟨h.bl.fr f h1, own_f h.ow f h2, h.nb⟩
def Ob (w : World) (v v' : Value) : Prop := v'.ownBlock = v.ownBlock ∨ ∃ g, v'.ownBlock = some g ∧ w.heap.size ≤ g
theorem Ob.mem {w : World} {v v' : Value} (h : Ob w v v') {q : Nat} (hq : q ∈ v'.ownBlock.toList) : q ∈ v.ownBlock.toList ∨ w.heap.size ≤ q := by
  rcases h with h | ⟨g, h, hg⟩
  · exact .inl (h ▸ hq)
  · rw [h] at hq; simp at hq; subst hq; exact .inr hg
theorem Ob.trans {w w' : World} {v v' v'' : Value} (h : Ob w v v') (h' : Ob w' v' v'') (hs : w.heap.size ≤ w'.heap.size) : Ob w v v'' := by
  rcases h' with h' | ⟨g, h', hg⟩
  · rcases h with h | ⟨g, h, hg⟩
    · exact .inl (h'.trans h)
    · exact .inr ⟨g, h'.trans h, hg⟩
  · exact .inr ⟨g, h', Nat.le_trans hs hg⟩
def rangeI (n : Nat) : List Int := (List.range n).map (fun i : Nat => (i : Int))
theorem rangeI_at {n i : Nat} (h : i < n) : (rangeI n)[i]? = some (i : Int) := by unfold rangeI; rw [List.getElem?_map, List.getElem?_range h]; rfl
theorem rangeI_len (n : Nat) : (rangeI n).length = n := by unfold rangeI; simp
section
variable {Z : ZP} {w : World}
theorem labels_it {X : Option Addr} {n c b T0 : Nat} {L : Nat} {J : List Nat → Nat → World → Prop} {K : List Nat → World → Prop} (hn : n ≤ 1000) (RG : Rg Tryz.prog L (St (rangeI n)) J K) (hb : Blk w b T0 [.slice X n c]) (h0 : J [] 0 w) :
    Cz Tryz.prog 146 [.func (.yield L) #[] #[], Pt b 0] w (fun _ w' => ∃ V, J V n w' ∨ K V w') Z := by
  refine go mixed Tryz.func146 Tryz.call146 rfl (Tr.e146 _ _) ?_
  refine r_ld (hb.cell rfl) ?_
  refine r_loop (fun (i : Nat) => [I (i : Int)]) (fun i w' => i ≤ n ∧ J [] i w') (fun i => n - i) 0 ⟨Nat.zero_le _, h0⟩ rfl ?_
  rintro i w1 ⟨hi, hJ⟩
  refine r_if (fun h => ?_) (fun h => ?_)
  · refine r_yld (RG.yd [] i (i + 1) _ _ hJ (by simp) ⟨_, rangeI_at (by omega), rfl, rfl⟩) ?_
    rintro v w3 ⟨⟨rfl, hJ2⟩ | ⟨rfl, hK⟩, _, _⟩
    · refine r_ar (z := (i : Int) + 1) (by omega) ?_
      exact r_ag (i + 1) ⟨by omega, hJ2⟩ (by omega) rfl
    · exact r_ret ⟨[], .inr hK⟩
  · have : i = n := by omega
    subst this
    exact r_brk (r_ret ⟨[], .inl hJ⟩)
/-- What the closure has beyond row i. -/
def more (bs : Rs) (i : Nat) : BitVec 64 := at_ (clo bs) i &&& ~~~(at_ bs i)
theorem clo_len {bs : Rs} (h : bs.length ≤ 64) : (clo bs).length = bs.length := by
  unfold clo closed
  rw [List.length_take, s2_len, s1_len, padR_len h]
  omega
theorem memI_nil (s : BitVec 64) : Bt.memI s = [] ↔ ((s.toNat : Nat) : Int) = 0 := by
  rw [Bt.zero_iff]
  unfold Bt.memI
  rw [List.map_eq_nil_iff]
  constructor
  · intro h j hj
    cases hb : s.getLsbD j with
    | false => rfl
    | true => have := Bt.mem_iff.2 ⟨hj, hb⟩; rw [h] at this; cases this
  · intro h
    rw [List.eq_nil_iff_forall_not_mem]
    intro j hj
    obtain ⟨h1, h2⟩ := Bt.mem_iff.1 hj
    rw [h j h1] at h2; cases h2
theorem pol_more {bs : Rs} (h : bs.length ≤ 64) : Pol bs bs.length ↔ ∀ i, i < bs.length → Bt.memI (more bs i) = [] := by
  have hp := padR_len h
  have e1 : ∀ i, i < bs.length → at_ (padR bs) i = at_ bs i := fun i hi => by
    unfold at_ padR
    rw [List.getElem?_append_left hi]
  have e2 : ∀ i, i < bs.length → at_ (clo bs) i = at_ (closed (padR bs) bs.length) i := fun i hi => by
    unfold at_ clo
    rw [List.getElem?_take, if_pos hi]
  have hPP : Pol bs bs.length ↔ Pol (padR bs) bs.length := by
    unfold Pol
    constructor
    · rintro ⟨h1, h2⟩
      refine ⟨fun i hi => by rw [e1 i hi]; exact h1 i hi, fun i j hi hj => ?_⟩
      rw [e1 i hi, e1 j hj]
      exact h2 i j hi hj
    · rintro ⟨h1, h2⟩
      refine ⟨fun i hi => by rw [← e1 i hi]; exact h1 i hi, fun i j hi hj => ?_⟩
      have := h2 i j hi hj
      rw [e1 i hi, e1 j hj] at this
      exact this
  rw [hPP, closed_more (by omega) h]
  constructor
  · intro H i hi
    rw [memI_nil]
    unfold more
    refine (Bt.andn_zero _ _).2 (fun k hk hb => ?_)
    rw [e2 i hi] at hb
    have := H i hi k hk hb
    rwa [e1 i hi] at this
  · intro H i hi k hk hb
    have := H i hi
    rw [memI_nil] at this
    unfold more at this
    rw [e1 i hi]
    refine (Bt.andn_zero _ _).1 this k hk ?_
    rw [e2 i hi]
    exact hb
end
end Go.Proofs.YtdjljgfffcjfmaaGreatDoor.Bi

/- Policies, over trees: the program's check. -/
set_option linter.unusedVariables false
set_option linter.unusedSimpArgs false
namespace Go.Proofs.YtdjljgfffcjfmaaGreatDoor.Bi
open Go Go.RowKit Go.Proofs.YtdjljgfffcjfmaaGreatDoor.Sx
section
variable {Z : ZP} {w : World}
theorem Missing_t {X : Option Addr} {c : Nat} {bs : Rs} (hR : RU w X bs) : Cz Tryz.prog 112 [.slice X bs.length c] w (fun r w' => ∃ Y xs cy, r = .tuple #[.slice Y xs cy, I (shp bs)] ∧ xs ≤ 10000 ∧ (shp bs = 0 → (xs = 0 ↔ Pol bs bs.length)) ∧ Fr [] w w') Z := by
  refine go mixed Tryz.func112 Tryz.call112 rfl (Tr.e112 _) ?_
  refine r_box (cs := [.slice X bs.length c]) (fun fb w1 hfb Bf f1 => ?_)
  refine r_ld (Bf.cell rfl) ?_
  refine r_call (shape_t (hR.up f1)) ?_
  rintro _ w2 ⟨rfl, f2⟩
  have F2 := f1.trans f2
  have Bf2 := Bf.fr0 f2
  refine r_if (fun h => ?_) (fun h => ?_)
  · exact r_ret ⟨none, 0, 0, rfl, by omega, fun h0 => absurd h0 h, F2⟩
  have h := Decidable.not_not.1 h
  rw [h]
  have hl16 : bs.length ≤ 16 ∧ chk bs = 0 := by
    unfold shp at h
    split at h
    · cases h
    · split at h
      · cases h
      · exact ⟨by omega, h⟩
  refine r_ld (Bf2.cell rfl) ?_
  refine r_call (Closure_t (hR.up F2) hl16.2) ?_
  rintro _ w3 ⟨cv, rfl, hcv, f3⟩
  have F3 := F2.trans f3
  obtain ⟨Xc, cc, rfl, hC⟩ := own_RU hcv.1
  have hcl := clo_len (bs := bs) (by omega)
  refine r_as (cs := [.slice Xc (clo bs).length cc]) (zs := [.slice none 0 0]) (n := 1) (fun cb w4 hcb Bc4 f4 => ?_) Tryz.zeroValue22 Tryz.sizeOf22 (one1 rfl)
  refine r_al Tryz.zeroValue138 (fun o w5 ho O5 f5 => ?_)
  have F5 := (F3.trans f4).trans f5
  have Bf5 := ((Bf2.fr0 f3).fr0 f4).fr0 f5
  have Bc5 := Bc4.fr0 f5
  refine r_ld (Bf5.cell rfl) ?_
  have lab : Cz Tryz.prog 132 [.slice X bs.length c] w5 (fun r w' => ∃ b, r = .func (.func 146) [].toArray [Pt b 0].toArray ∧ w5.heap.size ≤ b ∧ Blk w' b 158 [.slice X bs.length c] ∧ Fr [] w5 w') (ZD [] Z) := by
    refine go mixed Tryz.func132 Tryz.call132 rfl (Tr.e132 _) ?_
    refine r_box (cs := [.slice X bs.length c]) (fun b w2 hb Bb f => ?_)
    exact r_ret ⟨b, rfl, by omega, Bb, f⟩
  refine r_call lab ?_
  rintro _ w6 ⟨lb, rfl, hlb, Bl, f6⟩
  have F6 := F5.trans f6
  have O6 := O5.fr0 f6
  have Bf6 := Bf5.fr0 f6
  have Bc6 := Bc5.fr0 f6
  have hR6 := hR.up F6
  have hC6 := ((hC.up f4).up f5).up f6
  have ho6 := O6.lt
  have hol := O5.lt
  have hbf := Bf.lt
  have hs1 := f1.size; have hs2 := f2.size; have hs3 := f3.size; have hs4 := f4.size
  have hcbl := Bc4.lt
  have hfo : fb ≠ o := by omega
  have hco : cb ≠ o := by omega
  have hlo : lb ≠ o := by omega
  refine ⟨_, _, rfl, Tryz.call146, (fun L o h => by cases h), fun L0 D a0 b0 w7 hL0 hL1 f7 hLa hD => ?_⟩
  obtain ⟨hD0, hDL, hD1, hDd⟩ := hD
  refine ⟨Nat, St (rangeI bs.length), fun U m W => ∃ vc xs, Lf W o vc xs ∧ (∀ q ∈ o :: vc.ownBlock.toList, q ∉ U) ∧ (∀ q ∈ U, w6.heap.size ≤ q) ∧ (∀ q ∈ vc.ownBlock.toList, w6.heap.size ≤ q) ∧ Fr [o] w6 W ∧ xs.length ≤ 64 * m ∧ (xs = [] ↔ ∀ i, i < m → Bt.memI (more bs i) = []), fun _ _ _ => False, 0, bs.length, ?_, ?_, ?_, ?_, ?_, ?_, ?_⟩
  · refine ⟨.slice none 0 0, [], ⟨O6.fr0 f7, own_nil _ _ _, by simp [Value.ownBlock]⟩, fun q hq => ?_, fun q hq => ?_, by simp [Value.ownBlock], f7.mono (by simp), by simp, by simp⟩
    · simp [Value.ownBlock] at hq; subst hq; simp [u0]; omega
    · simp [u0] at hq; rcases hq with rfl | rfl <;> assumption
  · intro m
    refine ⟨?_, ?_⟩
    · rintro V W W' ⟨vc, xs, Vc, h1, h2, h3, F, hx⟩ g
      exact ⟨vc, xs, Vc.fr g (h1 o (by simp)) (fun q hq => h1 q (by simp [hq])), h1, h2, h3, F.trans_new g (fun q hq => .inr (h2 q hq)), hx⟩
    · rintro V W x ⟨vc, xs, Vc, h1, h2, h3, F, hx⟩ hxx
      have hlt : ∀ q ∈ o :: vc.ownBlock.toList, q < W.heap.size := fun q hq => by
        rcases List.mem_cons.1 hq with rfl | hq
        · exact Vc.bl.lt
        · exact (own_lt Vc.ow q hq).2
      refine ⟨vc, xs, Vc, fun q hq hU => ?_, fun q hq => ?_, h3, F, hx⟩
      · rcases List.mem_cons.1 hU with rfl | hU
        · have := hlt _ hq; omega
        · exact h1 q hq hU
      · rcases List.mem_cons.1 hq with rfl | hq
        · exact Nat.le_trans F.size hxx
        · exact h2 q hq
  · exact fun _ => ⟨fun _ _ _ h _ => h, fun _ _ _ h _ => h⟩
  · rintro V m m' _ W hLU _ hUs ⟨vc, xs, Vc, h1, h2, h3, F, hxl, hxe⟩ hLW ⟨x, hx, rfl, rfl⟩
    refine ⟨rfl, ?_⟩
    have hm : m < bs.length := by have := (List.getElem?_eq_some_iff.1 hx).1; rwa [rangeI_len] at this
    rw [rangeI_at hm] at hx
    cases hx
    have hoL : o ≠ L0 := fun e => h1 o (by simp) (e ▸ hLU)
    refine r_rb hLW (fun Wb fb' hLb => ?_)
    have Vb := Vc.fr fb' (by simpa using hoL) (fun q hq e => by simp at e; subst e; exact h1 _ (by simp [hq]) hLU)
    have FW := F.trans_new fb' (fun q hq => .inr (h2 q (by simp at hq; subst hq; exact hLU)))
    refine r_dr (fun W1 g1 => ?_)
    have FW1 := FW.trans (g1.mono (by simp))
    have G4 : Fr [] w4 W1 := (f5.trans f6).trans_new FW1 (fun q hq => .inr (by simp at hq; omega))
    have hRw := (hR.up (F3.trans f4)).up G4
    have hCw := (hC.up f4).up G4
    have Bcw := Bc4.fr0 G4
    have Bfw := ((Bf2.fr0 f3).fr0 f4).fr0 G4
    obtain ⟨adc, rfl, hcc⟩ := hCw m _ (at_some (by omega))
    obtain ⟨adf, rfl, hcf⟩ := hRw m _ (at_some hm)
    refine r_ld (Bcw.cell rfl) ?_
    refine r_ob ⟨by show (0 : Int) ≤ (m : Int); omega, by show (m : Int) < ((clo bs).length : Int); omega⟩ ?_
    refine r_ld hcc ?_
    refine r_ld (Bfw.cell rfl) ?_
    refine r_ob ⟨by show (0 : Int) ≤ (m : Int); omega, by show (m : Int) < (bs.length : Int); omega⟩ ?_
    refine r_ld hcf ?_
    refine r_andn ?_
    refine r_call (List_t (more bs m)) ?_
    rintro s W2 ⟨hs, g2⟩
    have V1 := Vb.fr g1 (by simp) (by simp)
    have V2 := V1.fr g2 (by simp) (by simp)
    obtain ⟨ks, hks⟩ : ∃ ks, ks = Bt.memI (more bs m) := ⟨_, rfl⟩
    have hkl : ks.length ≤ 64 := by rw [hks]; unfold Bt.memI Bt.mem; rw [List.length_map]; exact Nat.le_trans (List.length_filter_le _ _) (by simp)
    rw [← hks] at hs
    have hs1' := hs.1
    obtain ⟨Ys, cs, rfl, _⟩ := own_int hs1'
    have hlt1 : ∀ q ∈ o :: vc.ownBlock.toList, q < W1.heap.size := fun q hq => by
      rcases List.mem_cons.1 hq with rfl | hq
      · exact V1.bl.lt
      · exact (own_lt V1.ow q hq).2
    refine r_loop (fun (t : Nat × Value) => [I (t.1 : Int)]) (fun t w' => t.1 ≤ ks.length ∧ Lf w' o t.2 (xs ++ (ks.take t.1).map (fun z => ((m : Int), z))) ∧ Fr (o :: vc.ownBlock.toList) W2 w' ∧ Ob W2 vc t.2) (fun t => ks.length - t.1) (0, vc) ⟨Nat.zero_le _, by simpa using V2, Fr.refl _ _, .inl rfl⟩ rfl ?_
    rintro ⟨j, v⟩ W3 ⟨hj, V3, F3', O3⟩
    dsimp only at hj V3 F3' O3
    have s12 := g2.size
    refine r_if (fun hk => ?_) (fun hk => ?_)
    · replace hk : (j : Int) < (ks.length : Int) := hk
      obtain ⟨y, hy⟩ := gt (xs := ks) (j := j) (by omega)
      obtain ⟨_, _, e, hrow⟩ := own_int (own_f hs1' F3' (fun q hq e => by have := hs.2 q hq; have := hlt1 q e; omega))
      cases e
      obtain ⟨ady, rfl, hcy⟩ := hrow j y hy
      refine r_ob ⟨by show (0 : Int) ≤ (j : Int); omega, hk⟩ ?_
      refine r_ld hcy ?_
      refine r_ld (V3.bl.cell rfl) ?_
      refine r_bs1 EFl (cs := encF ((m : Int), y)) (fun d W4 hd Bd g4 => ?_)
      have V4 := V3.fr g4 (by simp) (by simp)
      have hxl4 : (xs ++ (ks.take j).map (fun z => ((m : Int), z))).length ≤ 5000 := by simp; omega
      refine r_appO EFl V4.ow (m := 1) (news := encF ((m : Int), y)) rfl (by simp) (fun ad he i u hi => ?_) (oneF _) (by simp only [big]; omega) (Nat.zero_le _) (fun v' W5 HO g5 hob => ?_)
      · cases he; exact Bd.rd.2 i u hi
      have hO : Ob W3 v v' := by
        rcases hob with h' | h'
        · exact .inl h'
        · exact .inr ⟨_, h', g4.size⟩
      have hnb : o ∉ v'.ownBlock.toList := fun hq => by
        rcases hO.mem hq with h' | h'
        · exact V3.nb h'
        · have := V3.bl.lt; omega
      have hB5 := V4.bl.fr g5 V4.nb
      obtain ⟨X5, c5, rfl, _⟩ := own_slice HO
      refine r_st1 hB5 Tryz.sizeOf138 (fun W6 B6 g6 => ?_)
      have G36 : Fr (o :: v.ownBlock.toList) W3 W6 := ((g4.mono (by simp)).trans (g5.mono (fun q hq => List.mem_cons_of_mem _ hq))).trans (g6.mono (by simp))
      refine r_ar (by show -9223372036854775808 ≤ (j : Int) + 1 ∧ (j : Int) + 1 ≤ _; omega) ?_
      refine r_ag (j + 1, _) ⟨by dsimp only; omega, ⟨B6, ?_, hnb⟩, F3'.trans_new G36 (fun q hq => ?_), O3.trans hO F3'.size⟩ (by dsimp only; omega) rfl
      · have := own_f HO g6 (fun q hq hb => hnb (by simp at hb; rw [← hb]; exact hq))
        dsimp only
        rw [take_s hy, List.map_append, ← List.append_assoc]
        have e1 : ∀ l : Fl, flat encF l ++ encF ((m : Int), y) = flat encF (l ++ [((m : Int), y)]) := fun l => by simp [flat]
        rw [e1] at this
        simpa [Nat.add_assoc] using this
      · rcases List.mem_cons.1 hq with rfl | hq
        · exact .inl (by simp)
        · rcases O3.mem hq with h' | h'
          · exact .inl (by simp [h'])
          · exact .inr h'
    · replace hk : ¬ (j : Int) < (ks.length : Int) := hk
      have : j = ks.length := by omega
      subst this
      rw [List.take_length] at V3
      refine r_brk ?_
      have GW : Fr (o :: vc.ownBlock.toList) Wb W3 := ((g1.mono (by simp)).trans (g2.mono (by simp))).trans F3'
      have sWb := fb'.size
      have sW1 := g1.size
      refine ⟨⟨_, _, V3, fun q hq hU => ?_, h2, fun q hq => ?_, ?_, ?_, ?_⟩, Kp.of fb' GW ((GW.keep L0 (Array.getElem?_eq_some_iff.1 hLb).1 (fun e => h1 L0 e hLU)).trans hLb) (fun q hq e => h1 q e hq) hUs⟩
      · rcases List.mem_cons.1 hq with rfl | hq
        · exact h1 _ (by simp) hU
        · rcases O3.mem hq with h' | h'
          · exact h1 q (by simp [h']) hU
          · have := hUs q hU; omega
      · rcases O3.mem hq with h' | h'
        · exact h3 q h'
        · have := FW.size; omega
      · refine FW.trans_new GW (fun q hq => ?_)
        rcases List.mem_cons.1 hq with rfl | hq
        · exact .inl (by simp)
        · exact .inr (h3 q hq)
      · simp; omega
      · rw [List.append_eq_nil_iff, List.map_eq_nil_iff, hxe, hks]
        constructor
        · rintro ⟨a1, a2⟩ i hi
          rcases Nat.lt_or_ge i m with h' | h'
          · exact a1 i h'
          · obtain rfl : i = m := by omega
            exact a2
        · intro a
          exact ⟨fun i hi => a i (by omega), a m (by omega)⟩
  · intro J K' RG hJI hJ0 _
    refine labels_it (by omega) RG (Bl.fr0 f7) hJ0
  · rintro V W ⟨vc, xs, Vc, h1, h2, h3, Fc, hxl, hxe⟩ hDW
    obtain ⟨Y, cy, e, _⟩ := own_slice Vc.ow
    subst e
    refine r_ld (Vc.bl.cell rfl) ?_
    refine r_ret1 hDW (fun w8 f8 => ⟨Y, xs.length, cy, rfl, by omega, fun _ => ?_, ?_⟩)
    · rw [pol_more (by omega), ← hxe, List.length_eq_zero_iff]
    · exact (F6.trans_new Fc (fun q hq => .inr (by simp at hq; omega))).trans_new f8 (fun q hq => .inr (by simp at hq; subst hq; exact Nat.le_trans F6.size hD0))
  · rintro V W j h; exact h.elim
theorem Pol_t {X : Option Addr} {c : Nat} {bs : Rs} (hR : RU w X bs) : Cz Tryz.prog 88 [.slice X bs.length c] w (fun r w' => r = I (polE bs) ∧ Fr [] w w') Z := by
  refine go mixed Tryz.func88 Tryz.call88 rfl (Tr.e88 _) ?_
  refine r_call (Missing_t hR) ?_
  rintro _ w1 ⟨Y, n, cy, rfl, hn, hx, f1⟩
  unfold polE
  refine r_if (fun h => ?_) (fun h => ?_)
  · rw [if_pos h]
    have hx := hx h
    refine r_if (fun h2 => ?_) (fun h2 => ?_)
    · refine r_ret ⟨?_, f1⟩
      rw [if_neg]
      intro hp
      have := hx.2 (polB_iff.1 hp)
      omega
    · refine r_ret ⟨?_, f1⟩
      rw [if_pos (polB_iff.2 (hx.1 (by omega)))]
      show I (shp bs) = I 0
      rw [h]
  · rw [if_neg h]
    exact r_ret ⟨rfl, f1⟩
end
end Go.Proofs.YtdjljgfffcjfmaaGreatDoor.Bi
