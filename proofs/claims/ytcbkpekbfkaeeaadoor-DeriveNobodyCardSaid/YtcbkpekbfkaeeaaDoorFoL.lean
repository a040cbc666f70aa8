/- The law of forests, over trees: New, what is told below a node, a step, what is the same. -/
import Derived.Test.YtcbkpekbfkaeeaaDoorFoP
set_option linter.unusedVariables false
set_option linter.unusedSimpArgs false
namespace Go.Proofs.YtcbkpekbfkaeeaaDoor.Fo
open Go Go.RowKit Go.Proofs.YtcbkpekbfkaeeaaDoor.Sx
open Go.Proofs.YtcbkpekbfkaeeaaDoor.Ls (mixed new_r Glb)
section
variable {Z : ZP} {w : World}
theorem FNew_y (hG : Glb w) {n : Nat} (hn : n ≤ 1024) : Cz Tryd.prog 9 [I n] w (fun r w' => ∃ k : FK, r = .tuple #[Pt k.fp 0, I 0] ∧ FoR w' k n [] [] ∧ (∀ q ∈ k.ids, w.heap.size ≤ q) ∧ Fr [] w w') Z := by
  refine go mixed Tryd.func9 Tryd.call9 rfl (Tr.e9 _) ?_
  refine r_if (fun h => by exfalso; omega) (fun _ => ?_)
  refine r_call (Cz.of Tryd.call26 (new_r n n hG (by omega) (by omega))) ?_
  rintro _ w1 ⟨p, nb, hb, rfl, Q, h1, h2, h3, f1⟩
  have hmk : madeCells (Value.agg #[I 0, B false]).cells (n * 2) = (flat encK (List.replicate n (0, false))).toArray := made_flat lenK (0, false) n
  refine r_hv (o := ⟨none, .makeSlice 57 (.const (I n)) (.const (I n)), 0, "", #[], none⟩) (x_mk (l := []) (e := 74) 2 16 (.agg #[I 0, B false]) rfl rfl (by kernel_rfl) (by kernel_rfl) hmk (by omega) (by omega)).ev ?_ rfl
  rintro _ w2 ⟨rfl, rfl⟩
  have Bl := Blk.alloc w1 74 (flat encK (List.replicate n (0, false)))
  have f2 := Fr.alloc w1 (.cells (flat encK (List.replicate n (0, false))).toArray 74)
  refine r_box (fun c w3 hc Bc f3 => ?_)
  refine r_ret ⟨⟨c, w1.heap.size, p, nb, hb⟩, rfl, ⟨List.replicate 16 0#64, List.replicate n (0, false), List.replicate n [], 0, ⟨Bc, Bl.fr0 f3, by simp, by simp, (Q.fr0 f2).fr0 f3, ?_, ?_, hn⟩, FRep.new hn⟩, ?_, (f1.trans f2).trans f3⟩
  · have hg := World.block_lt_of_cell? w _ (hG 0 _ rfl)
    have := f1.size; have := f2.size
    show c ≠ _
    have : 0 < w.heap.size := hg
    omega
  · have hg : 0 < w.heap.size := World.block_lt_of_cell? w _ (hG 0 _ rfl)
    have := f1.size
    show w1.heap.size ≠ _
    omega
  · intro q hq
    have := f1.size; have := f2.size
    simp only [FK.ids, List.mem_cons, List.not_mem_nil, or_false] at hq
    rcases hq with rfl | rfl | rfl | rfl | rfl <;> omega
theorem FNew_n {n : Int} (hn : ¬ (0 ≤ n ∧ n ≤ 1024)) : Cz Tryd.prog 9 [I n] w (fun r w' => r = .tuple #[.pointer none, I 1] ∧ w' = w) Z := by
  refine go mixed Tryd.func9 Tryd.call9 rfl (Tr.e9 _) ?_
  refine r_if (fun h => r_ret ⟨rfl, rfl⟩) (fun h1 => ?_)
  refine r_if (fun h => r_ret ⟨rfl, rfl⟩) (fun h2 => ?_)
  exact absurd ⟨by omega, by omega⟩ hn
/-- The law's own function: one more, till there are enough. -/
theorem ladd_t {b m : Nat} {v : Value} {xs : List Int} {most : Int} (V : Lv w b v xs) (Bm : Blk w m 3 [I most]) (hm : m ∉ b :: v.ownBlock.toList) (x : Int) (hx : xs.length ≤ 5000) :
    Cz Tryd.prog 36 [I x, Pt b 0, Pt m 0] w (fun r w' => r = B (decide (((xs.length + 1 : Nat) : Int) < most)) ∧ ∃ v', Lv w' b v' (xs ++ [x]) ∧ Fr (b :: v.ownBlock.toList) w w' ∧ Ob w v v') Z := by
  refine go mixed Tryd.func36 Tryd.call36 rfl (Tr.e36 _ _ _) ?_
  refine r_ld (V.bl.cell rfl) ?_
  refine r_bs1 Eint (fun c w1 hc Bc f1 => ?_)
  have V1 := V.fr f1 (by simp) (by simp)
  refine r_app1 V1.ow Bc (by omega) (fun v' w2 HO f2 hob => ?_)
  have hB2 := V1.bl.fr f2 V1.nb
  have hb0 := V.bl.lt
  have hO : Ob w v v' := by
    rcases hob with h | h
    · exact .inl h
    · exact .inr ⟨_, h, f1.size⟩
  have hnb : b ∉ v'.ownBlock.toList := fun hq => by
    rcases hO.mem hq with h | h
    · exact V.nb h
    · omega
  obtain ⟨X, cp, rfl, _⟩ := own_slice HO
  refine r_st1 hB2 Tryd.sizeOf35 (fun w3 B3 f3 => ?_)
  have f03 : Fr (b :: v.ownBlock.toList) w w3 := ((f1.mono (by simp)).trans (f2.mono (fun q hq => List.mem_cons_of_mem _ hq))).trans (f3.mono (by simp))
  refine r_ld (B3.cell (o := 0) rfl) ?_
  refine r_ld ((Bm.fr f03 hm).cell rfl) ?_
  refine r_ret ⟨?_, _, ⟨B3, own_f HO f3 (fun q hq hb => hnb (by simp at hb; rw [← hb]; exact hq)), hnb⟩, f03, hO⟩
  have e : (xs ++ [x]).length = xs.length + 1 := by simp
  rw [← e]
/-- How many are told. -/
def mx (most : Int) : Nat := max 1 most.toNat
theorem FHas_t {k : FK} {N : Nat} {L : En} (K : FoR w k N L []) (n : Int) : Cz Tryd.prog 17 [Pt k.fp 0, I n] w (fun v w' => v = B (has L n) ∧ w' = w) Z := Cz.of Tryd.call17 (Has_c w k N L K n)
theorem Below1_t {k : FK} {N : Nat} {L : En} (K : FoR w k N L []) {n most : Int} {a b c m : Nat} (Ba : Blk w a 24 [Pt k.fp 0]) (Bb : Blk w b 3 [I n]) (Bm : Blk w m 3 [I most]) (Bc : Blk w c 35 [.slice none 0 0]) (hcm : c ≠ m) (hck : c ∉ 0 :: k.ids) :
    Cz Tryd.prog 47 [.func (.func 36) #[] #[Pt c 0, Pt m 0], Pt a 0, Pt b 0] w (fun r w' => ∃ v', Lv w' c v' ((rBel L n).take (mx most)) ∧ Fr [c] w w' ∧ Ob w (.slice none 0 0) v') Z := by
  refine go mixed Tryd.func47 Tryd.call47 rfl (Tr.e47 _ _ _) ?_
  have V0 : Lv w c (.slice none 0 0) [] := ⟨Bc, own_nil _ _ _, by simp [Value.ownBlock]⟩
  refine r_ld (Ba.cell rfl) ?_
  refine r_ld (Bb.cell rfl) ?_
  refine r_call (FHas_t K n) ?_
  rintro _ w1 ⟨rfl, rfl⟩
  unfold rBel
  refine r_ifbn (fun h => ?_) (fun h => ?_)
  · rw [if_neg (by rw [h]; simp)]
    exact r_ret ⟨_, by simpa using V0, Fr.refl _ _, .inl rfl⟩
  rw [if_pos h]
  refine r_ld (Ba.cell rfl) ?_
  refine r_ld (Bb.cell rfl) ?_
  refine r_call (below_t K h) ?_
  rintro s w2 ⟨hs, F2⟩
  have hb := below_len K.inv h
  have hl1 := K.inv.len
  have hl2 := K.sN
  have hs1 := hs.1
  obtain ⟨X, cs, rfl, _⟩ := own_int hs1
  obtain ⟨ys, hys⟩ : ∃ ys, ys = below L n := ⟨_, rfl⟩
  rw [← hys] at hs hs1 hb ⊢
  refine r_loop (fun (t : Nat × Value) => [I (t.1 : Int)]) (fun t w' => t.1 ≤ ys.length ∧ (0 < t.1 → (t.1 : Int) < most) ∧ Lv w' c t.2 (ys.take t.1) ∧ Fr [c] w1 w' ∧ Ob w1 (.slice none 0 0) t.2 ∧ w2.heap.size ≤ w'.heap.size ∧ (∀ q ∈ (Value.slice X ys.length cs).ownBlock.toList, w'.heap[q]? = w2.heap[q]? ∧ q ∉ t.2.ownBlock.toList)) (fun t => ys.length - t.1) (0, .slice none 0 0) ⟨Nat.zero_le _, fun h => by omega, by simpa using V0.fr F2 (by simp) (by simp), F2.mono (by simp), .inl rfl, Nat.le_refl _, fun q hq => ⟨rfl, by simp [Value.ownBlock]⟩⟩ rfl ?_
  rintro ⟨i, v⟩ w3 ⟨hi, hlt, V, F3, O3, hsz3, hrow⟩
  dsimp only at hi hlt V F3 O3 hsz3 hrow
  have hcw := Bc.lt
  refine r_if (fun hk => ?_) (fun hk => ?_)
  · replace hk : (i : Int) < ys.length := hk
    refine r_ob ⟨by show (0 : Int) ≤ (i : Int); omega, hk⟩ ?_
    obtain ⟨x, hx⟩ := gt (xs := ys) (j := i) (by omega)
    obtain ⟨X', cs', e, hcell⟩ := own_int (own_keep (w' := w3) hs1 (fun q hq => (hrow q (by simp [hq])).1))
    cases e
    obtain ⟨ad, rfl, hc2⟩ := hcell i x hx
    refine r_ld hc2 ?_
    have Bm3 := Bm.fr F3 (by simpa using Ne.symm hcm)
    have hml := Bm.lt
    have hmv : m ∉ c :: v.ownBlock.toList := fun hq => by
      rcases List.mem_cons.1 hq with e | hq
      · exact hcm e.symm
      · rcases O3.mem hq with h' | h'
        · simp [Value.ownBlock] at h'
        · omega
    have hil : (ys.take i).length = i := by rw [List.length_take]; exact Nat.min_eq_left hi
    refine r_call (ladd_t V Bm3 hmv x (by rw [hil]; omega)) ?_
    rintro _ w4 ⟨rfl, v4, V4, F4, O4⟩
    rw [← take_succ' hx] at V4
    rw [hil]
    have F34 : Fr [c] w1 w4 := F3.trans_new F4 (fun q hq => by
      rcases List.mem_cons.1 hq with rfl | hq
      · exact .inl (by simp)
      · rcases O3.mem hq with h' | h'
        · simp [Value.ownBlock] at h'
        · exact .inr h')
    have O34 := O3.trans O4 F3.size
    refine r_ifn (fun hle => ?_) (fun hle => ?_)
    · have hmx : mx most = i + 1 := by
        unfold mx
        rcases Nat.eq_zero_or_pos i with h0 | h0
        · subst h0; omega
        · have := hlt h0; omega
      rw [hmx]
      exact r_ret ⟨v4, V4, F34, O34⟩
    · refine r_ar (by omega) ?_
      have hi1 : i < ys.length := (List.getElem?_eq_some_iff.1 hx).1
      refine r_ag (i + 1, v4) ⟨by dsimp only; omega, fun _ => hle, V4, F34, O34, Nat.le_trans hsz3 F4.size, fun q hq => ?_⟩ (by dsimp only; omega) rfl
      obtain ⟨g1, g2⟩ := hrow q hq
      have hq2 := (own_lt hs1 q hq)
      have hqw := hs.2 q hq
      refine ⟨(F4.keep q (Nat.lt_of_lt_of_le hq2.2 hsz3) (fun e => ?_)).trans g1, fun e => ?_⟩
      · rcases List.mem_cons.1 e with rfl | e
        · omega
        · exact g2 e
      · rcases O4.mem e with h' | h'
        · exact g2 h'
        · omega
  · replace hk : ¬ (i : Int) < ys.length := hk
    have : i = ys.length := by omega
    subst this
    refine r_brk (r_ret ⟨v, ?_, F3, O3⟩)
    rw [List.take_length] at V
    rw [List.take_of_length_le]
    · exact V
    · unfold mx
      rcases Nat.eq_zero_or_pos ys.length with h0 | h0
      · omega
      · have := hlt h0; omega
theorem lbelow_t {k : FK} {N : Nat} {L : En} (K : FoR w k N L []) (n most : Int) :
    Cz Tryd.prog 13 [Pt k.fp 0, I n, I most] w (fun r w' => ∃ s, r = .tuple #[s, B true] ∧ Nw w w' s ((rBel L n).take (mx most)) ∧ Fr [] w w') Z := by
  refine go mixed Tryd.func13 Tryd.call13 rfl (Tr.e13 _ _ _) ?_
  refine r_box (cs := [I most]) (fun m w1 hm Bm f1 => ?_)
  have K1 := K.fr0 f1
  have bl : Cz Tryd.prog 35 [Pt k.fp 0, I n] w1 (fun r w' => ∃ a b, r = .func (.func 47) [].toArray [Pt a 0, Pt b 0].toArray ∧ Blk w' a 24 [Pt k.fp 0] ∧ Blk w' b 3 [I n] ∧ Fr [] w1 w') Z := by
    refine go mixed Tryd.func35 Tryd.call35 rfl (Tr.e35 _ _) ?_
    refine r_box (cs := [Pt k.fp 0]) (fun a w2 ha Ba f2 => ?_)
    refine r_box (cs := [I n]) (fun b w3 hb Bb f3 => ?_)
    exact r_ret ⟨a, b, rfl, Ba.fr0 f3, Bb, f2.trans f3⟩
  refine r_call bl ?_
  rintro _ w2 ⟨a, b, rfl, Ba, Bb, f2⟩
  refine r_pu (o := ⟨none, .binOp .eql 68 (.const (.func (.func 47) [].toArray [Pt a 0, Pt b 0].toArray)) (.const .nilFunc) 0, 0, "", #[], none⟩) (fun w' => x_eqlf (l := []) (ps := #[42]) (rs := #[]) (vr := false) rfl rfl (by kernel_rfl)) ?_ rfl
  refine r_al Tryd.zeroValue35 (fun c w3 hc Bc f3 => ?_)
  have F := (f1.trans f2).trans f3
  have hlt := K.ltx
  have h1 := f1.size; have h2 := f2.size
  have hml := Bm.lt
  refine r_call (Below1_t (K.fr0 F) (Ba.fr0 f3) (Bb.fr0 f3) ((Bm.fr0 f2).fr0 f3) Bc (by omega) (fun hq => by have := hlt c hq; omega)) ?_
  rintro _ w4 ⟨v, V, f4, O⟩
  refine r_ld (V.bl.cell rfl) ?_
  refine r_ret ⟨v, rfl, ⟨V.ow, fun q hq => ?_⟩, F.trans_new f4 (fun q hq => .inr (by simp at hq; omega))⟩
  rcases O.mem hq with h' | h'
  · simp [Value.ownBlock] at h'
  · exact Nat.le_trans F.size h'
end
end Go.Proofs.YtcbkpekbfkaeeaaDoor.Fo
