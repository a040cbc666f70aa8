/- Forests over trees: what is below a node. -/
import Derived.Test.YtcbkpekbfkaeeaaDoorFoW2
import Derived.Test.YtcbkpekbfkaeeaaDoorLsT
set_option linter.unusedVariables false
set_option linter.unusedSimpArgs false
namespace Go.Proofs.YtcbkpekbfkaeeaaDoor.Fo
open Go Go.RowKit Go.Proofs.YtcbkpekbfkaeeaaDoor.Sx
open Go.Proofs.YtcbkpekbfkaeeaaDoor.Ls (LsR push_r drop_r new_r row_r aAll aPush aDrop okL okN Glb mixed told1_it rowAt_nat)
theorem Eint : El Tryd.prog 35 3 1 8 (I 0) := ⟨by kernel_rfl, by kernel_rfl, Tryd.sizeOf3, Tryd.zeroValue3, rfl⟩
/-- A local variable that holds a row of one's own. -/
structure Lv (w : World) (b : Nat) (v : Value) (xs : List Int) : Prop where
  bl : Blk w b 35 [v]
  ow : w.ownsRow 0 3 1 v xs.length (ints xs)
  nb : b ∉ v.ownBlock.toList
def Ob (w : World) (v v' : Value) : Prop := v'.ownBlock = v.ownBlock ∨ ∃ g, v'.ownBlock = some g ∧ w.heap.size ≤ g
section
variable {w w' : World} {b : Nat} {v v' v'' : Value} {xs : List Int}
theorem Lv.fr {S : List Nat} (h : Lv w b v xs) (f : Fr S w w') (h1 : b ∉ S) (h2 : ∀ q ∈ v.ownBlock.toList, q ∉ S) : Lv w' b v xs := ⟨h.bl.fr f h1, own_f h.ow f h2, h.nb⟩
theorem Ob.trans (h : Ob w v v') (h' : Ob w' v' v'') (hs : w.heap.size ≤ w'.heap.size) : Ob w v v'' := by
  rcases h' with h' | ⟨g, h', hg⟩
  · rcases h with h | ⟨g, h, hg⟩
    · exact .inl (h'.trans h)
    · exact .inr ⟨g, h'.trans h, hg⟩
  · exact .inr ⟨g, h', Nat.le_trans hs hg⟩
theorem Ob.mem (h : Ob w v v') {q : Nat} (hq : q ∈ v'.ownBlock.toList) : q ∈ v.ownBlock.toList ∨ w.heap.size ≤ q := by
  rcases h with h | ⟨g, h, hg⟩
  · exact .inl (h ▸ hq)
  · rw [h] at hq; simp at hq; subst hq; exact .inr hg
theorem Ob.down {w0 : World} (h : Ob w v v') (hs : w0.heap.size ≤ w.heap.size) : Ob w0 v v' := by
  rcases h with h | ⟨g, h, hg⟩
  · exact .inl h
  · exact .inr ⟨g, h, Nat.le_trans hs hg⟩
theorem FoR.ltx {k : FK} {N : Nat} {L : En} {D : List Int} (K : FoR w k N L D) : ∀ q ∈ 0 :: k.ids, q < w.heap.size := by
  intro q hq
  rcases List.mem_cons.1 hq with rfl | hq
  · obtain ⟨_, _, _, _, A, _⟩ := K.ex
    obtain ⟨x, LA, _⟩ := A.Q.ex
    exact World.block_lt_of_cell? w _ (LA.glb 0 _ rfl)
  · exact K.lt q hq
theorem FoR.frx {S : List Nat} {k : FK} {N : Nat} {L : En} {D : List Int} (K : FoR w k N L D) (f : Fr S w w') (h : ∀ q ∈ S, q ∉ 0 :: k.ids) : FoR w' k N L D :=
  K.fr f (fun q hq hk => h q hq (List.mem_cons_of_mem _ hk)) (fun hg => h _ hg (by simp))
end
theorem kids_all {L : En} {N : Nat} {ws : List (BitVec 64)} {lk : List (Int × Bool)} {rows : Ls.Rows} {sz : Int} (R : FRep N L [] ws lk rows sz) {n : Int} (h : has L n = true) : aAll rows n = kids L n := by
  obtain ⟨p, hp⟩ := has_iff.1 h
  have h0 := R.inv.rg _ hp
  simp only at h0
  obtain ⟨j, rfl⟩ : ∃ j : Nat, n = j := ⟨n.toNat, by omega⟩
  unfold aAll
  have hr := R.row (i := j) (by omega)
  rw [if_pos ⟨by omega, by rw [R.rlen]; omega⟩, rowAt_nat hr, filter_all]
theorem flat_pre {α β : Type} (g : α → List β) (l : List α) (m : Nat) : ((l.take m).flatMap g).length ≤ (l.flatMap g).length := by
  conv => rhs; rw [← List.take_append_drop m l]
  rw [List.flatMap_append, List.length_append]
  omega
theorem flat_ge {α : Type} (g : α → List α) (l : List α) : l.length ≤ (l.flatMap (fun c => c :: g c)).length := by
  induction l with
  | nil => simp
  | cons c r ih => rw [List.flatMap_cons, List.length_append]; simp only [List.length_cons]; omega
theorem take_succ' {α : Type} {l : List α} {m : Nat} {x : α} (h : l[m]? = some x) : l.take (m + 1) = l.take m ++ [x] := by
  rw [List.take_add_one, h]; rfl
/-- below's own function: one more. -/
theorem add_t {Z : ZP} {w : World} {b : Nat} {v : Value} {xs : List Int} (V : Lv w b v xs) (x : Int) (hx : xs.length ≤ 5000) :
    Cz Tryd.prog 50 [I x, Pt b 0] w (fun r w' => r = B true ∧ ∃ v', Lv w' b v' (xs ++ [x]) ∧ Fr (b :: v.ownBlock.toList) w w' ∧ Ob w v v') Z := by
  refine go mixed Tryd.func50 Tryd.call50 rfl (Tr.e50 _ _) ?_
  refine r_ld (V.bl.cell rfl) ?_
  refine r_bs1 Eint (fun c w1 hc Bc f1 => ?_)
  have V1 := V.fr f1 (by simp) (by simp)
  refine r_appO Eint V1.ow (m := 1) (news := [I x]) rfl (by simp) (fun ad he j u hj => ?_) (one1 rfl) (by simp only [big]; omega) (Nat.zero_le _) (fun v' w2 HO f2 hob => ?_)
  · cases he; exact Bc.rd.2 j u hj
  have hB2 := V1.bl.fr f2 V1.nb
  have hb0 := V.bl.lt
  have hO : Ob w v v' := by
    rcases hob with h | h
    · exact .inl h
    · exact .inr ⟨_, h, f1.size⟩
  have hnb : b ∉ v'.ownBlock.toList := fun hq => by
    rcases hO.mem hq with h | h
    · exact V.nb h
    · omega
  obtain ⟨X, cp, rfl, _⟩ := own_slice HO
  refine r_st1 hB2 Tryd.sizeOf35 (fun w3 B3 f3 => ?_)
  refine r_ret ⟨rfl, _, ⟨B3, ?_, hnb⟩, ((f1.mono (by simp)).trans (f2.mono (fun q hq => List.mem_cons_of_mem _ hq))).trans (f3.mono (by simp)), hO⟩
  have := own_f HO f3 (fun q hq hb => hnb (by simp at hb; rw [← hb]; exact hq))
  simpa [ints] using this
theorem walk_t {k : FK} {N : Nat} {L : En} : ∀ (f : Nat) (Z : ZP) (n : Int) (w : World) (b : Nat) (v : Value) (pre : List Int), FoR w k N L [] → has L n = true → L.length ≤ f + idx L n → Lv w b v pre → (∀ q ∈ b :: v.ownBlock.toList, q ∉ 0 :: k.ids) → pre.length + (belowF L f n).length ≤ 5000 →
    Cz Tryd.prog 51 [Pt k.fp 0, I n, .func (.func 50) #[] #[Pt b 0]] w (fun r w' => r = B true ∧ ∃ v', Lv w' b v' (pre ++ belowF L f n) ∧ Fr (b :: v.ownBlock.toList) w w' ∧ Ob w v v') Z := by
  intro f
  induction f with
  | zero => intro Z n w b v pre K hn hl; have := K.inv.idx_lt hn; omega
  | succ f ih =>
    intro Z n w b v pre K hn hl V hap hlen
    have hn0 : 0 ≤ n := by obtain ⟨p, hp⟩ := has_iff.1 hn; exact (K.inv.rg _ hp).1
    refine go mixed Tryd.func51 Tryd.call51 rfl (Tr.e51 _ _ _) ?_
    refine r_al Tryd.zeroValue35 (fun c w1 hc Bc f1 => ?_)
    obtain ⟨ws, lk, rows, sz, A, R⟩ := K.ex
    have A1 := A.fr0 f1
    refine r_ld (A1.top.cell (topC_18 A.hw).2.1) ?_
    refine r_call (Cz.of Tryd.call54 (Ls.All_c w1 _ n)) ?_
    rintro _ w2 ⟨b1, b2, b3, rfl, hb1, hb2, hb3, g1, g2, g3, f2⟩
    have F2 := f1.trans f2
    have hc2 : c < w2.heap.size := (Bc.fr0 f2).lt
    have hsz : w.heap.size ≤ w2.heap.size := F2.size
    have hvlt : ∀ q ∈ b :: v.ownBlock.toList, q < w.heap.size := fun q hq => by
      rcases List.mem_cons.1 hq with rfl | hq
      · exact V.bl.lt
      · exact (own_lt V.ow q hq).2
    refine ⟨_, _, rfl, Tryd.call63, (fun L o h => by cases h), fun L0 D a0 b0 w3 hL0 hL1 f3 hLa hD => ?_⟩
    obtain ⟨hD0, hDL, hD1, hDd⟩ := hD
    obtain ⟨ks, hks⟩ : ∃ ks, ks = kids L n := ⟨_, rfl⟩
    have hkl : ks.length ≤ (belowF L (f + 1) n).length := by rw [hks]; exact flat_ge _ _
    refine ⟨Nat, St ks, fun U m W => ∃ vc, Lv W c vc (ks.take m) ∧ (∀ q ∈ c :: vc.ownBlock.toList, q ∉ U) ∧ (∀ q ∈ U, w2.heap.size ≤ q) ∧ (∀ q ∈ vc.ownBlock.toList, w2.heap.size ≤ q) ∧ Fr [c] w2 W, fun _ _ _ => False, 0, ks.length, ?_, ?_, ?_, ?_, ?_, ?_, ?_⟩
    · refine ⟨.slice none 0 0, ⟨(Bc.fr0 f2).fr0 f3, own_nil _ _ _, by simp [Value.ownBlock]⟩, fun q hq => ?_, fun q hq => ?_, by simp [Value.ownBlock], f3.mono (by simp)⟩
      · simp [Value.ownBlock] at hq; subst hq; simp [u0]; omega
      · simp [u0] at hq; rcases hq with rfl | rfl <;> assumption
    · intro m
      refine ⟨?_, ?_⟩
      · rintro U W W' ⟨vc, Vc, h1, h2, h3, F⟩ g
        exact ⟨vc, Vc.fr g (h1 c (by simp)) (fun q hq => h1 q (by simp [hq])), h1, h2, h3, F.trans_new g (fun q hq => .inr (h2 q hq))⟩
      · rintro U W x ⟨vc, Vc, h1, h2, h3, F⟩ hx
        have hlt : ∀ q ∈ c :: vc.ownBlock.toList, q < W.heap.size := fun q hq => by
          rcases List.mem_cons.1 hq with rfl | hq
          · exact Vc.bl.lt
          · exact (own_lt Vc.ow q hq).2
        refine ⟨vc, Vc, fun q hq hU => ?_, fun q hq => ?_, h3, F⟩
        · rcases List.mem_cons.1 hU with rfl | hU
          · have := hlt _ hq; omega
          · exact h1 q hq hU
        · rcases List.mem_cons.1 hq with rfl | hq
          · exact Nat.le_trans F.size hx
          · exact h2 q hq
    · exact fun _ => ⟨fun _ _ _ h _ => h, fun _ _ _ h _ => h⟩
    · rintro U m m' _ W hLU _ hUs ⟨vc, Vc, h1, h2, h3, F⟩ hLW ⟨x, hx, rfl, rfl⟩
      refine ⟨rfl, ?_⟩
      have hcL : c ≠ L0 := fun e => h1 c (by simp) (e ▸ hLU)
      refine r_rb hLW (fun Wb fb hLb => ?_)
      have Vb := Vc.fr fb (by simpa using hcL) (fun q hq e => by simp at e; subst e; exact h1 _ (by simp [hq]) hLU)
      refine r_ld (Vb.bl.cell rfl) ?_
      refine r_bs1 Eint (fun e w5 he Be f5 => ?_)
      have V5 := Vb.fr f5 (by simp) (by simp)
      have hm : m < ks.length := (List.getElem?_eq_some_iff.1 hx).1
      refine r_appO Eint V5.ow (m := 1) (news := [I x]) rfl (by simp) (fun ad he j u hj => ?_) (one1 rfl) (by simp only [big]; simp; omega) (Nat.zero_le _) (fun v' w6 HO f6 hob => ?_)
      · cases he; exact Be.rd.2 j u hj
      have hB6 := V5.bl.fr f6 V5.nb
      have hO : Ob Wb vc v' := by
        rcases hob with h | h
        · exact .inl h
        · exact .inr ⟨_, h, f5.size⟩
      have hnb : c ∉ v'.ownBlock.toList := fun hq => by
        rcases hO.mem hq with h | h
        · exact Vc.nb h
        · have := Vb.bl.lt; omega
      obtain ⟨X, cp, rfl, _⟩ := own_slice HO
      refine r_st1 hB6 Tryd.sizeOf35 (fun w7 B7 f7 => ?_)
      have G : Fr (c :: vc.ownBlock.toList) Wb w7 := ((f5.mono (by simp)).trans (f6.mono (fun q hq => List.mem_cons_of_mem _ hq))).trans (f7.mono (by simp))
      have hbs : Wb.heap.size = W.heap.size ∨ W.heap.size ≤ Wb.heap.size := .inr fb.size
      refine ⟨⟨_, ⟨B7, ?_, hnb⟩, fun q hq hU => ?_, h2, fun q hq => ?_, ?_⟩, Kp.of fb G ((G.keep L0 (Array.getElem?_eq_some_iff.1 hLb).1 (fun e => h1 L0 e hLU)).trans hLb) (fun q hq e => h1 q e hq) hUs⟩
      · have := own_f HO f7 (fun q hq hb => hnb (by simp at hb; rw [← hb]; exact hq))
        rw [take_succ' hx]
        simpa [ints] using this
      · rcases List.mem_cons.1 hq with rfl | hq
        · exact h1 _ (by simp) hU
        · rcases hO.mem hq with h | h
          · exact h1 q (by simp [h]) hU
          · have := hUs q hU; have := fb.size; omega
      · rcases hO.mem hq with h | h
        · exact h3 q h
        · exact Nat.le_trans (Nat.le_trans F.size fb.size) h
      · refine (F.trans_new fb (fun q hq => .inr (h2 q (by simp at hq; subst hq; exact hLU)))).trans_new G (fun q hq => ?_)
        rcases List.mem_cons.1 hq with rfl | hq
        · exact .inl (by simp)
        · exact .inr (h3 q hq)
    · intro J K' RG hJI hJ0
      have A3 := (A1.fr0 f2).fr0 f3
      refine told1_it (hb1.fr0 f3) (hb2.fr0 f3) (hb3.fr0 f3) ks (by omega) ?_ RG hJ0
      refine (row_r A3.Q n).mono ?_
      rintro r w4 ⟨HO, _, f4⟩
      rw [kids_all R hn, ← hks] at HO
      exact ⟨HO, f4⟩
    · rintro U W ⟨vc, Vc, h1, h2, h3, Fc⟩ hDW
      rw [List.take_length] at Vc
      have hcb : b ≠ c := fun e => by have := hvlt b (by simp); omega
      have hcw : w.heap.size ≤ c := by omega
      have V2 : Lv W b v pre := (V.fr F2 (by simp) (by simp)).fr Fc (by simpa using hcb) (fun q hq e => by simp at e; have := hvlt q (by simp [hq]); omega)
      have Fw : Fr (b :: v.ownBlock.toList) w W := (F2.mono (by simp)).trans_new Fc (fun q hq => .inr (by simp at hq; omega))
      refine r_ld (Vc.bl.cell rfl) ?_
      obtain ⟨X0, cp, rfl, _⟩ := own_slice Vc.ow
      obtain ⟨X, hX⟩ : ∃ X : Nat → List Int, X = fun m => (ks.take m).flatMap (fun c => c :: belowF L f c) := ⟨_, rfl⟩
      have hXl : ∀ m, (X m).length ≤ (belowF L (f + 1) n).length := fun m => by rw [hX, hks]; exact flat_pre _ _ m
      have hXe : X ks.length = belowF L (f + 1) n := by rw [hX]; dsimp only; rw [List.take_length, hks]; rfl
      refine r_loop (fun (s : Nat × Value) => [I (s.1 : Int), B false]) (fun s w' => s.1 ≤ ks.length ∧ Lv w' b s.2 (pre ++ X s.1) ∧ Fr (b :: v.ownBlock.toList) W w' ∧ Ob W v s.2) (fun s => ks.length - s.1) (0, v) ⟨Nat.zero_le _, by rw [hX]; simpa using V2, Fr.refl _ _, .inl rfl⟩ rfl ?_
      rintro ⟨m, v1⟩ w4 ⟨hm, V4, F4, O4⟩
      dsimp only at hm V4 F4 O4
      refine r_if (fun h => ?_) (fun h => ?_)
      · refine r_ob ⟨by omega, by omega⟩ ?_
        obtain ⟨x, hx⟩ := gt (xs := ks) (j := m) (by omega)
        have O5 := own_f Vc.ow F4 (fun q hq e => by have := h3 q hq; have := hvlt q e; omega)
        obtain ⟨_, _, e, hc5⟩ := own_int O5
        cases e
        obtain ⟨ad, rfl, hcell⟩ := hc5 m x hx
        refine r_ld hcell ?_
        have hXs : X (m + 1) = X m ++ (x :: belowF L f x) := by rw [hX]; dsimp only; rw [take_succ' hx, List.flatMap_append]; simp
        have hl1 := hXl (m + 1)
        rw [hXs] at hl1
        simp only [List.length_append, List.length_cons] at hl1
        refine r_call (add_t V4 x (by simp only [List.length_append]; omega)) ?_
        rintro _ w5 ⟨rfl, v5, V5, F5, O5'⟩
        obtain ⟨hk1, hk2, _⟩ := kid_idx K.inv hn0 (hks ▸ List.mem_of_getElem? hx)
        have F45 : Fr (b :: v.ownBlock.toList) W w5 := F4.trans_new F5 (fun q hq => by
          rcases List.mem_cons.1 hq with rfl | hq
          · exact .inl (by simp)
          · rcases O4.mem hq with h | h
            · exact .inl (by simp [h])
            · exact .inr h)
        have O45 := O4.trans O5' F4.size
        have Ow := O45.down Fw.size
        have hap5 : ∀ q ∈ b :: v5.ownBlock.toList, q ∉ 0 :: k.ids := fun q hq => by
          rcases List.mem_cons.1 hq with rfl | hq
          · exact hap _ (by simp)
          · rcases Ow.mem hq with h | h
            · exact hap q (by simp [h])
            · intro hk; have := K.ltx q hk; omega
        refine r_call (ih _ x w5 b v5 _ (K.frx (Fw.trans F45) hap) hk2 (by omega) V5 hap5 (by simp only [List.length_append, List.length_cons, List.length_nil]; omega)) ?_
        rintro _ w6 ⟨rfl, v6, V6, F6, O6⟩
        refine r_ar (by omega) ?_
        refine r_ag (m + 1, v6) ⟨by dsimp only; omega, ?_, F45.trans_new F6 (fun q hq => ?_), O45.trans O6 F45.size⟩ (by dsimp only; omega) rfl
        · dsimp only
          rw [hXs]
          simpa using V6
        · rcases List.mem_cons.1 hq with rfl | hq
          · exact .inl (by simp)
          · rcases O45.mem hq with h | h
            · exact .inl (by simp [h])
            · exact .inr h
      · have : m = ks.length := by omega
        subst this
        rw [hXe] at V4
        have hDv : ∀ q ∈ b :: v1.ownBlock.toList, q ≠ D := fun q hq e => by
          subst e
          rcases List.mem_cons.1 hq with rfl | hq
          · have := hvlt q (by simp); omega
          · rcases O4.mem hq with h | h
            · have := hvlt q (by simp [h]); omega
            · have := (Array.getElem?_eq_some_iff.1 hDW).1; omega
        refine r_brk (r_ret1 ((F4.keep D (Array.getElem?_eq_some_iff.1 hDW).1 (fun e => ?_)).trans hDW) (fun w5 f5 => ⟨rfl, v1, V4.fr f5 (by simpa using hDv b (by simp)) (fun q hq => by simpa using hDv q (by simp [hq])), (Fw.trans F4).trans_new f5 (fun q hq => .inr (by simp at hq; omega)), O4.down Fw.size⟩))
        have := hvlt D e; omega
    · rintro U W j h; exact h.elim
end Go.Proofs.YtcbkpekbfkaeeaaDoor.Fo
