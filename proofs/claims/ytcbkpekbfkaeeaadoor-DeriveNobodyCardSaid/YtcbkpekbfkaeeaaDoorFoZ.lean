/- The reference of forests, over trees: below, cuts, depth, under; rows side by side. -/
import Derived.Test.YtcbkpekbfkaeeaaDoorFoY
set_option linter.unusedVariables false
set_option linter.unusedSimpArgs false
namespace Go.Proofs.YtcbkpekbfkaeeaaDoor.Fo
open Go Go.RowKit Go.Proofs.YtcbkpekbfkaeeaaDoor.Sx
open Go.Proofs.YtcbkpekbfkaeeaaDoor.Ls (mixed)
section
variable {Z : ZP} {R : Value → World → Prop} {w w' : World} {A : List Nat → List Value → World → Prop} {B : List Nat → Nat → List Value → World → Prop} {ds : List Nat} {k : Value → T}
/-- append of a row to a row of one's own. -/
theorem r_appI {s s2 : Value} {pre ys : List Int} (HO : w.ownsRow 0 3 1 s pre.length (ints pre)) (HO2 : w.ownsRow 0 3 1 s2 ys.length (ints ys)) (hb : pre.length + ys.length ≤ 100000)
    (hk : ∀ v' w', w'.ownsRow 0 3 1 v' (pre ++ ys).length (ints (pre ++ ys)) → Fr s.ownBlock.toList w w' → (v'.ownBlock = s.ownBlock ∨ v'.ownBlock = some w.heap.size) → wp Tryd.prog Z R ds (k v') w' A B) : wp Tryd.prog Z R ds (.hv (Builtin.append_ #[35, 35] 35 [s, s2].toArray) k) w A B := by
  obtain ⟨X, cp, rfl, hcell⟩ := own_int HO2
  refine r_appO Eint HO (news := ints ys) (by simp [ints]) (fun hX => ?_) (fun ad hX j u hj => ?_) (fun v hv => ?_) (by simp only [big]; omega) (Nat.zero_le _) (fun v w3 HO3 f3 hob => ?_)
  · subst hX
    rcases Nat.eq_zero_or_pos ys.length with h0 | h0
    · exact h0
    · obtain ⟨z, hz⟩ := gt h0
      obtain ⟨_, h1, _⟩ := hcell 0 z hz
      cases h1
  · rw [ints, List.getElem?_map] at hj
    obtain ⟨z, hz, rfl⟩ := Option.map_eq_some_iff.1 hj
    obtain ⟨_, h1, h2⟩ := hcell j z hz
    rw [hX] at h1
    cases h1
    rw [← h2]
    congr 2
    omega
  · obtain ⟨z, _, rfl⟩ := List.mem_map.1 hv
    rfl
  · refine hk v w3 ?_ f3 hob
    have e2 : ints pre ++ ints ys = ints (pre ++ ys) := by simp [ints]
    have e3 : pre.length + ys.length = (pre ++ ys).length := by simp
    rw [e2, e3] at HO3
    exact HO3
/-- append of one element, of a literal. -/
theorem r_app1 {s : Value} {pre : List Int} {x : Int} {b c : Nat} (HO : w.ownsRow 0 3 1 s pre.length (ints pre)) (Bc : Blk w b 3 [I x]) (hb : pre.length ≤ 100000)
    (hk : ∀ v' w', w'.ownsRow 0 3 1 v' (pre ++ [x]).length (ints (pre ++ [x])) → Fr s.ownBlock.toList w w' → (v'.ownBlock = s.ownBlock ∨ v'.ownBlock = some w.heap.size) → wp Tryd.prog Z R ds (k v') w' A B) : wp Tryd.prog Z R ds (.hv (Builtin.append_ #[35, 35] 35 [s, .slice (some ⟨b, 0, none⟩) 1 c].toArray) k) w A B := by
  refine r_appO Eint HO (m := 1) (news := [I x]) rfl (by simp) (fun ad he j u hj => ?_) (one1 rfl) (by simp only [big]; omega) (Nat.zero_le _) (fun v w3 HO3 f3 hob => ?_)
  · cases he; exact Bc.rd.2 j u hj
  · refine hk v w3 ?_ f3 hob
    simpa [ints] using HO3
end
theorem Nw.app {w w1 w2 : World} {s v : Value} {xs ys : List Int} (h : Nw w w1 s xs) (HO : w2.ownsRow 0 3 1 v ys.length (ints ys)) (hob : v.ownBlock = s.ownBlock ∨ v.ownBlock = some w1.heap.size) (hs : w.heap.size ≤ w1.heap.size) : Nw w w2 v ys := by
  refine ⟨HO, fun q hq => ?_⟩
  rcases hob with h' | h'
  · exact h.2 q (h' ▸ hq)
  · rw [h'] at hq; simp at hq; subst hq; exact hs
theorem Nw.up {w w1 w2 : World} {s : Value} {xs : List Int} (h : Nw w w1 s xs) (f : Fr [] w1 w2) : Nw w w2 s xs := ⟨own_fr0 h.1 f, h.2⟩
theorem Nw.fr {w w1 w2 : World} {S : List Nat} {s : Value} {xs : List Int} (h : Nw w w1 s xs) (f : Fr S w1 w2) (hS : ∀ q ∈ S, q < w.heap.size) : Nw w w2 s xs := ⟨own_f h.1 f (fun q hq hs => by have := h.2 q hq; have := hS q hs; omega), h.2⟩
theorem kids_append (L M : En) (n : Int) : kids (L ++ M) n = kids L n ++ kids M n := by simp [kids]
section
variable {p N : Nat} {v : Value} {L : En}
theorem rBelowF_t : ∀ (f : Nat) (Z : ZP) (n : Int) (w : World), RfA w p N v L → has L n = true → L.length ≤ f + idx L n →
    Cz Tryd.prog 14 [Pt p 0, I n] w (fun r w' => Nw w w' r (belowF L f n) ∧ Fr [] w w') Z := by
  intro f
  induction f with
  | zero => intro Z n w A hn hl; have := A.inv.idx_lt hn; omega
  | succ f ih =>
    intro Z n w A hn hl
    have hn0 := (A.inv.h0 hn).1
    have hl1 := A.inv.len
    have hl2 := A.sN
    have hbl : (belowF L (f + 1) n).length ≤ L.length := by
      have := below_len A.inv hn
      unfold below at this
      rw [below_stable A.inv (f + 1) L.length n hn hl (by omega)]
      exact this
    refine go mixed Tryd.func14 Tryd.call14 rfl (Tr.e14 _ _) ?_
    refine r_call (rHas_t A n) ?_
    rintro _ w0 ⟨rfl, F0⟩
    refine r_ifbn (fun h => by rw [hn] at h; cases h) (fun _ => ?_)
    obtain ⟨X, hX⟩ : ∃ X : Nat → List Int, X = fun i => (kids (L.take i) n).flatMap (fun c => c :: belowF L f c) := ⟨_, rfl⟩
    have hXe : X L.length = belowF L (f + 1) n := by rw [hX]; dsimp only; rw [List.take_length]; rfl
    have hXl : ∀ i, (X i).length ≤ (belowF L (f + 1) n).length := fun i => by
      have e : kids L n = kids (L.take i) n ++ kids (L.drop i) n := by rw [← kids_append, List.take_append_drop]
      rw [hX]
      show _ ≤ ((kids L n).flatMap (fun c => c :: belowF L f c)).length
      rw [e, List.flatMap_append, List.length_append]
      exact Nat.le_add_right _ _
    refine r_loop (fun (s : Nat × Value) => [I (s.1 : Int), s.2]) (fun s w' => s.1 ≤ L.length ∧ Nw w w' s.2 (X s.1) ∧ Fr [] w w') (fun s => L.length - s.1) (0, .slice none 0 0) ⟨Nat.zero_le _, ⟨by rw [hX]; exact own_nil _ _ _, by simp [Value.ownBlock]⟩, F0⟩ rfl ?_
    rintro ⟨i, u⟩ w1 ⟨hi, hu, F⟩
    dsimp only at hi hu F
    have A1 := A.fr0 F
    obtain ⟨X1, c, rfl, hc, hrow⟩ := A1.row
    refine r_ld (A1.top.cell (o := 1) rfl) ?_
    refine r_if (fun h => ?_) (fun h => ?_)
    · refine r_ld (A1.top.cell (o := 1) rfl) ?_
      refine r_ob ⟨by omega, by omega⟩ ?_
      obtain ⟨⟨a, q⟩, he⟩ := gt (xs := L) (j := i) (by omega)
      obtain ⟨ad, rfl, hr⟩ := hrow i _ he
      refine r_ld (hr.2 1 _ rfl) ?_
      have hXs : X (i + 1) = X i ++ (if q = n then a :: belowF L f a else []) := by
        rw [hX]
        dsimp only
        rw [take_succ' he, kids_snoc, List.flatMap_append]
        split <;> simp
      refine r_if (fun hq => ?_) (fun hq => ?_)
      · replace hq : q = n := hq
        subst hq
        rw [if_pos rfl] at hXs
        have hl3 := hXl (i + 1)
        rw [hXs] at hl3
        simp only [List.length_append, List.length_cons] at hl3
        refine r_dr (fun w2 f2 => ?_)
        have A2 := A1.fr0 f2
        have rd2 := hr.fr f2
        refine r_ld (A2.top.cell (o := 1) rfl) ?_
        refine r_ob ⟨by omega, by omega⟩ ?_
        refine r_ld (rd2.2 0 _ rfl) ?_
        refine r_ld (A2.top.cell (o := 1) rfl) ?_
        refine r_ob ⟨by omega, by omega⟩ ?_
        refine r_ld (rd2.2 0 _ rfl) ?_
        refine r_bs1 Eint (fun d w3 hd Bd f3 => ?_)
        have A3 := A2.fr0 f3
        have rd3 := rd2.fr f3
        refine r_chk (A3.top.cell (o := 1) rfl) ?_
        refine r_chk (rd3.2 0 _ rfl) ?_
        have F3 := (F.trans f2).trans f3
        refine r_app1 (own_fr0 (own_fr0 hu.1 f2) f3) Bd (by omega) (fun u4 w4 O4 f4 hob4 => ?_)
        have F4 : Fr [] w w4 := F3.trans_new f4 (fun q hq => .inr (hu.2 q hq))
        have hu4 : Nw w w4 u4 (X i ++ [a]) := Nw.app ((hu.up f2).up f3) O4 hob4 F3.size
        have A4 := A.fr0 F4
        obtain ⟨X5, c5, e5, _, hrow5⟩ := A4.row
        cases e5
        obtain ⟨_, e6, hr4⟩ := hrow5 i _ he
        cases e6
        refine r_chk (A4.top.cell (o := 1) rfl) ?_
        refine r_chk (hr4.2 0 _ rfl) ?_
        obtain ⟨hk1, hk2, _⟩ := kid_idx A.inv hn0 (kids_iff.2 (List.mem_of_getElem? he))
        refine r_call (ih _ a w4 A4 hk2 (by omega)) ?_
        rintro r w5 ⟨hr5, f5⟩
        refine r_appI (own_fr0 hu4.1 f5) hr5.1 (by simp only [List.length_append, List.length_cons, List.length_nil]; omega) (fun u6 w6 O6 f6 hob6 => ?_)
        have F6 : Fr [] w w6 := (F4.trans f5).trans_new f6 (fun q hq => .inr (hu4.2 q hq))
        refine r_ar (by omega) ?_
        refine r_ag (i + 1, u6) ⟨by dsimp only; omega, ?_, F6⟩ (by dsimp only; omega) rfl
        dsimp only
        rw [hXs]
        have := Nw.app (hu4.up f5) O6 hob6 (F4.trans f5).size
        simpa using this
      · rw [if_neg hq, List.append_nil] at hXs
        refine r_ar (by omega) ?_
        exact r_ag (i + 1, u) ⟨by dsimp only; omega, by dsimp only; rw [hXs]; exact hu, F⟩ (by dsimp only; omega) rfl
    · have : i = L.length := by omega
      subst this
      rw [hXe] at hu
      exact r_brk (r_ret ⟨hu, F⟩)
def rBel (L : En) (n : Int) : List Int := if has L n = true then below L n else []
theorem rBelow_t {Z : ZP} {w : World} (A : RfA w p N v L) (n : Int) : Cz Tryd.prog 14 [Pt p 0, I n] w (fun r w' => Nw w w' r (rBel L n) ∧ Fr [] w w') Z := by
  unfold rBel
  by_cases hn : has L n = true
  · rw [if_pos hn]
    exact rBelowF_t L.length Z n w A hn (by omega)
  · rw [if_neg hn]
    refine go mixed Tryd.func14 Tryd.call14 rfl (Tr.e14 _ _) ?_
    refine r_call (rHas_t A n) ?_
    rintro _ w0 ⟨rfl, F0⟩
    refine r_ifbn (fun h => ?_) (fun h => absurd h hn)
    exact r_ret ⟨⟨own_nil _ _ _, by simp [Value.ownBlock]⟩, F0⟩
end
end Go.Proofs.YtcbkpekbfkaeeaaDoor.Fo
