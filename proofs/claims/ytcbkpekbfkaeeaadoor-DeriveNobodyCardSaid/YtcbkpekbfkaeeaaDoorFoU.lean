/- Forests over trees: below, cuts, New, and the iterator. -/
import Derived.Test.YtcbkpekbfkaeeaaDoorFoT
set_option linter.unusedVariables false
set_option linter.unusedSimpArgs false
namespace Go.Proofs.YtcbkpekbfkaeeaaDoor.Fo
open Go Go.RowKit Go.Proofs.YtcbkpekbfkaeeaaDoor.Sx
open Go.Proofs.YtcbkpekbfkaeeaaDoor.Ls (LsR push_r drop_r new_r row_r aAll aPush aDrop okL okN Glb mixed)
theorem below_len {N : Nat} {L : En} (I : Inv N L) {n : Int} (h : has L n = true) : (below L n).length ≤ L.length := by
  have h0 := I.h0 h
  have := minus_len I (below_nodup I L.length n h0.1) (fun c hc => ((below_anc I _ n h0.1 c hc).idx I).2.1)
  unfold below
  omega
theorem own_base {w : World} {e n size base : Nat} {v : Value} {xs : List Value} (h : w.ownsRow 0 e size v n xs) (hb : ∀ q ∈ v.ownBlock.toList, base ≤ q) : w.ownsRow base e size v n xs := by
  obtain ⟨hl, h | ⟨g, cap, cur, rfl, hg, r⟩⟩ := h
  · exact ⟨hl, .inl h⟩
  · exact ⟨hl, .inr ⟨g, cap, cur, rfl, hb g (by simp [Value.ownBlock]), r⟩⟩
/-- A row made by a call. -/
def Nw (w w' : World) (v : Value) (xs : List Int) : Prop := w'.ownsRow 0 3 1 v xs.length (ints xs) ∧ ∀ q ∈ v.ownBlock.toList, w.heap.size ≤ q
theorem below_t {Z : ZP} {k : FK} {N : Nat} {L : En} {w : World} (K : FoR w k N L []) {n : Int} (hn : has L n = true) :
    Cz Tryd.prog 40 [Pt k.fp 0, I n] w (fun r w' => Nw w w' r (below L n) ∧ Fr [] w w') Z := by
  refine go mixed Tryd.func40 Tryd.call40 rfl (Tr.e40 _ _) ?_
  refine r_al Tryd.zeroValue35 (fun c w1 hc Bc f1 => ?_)
  have hlt := K.ltx
  have h1 := below_len K.inv hn
  have h2 := K.inv.len
  have h3 := K.sN
  refine r_call (walk_t L.length _ n w1 c (.slice none 0 0) [] (K.fr0 f1) hn (by omega) ⟨Bc, own_nil _ _ _, by simp [Value.ownBlock]⟩ (fun q hq hk => ?_) (by simp; unfold below at h1; omega)) ?_
  · simp [Value.ownBlock] at hq; subst hq; have := hlt q hk; omega
  rintro _ w2 ⟨rfl, v, V, F, O⟩
  refine r_ld (V.bl.cell rfl) ?_
  refine r_ret ⟨⟨by unfold below; simpa using V.ow, fun q hq => ?_⟩, f1.trans_new F (fun q hq => .inr ?_)⟩
  · rcases O.mem hq with h | h
    · simp [Value.ownBlock] at h
    · exact Nat.le_trans f1.size h
  · simp [Value.ownBlock] at hq; omega
theorem gone_t {Z : ZP} {k : FK} {N : Nat} {L : En} {w : World} (K : FoR w k N L []) {s : Value} {out : List Int} (HO : w.ownsRow 0 3 1 s out.length (ints out)) (hs : ∀ q ∈ s.ownBlock.toList, q ∉ k.ids) (hc : Closed L out) (hd : out.Nodup) (hh : ∀ c ∈ out, has L c = true) :
    Cz Tryd.prog 49 [Pt k.fp 0, s] w (fun r w' => r = s ∧ FoR w' k N (minus L out) [] ∧ Fr k.ids w w') Z := by
  refine go mixed Tryd.func49 Tryd.call49 rfl (Tr.e49 _ _) ?_
  have hol : out.length ≤ N := by
    have := minus_len K.inv hd hh; have := K.inv.len; omega
  have hsN := K.sN
  obtain ⟨X, cp, rfl, _⟩ := own_slice HO
  refine r_loop (fun (m : Nat) => [I (m : Int)]) (fun m w' => m ≤ out.length ∧ FoR w' k N L (out.take m) ∧ Fr k.ids w w') (fun m => out.length - m) 0 ⟨Nat.zero_le _, K, Fr.refl _ _⟩ rfl ?_
  rintro m w1 ⟨hm, K1, F1⟩
  refine r_if (fun h => ?_) (fun h => ?_)
  · refine r_ob ⟨by omega, by omega⟩ ?_
    obtain ⟨x, hx⟩ := gt (xs := out) (j := m) (by omega)
    have O1 := own_f HO F1 hs
    obtain ⟨_, _, e, hcell⟩ := own_int O1
    cases e
    obtain ⟨ad, rfl, hc2⟩ := hcell m x hx
    refine r_ld hc2 ?_
    obtain ⟨ws, lk, rows, sz, A, R⟩ := K1.ex
    refine r_ld (A.top.cell (topC_18 A.hw).2.1) ?_
    refine r_call (Cz.of Tryd.call53 (drop_r A.Q x)) ?_
    rintro _ w2 ⟨rfl, Q2, f2⟩
    have A2 := A.setQ Q2 f2
    refine r_dr (fun w3 f3 => ?_)
    have A3 := A2.fr0 f3
    have hxm := List.mem_of_getElem? hx
    have hx0 := K.inv.h0 (hh x hxm)
    obtain ⟨n, rfl⟩ : ∃ n : Nat, x = n := ⟨x.toNat, by omega⟩
    have hn : n < 1024 := by omega
    refine r_pu (o := ⟨none, .binOp .shr 3 (.const (I (n : Int))) (.const (.int .u64 6)) 0, 0, "", #[], none⟩) (fun w' => x_shr6 (l := []) rfl rfl) ?_ rfl
    refine r_ob ⟨by omega, by omega⟩ ?_
    refine r_ld (cW w3 k N ws lk _ sz A3 hn) ?_
    refine r_pu (o := ⟨none, .binOp .and 3 (.const (I (n : Int))) (.const (I 63)) 0, 0, "", #[], none⟩) (fun w' => x_and63 (l := []) rfl rfl) ?_ rfl
    refine r_pu (o := ⟨none, .binOp .shl 55 (.const (.int .u64 1)) (.const (I ((n % 64 : Nat) : Int))) 0, 0, "", #[], none⟩) (fun w' => x_shl1 (l := []) rfl rfl (by omega)) ?_ rfl
    refine r_pu (o := ⟨none, .binOp .andNot 55 (.const (encU ((ws[n / 64]?).getD 0#64))) (.const (.int .u64 (((1#64) <<< (n % 64)).toNat : Nat))) 0, 0, "", #[], none⟩) (fun w' => x_andn (l := []) rfl rfl) ?_ rfl
    refine r_ob ⟨by omega, by omega⟩ ?_
    have hwl : n / 64 < ws.length := by rw [A3.hw]; omega
    refine r_st1 A3.top Tryd.sizeOf55 (fun w4 B4 f4 => ?_) rfl rfl (by simp [topC_len A3.hw]; omega)
    rw [show 0 + 2 + ((n / 64 : Nat) : Int).toNat * 1 = 2 + n / 64 by omega] at B4
    have B4' : Blk w4 k.fp 60 (topC N (ws.set (n / 64) (((ws[n / 64]?).getD 0#64) &&& ~~~((1#64) <<< (n % 64)))) k sz) := by rw [← topC_set _ hwl]; exact B4
    have A4 := A3.setT (by simp [A3.hw]) B4' f4
    refine r_ld (A4.top.cell (topC_18 A4.hw).2.2) ?_
    have hsz := R.siz
    have hLl := K.inv.len
    refine r_ar (by have : (out.take m).length ≤ out.length := by rw [List.length_take]; exact Nat.min_le_right _ _
                    omega) ?_
    refine r_st1 A4.top Tryd.sizeOf3 (fun w5 B5 f5 => ?_) rfl rfl (by simp [topC_len A4.hw])
    have B5' : Blk w5 k.fp 60 (topC N (ws.set (n / 64) (((ws[n / 64]?).getD 0#64) &&& ~~~((1#64) <<< (n % 64)))) k (sz - 1)) := by rw [← topC_sz A4.hw]; exact B5
    have A5 := A4.setT A4.hw B5' f5
    refine r_ar (by omega) ?_
    have hnD : ((n : Nat) : Int) ∉ out.take m := fun hmem => by
      obtain ⟨j, hj⟩ := List.getElem?_of_mem hmem
      rw [List.getElem?_take] at hj
      split at hj
      · have := Ls.nodup_inj hd hj hx; omega
      · cases hj
    have R5 := R.drop A.hw hsN (hh _ hxm) hnD
    refine r_ag (m + 1) ⟨by omega, ⟨_, _, _, _, A5, ?_⟩, ?_⟩ (by omega) rfl
    · rw [take_succ' hx]; exact R5
    · exact ((((F1.trans (f2.mono (by simp [FK.ids]))).trans (f3.mono (by simp))).trans (f4.mono (by simp [FK.ids]))).trans (f5.mono (by simp [FK.ids])))
  · have : m = out.length := by omega
    subst this
    rw [List.take_length] at K1
    obtain ⟨ws, lk, rows, sz, A, R⟩ := K1.ex
    exact r_brk (r_ret ⟨rfl, ⟨ws, lk, rows, sz, A, R.minus hc hd hh⟩, F1⟩)
theorem taken_t {Z : ZP} {k : FK} {N : Nat} {L : En} {w : World} (K : FoR w k N L []) (n : Int) (own : Bool) :
    Cz Tryd.prog 39 [Pt k.fp 0, I n, .func (.func 40) #[Pt k.fp 0] #[], B own] w
      (fun r w' => ∃ s, r = .tuple #[s, I (fTake N L n own).2.2] ∧ Nw w w' s (fTake N L n own).2.1 ∧ FoR w' k N (fTake N L n own).1 [] ∧ Fr k.ids w w') Z := by
  refine go mixed Tryd.func39 Tryd.call39 rfl (Tr.e39 _ _ _ _) ?_
  refine r_call (Cz.of Tryd.call48 (asked_c w k N L K n)) ?_
  rintro _ w0 ⟨rfl, rfl⟩
  refine r_if (fun h => ?_) (fun h => ?_)
  · unfold fTake
    rw [if_neg h]
    exact r_ret ⟨_, rfl, ⟨own_nil _ _ _, by simp [Value.ownBlock]⟩, K, Fr.refl _ _⟩
  have h := Decidable.not_not.1 h
  have hn : has L n = true := by
    unfold fAsk at h
    split at h
    · cases h
    · split at h
      · cases h
      · rename_i h2; cases hh : has L n with | true => rfl | false => exact absurd hh h2
  have hb := below_len K.inv hn
  have hLl := K.inv.len
  have hsN := K.sN
  obtain ⟨c1, c2, c3⟩ := out_ok K.inv hn own
  have e : fTake N L n own = (minus L (outOf L n own), outOf L n own, 0) := by unfold fTake; rw [if_pos h]
  rw [e]
  have tail : ∀ (s s2 : Value) (pre : List Int) (w1 w2 : World) (X : Option Addr) (cp : Nat), w2.ownsRow 0 3 1 s pre.length (ints pre) → (∀ q ∈ s.ownBlock.toList, w0.heap.size ≤ q) → Fr [] w0 w2 → w2.ownsRow 0 3 1 s2 (below L n).length (ints (below L n)) → s2 = .slice X (below L n).length cp → pre.length ≤ 1 → pre ++ below L n = outOf L n own →
      wp Tryd.prog Z (fun r w' => ∃ s, r = .tuple #[s, I 0] ∧ Nw w0 w' s (outOf L n own) ∧ FoR w' k N (minus L (outOf L n own)) [] ∧ Fr k.ids w0 w') [] (.hv (Builtin.append_ #[35, 35] 35 [s, s2].toArray) fun v28 => .call 49 [Pt k.fp 0, v28] fun v29 => .ret (.tuple [v29, (I 0)].toArray)) w2 nA nB := by
    rintro s s2 pre w1 w2 X cp HO hs f2 HO2 rfl hp he
    obtain ⟨X', c', e', hcell⟩ := own_int HO2
    cases e'
    refine r_appO Eint HO (news := ints (below L n)) (by simp [ints]) (fun hX => ?_) (fun ad hX j u hj => ?_) (fun v hv => ?_) (by simp only [big]; omega) (Nat.zero_le _) (fun v w3 HO3 f3 hob => ?_)
    · subst hX
      rcases Nat.eq_zero_or_pos (below L n).length with h0 | h0
      · exact h0
      · obtain ⟨z, hz⟩ := gt h0
        obtain ⟨_, h1, _⟩ := hcell 0 z hz
        cases h1
    · rw [ints, List.getElem?_map] at hj
      obtain ⟨z, hz, rfl⟩ := Option.map_eq_some_iff.1 hj
      obtain ⟨_, h1, h2⟩ := hcell j z hz
      rw [hX] at h1
      cases h1
      rw [← h2]
      congr 2
      omega
    · obtain ⟨z, _, rfl⟩ := List.mem_map.1 hv
      rfl
    have hO : Ob w0 s v := by
      rcases hob with h | h
      · exact .inl h
      · exact .inr ⟨_, h, f2.size⟩
    have hv : ∀ q ∈ v.ownBlock.toList, w0.heap.size ≤ q := fun q hq => by
      rcases hO.mem hq with h | h
      · exact hs q h
      · exact h
    have e2 : ints pre ++ ints (below L n) = ints (outOf L n own) := by rw [← he]; simp [ints]
    have e3 : pre.length + (below L n).length = (outOf L n own).length := by rw [← he]; simp
    rw [e2, e3] at HO3
    have hlt := K.lt
    have f3' : Fr [] w0 w3 := f2.trans_new f3 (fun q hq => .inr (hs q hq))
    refine r_call (gone_t (K.fr0 f3') HO3 (fun q hq hk => by have := hv q hq; have := hlt q hk; omega) c1 c2 c3) ?_
    rintro _ w4 ⟨rfl, K4, f4⟩
    exact r_ret ⟨_, rfl, ⟨own_f HO3 f4 (fun q hq hk => by have := hv q hq; have := hlt q hk; omega), hv⟩, K4, (f3'.mono (by simp)).trans f4⟩
  cases own with
  | true =>
    refine r_bs1 Eint (fun c w1 hc Bc f1 => ?_)
    refine r_appO Eint (own_nil 0 _ _) (m := 1) (news := [I n]) rfl (by simp) (fun ad he j u hj => ?_) (one1 rfl) (by simp only [big]; omega) (Nat.zero_le _) (fun v w2 HO f2 hob => ?_)
    · cases he; exact Bc.rd.2 j u hj
    have f2' : Fr [] w0 w2 := f1.trans (f2.mono (by simp [Value.ownBlock]))
    have hv : ∀ q ∈ v.ownBlock.toList, w0.heap.size ≤ q := fun q hq => by
      rcases hob with h | h
      · rw [h] at hq; simp [Value.ownBlock] at hq
      · rw [h] at hq; simp at hq; subst hq; exact f1.size
    refine r_call (below_t (K.fr0 f2') hn) ?_
    rintro s2 w3 ⟨⟨HO2, _⟩, f3⟩
    obtain ⟨X, cp, e2, _⟩ := own_slice HO2
    exact tail v s2 [n] w2 w3 X cp (own_fr0 (by simpa [ints] using HO) f3) hv (f2'.trans f3) HO2 e2 (by simp) rfl
  | false =>
    refine r_call (below_t K hn) ?_
    rintro s2 w3 ⟨⟨HO2, _⟩, f3⟩
    obtain ⟨X, cp, e2, _⟩ := own_slice HO2
    exact tail (.slice none 0 0) s2 [] w0 w3 X cp (own_nil _ _ _) (by simp [Value.ownBlock]) f3 HO2 e2 (by simp) rfl
theorem Prune_t {Z : ZP} {k : FK} {N : Nat} {L : En} {w : World} (K : FoR w k N L []) (n : Int) :
    Cz Tryd.prog 22 [Pt k.fp 0, I n] w (fun r w' => ∃ s, r = .tuple #[s, I (fTake N L n false).2.2] ∧ Nw w w' s (fTake N L n false).2.1 ∧ FoR w' k N (fTake N L n false).1 [] ∧ Fr k.ids w w') Z := by
  refine go mixed Tryd.func22 Tryd.call22 rfl (Tr.e22 _ _) ?_
  refine r_call (taken_t K n false) ?_
  rintro _ w1 ⟨s, rfl, h⟩
  exact r_ret ⟨s, rfl, h⟩
theorem Cut_t {Z : ZP} {k : FK} {N : Nat} {L : En} {w : World} (K : FoR w k N L []) (n : Int) :
    Cz Tryd.prog 23 [Pt k.fp 0, I n] w (fun r w' => ∃ s, r = .tuple #[s, I (fTake N L n true).2.2] ∧ Nw w w' s (fTake N L n true).2.1 ∧ FoR w' k N (fTake N L n true).1 [] ∧ Fr k.ids w w') Z := by
  refine go mixed Tryd.func23 Tryd.call23 rfl (Tr.e23 _ _) ?_
  refine r_call (taken_t K n true) ?_
  rintro _ w1 ⟨s, rfl, h⟩
  exact r_ret ⟨s, rfl, h⟩
end Go.Proofs.YtcbkpekbfkaeeaaDoor.Fo
