/- The law of forests, over trees: the example; forests made by calls; DeriveRuns. -/
import Derived.Test.YtcbkpekbfkaeeaaDoorFoM
set_option linter.unusedVariables false
set_option linter.unusedSimpArgs false
namespace Go.Proofs.YtcbkpekbfkaeeaaDoor.Fo
open Go Go.RowKit Go.Proofs.YtcbkpekbfkaeeaaDoor.Sx
open Go.Proofs.YtcbkpekbfkaeeaaDoor.Ls (mixed new_r Glb)
theorem bsl3 (a b c : Int) (w : World) : (Instr.buildSlice 35 3 [(0, I a), (1, I b), (2, I c)].toArray).run Tryd.prog w = .ok (.slice (some ⟨w.heap.size, 0, none⟩) 3 3) (w.alloc (.cells [I a, I b, I c].toArray 3)) := by kernel_rfl
theorem ir_lit {w : World} {b n : Nat} {xs : List Int} (h : Blk w b 3 (ints xs)) (hn : n = xs.length) : IR w (.slice (some ⟨b, 0, none⟩) n n) xs := by
  subst hn
  refine ⟨_, _, rfl, fun k z hz => ⟨_, rfl, ?_⟩⟩
  rw [addA_eq, addr_add]
  refine h.cell ?_
  rw [ints, List.getElem?_map]
  simp [hz]
section
variable {Z : ZP} {w : World}
theorem awake_t (hG : Glb w) : Cz Tryd.prog 8 [] w (fun r w' => r = B true ∧ Fr [] w w') Z := by
  refine go mixed Tryd.func8 Tryd.call8 rfl Tr.e8 ?_
  refine r_call (FNew_y (n := 4) hG (by omega)) ?_
  rintro _ w1 ⟨k, rfl, K1, hk, F1⟩
  have up : ∀ {a b : World} {S : List Nat}, Fr [] w a → Fr S a b → (∀ q ∈ S, q ∈ k.ids) → Fr [] w b := fun F f h => F.trans_new f (fun q hq => .inr (hk q (h q hq)))
  have c1 := Root_c w1 k 4 [] K1 0
  rw [show fRoot 4 [] 0 = ([(0, -1)], 0) from by decide] at c1
  refine r_call (Cz.of Tryd.call24 c1) ?_
  rintro _ w2 ⟨rfl, K2, f2⟩
  have F2 := up F1 f2 (by simp [FK.ids])
  have c2 := Derive_c w2 k 4 _ K2 0 2
  rw [show fDer 4 [(0, -1)] 0 2 = ([(0, -1), (2, 0)], 0) from by decide] at c2
  refine r_call (Cz.of Tryd.call25 c2) ?_
  rintro _ w3 ⟨rfl, K3, f3⟩
  have F3 := up F2 f3 (by simp [FK.ids])
  have c3 := Derive_c w3 k 4 _ K3 0 1
  rw [show fDer 4 [(0, -1), (2, 0)] 0 1 = ([(0, -1), (2, 0), (1, 0)], 0) from by decide] at c3
  refine r_call (Cz.of Tryd.call25 c3) ?_
  rintro _ w4 ⟨rfl, K4, f4⟩
  have F4 := up F3 f4 (by simp [FK.ids])
  have c4 := Derive_c w4 k 4 _ K4 2 3
  rw [show fDer 4 [(0, -1), (2, 0), (1, 0)] 2 3 = ([(0, -1), (2, 0), (1, 0), (3, 2)], 0) from by decide] at c4
  refine r_call (Cz.of Tryd.call25 c4) ?_
  rintro _ w5 ⟨rfl, K5, f5⟩
  have F5 := up F4 f5 (by simp [FK.ids])
  refine r_call (lbelow_t K5 0 9) ?_
  rintro _ w6 ⟨s6, rfl, hs6, f6⟩
  rw [show (rBel [(0, -1), (2, 0), (1, 0), (3, 2)] 0).take (mx 9) = [2, 3, 1] from by decide] at hs6
  have K6 := K5.fr0 f6
  have F6 := F5.trans f6
  have c7 := Prune_t (Z := ZD [] Z) K6 2
  rw [show fTake 4 [(0, -1), (2, 0), (1, 0), (3, 2)] 2 false = ([(0, -1), (2, 0), (1, 0)], [3], 0) from by decide] at c7
  refine r_call c7 ?_
  rintro _ w7 ⟨s7, rfl, hs7, K7, f7⟩
  have F7 := up F6 f7 (fun q hq => hq)
  have c8 := Cut_t (Z := ZD [] Z) K7 0
  rw [show fTake 4 [(0, -1), (2, 0), (1, 0)] 0 true = ([], [0, 2, 1], 0) from by decide] at c8
  refine r_call c8 ?_
  rintro _ w8 ⟨s8, rfl, hs8, K8, f8⟩
  have F8 := up F7 f8 (fun q hq => hq)
  have l5 := K5.lt; have l6 := K6.lt; have l7 := K7.lt
  have hs6 := ((hs6.fr (S := k.ids) f7 l5).fr (S := k.ids) f8 l5)
  have hs7 := hs7.fr (S := k.ids) f8 l6
  refine r_new (bsl3 2 3 1 w8) (fun b w9 hb Bb f9 => ?_)
  subst hb
  have F9 := F8.trans f9
  refine r_call (Same_t (hs6.ir.up f9) (ir_lit (xs := [2, 3, 1]) Bb rfl) (by decide)) ?_
  rintro _ w10 ⟨rfl, f10⟩
  have F10 := F9.trans f10
  refine r_new (cs := [I 3]) (run_bs1 (zs := [I 0]) Eint.u Eint.s Eint.zv rfl rfl rfl rfl rfl rfl) (fun b2 w11 hb2 Bb2 f11 => ?_)
  subst hb2
  have F11 := F10.trans f11
  refine r_call (Same_t (((hs7.ir.up f9).up f10).up f11) (ir_lit (xs := [3]) Bb2 rfl) (by decide)) ?_
  rintro _ w12 ⟨rfl, f12⟩
  refine r_new (bsl3 0 2 1 w12) (fun b3 w13 hb3 Bb3 f13 => ?_)
  subst hb3
  have F13 := (F11.trans f12).trans f13
  refine r_call (Same_t (((((hs8.ir.up f9).up f10).up f11).up f12).up f13) (ir_lit (xs := [0, 2, 1]) Bb3 rfl) (by decide)) ?_
  rintro _ w14 ⟨rfl, f14⟩
  have F14 := F13.trans f14
  have K14 := (((((K8.fr0 f9).fr0 f10).fr0 f11).fr0 f12).fr0 f13).fr0 f14
  refine r_call (Cz.of Tryd.call21 (Len_c w14 k 4 [] K14)) ?_
  rintro _ w15 ⟨rfl, rfl⟩
  have c9 := Root_c w15 k 4 [] K14 4
  rw [show fRoot 4 [] 4 = ([], 120) from by decide] at c9
  refine r_call (Cz.of Tryd.call24 c9) ?_
  rintro _ w16 ⟨rfl, K16, f16⟩
  exact r_ret ⟨rfl, up F14 f16 (by simp [FK.ids])⟩
/-- A row of calls in memory. -/
def OpsAt (w : World) (X : Option Addr) (ops : List Op3) : Prop := ∀ (j : Nat) e, ops[j]? = some e → ∃ ad, X = some ad ∧ Rd w 3 (addA ad (j * 3)) [I e.1, I e.2.1, I e.2.2]
theorem OpsAt.up {w w' : World} {X : Option Addr} {ops : List Op3} (h : OpsAt w X ops) (f : Fr [] w w') : OpsAt w' X ops := fun j e he => let ⟨ad, h1, h2⟩ := h j e he; ⟨ad, h1, h2.fr f⟩
theorem ops_of {w : World} {X : Option Addr} : ∀ (n : Nat), (∀ j : Nat, j < n → ∃ (x : Addr) (z0 : Int) (z1 : Int) (z2 : Int), X = some x ∧ (∀ (i : Nat) v, ([.int .i64 z0, .int .i64 z1, .int .i64 z2] : List Value)[i]? = some v → w.cell? ((x.add (((j : Nat) : Int).toNat * 3)).add i) = some v) ∧ (Lit.int .i64 z0).wf = true ∧ (Lit.int .i64 z1).wf = true ∧ (Lit.int .i64 z2).wf = true) → ∃ ops : List Op3, ops.length = n ∧ OpsAt w X ops := by
  intro n
  induction n with
  | zero => intro _; exact ⟨[], rfl, fun j e h => by simp at h⟩
  | succ n ih =>
    intro h
    obtain ⟨ops, hl, ho⟩ := ih (fun j hj => h j (by omega))
    obtain ⟨x, z0, z1, z2, hx, hc, _⟩ := h n (by omega)
    refine ⟨ops ++ [(z0, z1, z2)], by simp [hl], fun j e he => ?_⟩
    rcases Nat.lt_or_ge j ops.length with hj | hj
    · rw [List.getElem?_append_left hj] at he
      exact ho j e he
    · have hj2 := (List.getElem?_eq_some_iff.1 he).1
      simp at hj2
      obtain rfl : j = ops.length := by omega
      simp at he
      subst he
      refine ⟨x, hx, rfl, fun i v hv => ?_⟩
      have := hc i v hv
      rw [addA_eq, addA_eq]
      rw [hl]
      exact this
theorem IR.take {w : World} {X : Option Addr} {n c m : Nat} {xs : List Int} (h : IR w (.slice X n c) xs) (hm : m ≤ xs.length) : IR w (.slice X m c) (xs.take m) := by
  obtain ⟨X', c', e, h2⟩ := h
  cases e
  refine ⟨X, c, by rw [List.length_take, Nat.min_eq_left hm], fun k z hz => h2 k z ?_⟩
  rw [List.getElem?_take] at hz
  split at hz
  · exact hz
  · cases hz
theorem own_capI {w : World} {X : Option Addr} {n c : Nat} {xs : List Int} (h : w.ownsRow 0 3 1 (.slice X n c) xs.length (ints xs)) : n = xs.length ∧ n ≤ c := by
  obtain ⟨_, ⟨e1, e2⟩ | ⟨g, cap, cur, e1, _, _, h2, _⟩⟩ := h
  · cases e1; exact ⟨e2.symm, Nat.le_refl _⟩
  · cases e1; exact ⟨rfl, h2⟩
theorem runs_t (hG : Glb w) {X : Option Addr} {cp : Nat} {ops : List Op3} (hops : OpsAt w X ops) (nodes n root most : Int) (hol : (ops.length : Int) ≤ 9223372036854775807) :
    Cz Tryd.prog 3 [I nodes, .slice X ops.length cp, I n, I root, I most] w (fun r w' => r = B true ∧ Fr [] w w') Z := by
  refine go mixed Tryd.func3 Tryd.call3 rfl (Tr.e3 _ _ _ _ _) ?_
  refine r_call (awake_t hG) ?_
  rintro _ w1 ⟨rfl, F1⟩
  have hG1 : Glb w1 := hG.fr F1 (by simp)
  by_cases hN : 0 ≤ nodes ∧ nodes ≤ 1024
  · obtain ⟨N, rfl⟩ : ∃ N : Nat, nodes = N := ⟨nodes.toNat, by omega⟩
    have hN' : N ≤ 1024 := by omega
    refine r_call (FNew_y hG1 hN') ?_
    rintro _ w2 ⟨k, rfl, K2, hk, f2⟩
    refine r_call (rNew_y hN') ?_
    rintro _ w3 ⟨p, rfl, A3, hp, f3⟩
    have F3 := (F1.trans f2).trans f3
    have hids := K2.ltx
    have s1 := F1.size
    have s2 := f2.size
    have hk' : ∀ q ∈ k.ids, w.heap.size ≤ q := fun q hq => Nat.le_trans s1 (hk q hq)
    have H3 : Bo w3 k N [] p (.slice none 0 0) := ⟨K2.fr0 f3, A3, fun q hq hk => by simp [Value.ownBlock] at hq; subst hq; have := hids q hk; omega⟩
    refine r_loop (fun (i : Nat) => [I (i : Int), B false]) (fun i w' => (i ≤ ops.length ∧ i ≤ 50) ∧ (∃ L v, Bo w' k N L p v) ∧ Fr [] w w') (fun i => 50 - i) 0 ⟨⟨Nat.zero_le _, Nat.zero_le _⟩, ⟨_, _, H3⟩, F3⟩ rfl ?_
    rintro i w4 ⟨⟨hi1, hi2⟩, ⟨L, v, H⟩, F⟩
    have ext : wp Tryd.prog Z (fun r w' => r = B true ∧ Fr [] w w') [] ((fun i1 z1 => bq i1 0 (biT true .lss (I most) (I 1) fun v78 => gi v78 (.call 13 [Pt k.fp 0, I n, (I 2000)] fun v87 => exT 0 v87 fun v88 => exT 1 v87 fun v89 => .call 14 [Pt p 0, I n] fun v92 => .call 12 [Pt k.fp 0, Pt p 0, I n, I root] fun v97 => gi v97 (gi v89 (lnT v92 fun v105 => .hv (Builtin.min_ #[3, 3] 3 [v105, (I 2000)].toArray) fun v107 => .pu (Instr.sliceAt 35 v92 none (some v107) none) fun v108 => .call 15 [v88, v108] fun v109 => .ret v109) (.ret (B false))) (.ret (B false))) (biT true .gtr (I most) (I 2000) fun v81 => gi v81 (.call 13 [Pt k.fp 0, I n, (I 2000)] fun v87 => exT 0 v87 fun v88 => exT 1 v87 fun v89 => .call 14 [Pt p 0, I n] fun v92 => .call 12 [Pt k.fp 0, Pt p 0, I n, I root] fun v97 => gi v97 (gi v89 (lnT v92 fun v105 => .hv (Builtin.min_ #[3, 3] 3 [v105, (I 2000)].toArray) fun v107 => .pu (Instr.sliceAt 35 v92 none (some v107) none) fun v108 => .call 15 [v88, v108] fun v109 => .ret v109) (.ret (B false))) (.ret (B false))) (.call 13 [Pt k.fp 0, I n, I most] fun v87 => exT 0 v87 fun v88 => exT 1 v87 fun v89 => .call 14 [Pt p 0, I n] fun v92 => .call 12 [Pt k.fp 0, Pt p 0, I n, I root] fun v97 => gi v97 (gi v89 (lnT v92 fun v105 => .hv (Builtin.min_ #[3, 3] 3 [v105, I most].toArray) fun v107 => .pu (Instr.sliceAt 35 v92 none (some v107) none) fun v108 => .call 15 [v88, v108] fun v109 => .ret v109) (.ret (B false))) (.ret (B false))))) (.bad)) 0 [I (i : Int), B false]) w4 nA nB := by
      have tail : ∀ M : Int, 1 ≤ M → M ≤ 2000 → wp Tryd.prog Z (fun r w' => r = B true ∧ Fr [] w w') [] (.call 13 [Pt k.fp 0, I n, I M] fun v87 => exT 0 v87 fun v88 => exT 1 v87 fun v89 => .call 14 [Pt p 0, I n] fun v92 => .call 12 [Pt k.fp 0, Pt p 0, I n, I root] fun v97 => gi v97 (gi v89 (lnT v92 fun v105 => .hv (Builtin.min_ #[3, 3] 3 [v105, I M].toArray) fun v107 => .pu (Instr.sliceAt 35 v92 none (some v107) none) fun v108 => .call 15 [v88, v108] fun v109 => .ret v109) (.ret (B false))) (.ret (B false))) w4 nA nB := by
        intro M hM1 hM2
        refine r_call (lbelow_t H.F n M) ?_
        rintro _ w5 ⟨s, rfl, hs, f5⟩
        have H5 := H.up f5
        refine r_call (rBelow_t H5.R n) ?_
        rintro t w6 ⟨ht, f6⟩
        have H6 := H5.up f6
        refine r_call (same_t H6 n root) ?_
        rintro _ w7 ⟨rfl, f7⟩
        have hbl : (rBel L n).length ≤ 1024 := by
          have h1 := H.R.inv.len
          have h2 := H.R.sN
          unfold rBel
          split
          · have := below_len H.R.inv (by assumption); omega
          · simp
        have ht' := ht.up f7
        obtain ⟨X2, c2, rfl, _⟩ := own_int ht'.1
        obtain ⟨_, hcap⟩ := own_capI ht'.1
        refine r_hv (o := ⟨none, .call ⟨.builtin .min, #[.const (I ((rBel L n).length : Int)), .const (I M)], #[3, 3]⟩, 3, "", #[], none⟩) (x_min (l := []) rfl rfl).ev ?_ (by simp [execOp, resolve, invoke, builtin, r0])
        rintro _ w8 ⟨rfl, rfl⟩
        obtain ⟨m, hm, hml, hmx⟩ : ∃ m : Nat, (if M < ((rBel L n).length : Int) then M else ((rBel L n).length : Int)) = m ∧ m ≤ (rBel L n).length ∧ (rBel L n).take (mx M) = (rBel L n).take m := by
          by_cases h : M < ((rBel L n).length : Int)
          · rw [if_pos h]
            refine ⟨M.toNat, by omega, by omega, ?_⟩
            congr 1
            unfold mx; omega
          · rw [if_neg h]
            refine ⟨_, rfl, Nat.le_refl _, ?_⟩
            rw [List.take_length, List.take_of_length_le]
            unfold mx; omega
        rw [hm]
        refine r_slh (e := 3) (m := m) Tryd.underlying35 Tryd.sizeOf3 (by omega) (by omega) (by omega) ?_
        rw [hmx] at hs
        refine r_call (Same_t ((hs.up f6).up f7).ir (ht'.ir.take hml) (by rw [List.length_take]; omega)) ?_
        rintro _ w9 ⟨rfl, f9⟩
        refine r_ret ⟨by rw [decide_eq_true rfl], (((F.trans f5).trans f6).trans f7).trans f9⟩
      refine r_if (fun h1 => tail 2000 (by omega) (by omega)) (fun h1 => ?_)
      refine r_if (fun h2 => tail 2000 (by omega) (by omega)) (fun h2 => ?_)
      exact tail most (by omega) (by omega)
    refine r_if (fun h1 => ?_) (fun h1 => ?_)
    · refine r_if (fun h2 => ?_) (fun h2 => ?_)
      · refine r_dr (fun w5 f5 => ?_)
        obtain ⟨⟨a, b, c⟩, he⟩ := gt (xs := ops) (j := i) (by omega)
        obtain ⟨ad, rfl, rd⟩ := hops i _ he
        have F5 := F.trans f5
        have rd5 := rd.fr F5
        refine r_ob ⟨by omega, by omega⟩ ?_
        refine r_ldn rd5 ?_
        refine r_call (step_t (H.up f5) a b c) ?_
        rintro _ w6 ⟨rfl, v', H6, hv', f6⟩
        have F6 : Fr [] w w6 := F5.trans_new f6 (fun q hq => .inr (by
          rcases List.mem_cons.1 hq with rfl | hq
          · omega
          · exact hk' q hq))
        have rd6 := rd.fr F6
        refine r_ob ⟨by omega, by omega⟩ ?_
        refine r_ld (rd6.2 1 _ rfl) ?_
        refine r_ob ⟨by omega, by omega⟩ ?_
        refine r_ld (rd6.2 2 _ rfl) ?_
        refine r_call (same_t H6 b c) ?_
        rintro _ w7 ⟨rfl, f7⟩
        refine r_ar (by omega) ?_
        exact r_ag (i + 1) ⟨⟨by omega, by omega⟩, ⟨_, _, H6.up f7⟩, F6.trans f7⟩ (by omega) rfl
      · exact r_brk ext
    · exact r_brk ext
  · refine r_call (FNew_n hN) ?_
    rintro _ w2 ⟨rfl, rfl⟩
    refine r_call (rNew_n hN) ?_
    rintro _ w3 ⟨rfl, rfl⟩
    exact r_ret ⟨rfl, F1⟩
theorem runs_c (w : World) (hG : Glb w) (nodes : Int) (hw0 : (Lit.int .i64 nodes).wf = true) (X : Option Addr) (ln cp : Nat) (hln : ln ≤ 9223372036854775807) (hp : ∀ j : Nat, j < ln → ∃ (x : Addr) (z0 : Int) (z1 : Int) (z2 : Int), X = some x ∧ (∀ (i : Nat) v, ([.int .i64 z0, .int .i64 z1, .int .i64 z2] : List Value)[i]? = some v → w.cell? ((x.add (((j : Nat) : Int).toNat * 3)).add i) = some v) ∧ (Lit.int .i64 z0).wf = true ∧ (Lit.int .i64 z1).wf = true ∧ (Lit.int .i64 z2).wf = true) (n root most : Int) :
    Cl Tryd.prog 3 [.int .i64 nodes, .slice X ln cp, .int .i64 n, .int .i64 root, .int .i64 most] w (fun v w' => v = .bool true ∧ Fr [] w w') := by
  obtain ⟨ops, rfl, ho⟩ := ops_of ln hp
  exact (runs_t hG ho nodes n root most (by omega)).cl
end
end Go.Proofs.YtcbkpekbfkaeeaaDoor.Fo
