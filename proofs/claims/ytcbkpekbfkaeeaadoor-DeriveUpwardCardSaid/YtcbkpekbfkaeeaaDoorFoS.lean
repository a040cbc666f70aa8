/- The law of forests, over trees: DeriveUpward. -/
import Derived.Test.YtcbkpekbfkaeeaaDoorFoO
import Derived.Test.YtcbkpekbfkaeeaaDoorFoE
set_option linter.unusedVariables false
set_option linter.unusedSimpArgs false
namespace Go.Proofs.YtcbkpekbfkaeeaaDoor.Fo
open Go Go.RowKit Go.Proofs.YtcbkpekbfkaeeaaDoor.Sx
open Go.Proofs.YtcbkpekbfkaeeaaDoor.Ls (mixed new_r Glb)
/-- The way up from n is as it was. -/
def Up (L L0 : En) (n : Int) : Prop := ∀ c p, undP L0 n c → (c, p) ∈ L0 → (c, p) ∈ L
theorem Up.refl (L : En) (n : Int) : Up L L n := fun _ _ _ h => h
theorem Up.anc {L L0 : En} {n : Int} (U : Up L L0 n) {x y : Int} (h : Anc L0 x y) (hx : undP L0 n x) : Anc L x y := by
  induction h with
  | one h0 h => exact .one h0 (U _ _ hx h)
  | up h0 h _ ih =>
    refine .up h0 (U _ _ hx h) (ih ?_)
    rcases hx with e | e
    · subst e; exact .inr (.one h0 h)
    · exact .inr (e.trans (.one h0 h))
theorem Up.und {L L0 : En} {n c : Int} (U : Up L L0 n) (h : undP L0 n c) : undP L n c := by
  rcases h with e | h
  · exact .inl e
  · exact .inr (U.anc h (.inl rfl))
theorem Up.hs {L L0 : En} {n c : Int} (U : Up L L0 n) (hu : undP L0 n c) (h : has L0 c = true) : has L c = true := by
  obtain ⟨p, hp⟩ := has_iff.1 h
  exact has_iff.2 ⟨p, U _ _ hu hp⟩
theorem Up.par {N : Nat} {L L0 : En} {n c : Int} (I : Inv N L) (I0 : Inv N L0) (U : Up L L0 n) (hu : undP L0 n c) (h : has L0 c = true) : fPar L c = fPar L0 c := by
  obtain ⟨p, hp⟩ := has_iff.1 h
  rw [I.fPar (U _ _ hu hp), I0.fPar hp]
theorem Up.dep {N : Nat} {L L0 : En} {n : Int} (I : Inv N L) (I0 : Inv N L0) (U : Up L L0 n) : ∀ (m : Nat) (c : Int), undP L0 n c → has L0 c = true → idx L0 c ≤ m → fDep L c = fDep L0 c := by
  have step : ∀ (c : Int), undP L0 n c → has L0 c = true → (∀ p, fPar L0 c = (p, true) → fDep L p = fDep L0 p) → fDep L c = fDep L0 c := by
    intro c hu hc hp
    have hc' := U.hs hu hc
    unfold fDep
    rw [if_pos hc, if_pos hc', dF_eq I hc', dF_eq I0 hc, U.par I I0 hu hc]
    cases hq : fPar L0 c with
    | mk p b =>
      cases b with
      | false => rfl
      | true =>
        have := hp p hq
        obtain ⟨h0, hm⟩ := fPar_true hq
        have h1 := (I0.up hm (by omega)).1
        have hup : undP L0 n p := by
          rcases hu with e | e
          · subst e; exact .inr (.one h0 hm)
          · exact .inr (e.trans (.one h0 hm))
        unfold fDep at this
        rw [if_pos (U.hs hup h1), if_pos h1] at this
        show dF L L.length p + 1 = dF L0 L0.length p + 1
        rw [this]
  intro m
  induction m with
  | zero =>
    intro c hu hc hi
    refine step c hu hc (fun p hp => ?_)
    obtain ⟨h0, hm⟩ := fPar_true hp
    have := (I0.up hm (by omega)).2
    omega
  | succ m ih =>
    intro c hu hc hi
    refine step c hu hc (fun p hp => ?_)
    obtain ⟨h0, hm⟩ := fPar_true hp
    obtain ⟨h1, h2⟩ := I0.up hm (by omega)
    refine ih p ?_ h1 (by omega)
    rcases hu with e | e
    · subst e; exact .inr (.one h0 hm)
    · exact .inr (e.trans (.one h0 hm))
/-- What is told of n. -/
theorem Up.told {N : Nat} {L L0 : En} {n : Int} (I : Inv N L) (I0 : Inv N L0) (U : Up L L0 n) (hn : Fo.has L0 n = true) : Fo.has L n = true ∧ fPar L n = fPar L0 n ∧ fDep L n = fDep L0 n :=
  ⟨U.hs (.inl rfl) hn, U.par I I0 (.inl rfl) hn, U.dep I I0 (idx L0 n) n (.inl rfl) hn (Nat.le_refl _)⟩
theorem Up.root {N : Nat} {L L0 : En} {n : Int} (U : Up L L0 n) (a : Int) : Up (fRoot N L a).1 L0 n := by
  unfold fRoot
  split
  · exact U
  · split
    · exact U
    · exact fun c p hu h => List.mem_append_left _ (U c p hu h)
theorem Up.der {N : Nat} {L L0 : En} {n : Int} (U : Up L L0 n) (a b : Int) : Up (fDer N L a b).1 L0 n := by
  unfold fDer
  split
  · exact U
  · split
    · exact U
    · split
      · exact U
      · exact fun c p hu h => List.mem_append_left _ (U c p hu h)
theorem Up.take {N : Nat} {L L0 : En} {n : Int} (I : Inv N L) (I0 : Inv N L0) (U : Up L L0 n) (hn : Fo.has L0 n = true) (a : Int) (own : Bool) (hg : fUnd L n a = false ∨ (own = false ∧ a = n)) : Up (fTake N L a own).1 L0 n := by
  unfold fTake
  split
  · rename_i hask
    have ha : Fo.has L a = true := by
      unfold fAsk at hask
      split at hask
      · cases hask
      · split at hask
        · cases hask
        · rename_i h2; cases hh : Fo.has L a with | true => rfl | false => exact absurd hh h2
    have hn' := U.hs (.inl rfl) hn
    intro c p hu h
    refine minus_mem.2 ⟨U c p hu h, fun hm => ?_⟩
    obtain ⟨h1, h2⟩ := (out_mem I ha own).1 hm
    have hcu := U.und hu
    have hc : Fo.has L c = true := has_iff.2 ⟨p, U c p hu h⟩
    have hca := (fUnd_iff I hc ha).1 h1
    have hna : undP L n a := by
      rcases hcu with e | e
      · rw [e]; exact hca
      · rcases hca with e2 | e2
        · rw [← e2]; exact .inr e
        · exact .inr (e.trans e2)
    rcases hg with hg | ⟨ho, e⟩
    · have := (fUnd_iff I hn' ha).2 hna
      rw [hg] at this; cases this
    · subst e
      rcases h2 with h2 | h2
      · rw [ho] at h2; cases h2
      · rcases hca with e2 | e2
        · exact h2 e2
        · rcases hcu with e3 | e3
          · exact h2 e3.symm
          · have := (e3.trans e2).idx I; omega
  · exact U
abbrev cParU := Tryd.call18
abbrev cDepU := Tryd.call20
abbrev cUndU := Tryd.call19
theorem wf_u8U {z : Int} (h : (Lit.int .u8 z).wf = true) : 0 ≤ z ∧ z ≤ 255 := by
  simp [Lit.wf, IntKind.min, IntKind.max, IntKind.signed, IntKind.bits] at h
  omega
section
variable {Z : ZP} {w : World}
theorem upward_t (hG : Glb w) {X Y : Option Addr} {cp cq : Nat} {ops more : List Op3} (hops : OpsAt w X ops) (hmore : OpsAt w Y more) (node : Nat) (hnode : node ≤ 255) : Cz Tryd.prog 6 [.slice X ops.length cp, .int .u8 (node : Int), .slice Y more.length cq] w (fun r w' => r = B true ∧ Fr [] w w') Z := by
  refine go mixed Tryd.func6 Tryd.call6 rfl (Tr.e6 _ _ _) ?_
  refine r_call (awake_t hG) ?_
  rintro _ w1 ⟨rfl, F1⟩
  refine r_call (made_t (hG.fr F1 (by simp)) (hops.up F1)) ?_
  rintro _ w2 ⟨kf, rfl, Kf2, hkf, f2⟩
  have F2 := F1.trans f2
  refine r_call (made_t (hG.fr F2 (by simp)) (hops.up F2)) ?_
  rintro _ w4 ⟨kg, rfl, Kg4, hkg, f4⟩
  have F4 := F2.trans f4
  have Kf4 := Kf2.fr0 f4
  have hlt := Kf2.ltx
  have hgl := World.block_lt_of_cell? w _ (hG 0 _ rfl)
  have upf : ∀ {a b : World} {S : List Nat}, Fr [] w a → Fr S a b → (∀ q ∈ S, q ∈ kf.ids) → Fr [] w b := fun F f h => F.trans_new f (fun q hq => .inr (Nat.le_trans F1.size (hkf q (h q hq))))
  have hfg : ∀ q ∈ kf.ids, q ∉ 0 :: kg.ids := fun q hq hk => by
    have h1 := hlt q (List.mem_cons_of_mem _ hq)
    have h2 := hkf q hq
    have h3 := F1.size
    rcases List.mem_cons.1 hk with e | hk
    · have : 0 < w.heap.size := hgl
      omega
    · have := hkg q hk; omega
  generalize makeL ops = L0 at Kf4 Kg4
  refine r_ar (by omega) ?_
  refine r_pu (o := ⟨none, .binOp .rem 3 (.const (I (node : Int))) (.const (I 16)) 0, 0, "", #[], none⟩) (fun w' => x_rem (l := []) rfl rfl (by decide)) ?_ rfl
  obtain ⟨n, hn, hn16⟩ : ∃ n : Nat, ((node : Int).tmod 16) = n ∧ n < 16 := ⟨node % 16, by rw [Int.tmod_eq_emod_of_nonneg (by omega)]; omega, Nat.mod_lt _ (by omega)⟩
  rw [hn]
  clear hn
  refine r_call (FHas_t Kf4 n) ?_
  rintro _ w5 ⟨rfl, rfl⟩
  refine r_ifbn (fun hn => ?_) (fun hn => ?_)
  · exact r_ret ⟨rfl, F4⟩
  refine r_loop (fun (i : Nat) => [I (i : Int), B false]) (fun i w' => (i ≤ more.length ∧ i ≤ 50) ∧ (∃ L, Up L L0 (n : Int) ∧ FoR w' kf 16 L []) ∧ FoR w' kg 16 L0 [] ∧ Fr [] w w') (fun i => 50 - i) 0 ⟨⟨Nat.zero_le _, Nat.zero_le _⟩, ⟨L0, Up.refl _ _, Kf4⟩, Kg4, F4⟩ rfl ?_
  rintro i w5 ⟨⟨hi1, hi2⟩, ⟨L, U, Kf5⟩, Kg5, F5⟩
  refine r_if (fun h1 => ?_) (fun h1 => ?_)
  · refine r_if (fun h2 => ?_) (fun h2 => ?_)
    · obtain ⟨⟨kd, a, b⟩, he⟩ := gt (xs := more) (j := i) (by omega)
      obtain ⟨ad, rfl, rd⟩ := hmore i _ he
      refine r_ob ⟨by omega, by omega⟩ ?_
      refine r_ldn (rd.fr F5) ?_
      refine r_as (cs := [I kd, I a, I b]) (fun o w6 ho Bo6 f6 => ?_) Tryd.zeroValue33 Tryd.sizeOf33 (by intro u hu; simp at hu; rcases hu with rfl | rfl | rfl <;> rfl)
      have Kf6 := Kf5.fr0 f6
      have Kg6 := Kg5.fr0 f6
      have F6 := F5.trans f6
      have oap : o ∉ kf.ids := fun hq => by have := Kf5.lt o hq; omega
      refine r_ld (Bo6.cell (o := 0) rfl) ?_
      refine r_if (fun k1 => ?_) (fun k1 => ?_)
      · refine r_ld (Bo6.cell (o := 1) rfl) ?_
        refine r_call (Cz.of Tryd.call24 (Root_c w6 kf 16 _ Kf6 a)) ?_
        rintro _ w7 ⟨rfl, Kf', f7⟩
        replace f7 : Fr kf.ids w6 w7 := f7.mono (by simp [FK.ids])
        have Kg' := Kg6.frx f7 hfg
        have F' := upf F6 f7 (fun q hq => hq)
        have U' := U.root (N := 16) a
        obtain ⟨e1, e2, e3⟩ := U'.told Kf'.inv Kg'.inv hn
        refine r_call (Cz.of cParU (Parent_c _ kf 16 _ Kf' n)) ?_
        rintro _ t1 ⟨rfl, rfl⟩
        refine r_call (Cz.of cParU (Parent_c _ kg 16 _ Kg' n)) ?_
        rintro _ t2 ⟨rfl, rfl⟩
        rw [e2]
        refine r_call (FHas_t Kf' n) ?_
        rintro _ t3 ⟨rfl, rfl⟩
        rw [e1]
        refine r_if (fun h => absurd rfl h) (fun _ => ?_)
        refine r_ifb (fun h => by simp at h) (fun _ => ?_)
        refine r_call (Cz.of cDepU (Depth_c _ kf 16 _ Kf' n)) ?_
        rintro _ t4 ⟨rfl, rfl⟩
        refine r_call (Cz.of cDepU (Depth_c _ kg 16 _ Kg' n)) ?_
        rintro _ t5 ⟨rfl, rfl⟩
        rw [e3]
        refine r_if (fun h => absurd rfl h) (fun _ => ?_)
        refine r_ar (by omega) ?_
        exact r_ag (i + 1) ⟨⟨by omega, by omega⟩, ⟨_, U', Kf'⟩, Kg', F'⟩ (by omega) rfl
      refine r_ld (Bo6.cell (o := 0) rfl) ?_
      refine r_if (fun k2 => ?_) (fun k2 => ?_)
      · refine r_ld (Bo6.cell (o := 1) rfl) ?_
        refine r_ld (Bo6.cell (o := 2) rfl) ?_
        refine r_call (Cz.of Tryd.call25 (Derive_c w6 kf 16 _ Kf6 a b)) ?_
        rintro _ w7 ⟨rfl, Kf', f7⟩
        replace f7 : Fr kf.ids w6 w7 := f7.mono (by simp [FK.ids])
        have Kg' := Kg6.frx f7 hfg
        have F' := upf F6 f7 (fun q hq => hq)
        have U' := U.der (N := 16) a b
        obtain ⟨e1, e2, e3⟩ := U'.told Kf'.inv Kg'.inv hn
        refine r_call (Cz.of cParU (Parent_c _ kf 16 _ Kf' n)) ?_
        rintro _ t1 ⟨rfl, rfl⟩
        refine r_call (Cz.of cParU (Parent_c _ kg 16 _ Kg' n)) ?_
        rintro _ t2 ⟨rfl, rfl⟩
        rw [e2]
        refine r_call (FHas_t Kf' n) ?_
        rintro _ t3 ⟨rfl, rfl⟩
        rw [e1]
        refine r_if (fun h => absurd rfl h) (fun _ => ?_)
        refine r_ifb (fun h => by simp at h) (fun _ => ?_)
        refine r_call (Cz.of cDepU (Depth_c _ kf 16 _ Kf' n)) ?_
        rintro _ t4 ⟨rfl, rfl⟩
        refine r_call (Cz.of cDepU (Depth_c _ kg 16 _ Kg' n)) ?_
        rintro _ t5 ⟨rfl, rfl⟩
        rw [e3]
        refine r_if (fun h => absurd rfl h) (fun _ => ?_)
        refine r_ar (by omega) ?_
        exact r_ag (i + 1) ⟨⟨by omega, by omega⟩, ⟨_, U', Kf'⟩, Kg', F'⟩ (by omega) rfl
      refine r_ld (Bo6.cell (o := 0) rfl) ?_
      refine r_if (fun k3 => ?_) (fun k3 => ?_)
      · refine r_ld (Bo6.cell (o := 1) rfl) ?_
        refine r_call (Cz.of cUndU (Under_c w6 kf 16 _ Kf6 n a)) ?_
        rintro _ w7 ⟨rfl, rfl⟩
        refine r_ifbn (fun hu => ?_) (fun hu => ?_)
        · refine r_ld (Bo6.cell (o := 1) rfl) ?_
          refine r_call (Cut_t Kf6 a) ?_
          rintro _ w8 ⟨s, rfl, _, Kf', f8⟩
          have Kg' := Kg6.frx f8 hfg
          have F' := upf F6 f8 (fun q hq => hq)
          have U' := U.take (N := 16) Kf6.inv Kg6.inv hn a true (.inl hu)
          obtain ⟨e1, e2, e3⟩ := U'.told Kf'.inv Kg'.inv hn
          refine r_call (Cz.of cParU (Parent_c _ kf 16 _ Kf' n)) ?_
          rintro _ t1 ⟨rfl, rfl⟩
          refine r_call (Cz.of cParU (Parent_c _ kg 16 _ Kg' n)) ?_
          rintro _ t2 ⟨rfl, rfl⟩
          rw [e2]
          refine r_call (FHas_t Kf' n) ?_
          rintro _ t3 ⟨rfl, rfl⟩
          rw [e1]
          refine r_if (fun h => absurd rfl h) (fun _ => ?_)
          refine r_ifb (fun h => by simp at h) (fun _ => ?_)
          refine r_call (Cz.of cDepU (Depth_c _ kf 16 _ Kf' n)) ?_
          rintro _ t4 ⟨rfl, rfl⟩
          refine r_call (Cz.of cDepU (Depth_c _ kg 16 _ Kg' n)) ?_
          rintro _ t5 ⟨rfl, rfl⟩
          rw [e3]
          refine r_if (fun h => absurd rfl h) (fun _ => ?_)
          refine r_ar (by omega) ?_
          exact r_ag (i + 1) ⟨⟨by omega, by omega⟩, ⟨_, U', Kf'⟩, Kg', F'⟩ (by omega) rfl
        · refine r_ld (Bo6.cell (o := 0) rfl) ?_
          refine r_if (fun k4 => absurd (k3.symm.trans k4) (by decide)) (fun k4 => ?_)
          have U' := U
          have Kf' := Kf6
          have Kg' := Kg6
          have F' := F6
          obtain ⟨e1, e2, e3⟩ := U'.told Kf'.inv Kg'.inv hn
          refine r_call (Cz.of cParU (Parent_c _ kf 16 _ Kf' n)) ?_
          rintro _ t1 ⟨rfl, rfl⟩
          refine r_call (Cz.of cParU (Parent_c _ kg 16 _ Kg' n)) ?_
          rintro _ t2 ⟨rfl, rfl⟩
          rw [e2]
          refine r_call (FHas_t Kf' n) ?_
          rintro _ t3 ⟨rfl, rfl⟩
          rw [e1]
          refine r_if (fun h => absurd rfl h) (fun _ => ?_)
          refine r_ifb (fun h => by simp at h) (fun _ => ?_)
          refine r_call (Cz.of cDepU (Depth_c _ kf 16 _ Kf' n)) ?_
          rintro _ t4 ⟨rfl, rfl⟩
          refine r_call (Cz.of cDepU (Depth_c _ kg 16 _ Kg' n)) ?_
          rintro _ t5 ⟨rfl, rfl⟩
          rw [e3]
          refine r_if (fun h => absurd rfl h) (fun _ => ?_)
          refine r_ar (by omega) ?_
          exact r_ag (i + 1) ⟨⟨by omega, by omega⟩, ⟨_, U', Kf'⟩, Kg', F'⟩ (by omega) rfl
      · refine r_ld (Bo6.cell (o := 0) rfl) ?_
        refine r_if (fun k4 => ?_) (fun k4 => ?_)
        · refine r_ld (Bo6.cell (o := 1) rfl) ?_
          refine r_call (Cz.of cUndU (Under_c w6 kf 16 _ Kf6 n a)) ?_
          rintro _ w7 ⟨rfl, rfl⟩
          refine r_ifbn (fun hu => ?_) (fun hu => ?_)
          · have hgd : fUnd L (n : Int) a = false ∨ (false = false ∧ a = n) := .inl hu
            refine r_ld (Bo6.cell (o := 1) rfl) ?_
            refine r_call (Prune_t Kf6 a) ?_
            rintro _ w8 ⟨s, rfl, _, Kf', f8⟩
            have Kg' := Kg6.frx f8 hfg
            have F' := upf F6 f8 (fun q hq => hq)
            have U' := U.take (N := 16) Kf6.inv Kg6.inv hn a false hgd
            obtain ⟨e1, e2, e3⟩ := U'.told Kf'.inv Kg'.inv hn
            refine r_call (Cz.of cParU (Parent_c _ kf 16 _ Kf' n)) ?_
            rintro _ t1 ⟨rfl, rfl⟩
            refine r_call (Cz.of cParU (Parent_c _ kg 16 _ Kg' n)) ?_
            rintro _ t2 ⟨rfl, rfl⟩
            rw [e2]
            refine r_call (FHas_t Kf' n) ?_
            rintro _ t3 ⟨rfl, rfl⟩
            rw [e1]
            refine r_if (fun h => absurd rfl h) (fun _ => ?_)
            refine r_ifb (fun h => by simp at h) (fun _ => ?_)
            refine r_call (Cz.of cDepU (Depth_c _ kf 16 _ Kf' n)) ?_
            rintro _ t4 ⟨rfl, rfl⟩
            refine r_call (Cz.of cDepU (Depth_c _ kg 16 _ Kg' n)) ?_
            rintro _ t5 ⟨rfl, rfl⟩
            rw [e3]
            refine r_if (fun h => absurd rfl h) (fun _ => ?_)
            refine r_ar (by omega) ?_
            exact r_ag (i + 1) ⟨⟨by omega, by omega⟩, ⟨_, U', Kf'⟩, Kg', F'⟩ (by omega) rfl
          · refine r_ld (Bo6.cell (o := 1) rfl) ?_
            refine r_if (fun e => ?_) (fun e => ?_)
            · have hgd : fUnd L (n : Int) a = false ∨ (false = false ∧ a = n) := .inr ⟨rfl, e⟩
              refine r_ld (Bo6.cell (o := 1) rfl) ?_
              refine r_call (Prune_t Kf6 a) ?_
              rintro _ w8 ⟨s, rfl, _, Kf', f8⟩
              have Kg' := Kg6.frx f8 hfg
              have F' := upf F6 f8 (fun q hq => hq)
              have U' := U.take (N := 16) Kf6.inv Kg6.inv hn a false hgd
              obtain ⟨e1, e2, e3⟩ := U'.told Kf'.inv Kg'.inv hn
              refine r_call (Cz.of cParU (Parent_c _ kf 16 _ Kf' n)) ?_
              rintro _ t1 ⟨rfl, rfl⟩
              refine r_call (Cz.of cParU (Parent_c _ kg 16 _ Kg' n)) ?_
              rintro _ t2 ⟨rfl, rfl⟩
              rw [e2]
              refine r_call (FHas_t Kf' n) ?_
              rintro _ t3 ⟨rfl, rfl⟩
              rw [e1]
              refine r_if (fun h => absurd rfl h) (fun _ => ?_)
              refine r_ifb (fun h => by simp at h) (fun _ => ?_)
              refine r_call (Cz.of cDepU (Depth_c _ kf 16 _ Kf' n)) ?_
              rintro _ t4 ⟨rfl, rfl⟩
              refine r_call (Cz.of cDepU (Depth_c _ kg 16 _ Kg' n)) ?_
              rintro _ t5 ⟨rfl, rfl⟩
              rw [e3]
              refine r_if (fun h => absurd rfl h) (fun _ => ?_)
              refine r_ar (by omega) ?_
              exact r_ag (i + 1) ⟨⟨by omega, by omega⟩, ⟨_, U', Kf'⟩, Kg', F'⟩ (by omega) rfl
            · have hz := hn
              have U' := U
              have Kf' := Kf6
              have Kg' := Kg6
              have F' := F6
              obtain ⟨e1, e2, e3⟩ := U'.told Kf'.inv Kg'.inv hn
              refine r_call (Cz.of cParU (Parent_c _ kf 16 _ Kf' n)) ?_
              rintro _ t1 ⟨rfl, rfl⟩
              refine r_call (Cz.of cParU (Parent_c _ kg 16 _ Kg' n)) ?_
              rintro _ t2 ⟨rfl, rfl⟩
              rw [e2]
              refine r_call (FHas_t Kf' n) ?_
              rintro _ t3 ⟨rfl, rfl⟩
              rw [e1]
              refine r_if (fun h => absurd rfl h) (fun _ => ?_)
              refine r_ifb (fun h => by simp at h) (fun _ => ?_)
              refine r_call (Cz.of cDepU (Depth_c _ kf 16 _ Kf' n)) ?_
              rintro _ t4 ⟨rfl, rfl⟩
              refine r_call (Cz.of cDepU (Depth_c _ kg 16 _ Kg' n)) ?_
              rintro _ t5 ⟨rfl, rfl⟩
              rw [e3]
              refine r_if (fun h => absurd rfl h) (fun _ => ?_)
              refine r_ar (by omega) ?_
              exact r_ag (i + 1) ⟨⟨by omega, by omega⟩, ⟨_, U', Kf'⟩, Kg', F'⟩ (by omega) rfl
        · have hz := hn
          have U' := U
          have Kf' := Kf6
          have Kg' := Kg6
          have F' := F6
          obtain ⟨e1, e2, e3⟩ := U'.told Kf'.inv Kg'.inv hn
          refine r_call (Cz.of cParU (Parent_c _ kf 16 _ Kf' n)) ?_
          rintro _ t1 ⟨rfl, rfl⟩
          refine r_call (Cz.of cParU (Parent_c _ kg 16 _ Kg' n)) ?_
          rintro _ t2 ⟨rfl, rfl⟩
          rw [e2]
          refine r_call (FHas_t Kf' n) ?_
          rintro _ t3 ⟨rfl, rfl⟩
          rw [e1]
          refine r_if (fun h => absurd rfl h) (fun _ => ?_)
          refine r_ifb (fun h => by simp at h) (fun _ => ?_)
          refine r_call (Cz.of cDepU (Depth_c _ kf 16 _ Kf' n)) ?_
          rintro _ t4 ⟨rfl, rfl⟩
          refine r_call (Cz.of cDepU (Depth_c _ kg 16 _ Kg' n)) ?_
          rintro _ t5 ⟨rfl, rfl⟩
          rw [e3]
          refine r_if (fun h => absurd rfl h) (fun _ => ?_)
          refine r_ar (by omega) ?_
          exact r_ag (i + 1) ⟨⟨by omega, by omega⟩, ⟨_, U', Kf'⟩, Kg', F'⟩ (by omega) rfl
    · exact r_brk (r_ret ⟨rfl, F5⟩)
  · exact r_brk (r_ret ⟨rfl, F5⟩)
theorem upward_c (w : World) (hG : Glb w) (X : Option Addr) (ln cp : Nat) (hln : ln ≤ 9223372036854775807) (hp : ∀ j : Nat, j < ln → ∃ (x : Addr) (z0 : Int) (z1 : Int) (z2 : Int), X = some x ∧ (∀ (i : Nat) v, ([.int .i64 z0, .int .i64 z1, .int .i64 z2] : List Value)[i]? = some v → w.cell? ((x.add (((j : Nat) : Int).toNat * 3)).add i) = some v) ∧ (Lit.int .i64 z0).wf = true ∧ (Lit.int .i64 z1).wf = true ∧ (Lit.int .i64 z2).wf = true) (node : Int) (hnd : (Lit.int .u8 node).wf = true)
    (Y : Option Addr) (lm cq : Nat) (hlm : lm ≤ 9223372036854775807) (hq : ∀ j : Nat, j < lm → ∃ (x : Addr) (z0 : Int) (z1 : Int) (z2 : Int), Y = some x ∧ (∀ (i : Nat) v, ([.int .i64 z0, .int .i64 z1, .int .i64 z2] : List Value)[i]? = some v → w.cell? ((x.add (((j : Nat) : Int).toNat * 3)).add i) = some v) ∧ (Lit.int .i64 z0).wf = true ∧ (Lit.int .i64 z1).wf = true ∧ (Lit.int .i64 z2).wf = true) :
    Cl Tryd.prog 6 [.slice X ln cp, .int .u8 node, .slice Y lm cq] w (fun v w' => v = .bool true ∧ Fr [] w w') := by
  obtain ⟨ops, rfl, ho⟩ := ops_of ln hp
  obtain ⟨more, rfl, hm⟩ := ops_of lm hq
  obtain ⟨h0, h1⟩ := wf_u8U hnd
  obtain ⟨m, rfl⟩ : ∃ m : Nat, node = m := ⟨node.toNat, by omega⟩
  exact (upward_t hG ho hm m (by omega)).cl
end
end Go.Proofs.YtcbkpekbfkaeeaaDoor.Fo
