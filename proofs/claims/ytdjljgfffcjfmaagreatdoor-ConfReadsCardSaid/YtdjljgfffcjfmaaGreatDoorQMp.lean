/- What the package variables hold where a law begins. -/
import Derived.Test.YtdjljgfffcjfmaaGreatDoorQMk
import Derived.Test.YtdjljgfffcjfmaaGreatDoorRows
import Derived.Stop.LaidErr
import Derived.Lib.LaidTab
import Derived.HandedShaped
import Derived.Handed
import Derived.Shelf.Vars
import Derived.Test.YtdjljgfffcjfmaaGreatDoorQMo
set_option linter.unusedVariables false
namespace Go.Proofs.YtdjljgfffcjfmaaGreatDoor.Cw
open Go Go.RowKit Go.Proofs Go.Proofs.YtdjljgfffcjfmaaGreatDoor
open Go.Proofs.YtdjljgfffcjfmaaGreatDoor.Sg
abbrev laidL : List (String × DataW Unit) := [("math/bits.deBruijn32tab", Rows.laid_math_bits_deBruijn32tab), ("math/bits.deBruijn64tab", Rows.laid_math_bits_deBruijn64tab), ("internal/strconv.uint64pow10", Rows.laid_internal_strconv_uint64pow10), ("unicode/utf8.acceptRanges", Rows.laid_unicode_utf8_acceptRanges), ("strconv.ErrRange", Rows.laid_strconv_ErrRange), ("strconv.ErrSyntax", Rows.laid_strconv_ErrSyntax), ("unicode/utf8.first", Rows.laid_unicode_utf8_first)]
theorem star : "*" ++ "errors.errorString" = "*errors.errorString" := by decide
set_option maxRecDepth 100000 in
theorem rowE (u : TypeId) (h : Tryz.prog.typeName? 3 u = some "*errors.errorString") : u = 208 :=
  typeName_ptr_named (nm := "errors.errorString") (by rw [star]; kernel_rfl) (by kernel_rfl) (by decide) u (by rw [star]; exact h)
set_option maxRecDepth 100000 in
theorem gw_of {W : World} (h : laidMetH Tryz.prog laidL W) (hs : W.ShapedOpen Tryz.prog) : GW W := by
  have h0 : laidMet Tryz.prog laidL W := h
  refine ⟨?_, ?_, ?_, ?_⟩
  · exact cell_of_shapedOpen_int (P := Tryz.prog) (g := 0) (t := 3) (zero := #[.int .i64 0]) hs (of_decide_eq_true (by kernel_rfl)) (by kernel_rfl) rfl (by kernel_rfl) (by kernel_rfl) Tryz.underlying3
  · have h1 := Lib.tabIs_of_head (zs := Lib.pow10Tab) (k := .u64) (show Tryz.prog.globalNamed "internal/strconv.uint64pow10" = some 1 by kernel_rfl) (show (Tryz.prog.globals[1]?).map (·.type) = some 193 by kernel_rfl) Tryz.underlying193 Tryz.underlying48 (by kernel_rfl) (by kernel_rfl) (laidMet.tail (laidMet.tail (h0)))
    unfold Lib.TabIs World.var? at h1
    rw [show Tryz.prog.globalNamed "internal/strconv.uint64pow10" = some 1 by kernel_rfl] at h1
    simp only [Option.bind_some] at h1
    unfold TabW
    split at h1
    · rename_i cs T f hh
      cases h1
      exact ⟨T, f, hh⟩
    · cases h1
  · obtain ⟨a, s, hv, -, -, -⟩ := laid_sentinel (laidMet.tail (laidMet.tail (laidMet.tail (laidMet.tail (laidMet.tail (h0)))))) (show Tryz.prog.globalNamed "strconv.ErrSyntax" = some 4 by kernel_rfl) (show (Tryz.prog.globals[4]?).map (·.type) = some 99 by kernel_rfl) Tryz.underlying99 rowE Tryz.underlying208 Tryz.underlying210 rfl rfl Tryz.underlying9 (by kernel_rfl) (by kernel_rfl)
    exact ⟨_, by have h0 := World.var?_cell (show Tryz.prog.globalNamed "strconv.ErrSyntax" = some 4 by kernel_rfl) hv 0; simpa using h0, .inr ⟨_, _, rfl⟩⟩
  · obtain ⟨a, s, hv, -, -, -⟩ := laid_sentinel (laidMet.tail (laidMet.tail (laidMet.tail (laidMet.tail (h0))))) (show Tryz.prog.globalNamed "strconv.ErrRange" = some 5 by kernel_rfl) (show (Tryz.prog.globals[5]?).map (·.type) = some 99 by kernel_rfl) Tryz.underlying99 rowE Tryz.underlying208 Tryz.underlying210 rfl rfl Tryz.underlying9 (by kernel_rfl) (by kernel_rfl)
    exact ⟨_, by have h0 := World.var?_cell (show Tryz.prog.globalNamed "strconv.ErrRange" = some 5 by kernel_rfl) hv 0; simpa using h0, .inr ⟨_, _, rfl⟩⟩
/-- A row's claim, out of the walk at each of its worlds; the world's shape is told too. -/
theorem handed_laid {H : Type} {enc : TypeId × Value → H} {a : Assume} {C : Checked} {os : Os} {f : FuncId} {fn : Func} {s : ChangeSpec} {conds : List PathCond} {apart fresh handsOn again : Bool} {X : World → Array Value → Prop}
    (hX : ∀ (w w' : World) (args : Array Value), w.heap = w'.heap → X w args → X w' args)
    (own : ownKnob C.prog.godebug = none) (started : os.Started) (noInit : C.prog.inits.idxOf? f = none) (hfn : C.prog.funcs[f]? = some fn)
    (witness : ∃ (w : World) (tape : Tape) (i : Input), w.os = os ∧ (w.forCall tape i).Shaped C.prog ∧ i.vars = [] ∧ Input.okWide C.prog (w.forCall tape i) .any w.heap.size f i ∧
      ((s.pre enc C.prog fn conds apart (w.forCall tape i).memory i.args ∧ X (w.forCall tape i).memory i.args) ∧ sizedMet enc C.prog fn (OpenSpec.ofChange s) apart (w.forCall tape i).memory i.args) ∧ a.holds C.prog (lone (Frame.enter C.prog f i.args .normal) [] (w.forCall tape i)))
    (walk : ∀ (W : World) (base : Nat) (args : Array Value) (ds gs : List (DataW H)) (before : List MemPlace),
      (∀ (j : Nat) t v, fn.params[j]? = some t → args[j]? = some v → Value.okWide C.prog W .any base t v) →
      DataW.Whole enc C.prog fn.params.toList s.vars apart W args.toList ds gs before →
      conds.all (PathCond.test C.prog ⟨fn.params.toList, ds, s.plain.varTypes C.prog, gs⟩) = true →
      (DataW.weightsEach C.prog (fn.params.toList ++ s.plain.varTypes C.prog) (ds ++ gs)).all (· ≤ reachBytes) = true → X W args → W.ShapedOpen C.prog →
      Calls C.prog f args W fun e W' => ∃ v, e = .returned v ∧ s.post enc C.prog fn apart fresh handsOn again W args v W') :
    ReturnsInHanded a C os f .any (fun w args => (s.pre enc C.prog fn conds apart w args ∧ X w args) ∧ sizedMet enc C.prog fn (OpenSpec.ofChange s) apart w args) (s.post enc C.prog fn apart fresh handsOn again) := by
  refine returnsInHanded_of_calls own started noInit witness ?_
  intro w tape i _ hsh _ hok hpre _
  obtain ⟨_, _, _, fn', hfn', _, _, _, _, hval⟩ := hok
  obtain rfl : fn' = fn := Option.some.inj (hfn'.symm.trans hfn)
  obtain ⟨⟨⟨ds, gs, before, hw, hc⟩, hx⟩, hz⟩ := hpre
  refine (walk (w.forCall tape i) w.heap.size i.args ds gs before hval (DataW.Whole.of_heap (w' := w.forCall tape i) (by rfl) hw) hc (hz.weights hw) (hX _ _ _ (by rfl) hx) hsh).mono fun e W' ⟨v, he, hp⟩ => ?_
  subst he
  exact ChangeSpec.post_blind hp
end Go.Proofs.YtdjljgfffcjfmaaGreatDoor.Cw

/- The laws of checks, of what is asked, of flows: the walks. -/
set_option linter.unusedVariables false
set_option linter.unusedSimpArgs false
namespace Go.Proofs.YtdjljgfffcjfmaaGreatDoor.Cg
open Go Go.RowKit Go.Proofs.YtdjljgfffcjfmaaGreatDoor.Sx
open Go.Proofs.YtdjljgfffcjfmaaGreatDoor.Bi (mixed take_s Has_t rHas_t)
open Go.Proofs.YtdjljgfffcjfmaaGreatDoor.Cf
open Go.Proofs.YtdjljgfffcjfmaaGreatDoor.Sg
/-- The numbers of settings fit their kinds. -/
def WfC (c : GConf) : Prop := (∀ z ∈ c.flows, (Lit.int .u64 z).wf = true) ∧ (∀ t ∈ c.tenants, (Lit.int .i64 t.label).wf = true ∧ (Lit.int .i64 t.quota).wf = true) ∧ (∀ x ∈ c.channels, (Lit.int .i64 x.label).wf = true ∧ (∀ l ∈ x.lanes, (Lit.int .i64 l.tenant).wf = true ∧ (Lit.int .i64 l.credit).wf = true ∧ True) ∧ ∀ r ∈ x.receivers, (Lit.int .i64 r.tenant).wf = true ∧ True) ∧ (∀ g ∈ c.gates, (Lit.int .i64 g.frm).wf = true ∧ (Lit.int .i64 g.til).wf = true ∧ (Lit.int .i64 g.room).wf = true) ∧ (∀ z ∈ c.frame, (Lit.int .i64 z).wf = true) ∧ (Lit.int .i64 c.budget).wf = true ∧ (Lit.int .i64 c.requests).wf = true ∧ (Lit.int .i64 c.pending).wf = true
theorem wf64 {z : Int} (h : (Lit.int .i64 z).wf = true) : in64 z := by
  simp [Lit.wf, IntKind.min, IntKind.max, IntKind.bits, IntKind.signed] at h
  unfold in64; omega
theorem wfu64 {z : Int} (h : (Lit.int .u64 z).wf = true) : 0 ≤ z ∧ z < 18446744073709551616 := by
  simp [Lit.wf, IntKind.min, IntKind.max, IntKind.bits, IntKind.signed] at h
  omega
theorem WfC.in64 {c : GConf} (h : WfC c) : In64 c := by
  obtain ⟨h0, h1, h2, h3, h4, h5, h6, h7⟩ := h
  exact ⟨fun z hz => wfu64 (h0 z hz), fun t ht => ⟨wf64 (h1 t ht).1, wf64 (h1 t ht).2⟩, fun x hx => ⟨wf64 (h2 x hx).1, fun l hl => ⟨wf64 ((h2 x hx).2.1 l hl).1, wf64 ((h2 x hx).2.1 l hl).2.1⟩, fun r hr => wf64 ((h2 x hx).2.2 r hr).1⟩, fun g hg => ⟨wf64 (h3 g hg).1, wf64 (h3 g hg).2.1, wf64 (h3 g hg).2.2⟩, fun z hz => wf64 (h4 z hz), wf64 h5, wf64 h6, wf64 h7⟩
theorem In64.cut {c : GConf} (h : In64 c) : In64 (cutC c) := by
  refine ⟨fun z hz => h.fl z (List.mem_of_mem_take hz), fun t ht => h.te t (List.mem_of_mem_take ht), fun x hx => ?_, fun g hg => h.ga g (List.mem_of_mem_take hg), fun z hz => h.fr z (List.mem_of_mem_take hz), h.bu⟩
  obtain ⟨y, hy, rfl⟩ := List.mem_map.1 hx
  obtain ⟨a1, a2, a3⟩ := h.ch y (List.mem_of_mem_take hy)
  exact ⟨a1, fun l hl => a2 l (List.mem_of_mem_take hl), fun r hr => a3 r (List.mem_of_mem_take hr)⟩
section
variable {P : Program} {Z : ZP} {R : Value → World → Prop} {w w0 w1 : World} {A : List Nat → List Value → World → Prop} {B : List Nat → Nat → List Value → World → Prop} {ds : List Nat} {k : Value → T}
theorem r_cut {v1 : Nat} {cs : List Value} {c : GConf} {t : T} (H : Bx w w1 [(v1, 28, cs)]) (hc : rConf.r w cs c) (hk : ∀ w3 us, rConf.r w3 us (cutC c) → us.length = 8 → Bx w w3 [(v1, 28, us)] → wp Tryz.prog Z R ds t w3 A B) : wp Tryz.prog Z R ds (.ldn 8 (Pt v1 0) fun v7 => .call 11 [v7] fun v8 => .ef (Instr.storeAt 28 (Pt v1 0) v8) t) w1 A B := by
  have hlc : cs.length = 8 := rConf.len hc
  have hB := H.blk (i := 0) rfl
  have hg := H.ge (i := 0) rfl
  refine b_ldn H 0 rfl ?_ hlc
  refine r_call (cut_o [v1] hc H.F (fun q hq => by simp at hq; subst hq; exact ⟨hg, hB.lt⟩)) ?_
  rintro _ w2 ⟨us, rfl, hu, F2⟩
  have hlu : us.length = 8 := rConf.len hu.now
  have H2 := H.fr F2
  refine r_stn (H2.blk (i := 0) rfl) Tryz.sizeOf28 (rConf.one hu.now) (fun w3 B3 f3 => ?_) rfl hlu hlc
  exact hk w3 us (hu w3 f3) hlu (H2.set (i := 0) rfl B3 f3)
end
end Go.Proofs.YtdjljgfffcjfmaaGreatDoor.Cg

/- In settings that may be each tenant has as many slots as its lanes have credit, and who receives of a channel may know of all who send there: the walk. -/
set_option linter.unusedVariables false
set_option linter.unusedSimpArgs false
namespace Go.Proofs.YtdjljgfffcjfmaaGreatDoor.Cg
open Go Go.RowKit Go.Proofs.YtdjljgfffcjfmaaGreatDoor.Sx
open Go.Proofs.YtdjljgfffcjfmaaGreatDoor.Bi (mixed take_s Has_t rHas_t polE polB_iff shp Pol at_ chk_le)
open Go.Proofs.YtdjljgfffcjfmaaGreatDoor.Cf
open Go.Proofs.YtdjljgfffcjfmaaGreatDoor.Sg
theorem pol_of {c : GConf} (h : (confE c).2 = 0) : Pol (fl c) c.flows.length := by
  have h1 := (conf_ok h).1
  unfold polE at h1
  by_cases h2 : shp (fl c) = 0
  · rw [if_pos h2] at h1
    by_cases h3 : Go.Proofs.YtdjljgfffcjfmaaGreatDoor.Bi.polB (fl c) = true
    · have := polB_iff.1 h3
      rwa [fl_len] at this
    · rw [if_neg h3] at h1; cases h1
  · rw [if_neg h2] at h1; exact absurd h1 h2
theorem fw_tr {c : GConf} (h : (confE c).2 = 0) {x y z : Int} (hx : isL c x = true) (hy : isL c y = true) (h1 : fw c x y = true) (h2 : fw c y z = true) : fw c x z = true := by
  have hx := of_decide_eq_true hx
  have hy := of_decide_eq_true hy
  exact (pol_of h).2 x.toNat y.toNat (by omega) (by omega) h1 z.toNat h2
theorem low_bit (c : GConf) (y : Int) : ∀ (n i : Nat), n ≤ 64 → (lowN c y n).getLsbD i = (decide (i < n) && fw c (tl c i) y) := by
  intro n
  induction n with
  | zero => intro i _; simp [lowN]
  | succ n ih =>
    intro i hn
    unfold lowN
    by_cases h : fw c (tl c n) y = true
    · rw [if_pos h, Bt.or1 _ (by omega), ih i (by omega)]
      by_cases e : i = n
      · subst e; simp [h]
      · have e1 : decide (i < n + 1) = decide (i < n) := decide_eq_decide.2 (by omega)
        rw [e1]; simp [e]
    · rw [if_neg h, ih i (by omega)]
      by_cases e : i = n
      · subst e; simp [h]
      · have e1 : decide (i < n + 1) = decide (i < n) := decide_eq_decide.2 (by omega)
        rw [e1]
theorem ten16 {c : GConf} (h : (confE c).2 = 0) : c.tenants.length ≤ 16 := by
  have h1 := (conf_ok h).2.1
  unfold tenE at h1
  by_cases h2 : 16 < c.tenants.length
  · rw [if_pos h2] at h1; cases h1
  · omega
theorem low_has {c : GConf} (h : (confE c).2 = 0) {t u : Int} (ht : isT c t = true) (hu : isT c u = true) : Bt.has (lowV c t) u = fw c (tl c u) (tl c t) := by
  have h16 := ten16 h
  have hu' := of_decide_eq_true hu
  have e0 : lowE c t = 0 := by unfold lowE; rw [if_pos h, if_pos ht]
  unfold lowV
  rw [if_pos e0]
  unfold lowS Bt.has
  rw [low_bit c _ _ _ (by omega), decide_eq_true (by omega), decide_eq_true (by omega), Bool.true_and, Bool.true_and]
  rw [show ((u.toNat : Nat) : Int) = u by omega]
theorem low_ok {c : GConf} (h : (confE c).2 = 0) {t : Int} (ht : isT c t = true) : lowE c t = 0 := by unfold lowE; rw [if_pos h, if_pos ht]
theorem recB_F {c : GConf} {x : GChannel} {j : Nat} {r : GReceiver} (h : recB c x j = 0) (hr : x.receivers[j]? = some r) : fw c x.label (tl c r.tenant) = true ∧ ∀ o ∈ x.receivers.take j, both c o.tenant r.tenant = true := by
  unfold recB at h
  rw [hr] at h
  dsimp only at h
  split at h
  · split at h
    · rename_i h2
      obtain ⟨a, b⟩ := Bool.and_eq_true_iff.1 h2
      exact ⟨a, List.all_eq_true.1 b⟩
    · cases h
  · cases h
section
variable {Z : ZP} {w : World}
end
end Go.Proofs.YtdjljgfffcjfmaaGreatDoor.Cg

/- In settings that may be all receivers of a channel flow to a lane's sender, or none does: the walk. -/
set_option linter.unusedVariables false
set_option linter.unusedSimpArgs false
namespace Go.Proofs.YtdjljgfffcjfmaaGreatDoor.Cg
open Go Go.RowKit Go.Proofs.YtdjljgfffcjfmaaGreatDoor.Sx
open Go.Proofs.YtdjljgfffcjfmaaGreatDoor.Bi (mixed take_s Has_t rHas_t)
open Go.Proofs.YtdjljgfffcjfmaaGreatDoor.Cf
open Go.Proofs.YtdjljgfffcjfmaaGreatDoor.Sg
theorem rec_to {c : GConf} {x : GChannel} (h0 : (confE c).2 = 0) (O : Ok2 c) (xR : ∀ (j : Nat) r, x.receivers[j]? = some r → recB c x j = 0) {a b : Nat} {r r' : GReceiver} (ha : x.receivers[a]? = some r) (hb : x.receivers[b]? = some r') {z : Int} (h : fw c (tl c r.tenant) z = true) : fw c (tl c r'.tenant) z = true := by
  have la := tl_lab O (recB_T (xR a r ha) ha)
  have lb := tl_lab O (recB_T (xR b r' hb) hb)
  have inT : ∀ {i j : Nat} {o : GReceiver}, i < j → x.receivers[i]? = some o → o ∈ x.receivers.take j := fun {i j o} h1 h2 => by
    have h3 : (x.receivers.take j)[i]? = some o := by rw [List.getElem?_take, if_pos h1]; exact h2
    exact List.mem_of_getElem? h3
  have key : fw c (tl c r'.tenant) (tl c r.tenant) = true ∨ r = r' := by
    rcases Nat.lt_trichotomy a b with h1 | h1 | h1
    · have := (recB_F (xR b r' hb) hb).2 r (inT h1 ha)
      unfold both at this
      exact .inl (Bool.and_eq_true_iff.1 this).2
    · subst h1
      rw [ha] at hb
      cases hb
      exact .inr rfl
    · have := (recB_F (xR a r ha) ha).2 r' (inT h1 hb)
      unfold both at this
      exact .inl (Bool.and_eq_true_iff.1 this).1
  rcases key with k | rfl
  · exact fw_tr h0 lb la k h
  · exact h
theorem all_eq {c : GConf} {x : GChannel} (h0 : (confE c).2 = 0) (O : Ok2 c) (xR : ∀ (j : Nat) r, x.receivers[j]? = some r → recB c x j = 0) {n : Nat} {r : GReceiver} (hr : x.receivers[n]? = some r) (z : Int) : x.receivers.all (fun o => fw c (tl c o.tenant) z) = fw c (tl c r.tenant) z := by
  cases h : fw c (tl c r.tenant) z with
  | true =>
    rw [List.all_eq_true]
    intro o ho
    obtain ⟨m, hm⟩ := List.getElem?_of_mem ho
    exact rec_to h0 O xR hr hm h
  | false =>
    rw [List.all_eq_false]
    exact ⟨r, List.mem_of_getElem? hr, by simp [h]⟩
theorem chAt_at {c : GConf} {i : Nat} {x : GChannel} (hx : c.channels[i]? = some x) : chAt c i = x := by
  have := (List.getElem?_eq_some_iff.1 hx).1
  unfold chAt
  rw [if_pos (by omega), Int.toNat_natCast, hx]
  rfl
theorem two_at {c : GConf} {i k : Nat} {x : GChannel} {l : GLane} (h0 : (confE c).2 = 0) (hx : c.channels[i]? = some x) (hl : x.lanes[k]? = some l) : twoP c i k = (x.receivers.all (fun r => fw c (tl c r.tenant) (tl c l.tenant)), 0) := by
  unfold twoP
  rw [if_pos h0, chAt_at hx, if_pos (by omega), Int.toNat_natCast, hl]
section
variable {P : Program} {R : Value → World → Prop} {A : List Nat → List Value → World → Prop} {B : List Nat → Nat → List Value → World → Prop} {ds : List Nat} {kk : Value → T}
variable {Z : ZP} {w : World}
theorem r_bbne {a b : Bool} (hk : wp P Z R ds (kk (.bool (a != b))) w A B) : wp P Z R ds (bbT .neq (.bool a) (.bool b) kk) w A B := hk
theorem one_t {cs : List Value} {c : GConf} (hc : rConf.r w cs c) (hi : In64 c) (G : GW w) : Cz Tryz.prog 9 [.agg cs.toArray] w (fun r w' => r = .bool true ∧ Fr [] w w') Z := by
  have hw := hi.cut.fl
  refine go mixed Tryz.func9 Tryz.call9 rfl (Tr.e9 _) ?_
  refine b_box (Bx.nil w) (fun v1 w1 H => ?_)
  refine r_call (awake_t (G.up H.F)) ?_
  rintro _ w2 ⟨rfl, F2⟩
  have H := H.fr F2
  refine r_cut H hc (fun w3 us hu hl H => ?_)
  have F3 := H.F
  obtain ⟨d, hd⟩ : ∃ d, d = cutC c := ⟨_, rfl⟩
  rw [← hd] at hu hw
  refine b_ldn H 0 rfl ?_ hl
  refine r_call (Check_t hu hw) ?_
  rintro _ w4 ⟨rfl, F4⟩
  have B1 := H.blk (i := 0) rfl
  refine r_if (fun h => r_ret ⟨rfl, F3.trans F4⟩) (fun h => ?_)
  have h0 : (confE d).2 = 0 := Classical.not_not.1 h
  have O := conf_ok2 hw h0
  have hu0 := hu
  obtain ⟨A0, c0, A1, c1, A2, c2, A3, c3, A4, c4, rfl, k0, k1, k2, k3, k4⟩ := oConf hu
  have b2 := k2.2.1
  simp only [big] at b2
  refine r_loop (fun (i : Nat) => [I (i : Int), B false]) (fun i w' => i ≤ d.channels.length ∧ Fr [] w3 w') (fun i => d.channels.length - i) 0 ⟨Nat.zero_le _, F4⟩ rfl ?_
  rintro i w5 ⟨hi1, F⟩
  refine r_ld ((B1.fr0 F).cell (o := 2) rfl) ?_
  refine r_if (fun h1 => ?_) (fun h1 => ?_)
  · obtain ⟨x, hx⟩ := gt (xs := d.channels) (j := i) (by omega)
    obtain ⟨xl, xL, xR⟩ := chan_ok h0 hx
    obtain ⟨ad, es, rfl, rd, e3⟩ := k2.2.2 i x hx
    obtain ⟨L1, d1, L2, d2, rfl, q1, q2⟩ := oChannel e3
    have c1 := q1.2.1
    have c2 := q2.2.1
    simp only [big] at c1 c2
    refine r_ld ((B1.fr0 F).cell (o := 2) rfl) ?_
    refine r_ob ⟨by omega, by omega⟩ ?_
    refine r_ldn (rd.fr F) ?_
    refine b_as (cs := [I x.label, .slice L1 x.lanes.length d1, .slice L2 x.receivers.length d2]) (zs := [I 0, .slice none 0 0, .slice none 0 0]) (n := 3) (Bx.nil w5) Tryz.zeroValue58 Tryz.sizeOf58 (by intro v hv; simp only [List.mem_cons, List.not_mem_nil, or_false] at hv; rcases hv with rfl | rfl | rfl <;> rfl) (fun v6 w6 K => ?_)
    have F6 := F.trans K.F
    have B6 := K.blk (i := 0) rfl
    refine r_loop (fun (k : Nat) => [I (k : Int), B false]) (fun k w' => k ≤ x.lanes.length ∧ Fr [] w6 w') (fun k => x.lanes.length - k) 0 ⟨Nat.zero_le _, Fr.refl _ _⟩ rfl ?_
    rintro k w7 ⟨hk, f7⟩
    refine r_ld ((B6.fr0 f7).cell (o := 1) rfl) ?_
    refine r_if (fun h2 => ?_) (fun h2 => ?_)
    · obtain ⟨l, hl2⟩ := gt (xs := x.lanes) (j := k) (by omega)
      obtain ⟨al, es, rfl, rdl, e4⟩ := q1.2.2 k l hl2
      obtain rfl := e4
      have lT : isT d l.tenant = true := lanB_T (xL k l hl2) hl2
      have F7 := F6.trans f7
      refine r_ldn ((B1.fr0 F7).rd rfl) ?_
      refine r_call (TwoWay_t (rConf.up F7 hu0) hw i k) ?_
      rintro _ w8 ⟨rfl, f8⟩
      rw [two_at h0 hx hl2]
      refine r_loop (fun (n : Nat) => [I (n : Int), B false]) (fun n w' => n ≤ x.receivers.length ∧ Fr [] w6 w') (fun n => x.receivers.length - n) 0 ⟨Nat.zero_le _, f7.trans f8⟩ rfl ?_
      rintro n w9 ⟨hn, f9⟩
      refine r_ld ((B6.fr0 f9).cell (o := 2) rfl) ?_
      refine r_if (fun h3 => ?_) (fun h3 => ?_)
      · obtain ⟨r, hr⟩ := gt (xs := x.receivers) (j := n) (by omega)
        obtain ⟨ar, es, rfl, rdr, e5⟩ := q2.2.2 n r hr
        obtain rfl := e5
        have rT : isT d r.tenant = true := recB_T (xR n r hr) hr
        refine r_dr (fun w10 f10 => ?_)
        have f10 := f9.trans f10
        have F10 := F6.trans f10
        refine r_ldn ((B1.fr0 F10).rd rfl) ?_
        refine r_ld ((B6.fr0 f10).cell (o := 1) rfl) ?_
        refine r_ob ⟨by omega, by omega⟩ ?_
        have hlt : w10.cell? (addA (addA al (((k : Nat) : Int).toNat * 3)) 0) = some (I l.tenant) := (rdl.fr F10).2 0 (I l.tenant) rfl
        refine r_ld hlt ?_
        refine r_call (Low_t (rConf.up F10 hu0) hw l.tenant) ?_
        rintro _ w11 ⟨rfl, f11⟩
        rw [low_ok h0 lT]
        have f11 := f10.trans f11
        refine r_ld ((B6.fr0 f11).cell (o := 2) rfl) ?_
        refine r_ob ⟨by omega, by omega⟩ ?_
        have hrt : w11.cell? (addA (addA ar (((n : Nat) : Int).toNat * 2)) 0) = some (I r.tenant) := (rdr.fr (F6.trans f11)).2 0 (I r.tenant) rfl
        refine r_ld hrt ?_
        refine r_call (rHas_t _ _) ?_
        rintro _ w12 ⟨rfl, rfl⟩
        rw [low_has h0 lT rT, all_eq h0 O xR hr]
        refine r_bbne ?_
        rw [bne_self_eq_false]
        refine r_ar (by omega) ?_
        exact r_ag (n + 1) ⟨by omega, f11⟩ (by omega) rfl
      · refine r_brk ?_
        refine r_ar (by omega) ?_
        exact r_ag (k + 1) ⟨by omega, f9⟩ (by omega) rfl
    · refine r_brk ?_
      refine r_ar (by omega) ?_
      exact r_ag (i + 1) ⟨by omega, F6.trans f7⟩ (by omega) rfl
  · exact r_brk (r_ret ⟨rfl, F3.trans F⟩)
end
end Go.Proofs.YtdjljgfffcjfmaaGreatDoor.Cg
