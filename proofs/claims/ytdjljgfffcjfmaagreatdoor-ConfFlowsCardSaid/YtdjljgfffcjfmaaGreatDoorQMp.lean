/- What the package variables hold where a law begins. -/
import Derived.Test.YtdjljgfffcjfmaaGreatDoorQMk
import Derived.Test.YtdjljgfffcjfmaaGreatDoorRows
import Derived.Stop.LaidErr
import Derived.Lib.LaidTab
import Derived.HandedShaped
import Derived.Handed
import Derived.Shelf.Vars
import Derived.Test.YtdjljgfffcjfmaaGreatDoorQMo
set_option linter.unusedVariables false
namespace Go.Proofs.YtdjljgfffcjfmaaGreatDoor.Cw
open Go Go.RowKit Go.Proofs Go.Proofs.YtdjljgfffcjfmaaGreatDoor
open Go.Proofs.YtdjljgfffcjfmaaGreatDoor.Sg
abbrev laidL : List (String × DataW Unit) := [("math/bits.deBruijn32tab", Rows.laid_math_bits_deBruijn32tab), ("math/bits.deBruijn64tab", Rows.laid_math_bits_deBruijn64tab), ("internal/strconv.uint64pow10", Rows.laid_internal_strconv_uint64pow10), ("unicode/utf8.acceptRanges", Rows.laid_unicode_utf8_acceptRanges), ("strconv.ErrRange", Rows.laid_strconv_ErrRange), ("strconv.ErrSyntax", Rows.laid_strconv_ErrSyntax), ("unicode/utf8.first", Rows.laid_unicode_utf8_first)]
theorem star : "*" ++ "errors.errorString" = "*errors.errorString" := by decide
set_option maxRecDepth 100000 in
theorem rowE (u : TypeId) (h : Tryz.prog.typeName? 3 u = some "*errors.errorString") : u = 208 :=
  typeName_ptr_named (nm := "errors.errorString") (by rw [star]; kernel_rfl) (by kernel_rfl) (by decide) u (by rw [star]; exact h)
set_option maxRecDepth 100000 in
theorem gw_of {W : World} (h : laidMetH Tryz.prog laidL W) (hs : W.ShapedOpen Tryz.prog) : GW W := by
  have h0 : laidMet Tryz.prog laidL W := h
  refine ⟨?_, ?_, ?_, ?_⟩
  · exact cell_of_shapedOpen_int (P := Tryz.prog) (g := 0) (t := 3) (zero := #[.int .i64 0]) hs (of_decide_eq_true (by kernel_rfl)) (by kernel_rfl) rfl (by kernel_rfl) (by kernel_rfl) Tryz.underlying3
  · have h1 := Lib.tabIs_of_head (zs := Lib.pow10Tab) (k := .u64) (show Tryz.prog.globalNamed "internal/strconv.uint64pow10" = some 1 by kernel_rfl) (show (Tryz.prog.globals[1]?).map (·.type) = some 193 by kernel_rfl) Tryz.underlying193 Tryz.underlying48 (by kernel_rfl) (by kernel_rfl) (laidMet.tail (laidMet.tail (h0)))
    unfold Lib.TabIs World.var? at h1
    rw [show Tryz.prog.globalNamed "internal/strconv.uint64pow10" = some 1 by kernel_rfl] at h1
    simp only [Option.bind_some] at h1
    unfold TabW
    split at h1
    · rename_i cs T f hh
      cases h1
      exact ⟨T, f, hh⟩
    · cases h1
  · obtain ⟨a, s, hv, -, -, -⟩ := laid_sentinel (laidMet.tail (laidMet.tail (laidMet.tail (laidMet.tail (laidMet.tail (h0)))))) (show Tryz.prog.globalNamed "strconv.ErrSyntax" = some 4 by kernel_rfl) (show (Tryz.prog.globals[4]?).map (·.type) = some 99 by kernel_rfl) Tryz.underlying99 rowE Tryz.underlying208 Tryz.underlying210 rfl rfl Tryz.underlying9 (by kernel_rfl) (by kernel_rfl)
    exact ⟨_, by have h0 := World.var?_cell (show Tryz.prog.globalNamed "strconv.ErrSyntax" = some 4 by kernel_rfl) hv 0; simpa using h0, .inr ⟨_, _, rfl⟩⟩
  · obtain ⟨a, s, hv, -, -, -⟩ := laid_sentinel (laidMet.tail (laidMet.tail (laidMet.tail (laidMet.tail (h0))))) (show Tryz.prog.globalNamed "strconv.ErrRange" = some 5 by kernel_rfl) (show (Tryz.prog.globals[5]?).map (·.type) = some 99 by kernel_rfl) Tryz.underlying99 rowE Tryz.underlying208 Tryz.underlying210 rfl rfl Tryz.underlying9 (by kernel_rfl) (by kernel_rfl)
    exact ⟨_, by have h0 := World.var?_cell (show Tryz.prog.globalNamed "strconv.ErrRange" = some 5 by kernel_rfl) hv 0; simpa using h0, .inr ⟨_, _, rfl⟩⟩
/-- A row's claim, out of the walk at each of its worlds; the world's shape is told too. -/
theorem handed_laid {H : Type} {enc : TypeId × Value → H} {a : Assume} {C : Checked} {os : Os} {f : FuncId} {fn : Func} {s : ChangeSpec} {conds : List PathCond} {apart fresh handsOn again : Bool} {X : World → Array Value → Prop}
    (hX : ∀ (w w' : World) (args : Array Value), w.heap = w'.heap → X w args → X w' args)
    (own : ownKnob C.prog.godebug = none) (started : os.Started) (noInit : C.prog.inits.idxOf? f = none) (hfn : C.prog.funcs[f]? = some fn)
    (witness : ∃ (w : World) (tape : Tape) (i : Input), w.os = os ∧ (w.forCall tape i).Shaped C.prog ∧ i.vars = [] ∧ Input.okWide C.prog (w.forCall tape i) .any w.heap.size f i ∧
      ((s.pre enc C.prog fn conds apart (w.forCall tape i).memory i.args ∧ X (w.forCall tape i).memory i.args) ∧ sizedMet enc C.prog fn (OpenSpec.ofChange s) apart (w.forCall tape i).memory i.args) ∧ a.holds C.prog (lone (Frame.enter C.prog f i.args .normal) [] (w.forCall tape i)))
    (walk : ∀ (W : World) (base : Nat) (args : Array Value) (ds gs : List (DataW H)) (before : List MemPlace),
      (∀ (j : Nat) t v, fn.params[j]? = some t → args[j]? = some v → Value.okWide C.prog W .any base t v) →
      DataW.Whole enc C.prog fn.params.toList s.vars apart W args.toList ds gs before →
      conds.all (PathCond.test C.prog ⟨fn.params.toList, ds, s.plain.varTypes C.prog, gs⟩) = true →
      (DataW.weightsEach C.prog (fn.params.toList ++ s.plain.varTypes C.prog) (ds ++ gs)).all (· ≤ reachBytes) = true → X W args → W.ShapedOpen C.prog →
      Calls C.prog f args W fun e W' => ∃ v, e = .returned v ∧ s.post enc C.prog fn apart fresh handsOn again W args v W') :
    ReturnsInHanded a C os f .any (fun w args => (s.pre enc C.prog fn conds apart w args ∧ X w args) ∧ sizedMet enc C.prog fn (OpenSpec.ofChange s) apart w args) (s.post enc C.prog fn apart fresh handsOn again) := by
  refine returnsInHanded_of_calls own started noInit witness ?_
  intro w tape i _ hsh _ hok hpre _
  obtain ⟨_, _, _, fn', hfn', _, _, _, _, hval⟩ := hok
  obtain rfl : fn' = fn := Option.some.inj (hfn'.symm.trans hfn)
  obtain ⟨⟨⟨ds, gs, before, hw, hc⟩, hx⟩, hz⟩ := hpre
  refine (walk (w.forCall tape i) w.heap.size i.args ds gs before hval (DataW.Whole.of_heap (w' := w.forCall tape i) (by rfl) hw) hc (hz.weights hw) (hX _ _ _ (by rfl) hx) hsh).mono fun e W' ⟨v, he, hp⟩ => ?_
  subst he
  exact ChangeSpec.post_blind hp
end Go.Proofs.YtdjljgfffcjfmaaGreatDoor.Cw

/- The laws of checks, of what is asked, of flows: the walks. -/
set_option linter.unusedVariables false
set_option linter.unusedSimpArgs false
namespace Go.Proofs.YtdjljgfffcjfmaaGreatDoor.Cg
open Go Go.RowKit Go.Proofs.YtdjljgfffcjfmaaGreatDoor.Sx
open Go.Proofs.YtdjljgfffcjfmaaGreatDoor.Bi (mixed take_s Has_t rHas_t)
open Go.Proofs.YtdjljgfffcjfmaaGreatDoor.Cf
open Go.Proofs.YtdjljgfffcjfmaaGreatDoor.Sg
/-- The numbers of settings fit their kinds. -/
def WfC (c : GConf) : Prop := (∀ z ∈ c.flows, (Lit.int .u64 z).wf = true) ∧ (∀ t ∈ c.tenants, (Lit.int .i64 t.label).wf = true ∧ (Lit.int .i64 t.quota).wf = true) ∧ (∀ x ∈ c.channels, (Lit.int .i64 x.label).wf = true ∧ (∀ l ∈ x.lanes, (Lit.int .i64 l.tenant).wf = true ∧ (Lit.int .i64 l.credit).wf = true ∧ True) ∧ ∀ r ∈ x.receivers, (Lit.int .i64 r.tenant).wf = true ∧ True) ∧ (∀ g ∈ c.gates, (Lit.int .i64 g.frm).wf = true ∧ (Lit.int .i64 g.til).wf = true ∧ (Lit.int .i64 g.room).wf = true) ∧ (∀ z ∈ c.frame, (Lit.int .i64 z).wf = true) ∧ (Lit.int .i64 c.budget).wf = true ∧ (Lit.int .i64 c.requests).wf = true ∧ (Lit.int .i64 c.pending).wf = true
theorem wf64 {z : Int} (h : (Lit.int .i64 z).wf = true) : in64 z := by
  simp [Lit.wf, IntKind.min, IntKind.max, IntKind.bits, IntKind.signed] at h
  unfold in64; omega
theorem wfu64 {z : Int} (h : (Lit.int .u64 z).wf = true) : 0 ≤ z ∧ z < 18446744073709551616 := by
  simp [Lit.wf, IntKind.min, IntKind.max, IntKind.bits, IntKind.signed] at h
  omega
theorem WfC.in64 {c : GConf} (h : WfC c) : In64 c := by
  obtain ⟨h0, h1, h2, h3, h4, h5, h6, h7⟩ := h
  exact ⟨fun z hz => wfu64 (h0 z hz), fun t ht => ⟨wf64 (h1 t ht).1, wf64 (h1 t ht).2⟩, fun x hx => ⟨wf64 (h2 x hx).1, fun l hl => ⟨wf64 ((h2 x hx).2.1 l hl).1, wf64 ((h2 x hx).2.1 l hl).2.1⟩, fun r hr => wf64 ((h2 x hx).2.2 r hr).1⟩, fun g hg => ⟨wf64 (h3 g hg).1, wf64 (h3 g hg).2.1, wf64 (h3 g hg).2.2⟩, fun z hz => wf64 (h4 z hz), wf64 h5, wf64 h6, wf64 h7⟩
theorem In64.cut {c : GConf} (h : In64 c) : In64 (cutC c) := by
  refine ⟨fun z hz => h.fl z (List.mem_of_mem_take hz), fun t ht => h.te t (List.mem_of_mem_take ht), fun x hx => ?_, fun g hg => h.ga g (List.mem_of_mem_take hg), fun z hz => h.fr z (List.mem_of_mem_take hz), h.bu⟩
  obtain ⟨y, hy, rfl⟩ := List.mem_map.1 hx
  obtain ⟨a1, a2, a3⟩ := h.ch y (List.mem_of_mem_take hy)
  exact ⟨a1, fun l hl => a2 l (List.mem_of_mem_take hl), fun r hr => a3 r (List.mem_of_mem_take hr)⟩
section
variable {P : Program} {Z : ZP} {R : Value → World → Prop} {w w0 w1 : World} {A : List Nat → List Value → World → Prop} {B : List Nat → Nat → List Value → World → Prop} {ds : List Nat} {k : Value → T}
theorem r_bbeq {a b : Bool} (hk : wp P Z R ds (k (.bool (a == b))) w A B) : wp P Z R ds (bbT .eql (.bool a) (.bool b) k) w A B := hk
theorem r_cut {v1 : Nat} {cs : List Value} {c : GConf} {t : T} (H : Bx w w1 [(v1, 28, cs)]) (hc : rConf.r w cs c) (hk : ∀ w3 us, rConf.r w3 us (cutC c) → us.length = 8 → Bx w w3 [(v1, 28, us)] → wp Tryz.prog Z R ds t w3 A B) : wp Tryz.prog Z R ds (.ldn 8 (Pt v1 0) fun v7 => .call 11 [v7] fun v8 => .ef (Instr.storeAt 28 (Pt v1 0) v8) t) w1 A B := by
  have hlc : cs.length = 8 := rConf.len hc
  have hB := H.blk (i := 0) rfl
  have hg := H.ge (i := 0) rfl
  refine b_ldn H 0 rfl ?_ hlc
  refine r_call (cut_o [v1] hc H.F (fun q hq => by simp at hq; subst hq; exact ⟨hg, hB.lt⟩)) ?_
  rintro _ w2 ⟨us, rfl, hu, F2⟩
  have hlu : us.length = 8 := rConf.len hu.now
  have H2 := H.fr F2
  refine r_stn (H2.blk (i := 0) rfl) Tryz.sizeOf28 (rConf.one hu.now) (fun w3 B3 f3 => ?_) rfl hlu hlc
  exact hk w3 us (hu w3 f3) hlu (H2.set (i := 0) rfl B3 f3)
theorem checks_t {cs : List Value} {c : GConf} (hc : rConf.r w cs c) (hi : In64 c) (G : GW w) : Cz Tryz.prog 3 [.agg cs.toArray] w (fun r w' => r = .bool true ∧ Fr [] w w') Z := by
  have hw := hi.cut.fl
  refine go mixed Tryz.func3 Tryz.call3 rfl (Tr.e3 _) ?_
  refine b_box (Bx.nil w) (fun v1 w1 H => ?_)
  refine r_cut H hc (fun w3 us hu hl H => ?_)
  have F3 := H.F
  refine b_ldn H 0 rfl ?_ hl
  refine r_call (Check_t hu hw) ?_
  rintro _ w4 ⟨rfl, F4⟩
  have H := H.fr F4
  refine b_ldn H 0 rfl ?_ hl
  refine r_call (rCheck_t (rConf.up F4 hu) hw) ?_
  rintro _ w5 ⟨rfl, F5⟩
  refine r_if (fun _ => ?_) (fun h => absurd rfl h)
  refine r_if (fun _ => ?_) (fun h => absurd rfl h)
  have F05 := (F3.trans F4).trans F5
  refine r_call (awake_t (G.up F05)) ?_
  rintro _ w6 ⟨rfl, F6⟩
  exact r_ret ⟨rfl, F05.trans F6⟩
theorem asks_t {cs : List Value} {c : GConf} (hc : rConf.r w cs c) (hi : In64 c) (G : GW w) (n t : Int) : Cz Tryz.prog 6 [.agg cs.toArray, I n, I t] w (fun r w' => r = .bool true ∧ Fr [] w w') Z := by
  refine go mixed Tryz.func6 Tryz.call6 rfl (Tr.e6 _ _ _) ?_
  refine b_box (Bx.nil w) (fun v1 w1 H => ?_)
  refine r_cut H hc (fun w3 us hu hl H => ?_)
  have F3 := H.F
  refine b_ldn H 0 rfl ?_ hl
  refine r_call (Lane_t hu n t) ?_
  rintro _ w4 ⟨rfl, F4⟩
  have H := H.fr F4
  refine b_ldn H 0 rfl ?_ hl
  refine r_call (rLane_t (rConf.up F4 hu) n t) ?_
  rintro _ w5 ⟨rfl, F5⟩
  have H := H.fr F5
  have F35 := F4.trans F5
  refine b_ldn H 0 rfl ?_ hl
  refine r_call (Receiver_t (rConf.up F35 hu) n t) ?_
  rintro _ w6 ⟨rfl, F6⟩
  have H := H.fr F6
  have F36 := F35.trans F6
  refine b_ldn H 0 rfl ?_ hl
  refine r_call (rReceiver_t (rConf.up F36 hu) n t) ?_
  rintro _ w7 ⟨rfl, F7⟩
  have H := H.fr F7
  have F37 := F36.trans F7
  refine r_dr (fun w8 F8 => ?_)
  have H := H.fr F8
  have F38 := F37.trans F8
  refine r_if (fun _ => ?_) (fun h => absurd rfl h)
  refine r_bbeq ?_
  refine r_ifb (fun _ => ?_) (fun h => by simp at h)
  refine r_if (fun _ => ?_) (fun h => absurd rfl h)
  refine r_bbeq ?_
  refine r_ifb (fun _ => ?_) (fun h => by simp at h)
  refine b_ldn H 0 rfl ?_ hl
  refine b_ldn H 0 rfl ?_ hl
  refine r_call (Credits_t (rConf.up F38 hu) t) ?_
  rintro _ w9 ⟨rfl, F9⟩
  have H := H.fr F9
  have F39 := F38.trans F9
  refine r_chkn ((H.blk (i := 0) rfl).rd hl) ?_
  refine r_call (rCredits_t (rConf.up F39 hu) t) ?_
  rintro _ w10 ⟨rfl, F10⟩
  refine r_if (fun _ => ?_) (fun h => absurd rfl h)
  have F310 := (F3.trans F39).trans F10
  refine r_call (awake_t (G.up F310)) ?_
  rintro _ w11 ⟨rfl, F11⟩
  exact r_ret ⟨rfl, F310.trans F11⟩
theorem flowsL_t {cs : List Value} {c : GConf} (hc : rConf.r w cs c) (hi : In64 c) (G : GW w) (n l t : Int) : Cz Tryz.prog 7 [.agg cs.toArray, I n, I l, I t] w (fun r w' => r = .bool true ∧ Fr [] w w') Z := by
  have hw := hi.cut.fl
  refine go mixed Tryz.func7 Tryz.call7 rfl (Tr.e7 _ _ _ _) ?_
  refine b_box (Bx.nil w) (fun v1 w1 H => ?_)
  refine r_cut H hc (fun w3 us hu hl H => ?_)
  have F3 := H.F
  refine b_ldn H 0 rfl ?_ hl
  refine r_call (TwoWay_t hu hw n l) ?_
  rintro _ w4 ⟨rfl, F4⟩
  have H := H.fr F4
  refine b_ldn H 0 rfl ?_ hl
  refine r_call (rTwoWay_t (rConf.up F4 hu) hw n l) ?_
  rintro _ w5 ⟨rfl, F5⟩
  have H := H.fr F5
  have F35 := F4.trans F5
  refine b_ldn H 0 rfl ?_ hl
  refine r_call (Low_t (rConf.up F35 hu) hw t) ?_
  rintro _ w6 ⟨rfl, F6⟩
  have H := H.fr F6
  have F36 := F35.trans F6
  refine b_ldn H 0 rfl ?_ hl
  refine r_call (rLow_t (rConf.up F36 hu) hw t) ?_
  rintro _ w7 ⟨rfl, F7⟩
  have H := H.fr F7
  have F37 := F36.trans F7
  refine r_dr (fun w8 F8 => ?_)
  have H := H.fr F8
  have F38 := F37.trans F8
  refine r_bbeq ?_
  refine r_ifb (fun _ => ?_) (fun h => by simp at h)
  refine r_if (fun _ => ?_) (fun h => absurd rfl h)
  refine r_if (fun _ => ?_) (fun h => absurd rfl h)
  refine r_if (fun _ => ?_) (fun h => absurd rfl h)
  refine b_ldn H 0 rfl ?_ hl
  refine b_ldn H 0 rfl ?_ hl
  refine r_call (Bound_t (rConf.up F38 hu)) ?_
  rintro _ w9 ⟨rfl, F9⟩
  have H := H.fr F9
  have F39 := F38.trans F9
  refine r_chkn ((H.blk (i := 0) rfl).rd hl) ?_
  refine r_call (rBound_t (rConf.up F39 hu)) ?_
  rintro _ w10 ⟨rfl, F10⟩
  refine r_if (fun _ => ?_) (fun h => absurd rfl h)
  have F310 := (F3.trans F39).trans F10
  refine r_call (awake_t (G.up F310)) ?_
  rintro _ w11 ⟨rfl, F11⟩
  exact r_ret ⟨rfl, F310.trans F11⟩
theorem checks_c (W : World) (G : GW W) {cs : List Value} {c : GConf} (hc : rConf.r W cs c) (hi : WfC c) : Cl Tryz.prog 3 [.agg cs.toArray] W (fun r w' => r = .bool true ∧ Fr [] W w') := (checks_t hc hi.in64 G).cl
theorem asks_c (W : World) (G : GW W) {cs : List Value} {c : GConf} (hc : rConf.r W cs c) (hi : WfC c) (n t : Int) : Cl Tryz.prog 6 [.agg cs.toArray, I n, I t] W (fun r w' => r = .bool true ∧ Fr [] W w') := (asks_t hc hi.in64 G n t).cl
theorem flows_c (W : World) (G : GW W) {cs : List Value} {c : GConf} (hc : rConf.r W cs c) (hi : WfC c) (n l t : Int) : Cl Tryz.prog 7 [.agg cs.toArray, I n, I l, I t] W (fun r w' => r = .bool true ∧ Fr [] W w') := (flowsL_t hc hi.in64 G n l t).cl
end
end Go.Proofs.YtdjljgfffcjfmaaGreatDoor.Cg
