/- The law HideMasked: for every input it returns true, and its arguments read as before. No condition but the row's own. -/
import Derived.Test.YtbljpcikcefkiaaDoorRows
import Derived.Test.YtbljpcikcefkiaaDoorCards
import Derived.Test.YtbljpcikcefkiaaDoorTie
import Derived.SevenTiedAt
import Derived.LaidLaws
import Derived.LaidHandle
import Derived.Test.YtbljpcikcefkiaaDoorQMj
import Derived.Test.YtbljpcikcefkiaaDoorQRd
import Derived.Lay
import Derived.Test.YtbljpcikcefkiaaDoorQMa
import Derived.WalkKit
import Derived.ProofKit
import Derived.OpenShut
import Derived.ShutString
import Derived.ChangeOld
import Derived.ChangeSame
import Derived.ChangeVars
import Derived.JoinedOf
import Derived.Below
import Derived.SizedLaws
import Derived.Deep.Slices
import Derived.Deep.Strs
import Derived.Carry
set_option linter.unusedVariables false
namespace Go.Proofs.YtbljpcikcefkiaaDoor.LawHideMasked
open Go Go.ChangeShapes Go.WideShapes Go.ChangeAt Go.RowKit Go.Deep Go.Proofs.YtbljpcikcefkiaaDoor.Sx 
open Go.ChangeMaps (open_string shut_string)
theorem own : ownKnob Tryd.prog.godebug = none := by kernel_rfl
theorem laidOut : laidOutB Tryd.prog = true := by kernel_rfl
abbrev laidL : List (String × DataW Unit) := [("rampart/wire.handlePart", Rows.laid_rampart_wire_handlePart), ("rampart/wire.payloadPart", Rows.laid_rampart_wire_payloadPart)]
noncomputable def laidWorld (os : Os) : World := World.laidAll Tryd.prog os laidL
set_option maxRecDepth 100000 in
theorem laid_met (os : Os) : laidMetH Tryd.prog laidL ((laidWorld os).forCall (fun _ _ => 0) ⟨#[], #[.agg #[.slice none 0 0, .slice none 0 0, .slice none 0 0, .slice none 0 0, .slice none 0 0, .int .i64 0, .int .i64 0, .int .i64 0], .int .i64 0, .slice none 0 0, .slice none 0 0], []⟩).memory :=
  show laidMet Tryd.prog laidL _ from laidMet_laidAll _ (by kernel_rfl) (by kernel_rfl)
set_option maxRecDepth 100000 in
theorem cells2 {W : World} {nm : String} {g : Nat} {cs : Array Value} {fuel : Nat} {p : List MemPlace} {a b : Int} (hg : Tryd.prog.globalNamed nm = some g) (hvar : W.var? Tryd.prog nm = some cs) (hd : DataW.trod (fun _ => ()) Tryd.prog W 0 (fun _ => true) false fuel 140 cs.toList = some (.agg [.lit (.int .i64 a), .lit (.int .i64 b)], p)) : Rd W 2 ⟨g, 0, none⟩ [I a, I b] := by
  obtain ⟨l⟩ := cs
  obtain ⟨y0, y1, n, hx, hl, h0, h1⟩ := trod_struct2 Tryd.underlying140 hd
  rw [show Tryd.prog.cellsOf 140 = 2 by kernel_rfl] at hl
  obtain ⟨c0, c1, rfl⟩ : ∃ c0 c1, l = [c0, c1] := by
    match l, hl with
    | [a, b], _ => exact ⟨a, b, rfl⟩
  have e3 : Tryd.prog.cellsOf 3 = 1 := by kernel_rfl
  obtain ⟨z0, g0, rfl, _⟩ := DataW.trod_int Tryd.underlying3 h0
  obtain ⟨z1, g1, rfl, _⟩ := DataW.trod_int Tryd.underlying3 h1
  simp [e3] at g0 g1
  subst g0
  subst g1
  simp at hx
  obtain ⟨⟨rfl, rfl⟩, _⟩ := hx
  refine ⟨rfl, fun j v hv => ?_⟩
  have := World.var?_cell hg hvar j
  show W.cell? ⟨g, 0 + j, none⟩ = some v
  rw [Nat.zero_add, this]
  simpa using hv
set_option maxRecDepth 100000 in
theorem glb_of_laid {W : World} (h : laidMetH Tryd.prog laidL W) : Hd.Gl W := by
  have h' : laidMet Tryd.prog laidL W := h
  obtain ⟨ps, ⟨g, t, cs, fuel, p, q, hg, ht, hvar, hd, ⟨g2, t2, cs2, fuel2, p2, q2, hg2, ht2, hvar2, hd2, _, _⟩, _⟩, _⟩ := h'
  have n1 : Tryd.prog.globalNamed "rampart/wire.handlePart" = some 0 := by kernel_rfl
  have n2 : Tryd.prog.globalNamed "rampart/wire.payloadPart" = some 1 := by kernel_rfl
  obtain rfl := Option.some.inj (n1.symm.trans hg)
  obtain rfl := Option.some.inj (n2.symm.trans hg2)
  obtain rfl := Option.some.inj ((show (Tryd.prog.globals[0]?).map (·.type) = some 140 by kernel_rfl).symm.trans ht)
  obtain rfl := Option.some.inj ((show (Tryd.prog.globals[1]?).map (·.type) = some 140 by kernel_rfl).symm.trans ht2)
  exact ⟨cells2 n1 hvar hd, cells2 n2 hvar2 hd2⟩
set_option maxRecDepth 100000 in
theorem lifted (os : Os) (started : os.Started) (H : Type) (enc : TypeId × Value → H) :
    ReturnsInHanded {} Tryd.checked os 3 .any (fun w args => (Rows.hideMaskedSpec.pre enc Tryd.prog Tryd.f3 [] false w args ∧ laidMetH Tryd.prog laidL w) ∧ sizedMet enc Tryd.prog Tryd.f3 (OpenSpec.ofChange Rows.hideMaskedSpec) false w args)
      (Rows.hideMaskedSpec.post enc Tryd.prog Tryd.f3 false true false false) := by
  refine returnsInHanded_of_change_and (C := Tryd.checked) (X := fun w _ => laidMetH Tryd.prog laidL w) (fun _ _ _ hh h => h.of_heap hh) own started (by kernel_rfl) Tryd.func3
    (ChangeSpec.witness_at (enc := enc) (C := Tryd.checked) (os := os) (X := fun w _ => laidMetH Tryd.prog laidL w) false (laidWorld os) #[.agg #[.slice none 0 0, .slice none 0 0, .slice none 0 0, .slice none 0 0, .slice none 0 0, .int .i64 0, .int .i64 0, .int .i64 0], .int .i64 0, .slice none 0 0, .slice none 0 0] 8 (World.laidAll_os _ _ _) (by kernel_rfl) (by kernel_rfl) (by kernel_rfl) (by kernel_rfl) (by kernel_rfl) (laid_met os)) ?_
  intro W base args ds gs before hval0 hW hcnd hsz0 hL _
  have hval : ∀ (j : Nat) t v, Tryd.f3.params[j]? = some t → args[j]? = some v → Value.okWide Tryd.prog W .any base t v := hval0
  have hW' := hW
  obtain ⟨p, q, hA0, hV, rfl, hfz, hnd⟩ := hW
  have hA : DataW.TrodAll enc Tryd.prog W 0 (fun _ => true) true Tryd.f3.params.toList args.toList ds p := hA0
  rw [Tryd.params3] at hA hval
  obtain ⟨v0, vs0, d0, ds0, p0, q0, hargs, rfl, rfl, h0, r0⟩ := trodAll_cons hA
  obtain ⟨v1, vs1, d1, ds1, p1, q1, rfl, rfl, rfl, h1, r1⟩ := trodAll_cons r0
  obtain ⟨v2, vs2, d2, ds2, p2, q2, rfl, rfl, rfl, h2, r2⟩ := trodAll_cons r1
  obtain ⟨v3, vs3, d3, ds3, p3, q3, rfl, rfl, rfl, h3, r3⟩ := trodAll_cons r2
  obtain ⟨rfl, rfl, rfl⟩ := trodAll_nil r3
  obtain rfl : args = #[v0, v1, v2, v3] := by cases args; simp_all
  obtain ⟨rfl, rfl⟩ := trodVars_none hV
  obtain ⟨a0, rfl, hs0⟩ := okWide_struct Tryd.underlying28 (hval 0 28 v0 rfl rfl)
  have k0 := h0
  have lt0 : ∀ x ∈ p0, x.block < W.heap.size := by obtain ⟨m, hm⟩ := k0; exact DataW.trod_lt m _ _ _ hm
  have okw0 : okB (d0.weights Tryd.prog 28) := fun n hn => of_decide_eq_true (List.all_eq_true.1 hsz0 n (DataW.weights_mem_each (j := 0) (t := 28) (d := d0) (by kernel_rfl) rfl n hn))
  obtain ⟨a0⟩ := a0
  obtain ⟨x0, hx0, wf0⟩ : ∃ x, rConf.r W a0 x ∧ Rd.wf28 x := by
    obtain ⟨fuel, hf⟩ := h0
    exact Rd.rd28.rd hf okw0
  obtain ⟨a1, rfl, rfl, rfl, w1⟩ := open_int Tryd.underlying3 (hval 1 3 v1 rfl rfl) h1
  obtain ⟨a2, len2, cap2, rfl⟩ := okWide_slice Tryd.underlying29 (hval 2 29 v2 rfl rfl)
  have k2 := h2
  have lt2 : ∀ x ∈ p2, x.block < W.heap.size := by obtain ⟨m, hm⟩ := k2; exact DataW.trod_lt m _ _ _ hm
  have okw2 : okB (d2.weights Tryd.prog 29) := fun n hn => of_decide_eq_true (List.all_eq_true.1 hsz0 n (DataW.weights_mem_each (j := 2) (t := 29) (d := d2) (by kernel_rfl) rfl n hn))
  obtain ⟨x2, hx2, wf2⟩ : ∃ x, (rL rTick).r W [.slice a2 len2 cap2] x ∧ Rd.wf29 x := by
    obtain ⟨fuel, hf⟩ := h2
    exact Rd.rd29.rd hf okw2
  obtain ⟨_, _, e2, qc2, qb2, qr2⟩ := hx2
  cases e2
  obtain ⟨a3, len3, cap3, rfl⟩ := okWide_slice Tryd.underlying29 (hval 3 29 v3 rfl rfl)
  have k3 := h3
  have lt3 : ∀ x ∈ p3, x.block < W.heap.size := by obtain ⟨m, hm⟩ := k3; exact DataW.trod_lt m _ _ _ hm
  have okw3 : okB (d3.weights Tryd.prog 29) := fun n hn => of_decide_eq_true (List.all_eq_true.1 hsz0 n (DataW.weights_mem_each (j := 3) (t := 29) (d := d3) (by kernel_rfl) rfl n hn))
  obtain ⟨x3, hx3, wf3⟩ : ∃ x, (rL rTick).r W [.slice a3 len3 cap3] x ∧ Rd.wf29 x := by
    obtain ⟨fuel, hf⟩ := h3
    exact Rd.rd29.rd hf okw3
  obtain ⟨_, _, e3, qc3, qb3, qr3⟩ := hx3
  cases e3
  clear hA0 hval0
  refine Calls.mono (Hd.masked_c W (glb_of_laid hL) hx0 wf0.1 a1 qr2 (fun t ht => (wf2 t ht).1) qr3 (fun t ht => (wf3 t ht).1)) fun e W' ⟨v, he, hv, F⟩ => ?_
  subst hv
  subst he
  have bel := F.below
  exact ⟨_, rfl, _, _, _, [], _, [], hW', trodAll_mk1 (shut_bool Tryd.underlying4 _), (trodAll_cons_mk (Below.trod laidOut (by kernel_rfl) (of_decide_eq_true (by kernel_rfl)) k0 bel lt0) (trodAll_cons_mk (shut_int Tryd.underlying3 w1) (trodAll_cons_mk (Below.trod laidOut (by kernel_rfl) (of_decide_eq_true (by kernel_rfl)) k2 bel lt2) (trodAll_cons_mk (Below.trod laidOut (by kernel_rfl) (of_decide_eq_true (by kernel_rfl)) k3 bel lt3) trodAll_mk0)))), rfl, bel.frame _, fun h => by cases h⟩
theorem over : Rows.hideMaskedRow.holds Tryd.pinned (OpenSpec.ofChange Rows.hideMaskedSpec) :=
  OpenClaim.holds_of_wide 3 Tryd.f3 rfl rfl rfl rfl rfl rfl rfl ⟨rfl, rfl, rfl, rfl, rfl⟩ rfl rfl rfl rfl rfl (by kernel_rfl) Tryd.func3 (by kernel_rfl)
    (of_decide_eq_true (by kernel_rfl)) (by unfold Func.isWrapper; first | (rw [if_pos (by decide +kernel)]; kernel_rfl) | (rw [if_neg (by decide +kernel)]; exact ⟨rfl, rfl⟩))
    (fun os started H enc _ => lifted os started H enc)
theorem proved : Rows.HideMaskedCardSaid :=
  Claim7.holds_tied_plain_at .later [] [.wider, .wider] true (true, "0d3bfc157036c159c8289eab86b041ebc38e2f3f3432690da340b7c7eed3024c") false
    over (fun _ h => by cases h) (by kernel_rfl) (fun _ h => by cases h) hideMasked_row_tie rfl ⟨rfl, rfl⟩ (by kernel_rfl) rfl
    (fun f fn hf hfn => by
      obtain rfl : f = 3 := Option.some.inj ((show Tryd.prog.funcNamed "rampart/rampartlaw25.HideMasked" = some 3 by kernel_rfl).symm.trans hf) |>.symm
      obtain rfl : fn = Tryd.f3 := (Option.some.inj (Tryd.func3.symm.trans hfn)).symm
      exact ⟨by kernel_rfl, fun j t ht => by
        rw [Tryd.params3] at ht
        have hj : t = 28 ∨ t = 3 ∨ t = 29 ∨ t = 29 := by
          have := List.mem_of_getElem? (l := [28, 3, 29, 29]) (i := j) (by simpa using ht)
          simpa using this
        rcases hj with rfl | rfl | rfl | rfl
        · exact (show Tryd.prog.wantsStandIn 28 = false by kernel_rfl)
        · exact (show Tryd.prog.wantsStandIn 3 = false by kernel_rfl)
        · exact (show Tryd.prog.wantsStandIn 29 = false by kernel_rfl)
        · exact (show Tryd.prog.wantsStandIn 29 = false by kernel_rfl)⟩)
    (by kernel_rfl)
#print axioms proved
end Go.Proofs.YtbljpcikcefkiaaDoor.LawHideMasked
namespace Go.Proofs.YtbljpcikcefkiaaDoor
/-- The statement, under a short name, for the claim. -/
theorem hideMasked_holds : Rows.HideMaskedCardSaid := LawHideMasked.proved
end Go.Proofs.YtbljpcikcefkiaaDoor
