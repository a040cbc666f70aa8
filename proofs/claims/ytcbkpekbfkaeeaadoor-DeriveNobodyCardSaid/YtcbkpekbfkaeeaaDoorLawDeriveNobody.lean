/- The law DeriveNobody: for every input it returns true, and its arguments read as before. No condition but the row's own. -/
import Derived.Test.YtcbkpekbfkaeeaaDoorRows
import Derived.Test.YtcbkpekbfkaeeaaDoorCards
import Derived.Test.YtcbkpekbfkaeeaaDoorTie
import Derived.SevenTiedAt
import Derived.LaidLaws
import Derived.LaidHandle
import Derived.Test.YtcbkpekbfkaeeaaDoorFoK
import Derived.Test.YtcbkpekbfkaeeaaDoorSxD
import Derived.WalkKit
import Derived.ProofKit
import Derived.OpenShut
import Derived.ShutString
import Derived.ChangeOld
import Derived.ChangeSame
import Derived.ChangeVars
import Derived.JoinedOf
import Derived.Below
import Derived.SizedLaws
import Derived.Deep.Slices
import Derived.Deep.Strs
import Derived.Carry
set_option linter.unusedVariables false
namespace Go.Proofs.YtcbkpekbfkaeeaaDoor.LawDeriveNobody
open Go Go.ChangeShapes Go.WideShapes Go.ChangeAt Go.RowKit Go.Deep Go.Proofs.YtcbkpekbfkaeeaaDoor.Sx 
open Go.ChangeMaps (open_string shut_string)
theorem own : ownKnob Tryd.prog.godebug = none := by kernel_rfl
theorem laidOut : laidOutB Tryd.prog = true := by kernel_rfl
theorem len3 {l : List Value} (h : l.length = 3) : ∃ c0 c1 c2, l = [c0, c1, c2] := by
  match l, h with
  | [c0, c1, c2], _ => exact ⟨c0, c1, c2, rfl⟩
abbrev laidL : List (String × DataW Unit) := [("rampart/slotlist.loose", Rows.laid_rampart_slotlist_loose)]
def cellsL : Array Value := #[.int .i64 (-1), .int .i64 (-1), .int .i64 (-1)]
noncomputable def laidWorld (os : Os) : World :=
  { World.holding Tryd.prog os ⟨#[], #[], []⟩ with heap := (World.holding Tryd.prog os ⟨#[], #[], []⟩).heap.modify 0 fun
      | .cells _ t frozen => .cells cellsL t frozen
      | o => o }
theorem laidWorld_row (os : Os) : ((laidWorld os).forCall (fun _ _ => 0) ⟨#[], #[.agg #[.int .i64 0, .int .i64 0, .int .i64 0]], []⟩).memory.heap[0]? = some (.cells cellsL 82 (0, 0)) := by kernel_rfl
theorem gNamed : Tryd.prog.globalNamed "rampart/slotlist.loose" = some 0 := by kernel_rfl
theorem gType : (Tryd.prog.globals[0]?).map (·.type) = some 82 := by kernel_rfl
set_option maxRecDepth 100000 in
theorem laid_met (os : Os) : laidMetH Tryd.prog laidL ((laidWorld os).forCall (fun _ _ => 0) ⟨#[], #[.agg #[.int .i64 0, .int .i64 0, .int .i64 0]], []⟩).memory :=
  show laidMet Tryd.prog laidL _ from ⟨_, ⟨0, 82, cellsL, 8, [], [], by kernel_rfl, by kernel_rfl, by kernel_rfl, by kernel_rfl, rfl, rfl⟩, by decide, fun b off h => by
    have h' : MemPlace.cell b off ∈ [MemPlace.cell 0 0, .cell 0 1, .cell 0 2] := h
    have hb : b = 0 := by
      simp at h'
      omega
    subst hb
    refine ⟨⟨_, _, laidWorld_row os⟩, fun u v hc => ?_⟩
    simp only [World.cell?, laidWorld_row os] at hc
    simp at h'
    rcases h' with rfl | rfl | rfl <;> simp [cellsL] at hc⟩
set_option maxRecDepth 100000 in
theorem cells_of_laid {W : World} (h : laidMetH Tryd.prog laidL W) : W.var? Tryd.prog "rampart/slotlist.loose" = some cellsL := by
  have h' : laidMet Tryd.prog laidL W := h
  obtain ⟨ps, ⟨g, t, cs, fuel, p, q, hg, ht, hvar, hd, _, _⟩, _⟩ := h'
  obtain rfl := Option.some.inj (gNamed.symm.trans hg)
  obtain rfl := Option.some.inj (gType.symm.trans ht)
  rw [hvar]
  congr 1
  obtain ⟨l⟩ := cs
  obtain ⟨y0, y1, y2, n, hx, hl, h0, h1, h2⟩ := trod_struct3 Tryd.underlying82 hd
  rw [show Tryd.prog.cellsOf 82 = 3 by kernel_rfl] at hl
  obtain ⟨c0, c1, c2, rfl⟩ : ∃ c0 c1 c2, l = [c0, c1, c2] := by
    match l, hl with
    | [a, b, c], _ => exact ⟨a, b, c, rfl⟩
  have e3 : Tryd.prog.cellsOf 3 = 1 := by kernel_rfl
  obtain ⟨z0, g0, rfl, _⟩ := DataW.trod_int Tryd.underlying3 h0
  obtain ⟨z1, g1, rfl, _⟩ := DataW.trod_int Tryd.underlying3 h1
  obtain ⟨z2, g2, rfl, _⟩ := DataW.trod_int Tryd.underlying3 h2
  simp [e3] at g0 g1 g2
  subst g0
  subst g1
  subst g2
  simp [Rows.laid_rampart_slotlist_loose] at hx
  obtain ⟨⟨rfl, rfl, rfl⟩, _⟩ := hx
  rfl
set_option maxRecDepth 100000 in
theorem glb_of_laid {W : World} (h : laidMetH Tryd.prog laidL W) : Ls.Glb W := by
  intro j v hv
  rw [Nat.zero_add, World.var?_cell gNamed (cells_of_laid h) j]
  rw [← hv]
  simp [cellsL, Ls.encL, Ls.loose]
set_option maxRecDepth 100000 in
theorem lifted (os : Os) (started : os.Started) (H : Type) (enc : TypeId × Value → H) :
    ReturnsInHanded {} Tryd.checked os 7 .any (fun w args => (Rows.deriveNobodySpec.pre enc Tryd.prog Tryd.f7 [] false w args ∧ laidMetH Tryd.prog laidL w) ∧ sizedMet enc Tryd.prog Tryd.f7 (OpenSpec.ofChange Rows.deriveNobodySpec) false w args)
      (Rows.deriveNobodySpec.post enc Tryd.prog Tryd.f7 false true false false) := by
  refine returnsInHanded_of_change_and (C := Tryd.checked) (X := fun w _ => laidMetH Tryd.prog laidL w) (fun _ _ _ hh h => h.of_heap hh) own started (by kernel_rfl) Tryd.func7
    (ChangeSpec.witness_at (enc := enc) (C := Tryd.checked) (os := os) (X := fun w _ => laidMetH Tryd.prog laidL w) false (laidWorld os) #[.agg #[.int .i64 0, .int .i64 0, .int .i64 0]] 8 rfl (by kernel_rfl) (by kernel_rfl) (by kernel_rfl) (by kernel_rfl) (by kernel_rfl) (laid_met os)) ?_
  intro W base args ds gs before hval0 hW hcnd hsz0 hL _
  have hval : ∀ (j : Nat) t v, Tryd.f7.params[j]? = some t → args[j]? = some v → Value.okWide Tryd.prog W .any base t v := hval0
  have hW' := hW
  obtain ⟨p, q, hA0, hV, rfl, hfz, hnd⟩ := hW
  have hA : DataW.TrodAll enc Tryd.prog W 0 (fun _ => true) true Tryd.f7.params.toList args.toList ds p := hA0
  rw [Tryd.params7] at hA hval
  obtain ⟨v0, vs0, d0, ds0, p0, q0, hargs, rfl, rfl, h0, r0⟩ := trodAll_cons hA
  obtain ⟨rfl, rfl, rfl⟩ := trodAll_nil r0
  obtain rfl : args = #[v0] := by cases args; simp_all
  obtain ⟨rfl, rfl⟩ := trodVars_none hV
  obtain ⟨a0, rfl, hs0⟩ := okWide_struct Tryd.underlying33 (hval 0 33 v0 rfl rfl)
  have k0 := h0
  have lt0 : ∀ x ∈ p0, x.block < W.heap.size := by obtain ⟨m, hm⟩ := k0; exact DataW.trod_lt m _ _ _ hm
  have f0 : ∃ (z0_0 : Int) (z0_1 : Int) (z0_2 : Int), a0 = #[.int .i64 z0_0, .int .i64 z0_1, .int .i64 z0_2] ∧ (Lit.int .i64 z0_0).wf = true ∧ (Lit.int .i64 z0_1).wf = true ∧ (Lit.int .i64 z0_2).wf = true := by
    obtain ⟨fuel, hf⟩ := h0
    obtain ⟨l⟩ := a0
    obtain ⟨xs, m2, _, _, hlen, hxl, hfs⟩ := DataW.trod_struct Tryd.underlying33 hf
    rw [show Tryd.prog.cellsOf 33 = 3 by kernel_rfl] at hlen
    replace hlen : l.length = 3 := hlen
    obtain ⟨c0, c1, c2, rfl⟩ := len3 hlen
    obtain ⟨z0, rfl, wf0⟩ := tr_int Tryd.underlying3 (by kernel_rfl) (cs := [c0, c1, c2]) (o := 0) rfl (by rw [hxl]; decide) (hfs 0 _ rfl)
    obtain ⟨z1, rfl, wf1⟩ := tr_int Tryd.underlying3 (by kernel_rfl) (cs := [.int .i64 z0, c1, c2]) (o := 1) rfl (by rw [hxl]; decide) (hfs 1 _ rfl)
    obtain ⟨z2, rfl, wf2⟩ := tr_int Tryd.underlying3 (by kernel_rfl) (cs := [.int .i64 z0, .int .i64 z1, c2]) (o := 2) rfl (by rw [hxl]; decide) (hfs 2 _ rfl)
    exact ⟨z0, z1, z2, rfl, wf0, wf1, wf2⟩
  obtain ⟨z0_0, z0_1, z0_2, rfl, wf0_0, wf0_1, wf0_2⟩ := f0
  clear hA0 hval0
  refine Calls.mono (Fo.nobody_c W (glb_of_laid hL) z0_0 z0_1 z0_2) fun e W' ⟨v, he, hv, F⟩ => ?_
  subst hv
  subst he
  have bel := F.below
  exact ⟨_, rfl, _, _, _, [], _, [], hW', trodAll_mk1 (shut_bool Tryd.underlying4 _), (trodAll_cons_mk (Below.trod laidOut (by kernel_rfl) (of_decide_eq_true (by kernel_rfl)) k0 bel lt0) trodAll_mk0), rfl, bel.frame _, fun h => by cases h⟩
theorem over : Rows.deriveNobodyRow.holds Tryd.pinned (OpenSpec.ofChange Rows.deriveNobodySpec) :=
  OpenClaim.holds_of_wide 7 Tryd.f7 rfl rfl rfl rfl rfl rfl rfl ⟨rfl, rfl, rfl, rfl, rfl⟩ rfl rfl rfl rfl rfl (by kernel_rfl) Tryd.func7 (by kernel_rfl)
    (of_decide_eq_true (by kernel_rfl)) (by unfold Func.isWrapper; first | (rw [if_pos (by decide +kernel)]; kernel_rfl) | (rw [if_neg (by decide +kernel)]; exact ⟨rfl, rfl⟩))
    (fun os started H enc _ => lifted os started H enc)
theorem proved : Rows.DeriveNobodyCardSaid :=
  Claim7.holds_tied_plain_at .later [] [.data] true (true, "57fce35a1b3d8f0e2fff1dccf777a4ee890b0088b6d792cd6504b7f190512d46") false
    over (fun _ h => by cases h) (by kernel_rfl) (fun _ h => by cases h) deriveNobody_row_tie rfl ⟨rfl, rfl⟩ (by kernel_rfl) rfl
    (fun f fn hf hfn => by
      obtain rfl : f = 7 := Option.some.inj ((show Tryd.prog.funcNamed "rampart/rampartlaw12.DeriveNobody" = some 7 by kernel_rfl).symm.trans hf) |>.symm
      obtain rfl : fn = Tryd.f7 := (Option.some.inj (Tryd.func7.symm.trans hfn)).symm
      exact ⟨by kernel_rfl, fun j t ht => by
        rw [Tryd.params7] at ht
        have hj : t = 33 := by
          have := List.mem_of_getElem? (l := [33]) (i := j) (by simpa using ht)
          simpa using this
        rcases hj with rfl
        · exact (show Tryd.prog.wantsStandIn 33 = false by kernel_rfl)⟩)
    (by kernel_rfl)
#print axioms proved
end Go.Proofs.YtcbkpekbfkaeeaaDoor.LawDeriveNobody
namespace Go.Proofs.YtcbkpekbfkaeeaaDoor
/-- The statement, under a short name, for the claim. -/
theorem deriveNobody_holds : Rows.DeriveNobodyCardSaid := LawDeriveNobody.proved
end Go.Proofs.YtcbkpekbfkaeeaaDoor
