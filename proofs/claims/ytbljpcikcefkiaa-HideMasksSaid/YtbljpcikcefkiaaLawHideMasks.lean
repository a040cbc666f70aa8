/- The law HideMasks: for every input it returns true, and its arguments read as before. No condition but the row's own. -/
import Derived.Test.YtbljpcikcefkiaaRows
import Derived.Test.YtbljpcikcefkiaaQMj
import Derived.Test.YtbljpcikcefkiaaQRd
import Derived.Test.YtbljpcikcefkiaaQMa
import Derived.WalkKit
import Derived.ProofKit
import Derived.OpenShut
import Derived.ShutString
import Derived.ChangeOld
import Derived.ChangeSame
import Derived.ChangeVars
import Derived.JoinedOf
import Derived.Below
import Derived.SizedLaws
import Derived.Deep.Slices
import Derived.Deep.Strs
import Derived.Carry
set_option linter.unusedVariables false
namespace Go.Proofs.Ytbljpcikcefkiaa.LawHideMasks
open Go Go.ChangeShapes Go.WideShapes Go.ChangeAt Go.RowKit Go.Deep Go.Proofs.Ytbljpcikcefkiaa.Sx 
open Go.ChangeMaps (open_string shut_string)
theorem own : ownKnob Try.prog.godebug = none := by kernel_rfl
theorem laidOut : laidOutB Try.prog = true := by kernel_rfl
set_option maxRecDepth 100000 in
theorem lifted (os : Os) (started : os.Started) (H : Type) (enc : TypeId × Value → H) :
    ReturnsInHanded {} Try.checked os 3 .any (Rows.hideMasksSpec.pre6 enc Try.prog Try.f3 Rows.hideMasksRow.domain false) (Rows.hideMasksSpec.post enc Try.prog Try.f3 false true false false) := by
  refine returnsInHanded_of_change_sized (C := Try.checked) own started (by kernel_rfl) Try.func3
    (ChangeSpec.witness6 (enc := enc) (C := Try.checked) false ⟨#[], #[.agg #[.slice none 0 0, .slice none 0 0, .slice none 0 0, .slice none 0 0, .slice none 0 0, .int .i64 0, .int .i64 0, .int .i64 0], .int .i64 0, .slice none 0 0, .slice none 0 0], []⟩ 8 (by kernel_rfl) (by kernel_rfl) (by kernel_rfl) (by kernel_rfl)) ?_
  intro W base args ds gs before hval0 hW hcnd hsz0 _
  have hval : ∀ (j : Nat) t v, Try.f3.params[j]? = some t → args[j]? = some v → Value.okWide Try.prog W .any base t v := hval0
  have hW' := hW
  obtain ⟨p, q, hA0, hV, rfl, hfz, hnd⟩ := hW
  have hA : DataW.TrodAll enc Try.prog W 0 (fun _ => true) true Try.f3.params.toList args.toList ds p := hA0
  rw [Try.params3] at hA hval
  obtain ⟨v0, vs0, d0, ds0, p0, q0, hargs, rfl, rfl, h0, r0⟩ := trodAll_cons hA
  obtain ⟨v1, vs1, d1, ds1, p1, q1, rfl, rfl, rfl, h1, r1⟩ := trodAll_cons r0
  obtain ⟨v2, vs2, d2, ds2, p2, q2, rfl, rfl, rfl, h2, r2⟩ := trodAll_cons r1
  obtain ⟨v3, vs3, d3, ds3, p3, q3, rfl, rfl, rfl, h3, r3⟩ := trodAll_cons r2
  obtain ⟨rfl, rfl, rfl⟩ := trodAll_nil r3
  obtain rfl : args = #[v0, v1, v2, v3] := by cases args; simp_all
  obtain ⟨rfl, rfl⟩ := trodVars_none hV
  obtain ⟨a0, rfl, hs0⟩ := okWide_struct Try.underlying28 (hval 0 28 v0 rfl rfl)
  have k0 := h0
  have lt0 : ∀ x ∈ p0, x.block < W.heap.size := by obtain ⟨m, hm⟩ := k0; exact DataW.trod_lt m _ _ _ hm
  have okw0 : okB (d0.weights Try.prog 28) := fun n hn => of_decide_eq_true (List.all_eq_true.1 hsz0 n (DataW.weights_mem_each (j := 0) (t := 28) (d := d0) (by kernel_rfl) rfl n hn))
  obtain ⟨a0⟩ := a0
  obtain ⟨x0, hx0, wf0⟩ : ∃ x, rConf.r W a0 x ∧ Rd.wf28 x := by
    obtain ⟨fuel, hf⟩ := h0
    exact Rd.rd28.rd hf okw0
  obtain ⟨a1, rfl, rfl, rfl, w1⟩ := open_int Try.underlying3 (hval 1 3 v1 rfl rfl) h1
  obtain ⟨a2, len2, cap2, rfl⟩ := okWide_slice Try.underlying29 (hval 2 29 v2 rfl rfl)
  have k2 := h2
  have lt2 : ∀ x ∈ p2, x.block < W.heap.size := by obtain ⟨m, hm⟩ := k2; exact DataW.trod_lt m _ _ _ hm
  have okw2 : okB (d2.weights Try.prog 29) := fun n hn => of_decide_eq_true (List.all_eq_true.1 hsz0 n (DataW.weights_mem_each (j := 2) (t := 29) (d := d2) (by kernel_rfl) rfl n hn))
  obtain ⟨x2, hx2, wf2⟩ : ∃ x, (rL rTick).r W [.slice a2 len2 cap2] x ∧ Rd.wf29 x := by
    obtain ⟨fuel, hf⟩ := h2
    exact Rd.rd29.rd hf okw2
  obtain ⟨_, _, e2, qc2, qb2, qr2⟩ := hx2
  cases e2
  obtain ⟨a3, len3, cap3, rfl⟩ := okWide_slice Try.underlying29 (hval 3 29 v3 rfl rfl)
  have k3 := h3
  have lt3 : ∀ x ∈ p3, x.block < W.heap.size := by obtain ⟨m, hm⟩ := k3; exact DataW.trod_lt m _ _ _ hm
  have okw3 : okB (d3.weights Try.prog 29) := fun n hn => of_decide_eq_true (List.all_eq_true.1 hsz0 n (DataW.weights_mem_each (j := 3) (t := 29) (d := d3) (by kernel_rfl) rfl n hn))
  obtain ⟨x3, hx3, wf3⟩ : ∃ x, (rL rTick).r W [.slice a3 len3 cap3] x ∧ Rd.wf29 x := by
    obtain ⟨fuel, hf⟩ := h3
    exact Rd.rd29.rd hf okw3
  obtain ⟨_, _, e3, qc3, qb3, qr3⟩ := hx3
  cases e3
  clear hA0 hval0
  refine Calls.mono (Hd.masks_c W hx0 wf0.1 a1 qr2 (fun t ht => (wf2 t ht).1) qr3 (fun t ht => (wf3 t ht).1)) fun e W' ⟨v, he, hv, F⟩ => ?_
  subst hv
  subst he
  have bel := F.below
  exact ⟨_, rfl, _, _, _, [], _, [], hW', trodAll_mk1 (shut_bool Try.underlying4 _), (trodAll_cons_mk (Below.trod laidOut (by kernel_rfl) (of_decide_eq_true (by kernel_rfl)) k0 bel lt0) (trodAll_cons_mk (shut_int Try.underlying3 w1) (trodAll_cons_mk (Below.trod laidOut (by kernel_rfl) (of_decide_eq_true (by kernel_rfl)) k2 bel lt2) (trodAll_cons_mk (Below.trod laidOut (by kernel_rfl) (of_decide_eq_true (by kernel_rfl)) k3 bel lt3) trodAll_mk0)))), rfl, bel.frame _, fun h => by cases h⟩
theorem over : Rows.hideMasksRow.holds Try.pinned (OpenSpec.ofChange Rows.hideMasksSpec) :=
  OpenClaim.holds_of_wide 3 Try.f3 rfl rfl rfl rfl rfl rfl rfl ⟨rfl, rfl, rfl, rfl, rfl⟩ rfl rfl rfl rfl rfl (by kernel_rfl) Try.func3 (by kernel_rfl)
    (of_decide_eq_true (by kernel_rfl)) (by unfold Func.isWrapper; first | (rw [if_pos (by decide +kernel)]; kernel_rfl) | (rw [if_neg (by decide +kernel)]; exact ⟨rfl, rfl⟩))
    (fun os started H enc _ => lifted os started H enc)
theorem proved : Rows.HideMasksSaid := over
#print axioms proved
end Go.Proofs.Ytbljpcikcefkiaa.LawHideMasks
namespace Go.Proofs.Ytbljpcikcefkiaa
/-- The statement, under a short name, for the claim. -/
theorem hideMasks_holds : Rows.HideMasksSaid := LawHideMasks.proved
end Go.Proofs.Ytbljpcikcefkiaa
