/- The law LinOrders: for every input it returns true, and its arguments read as before. No condition but the row's own. -/
import Derived.Test.YtmeheoflfdmgiaaRows
import Derived.Test.YtmeheoflfdmgiaaLnW11
import Derived.Test.YtmeheoflfdmgiaaSxD
import Derived.WalkKit
import Derived.ProofKit
import Derived.OpenShut
import Derived.ShutString
import Derived.ChangeOld
import Derived.ChangeSame
import Derived.ChangeVars
import Derived.JoinedOf
import Derived.Below
import Derived.SizedLaws
import Derived.Deep.Slices
import Derived.Deep.Strs
import Derived.Carry
set_option linter.unusedVariables false
namespace Go.Proofs.Ytmeheoflfdmgiaa.LawLinOrders
open Go Go.ChangeShapes Go.WideShapes Go.ChangeAt Go.RowKit Go.Deep Go.Proofs.Ytmeheoflfdmgiaa.Sx 
open Go.ChangeMaps (open_string shut_string)
theorem own : ownKnob Try.prog.godebug = none := by kernel_rfl
theorem laidOut : laidOutB Try.prog = true := by kernel_rfl
theorem len6 {l : List Value} (h : l.length = 6) : ∃ c0 c1 c2 c3 c4 c5, l = [c0, c1, c2, c3, c4, c5] := by
  match l, h with
  | [c0, c1, c2, c3, c4, c5], _ => exact ⟨c0, c1, c2, c3, c4, c5, rfl⟩
set_option maxRecDepth 100000 in
theorem lifted (os : Os) (started : os.Started) (H : Type) (enc : TypeId × Value → H) :
    ReturnsInHanded {} Try.checked os 3 .any (Rows.linOrdersSpec.pre6 enc Try.prog Try.f3 Rows.linOrdersRow.domain false) (Rows.linOrdersSpec.post enc Try.prog Try.f3 false true false false) := by
  refine returnsInHanded_of_change_sized (C := Try.checked) own started (by kernel_rfl) Try.func3
    (ChangeSpec.witness6 (enc := enc) (C := Try.checked) false ⟨#[], #[.slice none 0 0], []⟩ 8 (by kernel_rfl) (by kernel_rfl) (by kernel_rfl) (by kernel_rfl)) ?_
  intro W base args ds gs before hval0 hW hcnd hsz0 _
  have hval : ∀ (j : Nat) t v, Try.f3.params[j]? = some t → args[j]? = some v → Value.okWide Try.prog W .any base t v := hval0
  have hW' := hW
  obtain ⟨p, q, hA0, hV, rfl, hfz, hnd⟩ := hW
  have hA : DataW.TrodAll enc Try.prog W 0 (fun _ => true) true Try.f3.params.toList args.toList ds p := hA0
  rw [Try.params3] at hA hval
  obtain ⟨v0, vs0, d0, ds0, p0, q0, hargs, rfl, rfl, h0, r0⟩ := trodAll_cons hA
  obtain ⟨rfl, rfl, rfl⟩ := trodAll_nil r0
  obtain rfl : args = #[v0] := by cases args; simp_all
  obtain ⟨rfl, rfl⟩ := trodVars_none hV
  obtain ⟨a0, len0, cap0, rfl⟩ := okWide_slice Try.underlying22 (hval 0 22 v0 rfl rfl)
  have k0 := h0
  have lt0 : ∀ x ∈ p0, x.block < W.heap.size := by obtain ⟨m, hm⟩ := k0; exact DataW.trod_lt m _ _ _ hm
  have f0 : len0 ≤ 9223372036854775807 ∧ ∀ j : Nat, j < len0 → ∃ (x : Addr) (z0 : Int) (z1 : Int) (z2 : Int) (z3 : Int) (z4 : Int) (z5 : Bool), a0 = some x ∧ (∀ i v, [(.int .i64 z0 : Value), .int .i64 z1, .int .u64 z2, .int .i64 z3, .int .i64 z4, .bool z5][i]? = some v → W.cell? ((x.add (((j : Nat) : Int).toNat * 6)).add i) = some v) ∧ (Lit.int .i64 z0).wf = true ∧ (Lit.int .i64 z1).wf = true ∧ (Lit.int .u64 z2).wf = true ∧ (Lit.int .i64 z3).wf = true ∧ (Lit.int .i64 z4).wf = true := by
    obtain ⟨fuel, hf⟩ := h0
    rcases open_slice Try.underlying22 hf with ⟨hcs, _⟩ | ⟨x, l, c, m, n, D, Pl, hcs, _, hlc, hcm, hm, _, hx0⟩
    · simp [Value.cells] at hcs
      obtain ⟨rfl, rfl, rfl⟩ := hcs
      exact ⟨by omega, fun j hj => absurd hj (by omega)⟩
    · simp [Value.cells] at hcs
      obtain ⟨rfl, rfl, rfl⟩ := hcs
      refine ⟨by simp only [maxLen] at hcm; omega, fun j hj => ?_⟩
      obtain ⟨cs, hc, hx⟩ := hx0 j (by rw [hm]; simp; omega)
      rw [show Try.prog.cellsOf 40 = 6 by kernel_rfl] at hc
      obtain ⟨xs, m2, _, _, hlen, hxl, hfs⟩ := DataW.trod_struct Try.underlying40 hx
      rw [show Try.prog.cellsOf 40 = 6 by kernel_rfl] at hlen
      obtain ⟨c0, c1, c2, c3, c4, c5, rfl⟩ := len6 hlen
      obtain ⟨z0, rfl, wf0⟩ := tr_int Try.underlying37 (by kernel_rfl) (cs := [c0, c1, c2, c3, c4, c5]) (o := 0) rfl (by rw [hxl]; decide) (hfs 0 _ rfl)
      obtain ⟨z1, rfl, wf1⟩ := tr_int Try.underlying3 (by kernel_rfl) (cs := [.int .i64 z0, c1, c2, c3, c4, c5]) (o := 1) rfl (by rw [hxl]; decide) (hfs 1 _ rfl)
      obtain ⟨z2, rfl, wf2⟩ := tr_int Try.underlying38 (by kernel_rfl) (cs := [.int .i64 z0, .int .i64 z1, c2, c3, c4, c5]) (o := 2) rfl (by rw [hxl]; decide) (hfs 2 _ rfl)
      obtain ⟨z3, rfl, wf3⟩ := tr_int Try.underlying3 (by kernel_rfl) (cs := [.int .i64 z0, .int .i64 z1, .int .u64 z2, c3, c4, c5]) (o := 3) rfl (by rw [hxl]; decide) (hfs 3 _ rfl)
      obtain ⟨z4, rfl, wf4⟩ := tr_int Try.underlying3 (by kernel_rfl) (cs := [.int .i64 z0, .int .i64 z1, .int .u64 z2, .int .i64 z3, c4, c5]) (o := 4) rfl (by rw [hxl]; decide) (hfs 4 _ rfl)
      obtain ⟨z5, rfl⟩ := tr_bool Try.underlying4 (by kernel_rfl) (cs := [.int .i64 z0, .int .i64 z1, .int .u64 z2, .int .i64 z3, .int .i64 z4, c5]) (o := 5) rfl (by rw [hxl]; decide) (hfs 5 _ rfl)
      refine ⟨x, z0, z1, z2, z3, z4, z5, rfl, ?_, wf0, wf1, wf2, wf3, wf4⟩
      rw [Int.toNat_natCast]
      exact cells_of hc
  have q0 : len0 ≤ cap0 := by
    obtain ⟨fuel, hf⟩ := k0
    rcases open_slice Try.underlying22 hf with ⟨hcs, _⟩ | ⟨x, l, c, m, n, D, Pl, hcs, _, hlc, hcm, hm, _, hx0⟩
    · simp [Value.cells] at hcs
      omega
    · simp [Value.cells] at hcs
      omega
  clear hA0 hval0
  refine Calls.mono (Lin.orders_c W a0 len0 cap0 f0.1 f0.2 q0) fun e W' ⟨v, he, hv, F⟩ => ?_
  subst hv
  subst he
  have bel := F.below
  exact ⟨_, rfl, _, _, _, [], _, [], hW', trodAll_mk1 (shut_bool Try.underlying4 _), (trodAll_cons_mk (Below.trod laidOut (by kernel_rfl) (of_decide_eq_true (by kernel_rfl)) k0 bel lt0) trodAll_mk0), rfl, bel.frame _, fun h => by cases h⟩
theorem over : Rows.linOrdersRow.holds Try.pinned (OpenSpec.ofChange Rows.linOrdersSpec) :=
  OpenClaim.holds_of_wide 3 Try.f3 rfl rfl rfl rfl rfl rfl rfl ⟨rfl, rfl, rfl, rfl, rfl⟩ rfl rfl rfl rfl rfl (by kernel_rfl) Try.func3 (by kernel_rfl)
    (of_decide_eq_true (by kernel_rfl)) (by unfold Func.isWrapper; first | (rw [if_pos (by decide +kernel)]; kernel_rfl) | (rw [if_neg (by decide +kernel)]; exact ⟨rfl, rfl⟩))
    (fun os started H enc _ => lifted os started H enc)
theorem proved : Rows.LinOrdersSaid := over
#print axioms proved
end Go.Proofs.Ytmeheoflfdmgiaa.LawLinOrders
namespace Go.Proofs.Ytmeheoflfdmgiaa
/-- The statement, under a short name, for the claim. -/
theorem linOrders_holds : Rows.LinOrdersSaid := LawLinOrders.proved
end Go.Proofs.Ytmeheoflfdmgiaa
