/- The law LinPlays: for every input it returns true, and its arguments read as before. No condition but the row's own. -/
import Derived.Test.YtmeheoflfdmgiaaRows
import Derived.Test.YtmeheoflfdmgiaaLnW11
import Derived.Test.YtmeheoflfdmgiaaSxD
import Derived.WalkKit
import Derived.ProofKit
import Derived.OpenShut
import Derived.ShutString
import Derived.ChangeOld
import Derived.ChangeSame
import Derived.ChangeVars
import Derived.JoinedOf
import Derived.Below
import Derived.SizedLaws
import Derived.Deep.Slices
import Derived.Deep.Strs
import Derived.Carry
set_option linter.unusedVariables false
namespace Go.Proofs.Ytmeheoflfdmgiaa.LawLinPlays
open Go Go.ChangeShapes Go.WideShapes Go.ChangeAt Go.RowKit Go.Deep Go.Proofs.Ytmeheoflfdmgiaa.Sx 
open Go.ChangeMaps (open_string shut_string)
theorem own : ownKnob Try.prog.godebug = none := by kernel_rfl
theorem laidOut : laidOutB Try.prog = true := by kernel_rfl
theorem len6 {l : List Value} (h : l.length = 6) : ∃ c0 c1 c2 c3 c4 c5, l = [c0, c1, c2, c3, c4, c5] := by
  match l, h with
  | [c0, c1, c2, c3, c4, c5], _ => exact ⟨c0, c1, c2, c3, c4, c5, rfl⟩
set_option maxRecDepth 100000 in
theorem lifted (os : Os) (started : os.Started) (H : Type) (enc : TypeId × Value → H) :
    ReturnsInHanded {} Try.checked os 7 .any (Rows.linPlaysSpec.pre6 enc Try.prog Try.f7 Rows.linPlaysRow.domain false) (Rows.linPlaysSpec.post enc Try.prog Try.f7 false true false false) := by
  refine returnsInHanded_of_change_sized (C := Try.checked) own started (by kernel_rfl) Try.func7
    (ChangeSpec.witness6 (enc := enc) (C := Try.checked) false ⟨#[], #[.slice none 0 0, .slice none 0 0, .agg #[.int .i64 0, .int .i64 0, .int .u64 0, .int .i64 0, .int .i64 0, .bool false], .agg #[.int .i64 0, .int .i64 0, .int .u64 0, .int .i64 0, .int .i64 0, .bool false]], []⟩ 8 (by kernel_rfl) (by kernel_rfl) (by kernel_rfl) (by kernel_rfl)) ?_
  intro W base args ds gs before hval0 hW hcnd hsz0 _
  have hval : ∀ (j : Nat) t v, Try.f7.params[j]? = some t → args[j]? = some v → Value.okWide Try.prog W .any base t v := hval0
  have hW' := hW
  obtain ⟨p, q, hA0, hV, rfl, hfz, hnd⟩ := hW
  have hA : DataW.TrodAll enc Try.prog W 0 (fun _ => true) true Try.f7.params.toList args.toList ds p := hA0
  rw [Try.params7] at hA hval
  obtain ⟨v0, vs0, d0, ds0, p0, q0, hargs, rfl, rfl, h0, r0⟩ := trodAll_cons hA
  obtain ⟨v1, vs1, d1, ds1, p1, q1, rfl, rfl, rfl, h1, r1⟩ := trodAll_cons r0
  obtain ⟨v2, vs2, d2, ds2, p2, q2, rfl, rfl, rfl, h2, r2⟩ := trodAll_cons r1
  obtain ⟨v3, vs3, d3, ds3, p3, q3, rfl, rfl, rfl, h3, r3⟩ := trodAll_cons r2
  obtain ⟨rfl, rfl, rfl⟩ := trodAll_nil r3
  obtain rfl : args = #[v0, v1, v2, v3] := by cases args; simp_all
  obtain ⟨rfl, rfl⟩ := trodVars_none hV
  obtain ⟨a0, len0, cap0, rfl⟩ := okWide_slice Try.underlying22 (hval 0 22 v0 rfl rfl)
  have k0 := h0
  have lt0 : ∀ x ∈ p0, x.block < W.heap.size := by obtain ⟨m, hm⟩ := k0; exact DataW.trod_lt m _ _ _ hm
  have f0 : len0 ≤ 9223372036854775807 ∧ ∀ j : Nat, j < len0 → ∃ (x : Addr) (z0 : Int) (z1 : Int) (z2 : Int) (z3 : Int) (z4 : Int) (z5 : Bool), a0 = some x ∧ (∀ i v, [(.int .i64 z0 : Value), .int .i64 z1, .int .u64 z2, .int .i64 z3, .int .i64 z4, .bool z5][i]? = some v → W.cell? ((x.add (((j : Nat) : Int).toNat * 6)).add i) = some v) ∧ (Lit.int .i64 z0).wf = true ∧ (Lit.int .i64 z1).wf = true ∧ (Lit.int .u64 z2).wf = true ∧ (Lit.int .i64 z3).wf = true ∧ (Lit.int .i64 z4).wf = true := by
    obtain ⟨fuel, hf⟩ := h0
    rcases open_slice Try.underlying22 hf with ⟨hcs, _⟩ | ⟨x, l, c, m, n, D, Pl, hcs, _, hlc, hcm, hm, _, hx0⟩
    · simp [Value.cells] at hcs
      obtain ⟨rfl, rfl, rfl⟩ := hcs
      exact ⟨by omega, fun j hj => absurd hj (by omega)⟩
    · simp [Value.cells] at hcs
      obtain ⟨rfl, rfl, rfl⟩ := hcs
      refine ⟨by simp only [maxLen] at hcm; omega, fun j hj => ?_⟩
      obtain ⟨cs, hc, hx⟩ := hx0 j (by rw [hm]; simp; omega)
      rw [show Try.prog.cellsOf 40 = 6 by kernel_rfl] at hc
      obtain ⟨xs, m2, _, _, hlen, hxl, hfs⟩ := DataW.trod_struct Try.underlying40 hx
      rw [show Try.prog.cellsOf 40 = 6 by kernel_rfl] at hlen
      obtain ⟨c0, c1, c2, c3, c4, c5, rfl⟩ := len6 hlen
      obtain ⟨z0, rfl, wf0⟩ := tr_int Try.underlying37 (by kernel_rfl) (cs := [c0, c1, c2, c3, c4, c5]) (o := 0) rfl (by rw [hxl]; decide) (hfs 0 _ rfl)
      obtain ⟨z1, rfl, wf1⟩ := tr_int Try.underlying3 (by kernel_rfl) (cs := [.int .i64 z0, c1, c2, c3, c4, c5]) (o := 1) rfl (by rw [hxl]; decide) (hfs 1 _ rfl)
      obtain ⟨z2, rfl, wf2⟩ := tr_int Try.underlying38 (by kernel_rfl) (cs := [.int .i64 z0, .int .i64 z1, c2, c3, c4, c5]) (o := 2) rfl (by rw [hxl]; decide) (hfs 2 _ rfl)
      obtain ⟨z3, rfl, wf3⟩ := tr_int Try.underlying3 (by kernel_rfl) (cs := [.int .i64 z0, .int .i64 z1, .int .u64 z2, c3, c4, c5]) (o := 3) rfl (by rw [hxl]; decide) (hfs 3 _ rfl)
      obtain ⟨z4, rfl, wf4⟩ := tr_int Try.underlying3 (by kernel_rfl) (cs := [.int .i64 z0, .int .i64 z1, .int .u64 z2, .int .i64 z3, c4, c5]) (o := 4) rfl (by rw [hxl]; decide) (hfs 4 _ rfl)
      obtain ⟨z5, rfl⟩ := tr_bool Try.underlying4 (by kernel_rfl) (cs := [.int .i64 z0, .int .i64 z1, .int .u64 z2, .int .i64 z3, .int .i64 z4, c5]) (o := 5) rfl (by rw [hxl]; decide) (hfs 5 _ rfl)
      refine ⟨x, z0, z1, z2, z3, z4, z5, rfl, ?_, wf0, wf1, wf2, wf3, wf4⟩
      rw [Int.toNat_natCast]
      exact cells_of hc
  have q0 : len0 ≤ cap0 := by
    obtain ⟨fuel, hf⟩ := k0
    rcases open_slice Try.underlying22 hf with ⟨hcs, _⟩ | ⟨x, l, c, m, n, D, Pl, hcs, _, hlc, hcm, hm, _, hx0⟩
    · simp [Value.cells] at hcs
      omega
    · simp [Value.cells] at hcs
      omega
  obtain ⟨a1, len1, cap1, rfl⟩ := okWide_slice Try.underlying24 (hval 1 24 v1 rfl rfl)
  have k1 := h1
  have lt1 : ∀ x ∈ p1, x.block < W.heap.size := by obtain ⟨m, hm⟩ := k1; exact DataW.trod_lt m _ _ _ hm
  have f1 : len1 ≤ 9223372036854775807 ∧ ∀ j : Nat, j < len1 → ∃ (x : Addr) (z : Int), a1 = some x ∧ W.cell? (x.add (((j : Nat) : Int).toNat * 1)) = some (.int .i64 z) ∧ (Lit.int .i64 z).wf = true := by
    obtain ⟨fuel, hf⟩ := h1
    rcases open_slice1 Try.underlying24 (by kernel_rfl) hf with ⟨hcs, _⟩ | ⟨x, l, c, m, n, V, D, Pl, hcs, _, hlc, hcm, hm, _, hx0⟩
    · simp [Value.cells] at hcs
      obtain ⟨rfl, rfl, rfl⟩ := hcs
      exact ⟨by omega, fun j hj => absurd hj (by omega)⟩
    · simp [Value.cells] at hcs
      obtain ⟨rfl, rfl, rfl⟩ := hcs
      refine ⟨by simp only [maxLen] at hcm; omega, fun j hj => ?_⟩
      obtain ⟨hc, hx⟩ := hx0 j (by rw [hm]; simp; omega)
      obtain ⟨z, hz, _, hwf⟩ := DataW.trod_int Try.underlying3 hx
      refine ⟨x, z, rfl, ?_, hwf⟩
      rw [Int.toNat_natCast, Nat.mul_one, hc]
      simpa using hz
  have q1 : len1 ≤ cap1 := by
    obtain ⟨fuel, hf⟩ := k1
    rcases open_slice1 Try.underlying24 (by kernel_rfl) hf with ⟨hcs, _⟩ | ⟨x, l, c, m, n, V, D, Pl, hcs, _, hlc, hcm, hm, _, hx0⟩
    · simp [Value.cells] at hcs
      omega
    · simp [Value.cells] at hcs
      omega
  obtain ⟨a2, rfl, hs2⟩ := okWide_struct Try.underlying40 (hval 2 40 v2 rfl rfl)
  have k2 := h2
  have lt2 : ∀ x ∈ p2, x.block < W.heap.size := by obtain ⟨m, hm⟩ := k2; exact DataW.trod_lt m _ _ _ hm
  have f2 : ∃ (z2_0 : Int) (z2_1 : Int) (z2_2 : Int) (z2_3 : Int) (z2_4 : Int) (z2_5 : Bool), a2 = #[.int .i64 z2_0, .int .i64 z2_1, .int .u64 z2_2, .int .i64 z2_3, .int .i64 z2_4, .bool z2_5] ∧ (Lit.int .i64 z2_0).wf = true ∧ (Lit.int .i64 z2_1).wf = true ∧ (Lit.int .u64 z2_2).wf = true ∧ (Lit.int .i64 z2_3).wf = true ∧ (Lit.int .i64 z2_4).wf = true := by
    obtain ⟨fuel, hf⟩ := h2
    obtain ⟨l⟩ := a2
    obtain ⟨xs, m2, _, _, hlen, hxl, hfs⟩ := DataW.trod_struct Try.underlying40 hf
    rw [show Try.prog.cellsOf 40 = 6 by kernel_rfl] at hlen
    replace hlen : l.length = 6 := hlen
    obtain ⟨c0, c1, c2, c3, c4, c5, rfl⟩ := len6 hlen
    obtain ⟨z0, rfl, wf0⟩ := tr_int Try.underlying37 (by kernel_rfl) (cs := [c0, c1, c2, c3, c4, c5]) (o := 0) rfl (by rw [hxl]; decide) (hfs 0 _ rfl)
    obtain ⟨z1, rfl, wf1⟩ := tr_int Try.underlying3 (by kernel_rfl) (cs := [.int .i64 z0, c1, c2, c3, c4, c5]) (o := 1) rfl (by rw [hxl]; decide) (hfs 1 _ rfl)
    obtain ⟨z2, rfl, wf2⟩ := tr_int Try.underlying38 (by kernel_rfl) (cs := [.int .i64 z0, .int .i64 z1, c2, c3, c4, c5]) (o := 2) rfl (by rw [hxl]; decide) (hfs 2 _ rfl)
    obtain ⟨z3, rfl, wf3⟩ := tr_int Try.underlying3 (by kernel_rfl) (cs := [.int .i64 z0, .int .i64 z1, .int .u64 z2, c3, c4, c5]) (o := 3) rfl (by rw [hxl]; decide) (hfs 3 _ rfl)
    obtain ⟨z4, rfl, wf4⟩ := tr_int Try.underlying3 (by kernel_rfl) (cs := [.int .i64 z0, .int .i64 z1, .int .u64 z2, .int .i64 z3, c4, c5]) (o := 4) rfl (by rw [hxl]; decide) (hfs 4 _ rfl)
    obtain ⟨z5, rfl⟩ := tr_bool Try.underlying4 (by kernel_rfl) (cs := [.int .i64 z0, .int .i64 z1, .int .u64 z2, .int .i64 z3, .int .i64 z4, c5]) (o := 5) rfl (by rw [hxl]; decide) (hfs 5 _ rfl)
    exact ⟨z0, z1, z2, z3, z4, z5, rfl, wf0, wf1, wf2, wf3, wf4⟩
  obtain ⟨z2_0, z2_1, z2_2, z2_3, z2_4, z2_5, rfl, wf2_0, wf2_1, wf2_2, wf2_3, wf2_4⟩ := f2
  obtain ⟨a3, rfl, hs3⟩ := okWide_struct Try.underlying40 (hval 3 40 v3 rfl rfl)
  have k3 := h3
  have lt3 : ∀ x ∈ p3, x.block < W.heap.size := by obtain ⟨m, hm⟩ := k3; exact DataW.trod_lt m _ _ _ hm
  have f3 : ∃ (z3_0 : Int) (z3_1 : Int) (z3_2 : Int) (z3_3 : Int) (z3_4 : Int) (z3_5 : Bool), a3 = #[.int .i64 z3_0, .int .i64 z3_1, .int .u64 z3_2, .int .i64 z3_3, .int .i64 z3_4, .bool z3_5] ∧ (Lit.int .i64 z3_0).wf = true ∧ (Lit.int .i64 z3_1).wf = true ∧ (Lit.int .u64 z3_2).wf = true ∧ (Lit.int .i64 z3_3).wf = true ∧ (Lit.int .i64 z3_4).wf = true := by
    obtain ⟨fuel, hf⟩ := h3
    obtain ⟨l⟩ := a3
    obtain ⟨xs, m2, _, _, hlen, hxl, hfs⟩ := DataW.trod_struct Try.underlying40 hf
    rw [show Try.prog.cellsOf 40 = 6 by kernel_rfl] at hlen
    replace hlen : l.length = 6 := hlen
    obtain ⟨c0, c1, c2, c3, c4, c5, rfl⟩ := len6 hlen
    obtain ⟨z0, rfl, wf0⟩ := tr_int Try.underlying37 (by kernel_rfl) (cs := [c0, c1, c2, c3, c4, c5]) (o := 0) rfl (by rw [hxl]; decide) (hfs 0 _ rfl)
    obtain ⟨z1, rfl, wf1⟩ := tr_int Try.underlying3 (by kernel_rfl) (cs := [.int .i64 z0, c1, c2, c3, c4, c5]) (o := 1) rfl (by rw [hxl]; decide) (hfs 1 _ rfl)
    obtain ⟨z2, rfl, wf2⟩ := tr_int Try.underlying38 (by kernel_rfl) (cs := [.int .i64 z0, .int .i64 z1, c2, c3, c4, c5]) (o := 2) rfl (by rw [hxl]; decide) (hfs 2 _ rfl)
    obtain ⟨z3, rfl, wf3⟩ := tr_int Try.underlying3 (by kernel_rfl) (cs := [.int .i64 z0, .int .i64 z1, .int .u64 z2, c3, c4, c5]) (o := 3) rfl (by rw [hxl]; decide) (hfs 3 _ rfl)
    obtain ⟨z4, rfl, wf4⟩ := tr_int Try.underlying3 (by kernel_rfl) (cs := [.int .i64 z0, .int .i64 z1, .int .u64 z2, .int .i64 z3, c4, c5]) (o := 4) rfl (by rw [hxl]; decide) (hfs 4 _ rfl)
    obtain ⟨z5, rfl⟩ := tr_bool Try.underlying4 (by kernel_rfl) (cs := [.int .i64 z0, .int .i64 z1, .int .u64 z2, .int .i64 z3, .int .i64 z4, c5]) (o := 5) rfl (by rw [hxl]; decide) (hfs 5 _ rfl)
    exact ⟨z0, z1, z2, z3, z4, z5, rfl, wf0, wf1, wf2, wf3, wf4⟩
  obtain ⟨z3_0, z3_1, z3_2, z3_3, z3_4, z3_5, rfl, wf3_0, wf3_1, wf3_2, wf3_3, wf3_4⟩ := f3
  clear hA0 hval0
  refine Calls.mono (Lin.plays_c W a0 len0 cap0 f0.1 f0.2 q0 a1 len1 cap1 f1.1 f1.2 q1 z2_0 z2_1 z2_2 z2_3 z2_4 z2_5 z3_0 z3_1 z3_2 z3_3 z3_4 z3_5) fun e W' ⟨v, he, hv, F⟩ => ?_
  subst hv
  subst he
  have bel := F.below
  exact ⟨_, rfl, _, _, _, [], _, [], hW', trodAll_mk1 (shut_bool Try.underlying4 _), (trodAll_cons_mk (Below.trod laidOut (by kernel_rfl) (of_decide_eq_true (by kernel_rfl)) k0 bel lt0) (trodAll_cons_mk (Below.trod laidOut (by kernel_rfl) (of_decide_eq_true (by kernel_rfl)) k1 bel lt1) (trodAll_cons_mk (Below.trod laidOut (by kernel_rfl) (of_decide_eq_true (by kernel_rfl)) k2 bel lt2) (trodAll_cons_mk (Below.trod laidOut (by kernel_rfl) (of_decide_eq_true (by kernel_rfl)) k3 bel lt3) trodAll_mk0)))), rfl, bel.frame _, fun h => by cases h⟩
theorem over : Rows.linPlaysRow.holds Try.pinned (OpenSpec.ofChange Rows.linPlaysSpec) :=
  OpenClaim.holds_of_wide 7 Try.f7 rfl rfl rfl rfl rfl rfl rfl ⟨rfl, rfl, rfl, rfl, rfl⟩ rfl rfl rfl rfl rfl (by kernel_rfl) Try.func7 (by kernel_rfl)
    (of_decide_eq_true (by kernel_rfl)) (by unfold Func.isWrapper; first | (rw [if_pos (by decide +kernel)]; kernel_rfl) | (rw [if_neg (by decide +kernel)]; exact ⟨rfl, rfl⟩))
    (fun os started H enc _ => lifted os started H enc)
theorem proved : Rows.LinPlaysSaid := over
#print axioms proved
end Go.Proofs.Ytmeheoflfdmgiaa.LawLinPlays
namespace Go.Proofs.Ytmeheoflfdmgiaa
/-- The statement, under a short name, for the claim. -/
theorem linPlays_holds : Rows.LinPlaysSaid := LawLinPlays.proved
end Go.Proofs.Ytmeheoflfdmgiaa
