/- The law of forests, over trees: DeriveNobody. -/
import Derived.Test.YtcbkpekbfkaeeaaDoorFoN
set_option linter.unusedVariables false
set_option linter.unusedSimpArgs false
namespace Go.Proofs.YtcbkpekbfkaeeaaDoor.Fo
open Go Go.RowKit Go.Proofs.YtcbkpekbfkaeeaaDoor.Sx
open Go.Proofs.YtcbkpekbfkaeeaaDoor.Ls (mixed new_r Glb)
/-- A forest that nobody made. -/
def Nb (w : World) (q : Option Addr) : Prop := q = none ∨ ∃ b T cs, q = some ⟨b, 0, none⟩ ∧ Blk w b T cs ∧ cs[0]? = some (B false)
theorem Nb.up {w w' : World} {q : Option Addr} (h : Nb w q) (f : Fr [] w w') : Nb w' q := h.imp id (fun ⟨b, T, cs, e, hb, hc⟩ => ⟨b, T, cs, e, hb.fr0 f, hc⟩)
section
variable {Z : ZP} {w : World} {q : Option Addr}
theorem nis_t (h : Nb w q) : Cz Tryd.prog 37 [.pointer q] w (fun r w' => r = B false ∧ w' = w) Z := by
  refine go mixed Tryd.func37 Tryd.call37 rfl (Tr.e37 _) ?_
  rcases h with rfl | ⟨b, T, cs, rfl, hb, hc⟩
  · exact r_ret ⟨rfl, rfl⟩
  · refine r_ld (hb.cell (o := 0) hc) ?_
    exact r_ret ⟨rfl, rfl⟩
theorem nHas_t (h : Nb w q) (n : Int) : Cz Tryd.prog 17 [.pointer q, I n] w (fun r w' => r = B false ∧ w' = w) Z := by
  refine go mixed Tryd.func17 Tryd.call17 rfl (Tr.e17 _ _) ?_
  refine r_call (nis_t h) ?_
  rintro _ w1 ⟨rfl, rfl⟩
  exact r_ret ⟨rfl, rfl⟩
theorem nPar_t (h : Nb w q) (n : Int) : Cz Tryd.prog 18 [.pointer q, I n] w (fun r w' => r = .tuple #[I 0, B false] ∧ w' = w) Z := by
  refine go mixed Tryd.func18 Tryd.call18 rfl (Tr.e18 _ _) ?_
  refine r_call (nHas_t h n) ?_
  rintro _ w1 ⟨rfl, rfl⟩
  exact r_ret ⟨rfl, rfl⟩
theorem nUnd_t (h : Nb w q) (n r : Int) : Cz Tryd.prog 19 [.pointer q, I n, I r] w (fun r w' => r = B false ∧ w' = w) Z := by
  refine go mixed Tryd.func19 Tryd.call19 rfl (Tr.e19 _ _ _) ?_
  refine r_call (nHas_t h n) ?_
  rintro _ w1 ⟨rfl, rfl⟩
  exact r_ret ⟨rfl, rfl⟩
theorem nDep_t (h : Nb w q) (n : Int) : Cz Tryd.prog 20 [.pointer q, I n] w (fun r w' => r = I 0 ∧ w' = w) Z := by
  refine go mixed Tryd.func20 Tryd.call20 rfl (Tr.e20 _ _) ?_
  refine r_call (nis_t h) ?_
  rintro _ w1 ⟨rfl, rfl⟩
  exact r_ret ⟨rfl, rfl⟩
theorem nLen_t (h : Nb w q) : Cz Tryd.prog 21 [.pointer q] w (fun r w' => r = I 0 ∧ w' = w) Z := by
  refine go mixed Tryd.func21 Tryd.call21 rfl (Tr.e21 _) ?_
  refine r_call (nis_t h) ?_
  rintro _ w1 ⟨rfl, rfl⟩
  exact r_ret ⟨rfl, rfl⟩
theorem nRoot_t (h : Nb w q) (n : Int) : Cz Tryd.prog 24 [.pointer q, I n] w (fun r w' => r = I 4 ∧ w' = w) Z := by
  refine go mixed Tryd.func24 Tryd.call24 rfl (Tr.e24 _ _) ?_
  refine r_call (nis_t h) ?_
  rintro _ w1 ⟨rfl, rfl⟩
  exact r_ret ⟨rfl, rfl⟩
theorem nDer_t (h : Nb w q) (p n : Int) : Cz Tryd.prog 25 [.pointer q, I p, I n] w (fun r w' => r = I 4 ∧ w' = w) Z := by
  refine go mixed Tryd.func25 Tryd.call25 rfl (Tr.e25 _ _ _) ?_
  refine r_call (nis_t h) ?_
  rintro _ w1 ⟨rfl, rfl⟩
  exact r_ret ⟨rfl, rfl⟩
theorem nask_t (h : Nb w q) (n : Int) : Cz Tryd.prog 48 [.pointer q, I n] w (fun r w' => r = I 4 ∧ w' = w) Z := by
  refine go mixed Tryd.func48 Tryd.call48 rfl (Tr.e48 _ _) ?_
  refine r_call (nis_t h) ?_
  rintro _ w1 ⟨rfl, rfl⟩
  exact r_ret ⟨rfl, rfl⟩
theorem ntak_t (h : Nb w q) (n : Int) (x : Value) (b : Bool) : Cz Tryd.prog 39 [.pointer q, I n, x, B b] w (fun r w' => r = .tuple #[.slice none 0 0, I 4] ∧ w' = w) Z := by
  refine go mixed Tryd.func39 Tryd.call39 rfl (Tr.e39 _ _ _ _) ?_
  refine r_call (nask_t h n) ?_
  rintro _ w1 ⟨rfl, rfl⟩
  exact r_ret ⟨rfl, rfl⟩
theorem nPrune_t (h : Nb w q) (n : Int) : Cz Tryd.prog 22 [.pointer q, I n] w (fun r w' => r = .tuple #[.slice none 0 0, I 4] ∧ w' = w) Z := by
  refine go mixed Tryd.func22 Tryd.call22 rfl (Tr.e22 _ _) ?_
  refine r_call (ntak_t h n _ false) ?_
  rintro _ w1 ⟨rfl, rfl⟩
  exact r_ret ⟨rfl, rfl⟩
theorem nCut_t (h : Nb w q) (n : Int) : Cz Tryd.prog 23 [.pointer q, I n] w (fun r w' => r = .tuple #[.slice none 0 0, I 4] ∧ w' = w) Z := by
  refine go mixed Tryd.func23 Tryd.call23 rfl (Tr.e23 _ _) ?_
  refine r_call (ntak_t h n _ true) ?_
  rintro _ w1 ⟨rfl, rfl⟩
  exact r_ret ⟨rfl, rfl⟩
theorem nBelow1_t (h : Nb w q) {x : Value} {n : Int} {a b : Nat} (Ba : Blk w a 24 [.pointer q]) (Bb : Blk w b 3 [I n]) : Cz Tryd.prog 47 [x, Pt a 0, Pt b 0] w (fun r w' => w' = w) Z := by
  refine go mixed Tryd.func47 Tryd.call47 rfl (Tr.e47 _ _ _) ?_
  refine r_ld (Ba.cell rfl) ?_
  refine r_ld (Bb.cell rfl) ?_
  refine r_call (nHas_t h n) ?_
  rintro _ w1 ⟨rfl, rfl⟩
  exact r_ret rfl
theorem nbelow_t (h : Nb w q) (n most : Int) : Cz Tryd.prog 13 [.pointer q, I n, I most] w (fun r w' => r = .tuple #[.slice none 0 0, B true] ∧ Fr [] w w') Z := by
  refine go mixed Tryd.func13 Tryd.call13 rfl (Tr.e13 _ _ _) ?_
  refine r_box (cs := [I most]) (fun m w1 hm Bm f1 => ?_)
  have bl : Cz Tryd.prog 35 [.pointer q, I n] w1 (fun r w' => ∃ a b, r = .func (.func 47) [].toArray [Pt a 0, Pt b 0].toArray ∧ Blk w' a 24 [.pointer q] ∧ Blk w' b 3 [I n] ∧ Fr [] w1 w') Z := by
    refine go mixed Tryd.func35 Tryd.call35 rfl (Tr.e35 _ _) ?_
    refine r_box (cs := [.pointer q]) (fun a w2 ha Ba f2 => ?_)
    refine r_box (cs := [I n]) (fun b w3 hb Bb f3 => ?_)
    exact r_ret ⟨a, b, rfl, Ba.fr0 f3, Bb, f2.trans f3⟩
  refine r_call bl ?_
  rintro _ w2 ⟨a, b, rfl, Ba, Bb, f2⟩
  refine r_pu (o := ⟨none, .binOp .eql 68 (.const (.func (.func 47) [].toArray [Pt a 0, Pt b 0].toArray)) (.const .nilFunc) 0, 0, "", #[], none⟩) (fun w' => x_eqlf (l := []) (ps := #[42]) (rs := #[]) (vr := false) rfl rfl (by kernel_rfl)) ?_ rfl
  refine r_al Tryd.zeroValue35 (fun c w3 hc Bc f3 => ?_)
  have F := (f1.trans f2).trans f3
  refine r_call (nBelow1_t (h.up F) (Ba.fr0 f3) (Bb.fr0 f3)) ?_
  rintro _ w4 rfl
  refine r_ld (Bc.cell rfl) ?_
  exact r_ret ⟨rfl, F⟩
theorem bsl2n (a : Addr) (w : World) : (Instr.buildSlice 61 2 [(0, .pointer none), (1, .pointer (some a))].toArray).run Tryd.prog w = .ok (.slice (some ⟨w.heap.size, 0, none⟩) 2 2) (w.alloc (.cells [.pointer none, .pointer (some a)].toArray 24)) := by kernel_rfl
theorem nobody_t (hG : Glb w) (kd a b : Int) : Cz Tryd.prog 7 [.agg #[I kd, I a, I b]] w (fun r w' => r = B true ∧ Fr [] w w') Z := by
  refine go mixed Tryd.func7 Tryd.call7 rfl (Tr.e7 _) ?_
  refine r_box (cs := [I kd, I a, I b]) (fun o w1 ho Bo1 f1 => ?_)
  refine r_box (fun c w2 hc Bc f2 => ?_)
  refine r_new (bsl2n ⟨c, 0, none⟩ w2) (fun s w3 hs Bs f3 => ?_)
  subst hs
  have F3 := (f1.trans f2).trans f3
  have Bo3 := (Bo1.fr0 f2).fr0 f3
  obtain ⟨qs, hqs⟩ : ∃ qs : List (Option Addr), qs = [none, some ⟨c, 0, none⟩] := ⟨_, rfl⟩
  have hnb : ∀ q ∈ qs, Nb w3 q := by
    intro q hq
    rw [hqs] at hq
    simp at hq
    rcases hq with rfl | rfl
    · exact .inl rfl
    · exact .inr ⟨c, _, _, rfl, Bc.fr0 f3, rfl⟩
  refine r_loop (fun (i : Nat) => [I (i : Int), B false]) (fun i w' => i ≤ 2 ∧ Fr [] w3 w') (fun i => 2 - i) 0 ⟨Nat.zero_le _, Fr.refl _ _⟩ rfl ?_
  rintro i w4 ⟨hi, F⟩
  refine r_if (fun h1 => ?_) (fun h1 => ?_)
  · have h1 : i < 2 := by
      have h1 : (i : Int) < ((2 : Nat) : Int) := h1
      omega
    obtain ⟨q, hq⟩ := gt (xs := qs) (j := i) (by rw [hqs]; exact h1)
    have hN := (hnb q (List.mem_of_getElem? hq)).up F
    have hcell : w4.cell? ⟨w2.heap.size, 0 + ((i : Nat) : Int).toNat * 1, none⟩ = some (.pointer q) := by
      refine (Bs.fr0 F).cell ?_
      rw [hqs] at hq
      match i, hq with
      | 0, hq => cases hq; rfl
      | 1, hq => cases hq; rfl
      | i + 2, hq => simp at hq
    have Bo4 := Bo3.fr0 F
    refine r_ob ⟨by omega, by show ((i : Nat) : Int) < ((2 : Nat) : Int); omega⟩ ?_
    refine r_ld hcell ?_
    refine r_ld (Bo4.cell (o := 1) rfl) ?_
    refine r_call (nCut_t hN a) ?_
    rintro _ w5 ⟨rfl, rfl⟩
    refine r_ld (Bo4.cell (o := 1) rfl) ?_
    refine r_call (nPrune_t hN a) ?_
    rintro _ w6 ⟨rfl, rfl⟩
    refine r_ld (Bo4.cell (o := 1) rfl) ?_
    refine r_call (nPar_t hN a) ?_
    rintro _ w7 ⟨rfl, rfl⟩
    refine r_ld (Bo4.cell (o := 1) rfl) ?_
    refine r_call (nbelow_t hN a 5) ?_
    rintro _ w8 ⟨rfl, f8⟩
    have hN := hN.up f8
    have Bo8 := Bo4.fr0 f8
    have F := F.trans f8
    refine r_ld (Bo8.cell (o := 1) rfl) ?_
    refine r_call (nRoot_t hN a) ?_
    rintro _ w9 ⟨rfl, rfl⟩
    refine r_ld (Bo8.cell (o := 1) rfl) ?_
    refine r_ld (Bo8.cell (o := 2) rfl) ?_
    refine r_call (nDer_t hN a b) ?_
    rintro _ w10 ⟨rfl, rfl⟩
    refine r_ar (by decide) ?_
    refine r_ar (by decide) ?_
    refine r_ar (by decide) ?_
    refine r_ld (Bo8.cell (o := 1) rfl) ?_
    refine r_call (nDep_t hN a) ?_
    rintro _ w11 ⟨rfl, rfl⟩
    refine r_ar (by decide) ?_
    refine r_call (nLen_t hN) ?_
    rintro _ w12 ⟨rfl, rfl⟩
    refine r_ar (by decide) ?_
    refine r_ld (Bo8.cell (o := 1) rfl) ?_
    refine r_call (nHas_t hN a) ?_
    rintro _ w13 ⟨rfl, rfl⟩
    refine r_ld (Bo8.cell (o := 1) rfl) ?_
    refine r_ld (Bo8.cell (o := 1) rfl) ?_
    refine r_call (nUnd_t hN a a) ?_
    rintro _ w14 ⟨rfl, rfl⟩
    refine r_ar (by omega) ?_
    exact r_ag (i + 1) ⟨by omega, F⟩ (by omega) rfl
  · refine r_brk ?_
    refine r_call (awake_t (hG.fr (F3.trans F) (by simp))) ?_
    rintro _ w5 ⟨rfl, f5⟩
    exact r_ret ⟨rfl, (F3.trans F).trans f5⟩
theorem nobody_c (w : World) (hG : Glb w) (kd a b : Int) : Cl Tryd.prog 7 [.agg #[.int .i64 kd, .int .i64 a, .int .i64 b]] w (fun v w' => v = .bool true ∧ Fr [] w w') := (nobody_t hG kd a b).cl
end
end Go.Proofs.YtcbkpekbfkaeeaaDoor.Fo
