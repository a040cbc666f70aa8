/- The bound; one channel of settings; the lane and the place of a tenant: both texts. -/
import Derived.Test.YtdjljgfffcjfmaaGreatDoorQMl
import Derived.Test.YtdjljgfffcjfmaaGreatDoorQMk
set_option linter.unusedVariables false
set_option linter.unusedSimpArgs false
namespace Go.Proofs.YtdjljgfffcjfmaaGreatDoor.Cg
open Go Go.RowKit Go.Proofs.YtdjljgfffcjfmaaGreatDoor.Sx
open Go.Proofs.YtdjljgfffcjfmaaGreatDoor.Bi (mixed take_s Has_t rHas_t)
open Go.Proofs.YtdjljgfffcjfmaaGreatDoor.Cf
def boundP (c : GConf) : Int := if win c.pending 1 4 = true then 6 * c.pending else 0
section
variable {Z : ZP} {w : World}
theorem Bound_t {cs : List Value} {c : GConf} (hc : rConf.r w cs c) : Cz Tryz.prog 29 [.agg cs.toArray] w (fun r w' => r = I (boundP c) ∧ Fr [] w w') Z := by
  obtain ⟨A0, c0, A1, c1, A2, c2, A3, c3, A4, c4, rfl, k0, k1, k2, k3, k4⟩ := oConf hc
  refine go mixed Tryz.func29 Tryz.call29 rfl (Tr.e29 _) ?_
  refine b_box (Bx.nil w) (fun v1 w1 H => ?_)
  refine b_ld H 0 rfl rfl ?_
  refine r_call (within_t c.pending 1 4) ?_
  rintro _ w2 ⟨rfl, rfl⟩
  refine r_ifbn (fun h => b_ret H (fun F => ⟨by unfold boundP; rw [h]; rfl, F⟩)) (fun h => ?_)
  refine b_ld H 0 rfl rfl ?_
  have h2 : 1 ≤ c.pending ∧ c.pending ≤ 4 := by unfold win at h; simpa using h
  refine r_ar (by omega) ?_
  exact b_ret H (fun F => ⟨by unfold boundP; rw [h]; rfl, F⟩)
def chAt (c : GConf) (n : Int) : GChannel := if 0 ≤ n ∧ n < c.channels.length then (c.channels[n.toNat]?).getD ⟨0, [], []⟩ else ⟨0, [], []⟩
theorem channel_t {cs : List Value} {c : GConf} (hc : rConf.r w cs c) (n : Int) : Cz Tryz.prog 65 [.agg cs.toArray, I n] w (fun r w' => ∃ us, r = .agg us.toArray ∧ rChannel.r w' us (chAt c n) ∧ Fr [] w w') Z := by
  obtain ⟨A0, c0, A1, c1, A2, c2, A3, c3, A4, c4, rfl, k0, k1, k2, k3, k4⟩ := oConf hc
  refine go mixed Tryz.func65 Tryz.call65 rfl (Tr.e65 _ _) ?_
  refine b_box (Bx.nil w) (fun v1 w1 H => ?_)
  refine b_al (zs := [I 0, .slice none 0 0, .slice none 0 0]) H Tryz.zeroValue58 (fun v4 w2 H => ?_)
  refine b_ld H 1 rfl rfl ?_
  have hb := k2.2.1
  simp only [big] at hb
  refine r_ar (by omega) ?_
  refine r_call (within_t n 0 _) ?_
  rintro _ w3 ⟨rfl, rfl⟩
  refine r_ifbn (fun h => ?_) (fun h => ?_)
  · have hn : ¬ (0 ≤ n ∧ n < c.channels.length) := by unfold win at h; simp at h; omega
    refine b_stn (cs := [I 0, .slice none 0 0, .slice none 0 0]) H 0 rfl Tryz.sizeOf58 (by intro v hv; simp only [List.mem_cons, List.not_mem_nil, or_false] at hv; rcases hv with rfl | rfl | rfl <;> rfl) (fun w4 H => ?_)
    refine b_ldn (cs := [I 0, .slice none 0 0, .slice none 0 0]) H 0 rfl ?_
    refine b_ret H (fun F => ⟨_, rfl, ?_, F⟩)
    unfold chAt
    rw [if_neg hn]
    exact mChannel (x := ⟨0, [], []⟩) ⟨Nat.le_refl _, Nat.zero_le _, Rw.nil⟩ ⟨Nat.le_refl _, Nat.zero_le _, Rw.nil⟩
  · have hn : 0 ≤ n ∧ n < c.channels.length := by unfold win at h; simp at h; omega
    obtain ⟨x, hx⟩ := gt (xs := c.channels) (j := n.toNat) (by omega)
    obtain ⟨ad, es, rfl, rd, e3⟩ := k2.2.2 n.toNat x hx
    have hl := rChannel.len e3
    refine b_ld H 1 rfl rfl ?_
    refine r_ob ⟨by omega, by omega⟩ ?_
    refine r_ldn (rd.fr H.F) ?_
    obtain ⟨L1, d1, L2, d2, rfl, q1, q2⟩ := oChannel e3
    refine b_stn (cs := [I x.label, .slice L1 x.lanes.length d1, .slice L2 x.receivers.length d2]) H 0 rfl Tryz.sizeOf58 (by intro v hv; simp only [List.mem_cons, List.not_mem_nil, or_false] at hv; rcases hv with rfl | rfl | rfl <;> rfl) (fun w4 H4 => ?_)
    refine b_ldn (cs := [I x.label, .slice L1 x.lanes.length d1, .slice L2 x.receivers.length d2]) H4 0 rfl ?_
    refine b_ret H4 (fun F => ⟨_, rfl, ?_, F⟩)
    unfold chAt
    rw [if_pos hn, hx]
    exact rChannel.up F e3
end
end Go.Proofs.YtdjljgfffcjfmaaGreatDoor.Cg

/- The lane and the place of a tenant: the reference's. -/
set_option linter.unusedVariables false
set_option linter.unusedSimpArgs false
namespace Go.Proofs.YtdjljgfffcjfmaaGreatDoor.Cg
open Go Go.RowKit Go.Proofs.YtdjljgfffcjfmaaGreatDoor.Sx
open Go.Proofs.YtdjljgfffcjfmaaGreatDoor.Bi (mixed take_s Has_t rHas_t)
open Go.Proofs.YtdjljgfffcjfmaaGreatDoor.Cf
section
variable {Z : ZP} {w : World}
end
end Go.Proofs.YtdjljgfffcjfmaaGreatDoor.Cg

/- What settings that may be are like. -/
set_option linter.unusedVariables false
set_option linter.unusedSimpArgs false
namespace Go.Proofs.YtdjljgfffcjfmaaGreatDoor.Cg
open Go Go.RowKit Go.Proofs.YtdjljgfffcjfmaaGreatDoor.Sx
open Go.Proofs.YtdjljgfffcjfmaaGreatDoor.Cf
theorem firstv_zero {e : Nat → Int} : ∀ {n : Nat}, (firstv e n).2 = 0 → ∀ i, i < n → e i = 0 := by
  intro n h i hi
  apply Classical.byContradiction
  intro hne
  have ex : ∃ j, j < n ∧ ¬ e j = 0 ∧ ∀ k, k < j → e k = 0 := by
    have : ∀ m, m ≤ n → (∀ k, k < m → e k = 0) ∨ ∃ j, j < m ∧ ¬ e j = 0 ∧ ∀ k, k < j → e k = 0 := by
      intro m
      induction m with
      | zero => intro _; left; intro k hk; omega
      | succ m ih =>
        intro hm
        rcases ih (by omega) with h1 | ⟨j, h1, h2, h3⟩
        · by_cases h2 : e m = 0
          · left
            intro k hk
            rcases Nat.lt_or_ge k m with h3 | h3
            · exact h1 k h3
            · obtain rfl : k = m := by omega
              exact h2
          · right; exact ⟨m, by omega, h2, h1⟩
        · right; exact ⟨j, by omega, h2, h3⟩
    rcases this n (Nat.le_refl _) with h1 | h1
    · exact absurd (h1 i hi) hne
    · exact h1
  obtain ⟨j, h1, h2, h3⟩ := ex
  rw [firstv_at h1 h3 h2] at h
  exact h2 h
theorem fst0_zero {e : Nat → Int} : ∀ {n : Nat}, fst0 e n = 0 → ∀ i, i < n → e i = 0 := by
  intro n h i hi
  apply Classical.byContradiction
  intro hne
  have ex : ∃ j, j < n ∧ ¬ e j = 0 ∧ ∀ k, k < j → e k = 0 := by
    have : ∀ m, m ≤ n → (∀ k, k < m → e k = 0) ∨ ∃ j, j < m ∧ ¬ e j = 0 ∧ ∀ k, k < j → e k = 0 := by
      intro m
      induction m with
      | zero => intro _; left; intro k hk; omega
      | succ m ih =>
        intro hm
        rcases ih (by omega) with h1 | ⟨j, h1, h2, h3⟩
        · by_cases h2 : e m = 0
          · left
            intro k hk
            rcases Nat.lt_or_ge k m with h3 | h3
            · exact h1 k h3
            · obtain rfl : k = m := by omega
              exact h2
          · right; exact ⟨m, by omega, h2, h1⟩
        · right; exact ⟨j, by omega, h2, h3⟩
    rcases this n (Nat.le_refl _) with h1 | h1
    · exact absurd (h1 i hi) hne
    · exact h1
  obtain ⟨j, h1, h2, h3⟩ := ex
  rw [fst0_at h1 h3 h2] at h
  exact h2 h
/-- Each channel of settings that may be. -/
theorem chan_ok {c : GConf} (h : (confE c).2 = 0) {i : Nat} {x : GChannel} (hx : c.channels[i]? = some x) : isL c x.label = true ∧ (∀ (j : Nat) l, x.lanes[j]? = some l → lanB c x j = 0) ∧ (∀ (j : Nat) r, x.receivers[j]? = some r → recB c x j = 0) := by
  have h2 := (conf_ok h).2.2.1
  unfold chE at h2
  split at h2
  · cases h2
  have h3 := firstv_zero h2 i (List.getElem?_eq_some_iff.1 hx).1
  unfold chB at h3
  rw [hx] at h3
  dsimp only at h3
  split at h3
  · rename_i hl
    split at h3
    · rename_i hz
      exact ⟨hl, fun j l hj => fst0_zero hz j (List.getElem?_eq_some_iff.1 hj).1, fun j r hj => fst0_zero h3 j (List.getElem?_eq_some_iff.1 hj).1⟩
    · rename_i hz; exact absurd h3 hz
  · cases h3
theorem lanB_T {c : GConf} {x : GChannel} {j : Nat} {l : GLane} (h : lanB c x j = 0) (hl : x.lanes[j]? = some l) : isT c l.tenant = true := by
  unfold lanB at h
  rw [hl] at h
  dsimp only at h
  split at h
  · rename_i h1
    simp only [Bool.and_eq_true] at h1
    exact h1.1.1
  · cases h
/-- Whether what is received comes back, and what is wrong. -/
def twoP (c : GConf) (n l : Int) : Bool × Int := if (confE c).2 = 0 then
    (match (if 0 ≤ l then (chAt c n).lanes[l.toNat]? else none) with
      | some y => ((chAt c n).receivers.all (fun r => fw c (tl c r.tenant) (tl c y.tenant)), 0)
      | none => (false, 5))
  else (false, (confE c).2)
end Go.Proofs.YtdjljgfffcjfmaaGreatDoor.Cg

/- Two-way lanes: both texts. -/
set_option linter.unusedVariables false
set_option linter.unusedSimpArgs false
namespace Go.Proofs.YtdjljgfffcjfmaaGreatDoor.Cg
open Go Go.RowKit Go.Proofs.YtdjljgfffcjfmaaGreatDoor.Sx
open Go.Proofs.YtdjljgfffcjfmaaGreatDoor.Bi (mixed take_s Has_t rHas_t)
open Go.Proofs.YtdjljgfffcjfmaaGreatDoor.Cf
section
variable {Z : ZP} {w : World}
theorem TwoWay_t {cs : List Value} {c : GConf} (hc : rConf.r w cs c) (hw : Wf c) (n l : Int) : Cz Tryz.prog 25 [.agg cs.toArray, I n, I l] w (fun r w' => r = .tuple #[B (twoP c n l).1, I (twoP c n l).2] ∧ Fr [] w w') Z := by
  have hlc := rConf.len hc
  obtain ⟨A0, c0, A1, c1, A2, c2, A3, c3, A4, c4, rfl, k0, k1, k2, k3, k4⟩ := oConf hc
  refine go mixed Tryz.func25 Tryz.call25 rfl (Tr.e25 _ _ _) ?_
  refine b_box (Bx.nil w) (fun v3 w1 H => ?_)
  refine b_ldn H 0 rfl ?_ hlc
  refine r_call (Check_t (rConf.up H.F hc) hw) ?_
  rintro _ w2 ⟨rfl, f2⟩
  have H := H.fr f2
  refine r_if (fun h => b_ret H (fun F => ⟨by unfold twoP; rw [if_neg h]; rfl, F⟩)) (fun h => ?_)
  have h0 : (confE c).2 = 0 := by omega
  have O := conf_ok2 hw h0
  refine b_ldn H 0 rfl ?_ hlc
  refine r_call (channel_t (rConf.up H.F hc) n) ?_
  rintro _ w3 ⟨us, rfl, hu, f3⟩
  have H := H.fr f3
  obtain ⟨x, hx⟩ : ∃ x, x = chAt c n := ⟨_, rfl⟩
  rw [← hx] at hu
  obtain ⟨L1, d1, L2, d2, rfl, q1, q2⟩ := oChannel hu
  refine b_as (cs := [I x.label, .slice L1 x.lanes.length d1, .slice L2 x.receivers.length d2]) (zs := [I 0, .slice none 0 0, .slice none 0 0]) (n := 3) (Bx.nil w3) Tryz.zeroValue58 Tryz.sizeOf58 (by intro v hv; simp only [List.mem_cons, List.not_mem_nil, or_false] at hv; rcases hv with rfl | rfl | rfl <;> rfl) (fun v10 w4 K => ?_)
  have H := H.fr K.F
  refine b_ld K 0 rfl rfl ?_
  have hb := q1.2.1
  simp only [big] at hb
  refine r_ar (by omega) ?_
  refine r_call (within_t l 0 _) ?_
  rintro _ w5 ⟨rfl, rfl⟩
  refine r_ifbn (fun hl => ?_) (fun hl => ?_)
  · have hn : ¬ (0 ≤ l ∧ l < x.lanes.length) := by unfold win at hl; simp at hl; omega
    refine b_ret H (fun F => ⟨?_, F⟩)
    have e : (if 0 ≤ l then (chAt c n).lanes[l.toNat]? else none) = none := by
      rw [← hx]
      split
      · exact List.getElem?_eq_none (by omega)
      · rfl
    unfold twoP
    rw [if_pos h0, e]
  have hn : 0 ≤ l ∧ l < x.lanes.length := by unfold win at hl; simp at hl; omega
  obtain ⟨y, hy⟩ := gt (xs := x.lanes) (j := l.toNat) (by omega)
  have eP : twoP c n l = (x.receivers.all (fun r => fw c (tl c r.tenant) (tl c y.tenant)), 0) := by
    unfold twoP
    rw [if_pos h0, if_pos hn.1, ← hx, hy]
  rw [eP]
  obtain ⟨i, hch⟩ : ∃ i, c.channels[i]? = some x := by
    unfold chAt at hx
    split at hx
    · rename_i hr
      obtain ⟨z, hz⟩ := gt (xs := c.channels) (j := n.toNat) (by omega)
      rw [hz] at hx
      have e : x = z := hx
      subst e
      exact ⟨_, hz⟩
    · subst hx; simp at hy
  obtain ⟨x1, x2, x3⟩ := chan_ok h0 hch
  have hT := lanB_T (x2 _ _ hy) hy
  obtain ⟨tt, ht1, ht2, ht3, ht4⟩ := tl_at hT
  refine r_dr (fun w6 f6 => ?_)
  have H := H.fr f6
  have K := K.fr f6
  refine b_ld H 0 rfl rfl ?_
  refine b_ld K 0 rfl rfl ?_
  obtain ⟨ad, es, rfl, rd, e3⟩ := (q1.2.2.up K.F) l.toNat y hy
  obtain rfl := e3
  refine r_ob ⟨by omega, by omega⟩ ?_
  refine r_ld (rd.2 0 _ rfl) ?_
  obtain ⟨ad2, es2, rfl, rd2, e4⟩ := (k1.2.2.up H.F) y.tenant.toNat tt ht1
  obtain rfl := e4
  refine r_ob ⟨by omega, by omega⟩ ?_
  refine r_ld (rd2.2 0 _ rfl) ?_
  refine b_ld K 0 rfl rfl ?_
  have hb2 := q2.2.1
  simp only [big] at hb2
  refine r_loop (fun (i : Nat) => [I (i : Int), I 0, B false]) (fun i w' => i ≤ x.receivers.length ∧ (∀ (j : Nat) r, j < i → x.receivers[j]? = some r → fw c (tl c r.tenant) (tl c y.tenant) = true) ∧ Fr [] w6 w') (fun i => x.receivers.length - i) 0 ⟨Nat.zero_le _, fun _ _ h => by omega, Fr.refl _ _⟩ rfl ?_
  rintro i w7 ⟨hi, hno, F⟩
  have H := H.fr F
  have K := K.fr F
  refine r_if (fun h => ?_) (fun h => ?_)
  · obtain ⟨r, hr⟩ := gt (xs := x.receivers) (j := i) (by omega)
    obtain ⟨ad3, es3, rfl, rd3, e5⟩ := (q2.2.2.up K.F) i r hr
    obtain rfl := e5
    have hTr := recB_T (x3 _ _ hr) hr
    obtain ⟨tr, hr1, hr2, hr3, hr4⟩ := tl_at hTr
    refine r_ob ⟨by omega, by omega⟩ ?_
    refine r_ldn rd3 ?_
    refine b_as (cs := eReceiver r) (zs := [I 0, B false]) (n := 2) (Bx.nil w7) Tryz.zeroValue60 Tryz.sizeOf60 (iReceiver r) (fun v13 w8 M => ?_)
    refine b_dr M (fun w8 M => ?_)
    have H := H.fr M.F
    refine b_ldn H 0 rfl ?_ hlc
    refine r_pus (fun w' => ask8 _ _ _ _ _ _ _ _ w') ?_
    refine b_ld H 0 rfl rfl ?_
    refine b_ld M 0 rfl rfl ?_
    obtain ⟨ad4, es4, e7, rd4, e6⟩ := (k1.2.2.up H.F) r.tenant.toNat tr hr1
    cases e7
    obtain rfl := e6
    refine r_ob ⟨by omega, by omega⟩ ?_
    refine r_ld (rd4.2 0 _ rfl) ?_
    rw [← hr2, ← ht2]
    refine r_call (flows_t (rConf.up H.F hc) hw (tl_lab O hTr) (O.lab (tl_lab O hT))) ?_
    rintro _ w9 ⟨rfl, f9⟩
    have H := H.fr f9
    refine r_ifbn (fun e => ?_) (fun e => ?_)
    · refine b_ret H (fun F => ⟨?_, F⟩)
      have e2 : x.receivers.all (fun r => fw c (tl c r.tenant) (tl c y.tenant)) = false := by
        rw [List.all_eq_false]
        exact ⟨r, List.mem_of_getElem? hr, by rw [e]; simp⟩
      rw [e2]
    · refine r_ar (by omega) ?_
      refine r_ag (i + 1) ⟨by omega, fun j z hj hz => ?_, (F.trans M.F).trans f9⟩ (by omega) rfl
      rcases Nat.lt_or_ge j i with h' | h'
      · exact hno j z h' hz
      · obtain rfl : j = i := by omega
        rw [hr] at hz; cases hz; exact e
  · have : i = x.receivers.length := by omega
    subst this
    refine r_brk (b_ret H (fun F => ⟨?_, F⟩))
    have e : x.receivers.all (fun r => fw c (tl c r.tenant) (tl c y.tenant)) = true := List.all_eq_true.2 (fun r hr => by
      obtain ⟨j, hj⟩ := List.getElem?_of_mem hr
      exact hno j r (List.getElem?_eq_some_iff.1 hj).1 hj)
    rw [e]
end
end Go.Proofs.YtdjljgfffcjfmaaGreatDoor.Cg

/- The example. -/
set_option linter.unusedVariables false
set_option linter.unusedSimpArgs false
namespace Go.Proofs.YtdjljgfffcjfmaaGreatDoor.Cg
open Go Go.RowKit Go.Proofs.YtdjljgfffcjfmaaGreatDoor.Sx
open Go.Proofs.YtdjljgfffcjfmaaGreatDoor.Bi (mixed take_s Has_t rHas_t)
open Go.Proofs.YtdjljgfffcjfmaaGreatDoor.Cf
/-- A block of plain data, as a row. -/
theorem rw_blk {α : Type} {enc : α → List Value} {n : Nat} {hl : ∀ x, (enc x).length = n} {h1 : ∀ x, ∀ v ∈ enc x, v.oneCell' = true} {w : World} {T b : Nat} {l : List α} (h : Blk w b T (flat enc l)) : Rw (rE enc n hl h1) w (some ⟨b, 0, none⟩) l := by
  intro j x hj
  refine ⟨_, enc x, rfl, ⟨hl x, fun i v hv => ?_⟩, rfl⟩
  rw [addA_addA]
  show w.cell? ⟨b, 0 + (j * n + i), none⟩ = _
  rw [Nat.zero_add]
  refine h.cell ?_
  have hi := (List.getElem?_eq_some_iff.1 hv).1
  rw [hl x] at hi
  rw [flat_get hl hj hi]
  exact hv
def exC : GConf := ⟨[3, 2], [⟨0, 4⟩, ⟨1, 0⟩], [⟨1, [⟨0, 4, true⟩], [⟨1, true⟩]⟩], [], [0, 1], 3, 2, 4⟩
section
variable {Z : ZP} {w : World}
theorem example_t : Cz Tryz.prog 48 [] w (fun r w' => ∃ us, r = .agg us.toArray ∧ rConf.r w' us exC ∧ Fr [] w w') Z := by
  refine go mixed Tryz.func48 Tryz.call48 rfl Tr.e48 ?_
  refine b_al (zs := [.slice none 0 0, .slice none 0 0, .slice none 0 0, .slice none 0 0, .slice none 0 0, I 0, I 0, I 0]) (Bx.nil w) Tryz.zeroValue28 (fun v0 w1 H => ?_)
  have v0lt := (H.blk (i := 0) rfl).lt
  refine r_new (v := .slice (some ⟨w1.heap.size, 0, none⟩) 2 2) (T := 48) (cs := [.int .u64 3, .int .u64 2]) (by kernel_rfl) (fun b2 w2 e2 B2 f2 => ?_)
  rw [← e2]
  have H := H.fr f2
  refine r_new (v := .slice (some ⟨w2.heap.size, 0, none⟩) 2 2) (T := 54) (cs := [I 0, I 4, I 1, I 0]) (by kernel_rfl) (fun b3 w3 e3 B3 f3 => ?_)
  rw [← e3]
  have H := H.fr f3
  refine r_new (v := .slice (some ⟨w3.heap.size, 0, none⟩) 1 1) (T := 63) (cs := [I 0, I 4, B true]) (by kernel_rfl) (fun b4 w4 e4 B4 f4 => ?_)
  rw [← e4]
  have H := H.fr f4
  refine r_new (v := .slice (some ⟨w4.heap.size, 0, none⟩) 1 1) (T := 60) (cs := [I 1, B true]) (by kernel_rfl) (fun b5 w5 e5 B5 f5 => ?_)
  rw [← e5]
  have H := H.fr f5
  refine r_new (v := .slice (some ⟨w5.heap.size, 0, none⟩) 1 1) (T := 58) (cs := [I 1, .slice (some ⟨b4, 0, none⟩) 1 1, .slice (some ⟨b5, 0, none⟩) 1 1]) (by kernel_rfl) (fun b6 w6 e6 B6 f6 => ?_)
  rw [← e6]
  have H := H.fr f6
  refine r_new (v := .slice (some ⟨w6.heap.size, 0, none⟩) 2 2) (T := 3) (cs := [I 0, I 1]) (by kernel_rfl) (fun b7 w7 e7 B7 f7 => ?_)
  rw [← e7]
  have H := H.fr f7
  have lv0 := H.ge (i := 0) rfl
  refine r_stn (cs := [.slice (some ⟨b2, 0, none⟩) 2 2, .slice (some ⟨b3, 0, none⟩) 2 2, .slice (some ⟨b6, 0, none⟩) 1 1, .slice none 0 0, .slice (some ⟨b7, 0, none⟩) 2 2, I 3, I 2, I 4]) (H.blk (i := 0) rfl) Tryz.sizeOf28 (by intro v hv; simp only [List.mem_cons, List.not_mem_nil, or_false] at hv; rcases hv with rfl | rfl | rfl | rfl | rfl | rfl | rfl | rfl <;> rfl) (fun w8 B8 f8 => ?_)
  refine r_ldn (B8.rd rfl) ?_
  have F8 := H.F.trans_new f8 (fun q hq => .inr (by simp at hq; omega))
  have s2 := f2.size
  have s3 := f3.size
  have s4 := f4.size
  have s5 := f5.size
  have s6 := f6.size
  have ne : ∀ b, w1.heap.size ≤ b → b ∉ [v0] := fun b hb hq => by simp at hq; omega
  have C2 := ((((((B2.fr0 f3).fr0 f4).fr0 f5).fr0 f6).fr0 f7).fr f8 (ne _ (by omega)))
  have C3 := (((((B3.fr0 f4).fr0 f5).fr0 f6).fr0 f7).fr f8 (ne _ (by omega)))
  have C4 := ((((B4.fr0 f5).fr0 f6).fr0 f7).fr f8 (ne _ (by omega)))
  have C5 := (((B5.fr0 f6).fr0 f7).fr f8 (ne _ (by omega)))
  have C6 := ((B6.fr0 f7).fr f8 (ne _ (by omega)))
  have C7 := (B7.fr f8 (ne _ (by omega)))
  refine r_ret ⟨_, rfl, mConf (x := exC) (c0 := 2) (c1 := 2) (c2 := 1) (c3 := 0) (c4 := 2) ⟨by decide, by decide, rw_blk (l := [3, 2]) C2⟩ ⟨by decide, by decide, (show Rw rTenant w8 _ [⟨0, 4⟩, ⟨1, 0⟩] from rw_blk (enc := eTenant) (l := [⟨0, 4⟩, ⟨1, 0⟩]) C3)⟩ ⟨by decide, by decide, ?_⟩ ⟨by decide, by decide, Rw.nil⟩ ⟨by decide, by decide, rw_blk (l := [0, 1]) C7⟩, F8⟩
  intro j x hj
  match j, hj with
  | 0, hj =>
    have hj : (⟨1, [⟨0, 4, true⟩], [⟨1, true⟩]⟩ : GChannel) = x := by simpa [exC] using hj
    subst hj
    refine ⟨_, [I 1, .slice (some ⟨b4, 0, none⟩) 1 1, .slice (some ⟨b5, 0, none⟩) 1 1], rfl, ⟨rfl, fun i v hv => ?_⟩, mChannel (x := ⟨1, [⟨0, 4, true⟩], [⟨1, true⟩]⟩) ⟨by decide, by decide, (show Rw rLane w8 _ [⟨0, 4, true⟩] from rw_blk (enc := eLane) (l := [⟨0, 4, true⟩]) C4)⟩ ⟨by decide, by decide, (show Rw rReceiver w8 _ [⟨1, true⟩] from rw_blk (enc := eReceiver) (l := [⟨1, true⟩]) C5)⟩⟩
    rw [addA_addA]
    show w8.cell? ⟨b6, 0 + (0 * 3 + i), none⟩ = _
    rw [show 0 + (0 * 3 + i) = i by omega]
    exact C6.cell hv
  | j + 1, hj => simp [exC] at hj
end
end Go.Proofs.YtdjljgfffcjfmaaGreatDoor.Cg

/- The example: what its text is, what its check tells. -/
set_option linter.unusedVariables false
set_option linter.unusedSimpArgs false
namespace Go.Proofs.YtdjljgfffcjfmaaGreatDoor.Cg
open Go Go.RowKit Go.Proofs.YtdjljgfffcjfmaaGreatDoor.Sx
open Go.Proofs.YtdjljgfffcjfmaaGreatDoor.Cf
open Go.Proofs.YtdjljgfffcjfmaaGreatDoor.Sg
def exT : Bs := [102, 108, 111, 119, 115, 32, 48, 32, 49, 10, 102, 108, 111, 119, 115, 32, 49, 10, 116, 101, 110, 97, 110, 116, 32, 48, 32, 52, 10, 116, 101, 110, 97, 110, 116, 32, 49, 32, 48, 10, 99, 104, 97, 110, 110, 101, 108, 32, 49, 10, 108, 97] ++ [110, 101, 32, 48, 32, 52, 32, 111, 112, 101, 110, 115, 10, 114, 101, 99, 101, 105, 118, 101, 114, 32, 49, 32, 111, 112, 101, 110, 115, 10, 102, 114, 97, 109, 101, 32, 48, 32, 49, 10, 98, 117, 100, 103, 101, 116, 32, 51, 32, 50, 32, 52, 10]
def exD : GConf := { exC with flows := [1, 3] }
theorem ex_conf : confE exC = (0, 0) := by decide
theorem ex_conf2 : confE exD = (0, 44) := by decide
theorem ex_two : twoP exC 0 0 = (false, 0) := by decide
theorem ex_bound : boundP exC = 24 := by decide
theorem dg (n : Nat) (h : n < 10) : Lib.decDigits n = [UInt8.ofNat (48 + n)] := by rw [Lib.decDigits, dif_pos h]
theorem it (n : Nat) (h : n < 10) : Lib.itoa (n : Int) = [UInt8.ofNat (48 + n)] := by
  unfold Lib.itoa
  rw [if_neg (by omega)]
  exact dg _ (by omega)
theorem ex_text : textP exC = (exT, 0) := by
  have i0 : Lib.itoa 0 = [48] := it 0 (by decide)
  have i1 : Lib.itoa 1 = [49] := it 1 (by decide)
  have i2 : Lib.itoa 2 = [50] := it 2 (by decide)
  have i3 : Lib.itoa 3 = [51] := it 3 (by decide)
  have i4 : Lib.itoa 4 = [52] := it 4 (by decide)
  have m3 : Bt.memI 3#64 = [0, 1] := by decide
  have m2 : Bt.memI 2#64 = [1] := by decide
  have e : strP exC = exT := by
    simp [strP, nlL, linesP, lines3, lines2, lines1, exC, flowL, tenL, chL, laneL, recL, nums, num, i0, i1, i2, i3, i4, m3, m2, exT, kFlows, kTen, kCh, kLane, kRec, kFrame, kBud, opB]
  have hm : manyP exC = false := by decide
  have hl : ¬ 65536 < (strP exC).length := by rw [e]; decide
  unfold textP
  rw [hm, if_neg (by simp), if_neg hl, e]
end Go.Proofs.YtdjljgfffcjfmaaGreatDoor.Cg

/- Whether two settings are the same: the reference's. -/
set_option linter.unusedVariables false
set_option linter.unusedSimpArgs false
namespace Go.Proofs.YtdjljgfffcjfmaaGreatDoor.Cg
open Go Go.RowKit Go.Proofs.YtdjljgfffcjfmaaGreatDoor.Sx
open Go.Proofs.YtdjljgfffcjfmaaGreatDoor.Bi (mixed take_s Has_t rHas_t)
open Go.Proofs.YtdjljgfffcjfmaaGreatDoor.Cf
theorem ext_ne {α : Type} {a b : List α} {i : Nat} {x y : α} (h1 : a[i]? = some x) (h2 : b[i]? = some y) (h : ¬ x = y) : ¬ a = b := fun e => by
  subst e
  rw [h1] at h2
  injection h2 with h2
  exact h h2
theorem ext_eq {α : Type} {a b : List α} (hl : a.length = b.length) (h : ∀ (j : Nat) x y, j < a.length → a[j]? = some x → b[j]? = some y → x = y) : a = b := by
  apply List.ext_getElem hl
  intro i h1 h2
  exact h i _ _ h1 (List.getElem?_eq_getElem h1) (List.getElem?_eq_getElem h2)
section
variable {Z : ZP} {w : World}
theorem rSameU_t {X Y : Option Addr} {cx cy : Nat} {a b : List Int} (ha : Rw (rI .u64) w X a) (hb : Rw (rI .u64) w Y b) (la : a.length ≤ big) : Cz Tryz.prog 56 [.slice X a.length cx, .slice Y b.length cy] w (fun r w' => r = .bool (decide (a = b)) ∧ Fr [] w w') Z := by
  refine go mixed Tryz.func56 Tryz.call56 rfl (Tr.e56 _ _) ?_
  simp only [big] at la
  refine r_if (fun h => r_ret ⟨by rw [decide_eq_false (fun e => h (by rw [e]))], Fr.refl _ _⟩) (fun h => ?_)
  have hl : a.length = b.length := by omega
  refine r_loop (fun (i : Nat) => [I (i : Int), B false]) (fun i w' => i ≤ a.length ∧ (∀ (j : Nat) x y, j < i → a[j]? = some x → b[j]? = some y → x = y) ∧ Fr [] w w') (fun i => a.length - i) 0 ⟨Nat.zero_le _, fun _ _ _ h => by omega, Fr.refl _ _⟩ rfl ?_
  rintro i w1 ⟨hi, hno, F⟩
  refine r_if (fun h => ?_) (fun h => ?_)
  · refine r_dr (fun w2 f2 => ?_)
    have F := F.trans f2
    obtain ⟨x, hx⟩ := gt (xs := a) (j := i) (by omega)
    obtain ⟨y, hy⟩ := gt (xs := b) (j := i) (by omega)
    obtain ⟨ad, es, rfl, rd, e3⟩ := (ha.up F) i x hx
    obtain rfl := e3
    obtain ⟨ad2, es2, rfl, rd2, e4⟩ := (hb.up F) i y hy
    obtain rfl := e4
    refine r_ob ⟨by omega, by omega⟩ ?_
    refine r_ld (cell1 rd) ?_
    refine r_ob ⟨by omega, by omega⟩ ?_
    refine r_ld (cell1 rd2) ?_
    refine r_if (fun e => r_ret ⟨by rw [decide_eq_false (ext_ne hx hy e)], F⟩) (fun e => ?_)
    refine r_ar (by omega) ?_
    refine r_ag (i + 1) ⟨by omega, fun j x' y' hj hx' hy' => ?_, F⟩ (by omega) rfl
    rcases Nat.lt_or_ge j i with h' | h'
    · exact hno j x' y' h' hx' hy'
    · obtain rfl : j = i := by omega
      rw [hx] at hx'; rw [hy] at hy'; cases hx'; cases hy'
      exact Classical.not_not.1 e
  · have : i = a.length := by omega
    subst this
    exact r_brk (r_ret ⟨by rw [decide_eq_true (ext_eq hl hno)], F⟩)
end
end Go.Proofs.YtdjljgfffcjfmaaGreatDoor.Cg
