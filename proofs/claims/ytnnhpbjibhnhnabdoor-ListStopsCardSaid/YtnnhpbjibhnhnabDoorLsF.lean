/- The reference's lists in memory, and Take told as rows. -/
import Derived.Test.YtnnhpbjibhnhnabDoorLsC
import Derived.Test.YtnnhpbjibhnhnabDoorSxE
import Derived.Test.YtnnhpbjibhnhnabDoorLsW8
set_option linter.unusedVariables false
namespace Go.Proofs.YtnnhpbjibhnhnabDoor.Ls
open Go Go.RowKit Go.Proofs.YtnnhpbjibhnhnabDoor.Sx
theorem take_r {w : World} {p nb hb N H : Nat} {ls : Rows} (Q : LsR w p nb hb N H ls) (to fr : Int) : Cl Tryd.prog 25 [.pointer (some ⟨p, 0, none⟩), .int .i64 to, .int .i64 fr] w
    (fun v w' => v = .int .i64 (aTake ls to fr).2 ∧ LsR w' p nb hb N H (aTake ls to fr).1 ∧ Fr [nb, hb] w w') := by
  obtain ⟨⟨x, L, R⟩, hl⟩ := Q
  have W := wf L R hl
  unfold aTake
  by_cases hok : okL ls to ∧ okL ls fr
  · rw [if_pos hok]
    obtain ⟨hT, hF⟩ := hok
    have hT' : 0 ≤ to ∧ to < (H : Int) := by rw [← hl]; exact hT
    have hF' : 0 ≤ fr ∧ fr < (H : Int) := by rw [← hl]; exact hF
    by_cases he : to = fr
    · rw [if_pos he]
      refine (take_self w p nb hb N H x L to fr hT' hF' he).mono ?_
      rintro v w' ⟨rfl, L', F⟩
      exact ⟨rfl, ⟨⟨x, L', R⟩, hl⟩, F⟩
    · rw [if_neg he]
      have h1 := rowAt_some hT
      have h2 := rowAt_some hF
      by_cases hr : rowAt ls fr = []
      · have e : (ls.set to.toNat (rowAt ls to ++ rowAt ls fr)).set fr.toNat [] = ls := by
          rw [hr, List.append_nil]
          apply List.ext_getElem?
          intro k
          have a1 : fr.toNat < (ls.set to.toNat (rowAt ls to)).length := by simpa using (List.getElem?_eq_some_iff.1 h2).1
          have a2 : to.toNat < ls.length := (List.getElem?_eq_some_iff.1 h1).1
          rw [set_get _ _ _ _ a1, set_get _ _ _ _ a2]
          by_cases e1 : fr.toNat = k
          · rw [if_pos e1, ← e1, h2, hr]
          · rw [if_neg e1]
            by_cases e2 : to.toNat = k
            · rw [if_pos e2, ← e2, h1]
            · rw [if_neg e2]
        rw [e]
        refine (take_none w p nb hb N H x L to fr hT' hF' he _ (head_of R hF) (by rw [hr]; rfl)).mono ?_
        rintro v w' ⟨rfl, L', F⟩
        exact ⟨rfl, ⟨⟨x, L', R⟩, hl⟩, F⟩
      · have hne : to.toNat ≠ fr.toNat := by omega
        have r := R.take h1 h2 hne hr
        have e1 : ((to.toNat : Nat) : Int) = to := Int.toNat_of_nonneg hT.1
        have e2 : ((fr.toNat : Nat) : Int) = fr := Int.toNat_of_nonneg hF.1
        rw [e1, e2] at r
        obtain ⟨a, s, hs⟩ : ∃ a s, rowAt ls fr = a :: s := by cases h : rowAt ls fr with | nil => exact absurd h hr | cons a s => exact ⟨a, s, rfl⟩
        have ha := R.range h2 (n := a) (by rw [hs]; simp)
        have hch : ∀ k n, (rowAt ls fr)[k]? = some n → (0 ≤ n ∧ n < (N : Int)) ∧ ∃ y, x.nodes[n.toNat]? = some y ∧ y.nxt = ((rowAt ls fr)[k + 1]?).getD (-1) := by
          intro k n hk
          have h5 := R.nd _ _ k n h2 hk
          exact ⟨h5.1, _, h5.2, rfl⟩
        have hcf := W.cnt _ _ (head_of R hF)
        have hct := W.cnt _ _ (head_of R hT)
        have hcn : ¬ ((rowAt ls fr).length : Int) = 0 := by rw [hs]; simp; omega
        have hff : 0 ≤ ((rowAt ls fr)[0]?).getD (-1) ∧ ((rowAt ls fr)[0]?).getD (-1) < (N : Int) := by rw [hs]; exact ha
        dsimp only at hcf hct
        have go : ∀ (tm : ((rowAt ls to).getLast?).getD (-1) = -1 ∨ ¬ ((rowAt ls to).getLast?).getD (-1) = -1), Cl Tryd.prog 25 [.pointer (some ⟨p, 0, none⟩), .int .i64 to, .int .i64 fr] w
            (fun v w' => v = .int .i64 0 ∧ LsAt w' p nb hb N H (x.take (rowAt ls fr) to fr (hdOf (rowAt ls to)) (hdOf (rowAt ls fr))) ∧ Fr [nb, hb] w w') := by
          rintro (h | h)
          · exact take_go1 w p nb hb N H x L to fr hT' hF' he _ (head_of R hF) hcn _ rfl hff (R.nodup _ _ h2) hch _ (head_of R hT) h (W.lst _ _ (head_of R hT)) (by simp only [hdOf]; omega)
          · exact take_go0 w p nb hb N H x L to fr hT' hF' he _ (head_of R hF) hcn _ rfl hff (R.nodup _ _ h2) hch _ (head_of R hT) h (W.lst _ _ (head_of R hT)) (by simp only [hdOf]; omega)
        refine (go (Decidable.em _)).mono ?_
        rintro v w' ⟨rfl, L', F⟩
        exact ⟨rfl, ⟨⟨_, L', r⟩, by simpa using hl⟩, F⟩
  · rw [if_neg hok]
    refine (take_bad w p nb hb N H x L to fr (by rw [← hl]; exact hok)).mono ?_
    rintro v w' ⟨rfl, L', F⟩
    exact ⟨rfl, ⟨⟨x, L', R⟩, hl⟩, F⟩
/-- A slice that reads as a row, behind B. -/
def RowV (w : World) (B : Nat) (v : Value) (l : List Int) : Prop :=
  ∃ A c, v = .slice A l.length c ∧ ((A = none → l = []) ∧ l.length ≤ c) ∧ (l = [] ∨ ∃ b, A = some ⟨b, 0, none⟩ ∧ B ≤ b ∧ b < w.heap.size ∧ ∀ j u, (ints l)[j]? = some u → w.cell? ⟨b, j, none⟩ = some u)
theorem RowV.fr {S : List Nat} {w w' : World} {B : Nat} {v : Value} {l : List Int} (h : RowV w B v l) (k : Fr S w w') (hS : ∀ q ∈ S, q < B) : RowV w' B v l := by
  obtain ⟨A, c, e, h0, h | ⟨b, hA, hb, hs, hc⟩⟩ := h
  · exact ⟨A, c, e, h0, .inl h⟩
  · exact ⟨A, c, e, h0, .inr ⟨b, hA, hb, Nat.lt_of_lt_of_le hs k.size, fun j u hu => k.cell (hc j u hu) (fun hm => by have := hS _ hm; dsimp only at this; omega)⟩⟩
theorem RowV.nil (w : World) (B : Nat) : RowV w B (.slice none 0 0) [] := ⟨none, 0, rfl, ⟨fun _ => rfl, Nat.le_refl _⟩, .inl rfl⟩
theorem RowV.own {w : World} {B base : Nat} {v : Value} {l : List Int} (h : w.ownsRow base 3 1 v l.length (ints l)) (hB : B ≤ base) : RowV w B v l := by
  have h' := h
  obtain ⟨A, c, e, h⟩ := own_slice h
  have hcp := own_cap (e ▸ h')
  have hl : ∀ {l : List Int}, ints l = [] → l = [] := fun h => by simpa [ints] using h
  rcases h with h | h | ⟨b, rfl, hb, hs, hc⟩
  · exact ⟨A, c, e, ⟨fun _ => hl h, hcp⟩, .inl (hl h)⟩
  · exact ⟨A, c, e, ⟨fun _ => List.eq_nil_of_length_eq_zero h, hcp⟩, .inl (List.eq_nil_of_length_eq_zero h)⟩
  · exact ⟨_, c, e, ⟨fun h => (by cases h), hcp⟩, .inr ⟨b, rfl, by omega, hs, hc⟩⟩
theorem RowV.slI {w : World} {B : Nat} {v : Value} {l : List Int} (h : RowV w B v l) (hl : l.length ≤ 1000000) : SlI w v l := by
  obtain ⟨A, c, e, h0, h | ⟨b, hA, hb, hs, hc⟩⟩ := h
  · exact ⟨A, c, e, hl, .inl h⟩
  · exact ⟨A, c, e, hl, .inr ⟨b, hA, fun j z hz => by rw [Int.toNat_natCast, Nat.mul_one]; exact hc j _ (by simp [ints, hz])⟩⟩
structure RefAt (w : World) (B0 B rp lb N : Nat) (ls : Rows) : Prop where
  top : Blk w rp 69 [.int .i64 N, .slice (some ⟨lb, 0, none⟩) ls.length ls.length]
  rows : ∃ vs, Blk w lb 40 vs ∧ vs.length = ls.length ∧ ∀ (i : Nat) v l, vs[i]? = some v → ls[i]? = some l → RowV w B v l
  rB : rp < B
  lB : lb < B
  r0 : B0 ≤ rp
  l0 : B0 ≤ lb
  sH : ls.length ≤ 65536
  sN : N ≤ 65536
  sB : B ≤ w.heap.size
theorem RefAt.fr {S : List Nat} {w w' : World} {B0 B rp lb N : Nat} {ls : Rows} (R : RefAt w B0 B rp lb N ls) (k : Fr S w w') (hS : ∀ q ∈ S, q < B0) : RefAt w' B0 B rp lb N ls := by
  obtain ⟨vs, hb, hl, hv⟩ := R.rows
  have h0 := R.r0
  have h1 := R.l0
  have h2 := R.lB
  exact ⟨R.top.fr k (fun h => by have := hS _ h; omega), ⟨vs, hb.fr k (fun h => by have := hS _ h; omega), hl, fun i v l h3 h4 => (hv i v l h3 h4).fr k (fun q hq => by have := hS q hq; omega)⟩, R.rB, R.lB, R.r0, R.l0, R.sH, R.sN, Nat.le_trans R.sB k.size⟩
theorem RefAt.fr0 {w w' : World} {B0 B rp lb N : Nat} {ls : Rows} (R : RefAt w B0 B rp lb N ls) (k : Fr [] w w') : RefAt w' B0 B rp lb N ls := R.fr k (by simp)
theorem RefAt.rowv {w : World} {B0 B rp lb N : Nat} {ls : Rows} (R : RefAt w B0 B rp lb N ls) {i : Int} {l : List Int} (h : ls[i.toNat]? = some l) : ∃ v, w.cell? ⟨lb, i.toNat * 1, none⟩ = some v ∧ RowV w B v l := by
  obtain ⟨vs, hb, hl, hv⟩ := R.rows
  have h1 : i.toNat < vs.length := by rw [hl]; exact (List.getElem?_eq_some_iff.1 h).1
  exact ⟨vs[i.toNat], by rw [Nat.mul_one]; exact hb.cell (List.getElem?_eq_getElem h1), hv _ _ _ (List.getElem?_eq_getElem h1) h⟩
theorem RefAt.set {w w' : World} {B0 B rp lb N : Nat} {ls : Rows} (R : RefAt w B0 B rp lb N ls) {vs : List Value} {i : Nat} {v : Value} {l : List Int} (hb : Blk w lb 40 vs) (h : Blk w' lb 40 (vs.set (i * 1) v)) (k : Fr [lb] w w') (hv : RowV w' B v l) : RefAt w' B0 B rp lb N (ls.set i l) := by
  obtain ⟨vs', hb', hl, hvs⟩ := R.rows
  have e : vs' = vs := by
    have := hb'.symm.trans hb
    simpa using this
  subst e
  have h1 := R.lB
  refine ⟨by rw [List.length_set]; exact R.top.fr k (by simpa using (R.top.ne hb (by decide))), ⟨_, h, by simp [hl], fun j u m hj hm => ?_⟩, R.rB, R.lB, R.r0, R.l0, by rw [List.length_set]; exact R.sH, R.sN, Nat.le_trans R.sB k.size⟩
  rw [Nat.mul_one, List.getElem?_set] at hj
  rw [List.getElem?_set] at hm
  by_cases e : i = j
  · rw [if_pos e] at hj hm
    split at hj
    · rw [if_pos (by omega)] at hm
      obtain rfl := Option.some.inj hj
      obtain rfl := Option.some.inj hm
      exact hv
    · cases hj
  · rw [if_neg e] at hj hm
    exact (hvs j u m hj hm).fr k (by simpa using h1)
/-- The lists, and one of them as it lies. -/
structure RowC (w : World) (B0 B rp lb N : Nat) (ls : Rows) (o : Nat) (A : Option Addr) (c : Nat) (l : List Int) : Prop where
  R : RefAt w B0 B rp lb N ls
  cell : w.cell? ⟨lb, o, none⟩ = some (.slice A l.length c)
  nil : A = none → l.length = 0
  row : ∀ ad, A = some ad → ∀ j u, (ints l)[j]? = some u → w.cell? (ad.add j) = some u
  at_ : ∀ (k : Nat) z, l[k]? = some z → ∃ b, A = some ⟨b, 0, none⟩ ∧ B ≤ b ∧ b < w.heap.size ∧ w.cell? ⟨b, k, none⟩ = some (.int .i64 z)
theorem RefAt.rowc {w : World} {B0 B rp lb N : Nat} {ls : Rows} (R : RefAt w B0 B rp lb N ls) {i : Int} {l : List Int} (h : ls[i.toNat]? = some l) : ∃ A c, RowC w B0 B rp lb N ls (i.toNat * 1) A c l := by
  obtain ⟨v, hc, A, c, rfl, hA, hr⟩ := R.rowv h
  refine ⟨A, c, R, hc, fun h => by rw [hA.1 h]; rfl, ?_, ?_⟩
  · intro ad e j u hu
    rcases hr with rfl | ⟨b, rfl, _, _, hc⟩
    · simp [ints] at hu
    · obtain rfl := Option.some.inj e
      rw [addr_add, Nat.zero_add]
      exact hc j u hu
  · intro k z hz
    rcases hr with rfl | ⟨b, rfl, hb, hs, hc⟩
    · simp at hz
    · exact ⟨b, rfl, hb, hs, hc k _ (by simp [ints, hz])⟩
theorem RowC.fr0 {w w' : World} {B0 B rp lb N o : Nat} {ls : Rows} {A : Option Addr} {c : Nat} {l : List Int} (C : RowC w B0 B rp lb N ls o A c l) (k : Fr [] w w') : RowC w' B0 B rp lb N ls o A c l :=
  ⟨C.R.fr0 k, k.cell C.cell (by simp), C.nil, fun ad e j u hu => k.cell (C.row ad e j u hu) (by simp), fun i z hz => let ⟨b, e, h1, h2, h3⟩ := C.at_ i z hz; ⟨b, e, h1, Nat.lt_of_lt_of_le h2 k.size, k.cell h3 (by simp)⟩⟩
def atI (ls : Rows) (n : Int) : Int := match isIn ls n with | none => -1 | some i => (i : Int)
theorem atI_none {ls : Rows} {n : Int} (h : ∀ (j : Nat) l, j < ls.length → ls[j]? = some l → n ∉ l) : atI ls n = -1 := by
  have : isIn ls n = none := by
    unfold isIn
    rw [List.findIdx?_eq_none_iff]
    intro l hl
    obtain ⟨j, hj⟩ := List.getElem?_of_mem hl
    have := h j l (List.getElem?_eq_some_iff.1 hj).1 hj
    simp [this]
  unfold atI
  rw [this]
theorem isIn_at {ls : Rows} {n : Int} {i : Nat} {l : List Int} (h : ∀ (j : Nat) m, j < i → ls[j]? = some m → n ∉ m) (hl : ls[i]? = some l) (hn : n ∈ l) : isIn ls n = some i := by
  unfold isIn
  rw [List.findIdx?_eq_some_iff_getElem]
  obtain ⟨hi, e⟩ := List.getElem?_eq_some_iff.1 hl
  refine ⟨hi, by rw [e]; simpa using hn, fun j hj => ?_⟩
  have := h j _ hj (List.getElem?_eq_getElem (by omega))
  simp [this]
theorem atI_at {ls : Rows} {n : Int} {i : Nat} {l : List Int} (h : ∀ (j : Nat) m, j < i → ls[j]? = some m → n ∉ m) (hl : ls[i]? = some l) (hn : n ∈ l) : atI ls n = i := by
  unfold atI
  rw [isIn_at h hl hn]
theorem atI_in {ls : Rows} {n : Int} (h : ¬ atI ls n < 0) : ∃ (i : Nat) (l : List Int), isIn ls n = some i ∧ atI ls n = i ∧ ls[i]? = some l := by
  unfold atI at *
  cases e : isIn ls n with
  | none => rw [e] at h; exact absurd (by decide) h
  | some i => obtain ⟨l, hl, _⟩ := isIn_some e; exact ⟨i, l, rfl, rfl, hl⟩
theorem atI_out {ls : Rows} {n : Int} (h : atI ls n < 0) : isIn ls n = none := by
  unfold atI at *
  cases e : isIn ls n with
  | none => rfl
  | some i => rw [e] at h; dsimp only at h; omega
end Go.Proofs.YtnnhpbjibhnhnabDoor.Ls
