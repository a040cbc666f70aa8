/- A new arena, as plain data. -/
import Derived.Test.YtjjaijabdfoanaaDoorArA
set_option linter.unusedVariables false
namespace Go.Proofs.YtjjaijabdfoanaaDoor.Arn
open Go Go.RowKit Go.Proofs.YtjjaijabdfoanaaDoor.Sx Go.Proofs.YtjjaijabdfoanaaDoor.Ls
def mkS (qs : List Int) (m : Nat) : List Sl := (List.range m).flatMap fun p : Nat => List.replicate ((qs[p]?).getD 0).toNat ⟨p, 0, 0, false⟩
theorem mkS_succ {qs : List Int} {m : Nat} {q : Int} (h : qs[m]? = some q) : mkS qs (m + 1) = mkS qs m ++ List.replicate q.toNat ⟨m, 0, 0, false⟩ := by
  unfold mkS
  rw [List.range_succ, List.flatMap_append]
  simp [h]
theorem mkS_len {qs : List Int} : ∀ m, (∀ (i : Nat) q, i < m → qs[i]? = some q → q ≤ 256) → (mkS qs m).length ≤ m * 256 := by
  intro m
  induction m with
  | zero => intro _; simp [mkS]
  | succ m ih =>
    intro hq
    have ih' := ih (fun i q hi h => hq i q (by omega) h)
    unfold mkS at *
    rw [List.range_succ, List.flatMap_append, List.length_append]
    have h1 : ((qs[m]?).getD 0).toNat ≤ 256 := by
      cases h : qs[m]? with
      | none => simp
      | some q => have := hq m q (by omega) h; simp; omega
    simp only [List.flatMap_cons, List.flatMap_nil, List.append_nil, List.length_replicate]
    omega
theorem mkS_part {qs : List Int} {m i : Nat} {s : Sl} (h : (mkS qs m)[i]? = some s) : ∃ p : Nat, p < m ∧ s = ⟨p, 0, 0, false⟩ := by
  have h1 := List.mem_of_getElem? h
  unfold mkS at h1
  obtain ⟨p, hp, hs⟩ := List.mem_flatMap.1 h1
  exact ⟨p, List.mem_range.1 hp, List.eq_of_mem_replicate hs⟩
def isPart (S : List Sl) (p j : Nat) : Bool := match S[j]? with | some s => s.part == (p : Int) | none => false
def rowU (S : List Sl) (i p : Nat) : List Int := ((List.range i).filter (isPart S p)).map fun j : Nat => (j : Int)
def rowsU (S : List Sl) (m i : Nat) : List (List Int) := (List.range m).map (rowU S i)
theorem rowU_succ (S : List Sl) (i p : Nat) : rowU S (i + 1) p = if isPart S p i then rowU S i p ++ [(i : Int)] else rowU S i p := by
  unfold rowU
  rw [List.range_succ, List.filter_append, List.map_append]
  cases h : isPart S p i <;> simp [h]
theorem rowsU_get {S : List Sl} {m i p : Nat} (h : p < m) : (rowsU S m i)[p]? = some (rowU S i p) := by
  simp [rowsU, h]
theorem rowsU_push {S : List Sl} {m i : Nat} {s : Sl} (hs : S[i]? = some s) {p : Nat} (hp : p < m) (he : s.part = p) : aPush S.length (rowsU S m i) s.part i false = (rowsU S m (i + 1), 0) := by
  have hi := (List.getElem?_eq_some_iff.1 hs).1
  have h1 : okL (rowsU S m i) s.part := ⟨by omega, by rw [he]; simp [rowsU]; omega⟩
  have h2 : okN S.length (i : Int) := ⟨by omega, by omega⟩
  have h3 : isIn (rowsU S m i) (i : Int) = none := by
    unfold isIn
    rw [List.findIdx?_eq_none_iff]
    intro l hl
    obtain ⟨q, _, rfl⟩ := List.mem_map.1 hl
    have : (i : Int) ∉ rowU S i q := fun hm => by
      obtain ⟨j, hj, e⟩ := List.mem_map.1 hm
      have := List.mem_range.1 (List.mem_filter.1 hj).1
      omega
    simp [this]
  have h4 : Ls.rowAt (rowsU S m i) s.part = rowU S i p := by rw [he]; exact rowAt_nat (rowsU_get hp)
  unfold aPush
  rw [if_pos ⟨h1, h2⟩, h3]
  simp only [Option.isSome_none, Bool.false_eq_true, if_false]
  refine Prod.ext ?_ rfl
  dsimp only
  rw [h4, he, Int.toNat_natCast]
  apply List.ext_getElem?
  intro q
  rw [List.getElem?_set]
  by_cases e : p = q
  · subst e
    rw [if_pos rfl, if_pos (by simp [rowsU]; omega), rowsU_get hp, rowU_succ, if_pos (by simp [isPart, hs, he])]
  · rw [if_neg e]
    by_cases hq : q < m
    · rw [rowsU_get hq, rowsU_get hq, rowU_succ, if_neg (by simp [isPart, hs, he]; omega)]
    · rw [List.getElem?_eq_none (by simp [rowsU]; omega), List.getElem?_eq_none (by simp [rowsU]; omega)]
theorem rowsU_zero (S : List Sl) (m : Nat) : rowsU S m 0 = List.replicate m [] := by
  apply List.ext_getElem?
  intro q
  by_cases hq : q < m
  · rw [rowsU_get hq]; simp [rowU, hq]
  · rw [List.getElem?_eq_none (by simp [rowsU]; omega), List.getElem?_eq_none (by simp; omega)]
def Ar.new (qs : List Int) : Ar := ⟨mkS qs qs.length, List.replicate 16 0, qs.length, rowsU (mkS qs qs.length) qs.length (mkS qs qs.length).length⟩
def okQ (qs : List Int) : Prop := (1 ≤ qs.length ∧ qs.length ≤ 16) ∧ ∀ (i : Nat) q, qs[i]? = some q → 0 ≤ q ∧ q ≤ 256
theorem own_blk {w : World} {base e n size : Nat} {v : Value} {xs : List Value} (h : w.ownsRow base e size v n xs) : (v = .slice none 0 0 ∧ n = 0 ∧ xs = []) ∨ ∃ g c rest, v = .slice (some ⟨g, 0, none⟩) n c ∧ base ≤ g ∧ n ≤ c ∧ Blk w g e (xs ++ rest) := by
  obtain ⟨hl, ⟨rfl, rfl⟩ | ⟨g, cap, cur, rfl, hg, hh, hn, hm, hs, ht⟩⟩ := h
  · exact .inl ⟨rfl, rfl, List.eq_nil_of_length_eq_zero (by simpa using hl)⟩
  · refine .inr ⟨g, cap, cur.toList.drop (n * size), rfl, hg, hn, ?_⟩
    unfold Blk
    rw [hh, ← ht, List.take_append_drop]
def preC (sv : Value) (n : Nat) : List Value := sv :: .pointer none :: (ints (List.replicate 16 0) ++ [.int .i64 n])
def SbAt (w : World) (sb : Nat) (A : Option Addr) (S : List Sl) : Prop := S ≠ [] → A = some ⟨sb, 0, none⟩ ∧ ∃ rest, Blk w sb 68 (flat encS S ++ rest)
theorem SbAt.fr {T : List Nat} {w w' : World} {sb : Nat} {A : Option Addr} {S : List Sl} (h : SbAt w sb A S) (f : Fr T w w') (hn : S ≠ [] → sb ∉ T) : SbAt w' sb A S := fun hs => let ⟨e, r, b⟩ := h hs; ⟨e, r, b.fr f (hn hs)⟩
theorem SbAt.fr0 {w w' : World} {sb : Nat} {A : Option Addr} {S : List Sl} (h : SbAt w sb A S) (f : Fr [] w w') : SbAt w' sb A S := h.fr f (by simp)
theorem own_form {w : World} {B ap : Nat} {v : Value} {S : List Sl} (h : w.ownsRow B 68 4 v S.length (flat encS S)) (hB : ap < B) (hap : ap < w.heap.size) : ∃ A c sb, v = .slice A S.length c ∧ ap ≤ sb ∧ sb < w.heap.size ∧ SbAt w sb A S := by
  rcases own_blk h with ⟨rfl, h0, _⟩ | ⟨g, c, rest, rfl, hg, _, hb⟩
  · refine ⟨none, 0, ap, by rw [h0], Nat.le_refl _, hap, fun hs => ?_⟩
    exact absurd (List.eq_nil_of_length_eq_zero h0) hs
  · exact ⟨_, c, g, rfl, by omega, hb.lt, fun _ => ⟨rfl, rest, hb⟩⟩
theorem cell_p {w : World} {sb i : Nat} {S : List Sl} {rest : List Value} {s : Sl} (b : Blk w sb 68 (flat encS S ++ rest)) (hi : S[i]? = some s) : ∀ j v, (encS s)[j]? = some v → w.cell? ⟨sb, i * 4 + j, none⟩ = some v := by
  intro j v hj
  have hj4 : j < 4 := by have := (List.getElem?_eq_some_iff.1 hj).1; rwa [lenS] at this
  have hf := flat_get lenS hi hj4
  rw [hj] at hf
  exact b.cell (by rw [List.getElem?_append_left (List.getElem?_eq_some_iff.1 hf).1]; exact hf)
theorem flat_snoc (S : List Sl) (s : Sl) : flat encS (S ++ [s]) = flat encS S ++ encS s := by simp [flat]
theorem new_at {w : World} {ap sb p nb hb c : Nat} {A : Option Addr} {qs : List Int} (hok : okQ qs) (top : Blk w ap 64 (topC (.slice A (mkS qs qs.length).length c) p (List.replicate 16 0) qs.length)) (hs : SbAt w sb A (mkS qs qs.length))
    (Q : LsR w p nb hb (mkS qs qs.length).length qs.length (rowsU (mkS qs qs.length) qs.length (mkS qs qs.length).length)) (h1 : ap ≠ 0) (h2 : sb ≠ 0) : ArAt w ⟨ap, sb, p, nb, hb, c, A⟩ (Ar.new qs) :=
  ⟨top, hs, by simp [Ar.new], Q, hok.1, h1, h2, by have := mkS_len qs.length (fun i q _ h => (hok.2 i q h).2); have := hok.1; show (mkS qs qs.length).length ≤ _; omega⟩
end Go.Proofs.YtjjaijabdfoanaaDoor.Arn
