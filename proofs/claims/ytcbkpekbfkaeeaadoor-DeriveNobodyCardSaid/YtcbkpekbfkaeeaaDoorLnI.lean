/- Sets of deeds as bits. No program here. -/
import Derived.Test.YtcbkpekbfkaeeaaDoorLnH
set_option linter.unusedVariables false
set_option linter.unusedSimpArgs false
namespace Go.Proofs.YtcbkpekbfkaeeaaDoor.Lin
open Go Go.RowKit Go.Proofs.YtcbkpekbfkaeeaaDoor.Sx
theorem bit_get {i j : Nat} (hi : i < 64) : ((1#64) <<< i).getLsbD j = decide (j = i) := by
  rw [BitVec.getLsbD_shiftLeft]
  by_cases h : j = i
  · subst h
    simp [hi]
  · rw [decide_eq_false h]
    by_cases h1 : j < i
    · simp [h1]
    · have : ¬ (j - i = 0) := by omega
      simp [BitVec.getLsbD_one, this]
theorem bit_has (s : BitVec 64) {i : Nat} (hi : i < 64) : decide (¬ (((s &&& ((1#64) <<< i)).toNat : Nat) : Int) = 0) = s.getLsbD i := by
  cases h : s.getLsbD i with
  | true =>
    refine decide_eq_true (fun e => ?_)
    have e1 : (s &&& ((1#64) <<< i)).toNat = (0#64).toNat := by simpa using e
    have e2 := BitVec.eq_of_toNat_eq e1
    have e3 := congrArg (fun b => BitVec.getLsbD b i) e2
    simp only [BitVec.getLsbD_and, h, bit_get hi, Bool.true_and] at e3
    simp at e3
  | false =>
    refine decide_eq_false (fun hne => hne ?_)
    have e2 : (s &&& ((1#64) <<< i)) = 0#64 := by
      apply BitVec.eq_of_getLsbD_eq
      intro j hj
      rw [BitVec.getLsbD_and, bit_get hi]
      by_cases hji : j = i
      · subst hji; simp [h]
      · simp [hji]
    rw [e2]
    rfl
theorem bit_or (s : BitVec 64) {i : Nat} (hi : i < 64) (j : Nat) : (s ||| ((1#64) <<< i)).getLsbD j = (s.getLsbD j || decide (j = i)) := by
  rw [BitVec.getLsbD_or, bit_get hi]
theorem andn_zero (a b : BitVec 64) : ((((a &&& ~~~b).toNat : Nat) : Int) = 0) ↔ ∀ j, j < 64 → a.getLsbD j = true → b.getLsbD j = true := by
  constructor
  · intro e j hj ha
    have e1 : (a &&& ~~~b).toNat = (0#64).toNat := by simpa using e
    have e3 := congrArg (fun c => BitVec.getLsbD c j) (BitVec.eq_of_toNat_eq e1)
    simp only [BitVec.getLsbD_and, ha, BitVec.getLsbD_not, Bool.true_and] at e3
    simpa [hj] using e3
  · intro h
    have e2 : (a &&& ~~~b) = 0#64 := by
      apply BitVec.eq_of_getLsbD_eq
      intro j hj
      rw [BitVec.getLsbD_and, BitVec.getLsbD_not]
      cases ha : a.getLsbD j with
      | false => simp
      | true => simp [h j hj ha]
    rw [e2]
    rfl
/-- The set of those that must come. -/
def mustF (l : List D) : Nat → BitVec 64
  | 0 => 0#64
  | i + 1 => match l[i]? with
    | some d => if d.opn = true then mustF l i else mustF l i ||| ((1#64) <<< i)
    | none => mustF l i
theorem mustF_open {l : List D} {i : Nat} {d : D} (hd : l[i]? = some d) (ho : d.opn = true) : mustF l i = mustF l (i + 1) := by
  show _ = (match l[i]? with | some d => if d.opn = true then mustF l i else mustF l i ||| ((1#64) <<< i) | none => mustF l i)
  rw [hd]
  exact (if_pos ho).symm
theorem mustF_shut {l : List D} {i : Nat} {d : D} (hd : l[i]? = some d) (ho : d.opn = false) : mustF l i ||| ((1#64) <<< i) = mustF l (i + 1) := by
  show _ = (match l[i]? with | some d => if d.opn = true then mustF l i else mustF l i ||| ((1#64) <<< i) | none => mustF l i)
  rw [hd]
  exact (if_neg (by rw [ho]; decide)).symm
theorem mustF_get {l : List D} : ∀ (n : Nat), n ≤ 64 → ∀ j, (mustF l n).getLsbD j = true ↔ j < n ∧ ∃ d, l[j]? = some d ∧ d.opn = false := by
  intro n
  induction n with
  | zero => intro _ j; simp [mustF]
  | succ n ih =>
    intro hn j
    have hi := ih (by omega) j
    unfold mustF
    cases hd : l[n]? with
    | none =>
      dsimp only
      rw [hi]
      constructor
      · rintro ⟨h1, h2⟩; exact ⟨by omega, h2⟩
      · rintro ⟨h1, d, h2, h3⟩
        refine ⟨?_, d, h2, h3⟩
        rcases Nat.lt_or_ge j n with h | h
        · exact h
        · obtain rfl : j = n := by omega
          rw [hd] at h2; cases h2
    | some d =>
      dsimp only
      by_cases ho : d.opn = true
      · rw [if_pos ho, hi]
        constructor
        · rintro ⟨h1, h2⟩; exact ⟨by omega, h2⟩
        · rintro ⟨h1, d2, h2, h3⟩
          refine ⟨?_, d2, h2, h3⟩
          rcases Nat.lt_or_ge j n with h | h
          · exact h
          · obtain rfl : j = n := by omega
            rw [hd] at h2
            injection h2 with h2
            subst h2
            rw [ho] at h3; cases h3
      · rw [if_neg ho, bit_or _ (by omega), Bool.or_eq_true, hi]
        constructor
        · rintro (⟨h1, h2⟩ | h)
          · exact ⟨by omega, h2⟩
          · have := of_decide_eq_true h
            subst this
            exact ⟨by omega, d, hd, by simpa using ho⟩
        · rintro ⟨h1, d2, h2, h3⟩
          by_cases h : j = n
          · exact .inr (decide_eq_true h)
          · exact .inl ⟨by omega, d2, h2, h3⟩
/-- What is done, as bits and as a row. -/
def BitsOf (s : BitVec 64) (row : List Int) : Prop := ∀ j, j < 64 → s.getLsbD j = decide ((j : Int) ∈ row)
theorem BitsOf.nil : BitsOf 0#64 [] := fun j _ => by simp
theorem BitsOf.snoc {s : BitVec 64} {row : List Int} {z : Int} (h : BitsOf s row) (hz : 0 ≤ z ∧ z < 64) : BitsOf (s ||| ((1#64) <<< z.toNat)) (row ++ [z]) := by
  intro j hj
  rw [bit_or _ (by omega), h j hj]
  by_cases h1 : (j : Int) ∈ row
  · simp [h1]
  · have : (j = z.toNat) ↔ ((j : Int) = z) := by omega
    simp [h1, this]
theorem all_bits {l : List D} {row : List Int} {s : BitVec 64} (hl : l.length ≤ 64) (h : BitsOf s row) : (((((mustF l l.length) &&& ~~~s).toNat : Nat) : Int) = 0) ↔ allI l row := by
  rw [andn_zero]
  constructor
  · intro k i d hd ho
    have hi := (List.getElem?_eq_some_iff.1 hd).1
    have := k i (by omega) ((mustF_get _ hl i).2 ⟨hi, d, hd, ho⟩)
    rw [h i (by omega)] at this
    exact of_decide_eq_true this
  · intro k j hj hm
    obtain ⟨h1, d, hd, ho⟩ := (mustF_get _ hl j).1 hm
    rw [h j hj]
    exact decide_eq_true (k j d hd ho)
def GR (w : World) (r : Value) (o : Option (List D)) : Prop := ∃ v, r = .tuple #[v, .bool o.isSome] ∧ SlG encD 6 w v (o.getD [])
theorem GR.no {w : World} {o : Option (List D)} (h : o = none) : GR w (.tuple #[.slice none 0 0, .bool false]) o := by subst h; exact ⟨_, rfl, SlG.nil _⟩
theorem GR.yes {w : World} {v : Value} {o : Option (List D)} {a : List D} (h : o = some a) (hs : SlG encD 6 w v a) : GR w (.tuple #[v, .bool true]) o := by subst h; exact ⟨_, rfl, hs⟩
end Go.Proofs.YtcbkpekbfkaeeaaDoor.Lin
