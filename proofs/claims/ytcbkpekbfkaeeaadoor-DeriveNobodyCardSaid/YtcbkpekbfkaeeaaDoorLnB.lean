/- Deeds and histories as plain data: what may be, what is ahead, the queue, the search. No program here. -/
import Derived.Test.YtcbkpekbfkaeeaaDoorLnA
set_option linter.unusedVariables false
namespace Go.Proofs.YtcbkpekbfkaeeaaDoor.Lin
open Go Go.RowKit Go.Proofs.YtcbkpekbfkaeeaaDoor.Sx
structure D where
  kind : Int
  lane : Int
  pay : Int
  frm : Int
  til : Int
  opn : Bool
  deriving DecidableEq
def encD (d : D) : List Value := [.int .i64 d.kind, .int .i64 d.lane, .int .u64 d.pay, .int .i64 d.frm, .int .i64 d.til, .bool d.opn]
theorem lenD (d : D) : (encD d).length = 6 := rfl
theorem oneD (u : D) : ∀ v ∈ encD u, v.oneCell' = true := by intro v hv; simp only [encD, List.mem_cons, List.not_mem_nil, or_false] at hv; rcases hv with rfl | rfl | rfl | rfl | rfl | rfl <;> rfl
def encI (z : Int) : List Value := [.int .i64 z]
theorem lenI (z : Int) : (encI z).length = 1 := rfl
theorem oneIn (u : Int) : ∀ v ∈ encI u, v.oneCell' = true := by intro v hv; simp only [encI, List.mem_cons, List.not_mem_nil, or_false] at hv; subst hv; rfl
def okD (d : D) : Prop := (1 ≤ d.kind ∧ d.kind ≤ 4) ∧ (0 ≤ d.lane ∧ d.lane ≤ 15) ∧ (d.opn = true ∨ d.frm ≤ d.til)
instance (d : D) : Decidable (okD d) := by unfold okD; exact inferInstance
def ahead (a b : D) : Prop := a.opn = false ∧ a.til < b.frm
instance (a b : D) : Decidable (ahead a b) := by unfold ahead; exact inferInstance
def Hist (l : List D) : Prop := l.length ≤ 24 ∧ ∀ d ∈ l, okD d
instance (l : List D) : Decidable (Hist l) := by unfold Hist; exact inferInstance
def okRow (l : List D) (row : List Int) : Prop := ∀ z ∈ row, 0 ≤ z ∧ z < l.length
instance (l : List D) (row : List Int) : Decidable (okRow l row) := by unfold okRow; exact inferInstance
/-- The queue behind a deed. -/
def qstep (q : List D) (d : D) : Option (List D) :=
  if d.kind = 1 then some (q ++ [d])
  else if d.kind = 2 then (match q with | [] => none | x :: r => if x.pay = d.pay then some r else none)
  else if d.kind = 3 then (if q = [] then some q else none)
  else some (q.filter fun x => decide (x.lane ≠ d.lane))
def fewN (n m : Nat) : Nat := if m < n ∧ n ≤ 24 then m else if 25 < n then 25 else n
theorem fewN_le (n m : Nat) : fewN n m ≤ n := by unfold fewN; split <;> (try split) <;> omega
noncomputable def dc (P : Prop) : Bool := @decide P (Classical.propDecidable P)
theorem dc_true {P : Prop} (h : P) : dc P = true := @decide_eq_true P (Classical.propDecidable P) h
theorem dc_false {P : Prop} (h : ¬ P) : dc P = false := @decide_eq_false P (Classical.propDecidable P) h
theorem of_dc {P : Prop} (h : dc P = true) : P := @of_decide_eq_true P (Classical.propDecidable P) h
theorem not_dc {P : Prop} (h : dc P = false) : ¬ P := @of_decide_eq_false P (Classical.propDecidable P) h
theorem add0 (a : Addr) : a.add 0 = a := by unfold Addr.add; simp
theorem RowI.at_ {w : World} {A : Option Addr} {row : List Int} (h : RowG encI 1 w A row) {j : Nat} {z : Int} (hj : row[j]? = some z) : ∃ a, A = some a ∧ w.cell? (a.add (j * 1)) = some (.int .i64 z) := by
  obtain ⟨a, e, c⟩ := h j z hj
  have := c 0 _ rfl
  rw [add0] at this
  exact ⟨a, e, this⟩
/-- The reference's tests. -/
def hasI (row : List Int) (n : Int) : Prop := n ∈ row
def atI (l : List D) (z : Int) : D := (l[z.toNat]?).getD ⟨0, 0, 0, 0, 0, false⟩
def fitsI (l : List D) (row : List Int) (n : Int) : Prop := n ∉ row ∧ ∀ z ∈ row, ¬ ahead (atI l n) (atI l z)
def allI (l : List D) (row : List Int) : Prop := ∀ (i : Nat) d, l[i]? = some d → d.opn = false → (i : Int) ∈ row
def lateI (l : List D) (row : List Int) (n : Int) : Prop := ∃ (i : Nat) (d : D), l[i]? = some d ∧ (i : Int) ≠ n ∧ (i : Int) ∉ row ∧ ahead d (atI l n)
theorem atI_nat {l : List D} {i : Nat} {d : D} (h : l[i]? = some d) : atI l (i : Int) = d := by unfold atI; rw [Int.toNat_natCast, h]; rfl
theorem atI_some {l : List D} {z : Int} {d : D} (h : l[z.toNat]? = some d) : atI l z = d := by unfold atI; rw [h]; rfl
/-- A slice that reads as a row. -/
def SlG {α : Type} (enc : α → List Value) (k : Nat) (w : World) (v : Value) (l : List α) : Prop := ∃ A c, v = .slice A l.length c ∧ RowG enc k w A l ∧ l.length ≤ c
section
variable {α : Type} {enc : α → List Value} {k : Nat} {w w' : World} {v : Value} {l : List α}
theorem SlG.fr0 (h : SlG enc k w v l) (f : Fr [] w w') : SlG enc k w' v l := let ⟨A, c, e, r, hc⟩ := h; ⟨A, c, e, r.fr0 f, hc⟩
theorem SlG.nil (w : World) : SlG enc k w (.slice none 0 0) [] := ⟨none, 0, rfl, RowG.nil _ _, Nat.le_refl _⟩
theorem SlG.own {B e n : Nat} {xs : List Value} (h0 : 0 < k) (hk : ∀ x, (enc x).length = k) (h : w.ownsRow B e k v n xs) (hn : n = l.length) (hx : xs = flat enc l) : SlG enc k w v l := by
  subst hn
  subst hx
  have h' := h
  obtain ⟨A, c, rfl, _⟩ := own_slice h
  exact ⟨A, c, rfl, RowG.own h0 hk h', own_cap h'⟩
theorem flat_app' (enc : α → List Value) (xs ys : List α) : flat enc (xs ++ ys) = flat enc xs ++ flat enc ys := by simp [flat]
theorem flat_one' (enc : α → List Value) (x : α) : flat enc [x] = enc x := by simp [flat]
theorem flat_mem1 (h1 : ∀ x, ∀ u ∈ enc x, u.oneCell' = true) (l : List α) : ∀ u ∈ flat enc l, u.oneCell' = true := by
  intro u hu
  obtain ⟨a, _, ha⟩ := List.mem_flatMap.1 hu
  exact h1 a u ha
/-- All of a row, cell by cell. -/
theorem RowG.all {A : Option Addr} (h0 : 0 < k) (hk : ∀ x, (enc x).length = k) (h : RowG enc k w A l) : ∀ ad, A = some ad → ∀ j u, (flat enc l)[j]? = some u → w.cell? (ad.add j) = some u := by
  rintro ad rfl j u hu
  have hjl : j < l.length * k := by have := (List.getElem?_eq_some_iff.1 hu).1; rwa [flat_length hk] at this
  have h1 : j / k < l.length := Nat.div_lt_of_lt_mul (by rw [Nat.mul_comm]; exact hjl)
  obtain ⟨a, e, hc⟩ := h (j / k) _ (List.getElem?_eq_getElem h1)
  obtain rfl := Option.some.inj e
  have hf := flat_get hk (List.getElem?_eq_getElem h1) (Nat.mod_lt j h0)
  rw [Nat.mul_comm, Nat.div_add_mod] at hf
  have := hc (j % k) u (by rw [← hf]; exact hu)
  rw [add_add, Nat.mul_comm, Nat.div_add_mod] at this
  exact this
theorem RowG.none {A : Option Addr} (h : RowG enc k w A l) (hA : A = none) : l.length = 0 := by
  rcases l with _ | ⟨x, r⟩
  · rfl
  · obtain ⟨a, e, _⟩ := h 0 x rfl
    rw [hA] at e
    cases e
/-- What lies behind the first. -/
theorem RowG.tail {A : Option Addr} {c : Nat} {x : α} (h : RowG enc k w A (x :: l)) (hc : (x :: l).length ≤ c) : RowG enc k w (if c = 1 then A else A.map (·.add (1 * k))) l := by
  intro j y hj
  have hjl := (List.getElem?_eq_some_iff.1 hj).1
  simp only [List.length_cons] at hc
  obtain ⟨a, e, hcl⟩ := h (j + 1) y (by simpa using hj)
  refine ⟨a.add (1 * k), by rw [if_neg (by omega), e]; rfl, fun i v hv => ?_⟩
  have := hcl i v hv
  rw [add_add] at this
  rw [add_add, add_add, show 1 * k + (j * k + i) = (j + 1) * k + i by rw [Nat.succ_mul j k]; omega]
  exact this
end
/-- What a queue's step hands back. -/
def QR (w : World) (r : Value) (o : Option (List D)) : Prop := ∃ v, r = .tuple #[v, .bool o.isSome] ∧ ∀ q, o = some q → SlG encD 6 w v q
theorem QR.yes {w : World} {v : Value} {o : Option (List D)} {q : List D} (h : o = some q) (hs : SlG encD 6 w v q) : QR w (.tuple #[v, .bool true]) o := by subst h; exact ⟨_, rfl, fun q' e => by injection e with e; exact e ▸ hs⟩
theorem QR.no {w : World} {v : Value} {o : Option (List D)} (h : o = none) : QR w (.tuple #[v, .bool false]) o := by subst h; exact ⟨_, rfl, fun _ e => by cases e⟩
theorem own_cast {w : World} {B e sz n n2 : Nat} {v : Value} {xs ys : List Value} (h : w.ownsRow B e sz v n xs) (hn : n = n2) (hx : xs = ys) : w.ownsRow B e sz v n2 ys := by subst hn; subst hx; exact h
theorem qstep_1 {q : List D} {d : D} (h : d.kind = 1) : qstep q d = some (q ++ [d]) := if_pos h
theorem qstep_2y {x : D} {r : List D} {d : D} (h : d.kind = 2) (hp : x.pay = d.pay) : qstep (x :: r) d = some r := by unfold qstep; rw [if_neg (by omega), if_pos h]; simp [hp]
theorem qstep_2n {x : D} {r : List D} {d : D} (h : d.kind = 2) (hp : ¬ x.pay = d.pay) : qstep (x :: r) d = none := by unfold qstep; rw [if_neg (by omega), if_pos h]; simp [hp]
theorem qstep_20 {d : D} (h : d.kind = 2) : qstep [] d = none := by unfold qstep; rw [if_neg (by omega), if_pos h]
theorem qstep_3 {q : List D} {d : D} (h : d.kind = 3) : qstep q d = if q = [] then some q else none := by unfold qstep; rw [if_neg (by omega), if_neg (by omega), if_pos h]
theorem qstep_4 {q : List D} {d : D} (h1 : ¬ d.kind = 1) (h2 : ¬ d.kind = 2) (h3 : ¬ d.kind = 3) : qstep q d = some (q.filter fun x => decide (x.lane ≠ d.lane)) := by unfold qstep; rw [if_neg h1, if_neg h2, if_neg h3]
end Go.Proofs.YtcbkpekbfkaeeaaDoor.Lin
