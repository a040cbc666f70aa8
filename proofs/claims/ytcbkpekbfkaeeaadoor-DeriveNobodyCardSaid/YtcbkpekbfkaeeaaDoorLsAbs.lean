/- The lists as rows of numbers: what each function tells and leaves. No program here. -/
import Derived.Test.YtcbkpekbfkaeeaaDoorLsRep
namespace Go.Proofs.YtcbkpekbfkaeeaaDoor.Ls
abbrev Rows := List (List Int)
def rowAt (ls : Rows) (i : Int) : List Int := (ls[i.toNat]?).getD []
def isIn (ls : Rows) (n : Int) : Option Nat := ls.findIdx? (fun l => l.contains n)
def okL (ls : Rows) (i : Int) : Prop := 0 ≤ i ∧ i < ls.length
def okN (N : Nat) (n : Int) : Prop := 0 ≤ n ∧ n < N
instance (ls : Rows) (i : Int) : Decidable (okL ls i) := by unfold okL; exact inferInstance
instance (N : Nat) (n : Int) : Decidable (okN N n) := by unfold okN; exact inferInstance
def without (l : List Int) (n : Int) : List Int := l.filter (fun z => z != n)
def aPush (N : Nat) (ls : Rows) (li nd : Int) (front : Bool) : Rows × Int :=
  if okL ls li ∧ okN N nd then
    if (isIn ls nd).isSome then (ls, 50) else (ls.set li.toNat (if front then nd :: rowAt ls li else rowAt ls li ++ [nd]), 0)
  else (ls, 5)
def aPop (ls : Rows) (li : Int) : Rows × Int × Bool :=
  if okL ls li then match rowAt ls li with | [] => (ls, 0, false) | n :: r => (ls.set li.toNat r, n, true) else (ls, 0, false)
def aDrop (N : Nat) (ls : Rows) (nd : Int) : Rows × Int :=
  if okN N nd then match isIn ls nd with | none => (ls, 51) | some i => (ls.set i (without (rowAt ls i) nd), 0) else (ls, 5)
def outOf (ls : Rows) (nd : Int) : Rows := match isIn ls nd with | none => ls | some i => ls.set i (without (rowAt ls i) nd)
def aMove (N : Nat) (ls : Rows) (li nd : Int) : Rows × Int :=
  if okL ls li ∧ okN N nd then ((outOf ls nd).set li.toNat (rowAt (outOf ls nd) li ++ [nd]), 0) else (ls, 5)
def aOf (N : Nat) (ls : Rows) (nd : Int) : Int × Bool := if okN N nd then match isIn ls nd with | none => (0, false) | some i => (i, true) else (0, false)
def aLen (ls : Rows) (li : Int) : Int := if okL ls li then (rowAt ls li).length else 0
def aAll (ls : Rows) (li : Int) : List Int := if okL ls li then rowAt ls li else []

theorem rowAt_some {ls : Rows} {i : Int} (h : okL ls i) : ls[i.toNat]? = some (rowAt ls i) := by
  obtain ⟨h0, h1⟩ := h
  have h2 : i.toNat < ls.length := by omega
  simp [rowAt, List.getElem?_eq_getElem h2]
theorem rowAt_nat {ls : Rows} {i : Nat} {l : List Int} (h : ls[i]? = some l) : rowAt ls (i : Int) = l := by simp [rowAt, h]
theorem isIn_none {ls : Rows} {n : Int} (h : isIn ls n = none) : ∀ (i : Nat) l, ls[i]? = some l → n ∉ l := by
  intro i l hl hn
  unfold isIn at h
  rw [List.findIdx?_eq_none_iff] at h
  have := h l (List.mem_of_getElem? hl)
  simp [hn] at this
theorem isIn_some {ls : Rows} {n : Int} {i : Nat} (h : isIn ls n = some i) : ∃ l, ls[i]? = some l ∧ n ∈ l := by
  unfold isIn at h
  obtain ⟨hi, hc, _⟩ := List.findIdx?_eq_some_iff_getElem.1 h
  exact ⟨ls[i], List.getElem?_eq_getElem hi, by simpa using hc⟩
theorem filter_ne_self {l : List Int} {n : Int} (h : n ∉ l) : without l n = l := by
  unfold without
  rw [List.filter_eq_self]
  intro a ha
  simp only [bne_iff_ne, ne_eq]
  exact fun e => h (e ▸ ha)
theorem eraseIdx_without {l : List Int} (hd : l.Nodup) {k : Nat} {n : Int} (h : l[k]? = some n) : l.eraseIdx k = without l n := by
  induction l generalizing k with
  | nil => simp at h
  | cons a r ih =>
    rw [List.nodup_cons] at hd
    cases k with
    | zero =>
      obtain rfl : a = n := by simpa using h
      have := filter_ne_self hd.1
      unfold without at *
      simp [this]
    | succ k =>
      have hk : r[k]? = some n := by simpa using h
      have hne : a ≠ n := fun e => hd.1 (e ▸ List.mem_of_getElem? hk)
      have := ih hd.2 hk
      unfold without at *
      simp [this, hne]
theorem without_head {a : Int} {r : List Int} (hd : (a :: r).Nodup) : without (a :: r) a = r := by
  rw [← eraseIdx_without hd (k := 0) (by simp)]; rfl
end Go.Proofs.YtcbkpekbfkaeeaaDoor.Ls
