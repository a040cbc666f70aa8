/- Both lists side by side: those by links, and the reference's. -/
import Derived.Test.YtnnhpbjibhnhnabDoorLsW10
set_option linter.unusedVariables false
namespace Go.Proofs.YtnnhpbjibhnhnabDoor.Ls
open Go Go.RowKit Go.Proofs.YtnnhpbjibhnhnabDoor.Sx
structure Bo (w : World) (p nb hb B0 B rp lb N H : Nat) (ls : Rows) : Prop where
  Q : LsR w p nb hb N H ls
  R : RefAt w B0 B rp lb N ls
  p0 : p < B0
  n0 : nb < B0
  h0 : hb < B0
section
variable {w w' : World} {p nb hb B0 B rp lb N H : Nat} {ls ls' : Rows}
theorem Bo.fr0 (K : Bo w p nb hb B0 B rp lb N H ls) (k : Fr [] w w') : Bo w' p nb hb B0 B rp lb N H ls := ⟨K.Q.fr0 k, K.R.fr0 k, K.p0, K.n0, K.h0⟩
theorem Bo.hB (K : Bo w p nb hb B0 B rp lb N H ls) : ∀ (i : Nat) l, ls[i]? = some l → l.length ≤ 65536 := fun i l h => by
  obtain ⟨x, L, r⟩ := K.Q.ex
  exact Nat.le_trans (r.len h) K.R.sN
theorem Bo.hN (K : Bo w p nb hb B0 B rp lb N H ls) : ∀ (i : Nat) l, ls[i]? = some l → l.Nodup := fun i l h => by
  obtain ⟨x, L, r⟩ := K.Q.ex
  exact r.nodup i l h
theorem Bo.hA (K : Bo w p nb hb B0 B rp lb N H ls) (li : Int) : (aAll ls li).length ≤ N := by
  obtain ⟨x, L, r⟩ := K.Q.ex
  unfold aAll
  split
  · rename_i h; exact r.len (rowAt_some h)
  · simp
theorem Bo.lts (K : Bo w p nb hb B0 B rp lb N H ls) : (p < w.heap.size ∧ nb < w.heap.size ∧ hb < w.heap.size ∧ lb < w.heap.size) ∧ rp < w.heap.size := by
  have h1 := K.p0
  have h2 := K.n0
  have h3 := K.h0
  have h4 := K.R.l0
  have h5 := K.R.lB
  have h6 := K.R.sB
  have h7 := K.R.rB
  omega
theorem Bo.mid (K : Bo w p nb hb B0 B rp lb N H ls) (k : Fr [nb, hb] w w') : RefAt w' B0 B rp lb N ls := K.R.fr k (by
  have h2 := K.n0
  have h3 := K.h0
  intro q hq
  simp at hq
  omega)
theorem Bo.both (K : Bo w p nb hb B0 B rp lb N H ls) {wm : World} (Q : LsR wm p nb hb N H ls') (k : Fr [lb] wm w') (R : RefAt w' B0 B rp lb N ls') : Bo w' p nb hb B0 B rp lb N H ls' := by
  have h1 := K.p0
  have h2 := K.n0
  have h3 := K.h0
  have h4 := K.R.l0
  exact ⟨Q.fr k (by simp; omega) (by simp; omega) (by simp; omega) (by simp; omega), R, K.p0, K.n0, K.h0⟩
theorem Bo.ofR (K : Bo w p nb hb B0 B rp lb N H ls) (Q : LsR w' p nb hb N H ls) (R : RefAt w' B0 B rp lb N ls) : Bo w' p nb hb B0 B rp lb N H ls := ⟨Q, R, K.p0, K.n0, K.h0⟩
theorem Bo.len (K : Bo w p nb hb B0 B rp lb N H ls) : ls.length = H := K.Q.len
end
def aDo (N : Nat) (ls : Rows) (kd li nd : Int) : Rows :=
  if kd = 1 then (aPush N ls li nd false).1 else if kd = 2 then (aPush N ls li nd true).1 else if kd = 3 then (aPop ls li).1 else if kd = 4 then (aDrop N ls nd).1
  else if kd = 5 then (aMove N ls li nd).1 else if kd = 6 then (aTake ls li nd).1 else ls
end Go.Proofs.YtnnhpbjibhnhnabDoor.Ls
