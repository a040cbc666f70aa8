/- The row that a queue is. No program here. -/
import Derived.Test.YtnnhpbjibhnhnabDoorLsAbs
namespace Go.Proofs.YtnnhpbjibhnhnabDoor.Ls
def rg (a b : Nat) : List Int := (List.range' a (b - a)).map (fun x : Nat => (x : Int))
theorem rg_cons {a b : Nat} (h : a < b) : rg a b = (a : Int) :: rg (a + 1) b := by
  unfold rg
  rw [show b - a = (b - (a + 1)) + 1 by omega, List.range'_succ]
  rfl
theorem rg_nil {a b : Nat} (h : ¬ a < b) : rg a b = [] := by
  unfold rg
  rw [show b - a = 0 by omega]
  rfl
theorem rg_snoc {a b : Nat} (h : a ≤ b) : rg a b ++ [(b : Int)] = rg a (b + 1) := by
  unfold rg
  rw [show b + 1 - a = (b - a) + 1 by omega, List.range'_concat]
  simp
  omega
theorem rg_len (a b : Nat) : (rg a b).length = b - a := by simp [rg]
theorem rg_mem {a b : Nat} {z : Int} (h : z ∈ rg a b) : z < b := by
  simp only [rg, List.mem_map, List.mem_range'_1] at h
  obtain ⟨x, hx, rfl⟩ := h
  omega
theorem q_pop1 {a b : Nat} (h : a < b) : aPop [rg a b] 0 = ([rg (a + 1) b], (a : Int), true) := by
  unfold aPop
  rw [if_pos (by unfold okL; simp)]
  rw [show rowAt [rg a b] 0 = rg a b from rfl, rg_cons h]
  rfl
theorem q_pop0 {a b : Nat} (h : ¬ a < b) : aPop [rg a b] 0 = ([rg a b], 0, false) := by
  unfold aPop
  rw [if_pos (by unfold okL; simp)]
  rw [show rowAt [rg a b] 0 = rg a b from rfl, rg_nil h]
theorem q_push {a b N : Nat} (h : a ≤ b) (hb : b < N) : aPush N [rg a b] 0 b false = ([rg a (b + 1)], 0) := by
  unfold aPush
  rw [if_pos ⟨by unfold okL; simp, by unfold okN; omega⟩]
  have hn : isIn [rg a b] b = none := by
    unfold isIn
    rw [List.findIdx?_eq_none_iff]
    intro l hl
    obtain rfl : l = rg a b := by simpa using hl
    simp only [List.contains_eq_mem, decide_eq_false_iff_not]
    intro hm
    have := rg_mem hm
    omega
  rw [hn]
  show (List.set [rg a b] 0 (rg a b ++ [(b : Int)]), (0 : Int)) = _
  rw [rg_snoc h]
  rfl
theorem q_len {a b : Nat} (h : a ≤ b) : aLen [rg a b] 0 = (b : Int) - a := by
  unfold aLen
  rw [if_pos (by unfold okL; simp), show rowAt [rg a b] 0 = rg a b from rfl, rg_len]
  omega
end Go.Proofs.YtnnhpbjibhnhnabDoor.Ls
