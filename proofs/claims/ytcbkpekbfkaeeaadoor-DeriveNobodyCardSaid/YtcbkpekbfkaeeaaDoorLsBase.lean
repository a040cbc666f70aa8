/- The lists by links in memory. -/
import Derived.Test.YtcbkpekbfkaeeaaDoorSxC
import Derived.Test.YtcbkpekbfkaeeaaDoorLsModel
import Derived.Test.YtcbkpekbfkaeeaaDoorProg
set_option linter.unusedVariables false
namespace Go.Proofs.YtcbkpekbfkaeeaaDoor.Ls
open Go Go.RowKit Go.Proofs.YtcbkpekbfkaeeaaDoor.Sx
def encL (u : Link) : List Value := [.int .i64 u.lst, .int .i64 u.prv, .int .i64 u.nxt]
def encH (u : Head) : List Value := [.int .i64 u.fst, .int .i64 u.lst, .int .i64 u.cnt]
theorem lenL (u : Link) : (encL u).length = 3 := rfl
theorem lenH (u : Head) : (encH u).length = 3 := rfl
theorem oneL (u : Link) : ∀ v ∈ encL u, v.oneCell' = true := by intro v hv; simp only [encL, List.mem_cons, List.not_mem_nil, or_false] at hv; rcases hv with rfl | rfl | rfl <;> rfl
theorem oneH (u : Head) : ∀ v ∈ encH u, v.oneCell' = true := by intro v hv; simp only [encH, List.mem_cons, List.not_mem_nil, or_false] at hv; rcases hv with rfl | rfl | rfl <;> rfl
/-- The package's variable 'loose'. -/
def Glb (w : World) : Prop := ∀ j v, (encL loose)[j]? = some v → w.cell? ⟨0, 0 + j, none⟩ = some v
structure LsAt (w : World) (p nb hb N H : Nat) (x : LS) : Prop where
  top : Blk w p 80 [.slice (some ⟨nb, 0, none⟩) N N, .slice (some ⟨hb, 0, none⟩) H H, .bool true]
  nod : Blk w nb 82 (flat encL x.nodes)
  hed : Blk w hb 84 (flat encH x.heads)
  lenN : x.nodes.length = N
  lenH : x.heads.length = H
  nz : nb ≠ 0
  hz : hb ≠ 0
  pz : p ≠ 0
  glb : Glb w
  sN : N ≤ 65536
theorem Glb.fr {S : List Nat} {w w' : World} (h : Glb w) (k : Fr S w w') (hn : 0 ∉ S) : Glb w' := fun j v hv => k.cell (h j v hv) hn
theorem LsAt.pn {w : World} {p nb hb N H : Nat} {x : LS} (L : LsAt w p nb hb N H x) : p ≠ nb := L.top.ne L.nod (by decide)
theorem LsAt.ph {w : World} {p nb hb N H : Nat} {x : LS} (L : LsAt w p nb hb N H x) : p ≠ hb := L.top.ne L.hed (by decide)
theorem LsAt.nh {w : World} {p nb hb N H : Nat} {x : LS} (L : LsAt w p nb hb N H x) : nb ≠ hb := L.nod.ne L.hed (by decide)
theorem LsAt.fr {S : List Nat} {w w' : World} {p nb hb N H : Nat} {x : LS} (L : LsAt w p nb hb N H x) (k : Fr S w w') (h1 : p ∉ S) (h2 : nb ∉ S) (h3 : hb ∉ S) (h4 : 0 ∉ S) : LsAt w' p nb hb N H x :=
  ⟨L.top.fr k h1, L.nod.fr k h2, L.hed.fr k h3, L.lenN, L.lenH, L.nz, L.hz, L.pz, L.glb.fr k h4, L.sN⟩
theorem LsAt.fr0 {w w' : World} {p nb hb N H : Nat} {x : LS} (L : LsAt w p nb hb N H x) (k : Fr [] w w') : LsAt w' p nb hb N H x := L.fr k (by simp) (by simp) (by simp) (by simp)
theorem LsAt.setN {w w' : World} {p nb hb N H : Nat} {x : LS} (L : LsAt w p nb hb N H x) {ns : List Link} (h : Blk w' nb 82 (flat encL ns)) (k : Fr [nb] w w') (hl : ns.length = N) : LsAt w' p nb hb N H ⟨ns, x.heads⟩ :=
  ⟨L.top.fr k (by simpa using L.pn), h, L.hed.fr k (by simpa using L.nh.symm), hl, L.lenH, L.nz, L.hz, L.pz, L.glb.fr k (by simpa using L.nz.symm), L.sN⟩
theorem LsAt.setH {w w' : World} {p nb hb N H : Nat} {x : LS} (L : LsAt w p nb hb N H x) {hs : List Head} (h : Blk w' hb 84 (flat encH hs)) (k : Fr [hb] w w') (hl : hs.length = H) : LsAt w' p nb hb N H ⟨x.nodes, hs⟩ :=
  ⟨L.top.fr k (by simpa using L.ph), L.nod.fr k (by simpa using L.nh), h, L.lenN, hl, L.nz, L.hz, L.pz, L.glb.fr k (by simpa using L.hz.symm), L.sN⟩
theorem get_of {α : Type} {xs : List α} {n : Nat} {i : Int} (hl : xs.length = n) (h : 0 ≤ i ∧ i < n) : ∃ u, xs[i.toNat]? = some u := ⟨xs[i.toNat]'(by omega), by simp⟩
theorem bldL (a b c : Int) (w : World) : (Instr.build 82 [(0, .int .i64 a), (1, .int .i64 b), (2, .int .i64 c)].toArray).run Tryd.prog w = .ok (.agg [.int .i64 a, .int .i64 b, .int .i64 c].toArray) w := by kernel_rfl
theorem bldH (a b c : Int) (w : World) : (Instr.build 84 [(0, .int .i64 a), (1, .int .i64 b), (2, .int .i64 c)].toArray).run Tryd.prog w = .ok (.agg [.int .i64 a, .int .i64 b, .int .i64 c].toArray) w := by kernel_rfl
theorem eqL (u v : Link) (w : World) : (binOp .eql 82 (.agg (encL u).toArray) (.agg (encL v).toArray)).run Tryd.prog w = .ok (.bool (decide (u = v))) w := by
  obtain ⟨a, b, c⟩ := u
  obtain ⟨a', b', c'⟩ := v
  unfold encL
  go_simp
  (repeat' split) <;> simp_all
theorem neL (u v : Link) (w : World) : (binOp .neq 82 (.agg (encL u).toArray) (.agg (encL v).toArray)).run Tryd.prog w = .ok (.bool (decide (¬ u = v))) w := by
  obtain ⟨a, b, c⟩ := u
  obtain ⟨a', b', c'⟩ := v
  unfold encL
  go_simp
  (repeat' split) <;> simp_all
theorem egL (op : BinOp) (x y : Operand) (u v : Link) (w : World) : (eqGuard op 82 x y (.agg (encL u).toArray) (.agg (encL v).toArray)).run Tryd.prog w = .ok () w := by
  unfold encL
  cases op <;> go_simp
/-- A slice of ints that reads as zs. -/
def SlI (w : World) (v : Value) (zs : List Int) : Prop := ∃ A c, v = .slice A zs.length c ∧ zs.length ≤ 1000000 ∧ (zs = [] ∨ ∃ b, A = some ⟨b, 0, none⟩ ∧ ∀ (j : Nat) z, zs[j]? = some z → w.cell? ⟨b, ((j : Nat) : Int).toNat * 1, none⟩ = some (.int .i64 z))
theorem SlI.nil (w : World) : SlI w (.slice none 0 0) [] := ⟨none, 0, rfl, by simp, .inl rfl⟩
theorem SlI.blk {w : World} {b : Nat} {T : TypeId} {zs : List Int} {c : Nat} (h : Blk w b T (zs.map fun z => .int .i64 z)) (hl : zs.length ≤ 1000000) : SlI w (.slice (some ⟨b, 0, none⟩) zs.length c) zs :=
  ⟨_, c, rfl, hl, .inr ⟨b, rfl, fun j z hz => h.cell (by simp [hz])⟩⟩
theorem SlI.fr0 {w w' : World} {v : Value} {zs : List Int} (h : SlI w v zs) (k : Fr [] w w') : SlI w' v zs := by
  obtain ⟨A, c, rfl, hl, h | ⟨b, rfl, hc⟩⟩ := h
  · exact ⟨A, c, rfl, hl, .inl h⟩
  · exact ⟨_, c, rfl, hl, .inr ⟨b, rfl, fun j z hz => k.cell (hc j z hz) (by simp)⟩⟩
/-- Every number that stands in the structure is a place in it. -/
structure WF (N H : Nat) (x : LS) : Prop where
  fst : ∀ (i : Nat) u, x.heads[i]? = some u → u.fst = -1 ∨ 0 ≤ u.fst ∧ u.fst < N
  lst : ∀ (i : Nat) u, x.heads[i]? = some u → u.lst = -1 ∨ 0 ≤ u.lst ∧ u.lst < N
  cnt : ∀ (i : Nat) u, x.heads[i]? = some u → 0 ≤ u.cnt ∧ u.cnt ≤ 900000
  hfst : ∀ (i : Nat) u, x.heads[i]? = some u → ¬ u.cnt = 0 → 0 ≤ u.fst ∧ u.fst < N
  nod : ∀ (i : Nat) y, x.nodes[i]? = some y → ¬ y = loose → (0 ≤ y.lst ∧ y.lst < H) ∧ (y.prv = -1 ∨ 0 ≤ y.prv ∧ y.prv < N) ∧ (y.nxt = -1 ∨ 0 ≤ y.nxt ∧ y.nxt < N)
theorem LsAt.gr {w w1 w2 : World} {p nb hb N H B : Nat} {x x' : LS} (L0 : LsAt w p nb hb N H x') (L : LsAt w1 p nb hb N H x) {row : Option Nat} (hg : w1.grownBy w2 row) (hr : ∀ k, row = some k → w.heap.size ≤ k) : LsAt w2 p nb hb N H x := by
  have h : ∀ q, q < w.heap.size → q ∉ row.toList := fun q hq hm => by
    cases row with
    | none => simp at hm
    | some r => simp at hm; subst hm; have := hr q rfl; omega
  exact L.fr (Fr.of_grown hg) (h _ L0.top.lt) (h _ L0.nod.lt) (h _ L0.hed.lt) (h _ (Nat.lt_of_le_of_lt (Nat.zero_le _) L0.nod.lt))
theorem SlI.own {w : World} {base : Nat} {v : Value} {zs : List Int} (h : w.ownsRow base 3 1 v zs.length (ints zs)) (hl : zs.length ≤ 1000000) : SlI w v zs := by
  obtain ⟨A, c, e, h⟩ := own_slice h
  refine ⟨A, c, e, hl, ?_⟩
  rcases h with h | h | ⟨b, rfl, _, _, hc⟩
  · exact .inl (by simpa [ints] using h)
  · exact .inl (List.eq_nil_of_length_eq_zero h)
  · exact .inr ⟨b, rfl, fun j z hz => by rw [Int.toNat_natCast, Nat.mul_one]; exact hc j _ (by simp [ints, hz])⟩
theorem SlI.at_ {w : World} {v : Value} {zs : List Int} (h : SlI w v zs) : ∃ A c, v = .slice A zs.length c ∧ zs.length ≤ 1000000 ∧ ∀ (k : Nat) z, zs[k]? = some z → ∃ b, A = some ⟨b, 0, none⟩ ∧ w.cell? ⟨b, ((k : Nat) : Int).toNat * 1, none⟩ = some (.int .i64 z) := by
  obtain ⟨A, c, e, hl, h⟩ := h
  refine ⟨A, c, e, hl, fun k z hz => ?_⟩
  rcases h with rfl | ⟨b, rfl, hc⟩
  · simp at hz
  · exact ⟨b, rfl, hc k z hz⟩
end Go.Proofs.YtcbkpekbfkaeeaaDoor.Ls
