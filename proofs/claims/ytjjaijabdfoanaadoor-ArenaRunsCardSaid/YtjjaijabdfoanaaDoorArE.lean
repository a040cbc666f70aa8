/- Two rows of names that lie apart. -/
import Derived.Test.YtjjaijabdfoanaaDoorArD
set_option linter.unusedVariables false
namespace Go.Proofs.YtjjaijabdfoanaaDoor.Arn
open Go Go.RowKit Go.Proofs.YtjjaijabdfoanaaDoor.Sx Go.Proofs.YtjjaijabdfoanaaDoor.Ls
def encN (a : Int × Int) : List Value := [.int .i64 a.1, .int .u64 a.2]
theorem lenN2 (a : Int × Int) : (encN a).length = 2 := rfl
theorem oneN (a : Int × Int) : ∀ v ∈ encN a, v.oneCell' = true := by intro v hv; simp only [encN, List.mem_cons, List.not_mem_nil, or_false] at hv; rcases hv with rfl | rfl <;> rfl
structure Two (w : World) (B : Nat) (v1 v2 : Value) (al de : List (Int × Int)) : Prop where
  o1 : w.ownsRow B 33 2 v1 al.length (flat encN al)
  o2 : w.ownsRow B 33 2 v2 de.length (flat encN de)
  ne : v1.ownBlock = none ∨ v1.ownBlock ≠ v2.ownBlock
section
variable {w w' : World} {B : Nat} {v1 v2 v' : Value} {al de al' : List (Int × Int)}
theorem Two.nil (w : World) (B : Nat) : Two w B (.slice none 0 0) (.slice none 0 0) [] [] := ⟨own_nil _ _ _, own_nil _ _ _, .inl rfl⟩
theorem Two.fr {S : List Nat} (T : Two w B v1 v2 al de) (k : Fr S w w') (h : ∀ q ∈ S, q < B ∨ (v1.ownBlock ≠ some q ∧ v2.ownBlock ≠ some q)) : Two w' B v1 v2 al de := by
  have one : ∀ {v : Value} {l : List (Int × Int)}, w.ownsRow B 33 2 v l.length (flat encN l) → (∀ q ∈ S, q < B ∨ v.ownBlock ≠ some q) → w'.ownsRow B 33 2 v l.length (flat encN l) := by
    intro v l ho hS
    obtain ⟨hl, hz | ⟨g, cap, cur, rfl, hg, hh, r⟩⟩ := ho
    · exact ⟨hl, .inl hz⟩
    · refine ⟨hl, .inr ⟨g, cap, cur, rfl, hg, ?_, r⟩⟩
      rw [k.keep g (Array.getElem?_eq_some_iff.1 hh).1 (fun hx => by
        rcases hS g hx with h1 | h1
        · omega
        · exact h1 rfl)]
      exact hh
  exact ⟨one T.o1 (fun q hq => (h q hq).imp id (·.1)), one T.o2 (fun q hq => (h q hq).imp id (·.2)), T.ne⟩
theorem Two.fr0 (T : Two w B v1 v2 al de) (k : Fr [] w w') : Two w' B v1 v2 al de := T.fr k (by simp)
theorem Two.app1 (T : Two w B v1 v2 al de) (hg : w.grownBy w' v1.ownBlock) (ho : w'.ownsRow B 33 2 v' al'.length (flat encN al')) (hat : v'.ownBlock = v1.ownBlock ∨ v'.ownBlock = some w.heap.size) : Two w' B v' v2 al' de := by
  refine ⟨ho, T.o2.kept hg ?_, ?_⟩
  · rcases T.ne with h | h
    · cases h2 : v2.ownBlock with
      | none => exact .inl rfl
      | some q => exact .inr (by rw [h]; simp)
    · exact .inr (Ne.symm h)
  · rcases hat with h | h
    · rw [h]; exact T.ne
    · right
      rw [h]
      intro e
      have := (T.o2.lt _ e.symm).2
      omega
theorem Two.app2 (T : Two w B v1 v2 al de) (hg : w.grownBy w' v2.ownBlock) (ho : w'.ownsRow B 33 2 v' al'.length (flat encN al')) (hat : v'.ownBlock = v2.ownBlock ∨ v'.ownBlock = some w.heap.size) : Two w' B v1 v' al al' := by
  refine ⟨T.o1.kept hg ?_, ho, ?_⟩
  · exact T.ne
  · rcases hat with h | h
    · rw [h]; exact T.ne
    · cases h1 : v1.ownBlock with
      | none => exact .inl rfl
      | some q =>
        right
        rw [h]
        have := (T.o1.lt _ h1).2
        intro e
        have := Option.some.inj e
        omega
end
theorem flat_app {α : Type} (enc : α → List Value) (xs ys : List α) : flat enc (xs ++ ys) = flat enc xs ++ flat enc ys := by simp [flat]
theorem flat_one {α : Type} (enc : α → List Value) (x : α) : flat enc [x] = enc x := by simp [flat]
theorem flatN_one (l : List (Int × Int)) : ∀ u ∈ flat encN l, u.oneCell' = true := by
  intro u hu
  obtain ⟨a, _, ha⟩ := List.mem_flatMap.1 hu
  exact oneN a u ha
section
variable {w w' : World} {B : Nat} {v1 v2 v' : Value} {al de al' : List (Int × Int)}
theorem own_at {B e : Nat} {v : Value} {l : List (Int × Int)} {j : Nat} {a : Int × Int} (h : w.ownsRow B e 2 v l.length (flat encN l)) (ha : l[j]? = some a) : ∃ g c, v = .slice (some ⟨g, 0, none⟩) l.length c ∧ ∀ i u, [Value.int .i64 a.1, .int .u64 a.2][i]? = some u → w.cell? ⟨g, j * 2 + i, none⟩ = some u := by
  rcases own_blk h with ⟨_, h0, _⟩ | ⟨g, c, rest, rfl, _, _, hb⟩
  · have := (List.getElem?_eq_some_iff.1 ha).1
    omega
  · refine ⟨g, c, rfl, fun i u hu => ?_⟩
    have hi : i < 2 := (List.getElem?_eq_some_iff.1 hu).1
    have hf := flat_get lenN2 ha hi
    rw [show (encN a)[i]? = some u from hu] at hf
    exact hb.cell (by rw [List.getElem?_append_left (List.getElem?_eq_some_iff.1 hf).1]; exact hf)
theorem own_atA {B e c : Nat} {A : Option Addr} {l : List (Int × Int)} {j : Nat} {a : Int × Int} (h : w.ownsRow B e 2 (.slice A l.length c) l.length (flat encN l)) (ha : l[j]? = some a) : ∃ g, A = some ⟨g, 0, none⟩ ∧ ∀ i u, [Value.int .i64 a.1, .int .u64 a.2][i]? = some u → w.cell? ⟨g, j * 2 + i, none⟩ = some u := by
  obtain ⟨g, c2, e2, hc⟩ := own_at h ha
  injection e2 with e3
  exact ⟨g, e3, hc⟩
theorem own_atG {B e c g : Nat} {l : List (Int × Int)} {j : Nat} {a : Int × Int} (h : w.ownsRow B e 2 (.slice (some ⟨g, 0, none⟩) l.length c) l.length (flat encN l)) (ha : l[j]? = some a) : ∀ i u, [Value.int .i64 a.1, .int .u64 a.2][i]? = some u → w.cell? ⟨g, j * 2 + i, none⟩ = some u := by
  obtain ⟨g2, e2, hc⟩ := own_atA h ha
  obtain rfl : g = g2 := by injection e2 with e3; injection e3
  exact hc
/-- What lies in a part of a row. -/
theorem cut_hi {B e c : Nat} {A : Option Addr} {l : List (Int × Int)} {k : Nat} (h : w.ownsRow B e 2 (.slice A l.length c) l.length (flat encN l)) : ∀ ad, A = some ad → ∀ j u, (flat encN (l.take k))[j]? = some u → w.cell? (ad.add j) = some u := by
  rintro ad rfl j u hu
  rcases own_blk h with ⟨e1, _, _⟩ | ⟨g, c2, rest, e1, _, _, hb⟩
  · cases e1
  · injection e1 with e2
    obtain rfl := Option.some.inj e2
    rw [addr_add, Nat.zero_add]
    refine hb.cell ?_
    have e3 : flat encN l = flat encN (l.take k) ++ flat encN (l.drop k) := by rw [← flat_app, List.take_append_drop]
    rw [e3, List.append_assoc, List.getElem?_append_left (List.getElem?_eq_some_iff.1 hu).1]
    exact hu
theorem cut_lo {B e c : Nat} {A : Option Addr} {l : List (Int × Int)} {k : Nat} (h : w.ownsRow B e 2 (.slice A l.length c) l.length (flat encN l)) (hk : k ≤ l.length) : ∀ ad, (if c = k then A else A.map (·.add (k * 2))) = some ad → ∀ j u, (flat encN (l.drop k))[j]? = some u → w.cell? (ad.add j) = some u := by
  intro ad had j u hu
  have hj : j < (flat encN (l.drop k)).length := (List.getElem?_eq_some_iff.1 hu).1
  rw [flat_length lenN2, List.length_drop] at hj
  rcases own_blk h with ⟨e1, h0, _⟩ | ⟨g, c2, rest, e1, _, hn, hb⟩
  · omega
  · injection e1 with e2 _ e3
    subst e3
    rw [if_neg (by omega), e2] at had
    simp only [Option.map_some, addr_add, Nat.zero_add] at had
    obtain rfl := Option.some.inj had
    rw [addr_add]
    refine hb.cell ?_
    have e4 : flat encN l = flat encN (l.take k) ++ flat encN (l.drop k) := by rw [← flat_app, List.take_append_drop]
    have e5 : (flat encN (l.take k)).length = k * 2 := by rw [flat_length lenN2, List.length_take, Nat.min_eq_left hk]
    rw [e4, List.append_assoc, List.getElem?_append_right (by omega), e5, show k * 2 + j - k * 2 = j by omega, List.getElem?_append_left (List.getElem?_eq_some_iff.1 hu).1]
    exact hu
theorem none_len {B e c : Nat} {l : List (Int × Int)} {n : Nat} {A : Option Addr} (h : w.ownsRow B e 2 (.slice A n c) l.length (flat encN l)) (hA : A = none) : l.length = 0 := by
  subst hA
  rcases own_blk h with ⟨_, h0, _⟩ | ⟨g, c2, rest, e1, _⟩
  · exact h0
  · injection e1 with e2
    cases e2
theorem Two.fresh (T : Two w B v1 v2 al de) : ∀ q, w.heap.size ≤ q → v1.ownBlock ≠ some q ∧ v2.ownBlock ≠ some q := fun q hq =>
  ⟨fun e => by have := (T.o1.lt q e).2; omega, fun e => by have := (T.o2.lt q e).2; omega⟩
theorem Two.swap1 (T : Two w B v1 v2 al de) {va : Value} (HOa : w.ownsRow B 33 2 va al'.length (flat encN al')) (hva : ∀ q, va.ownBlock = some q → v2.ownBlock ≠ some q) : Two w B va v2 al' de :=
  ⟨HOa, T.o2, by
    cases h : va.ownBlock with
    | none => exact .inl rfl
    | some q => exact .inr (fun e => hva q h e.symm)⟩
end
/-- The state of the walk: the arena, two rows of names of the walk's own. -/
structure St (w0 w : World) (B : Nat) (k : AK) (x : Ar) (v7 v8 : Value) (al de : List (Int × Int)) : Prop where
  K : ArAt w k x
  T : Two w B v7 v8 al de
  F : Fr [] w0 w
  zk : w0.heap.size ≤ k.ap ∧ w0.heap.size ≤ k.sb ∧ w0.heap.size ≤ k.p ∧ w0.heap.size ≤ k.nb ∧ w0.heap.size ≤ k.hb
  zb : k.ap < B ∧ k.sb < B ∧ k.p < B ∧ k.nb < B ∧ k.hb < B
  zB : B ≤ w.heap.size
  z0 : 0 < w0.heap.size
section
variable {w0 w w' : World} {B : Nat} {k : AK} {x x' : Ar} {v7 v8 v' : Value} {al de al' : List (Int × Int)}
theorem St.fr0 (H : St w0 w B k x v7 v8 al de) (f : Fr [] w w') : St w0 w' B k x v7 v8 al de :=
  ⟨H.K.fr0 f, H.T.fr0 f, H.F.trans f, H.zk, H.zb, Nat.le_trans H.zB f.size, H.z0⟩
theorem ArAt.frB {S : List Nat} (K : ArAt w k x) (f : Fr S w w') (h : ∀ q ∈ S, B ≤ q) (zb : k.ap < B ∧ k.sb < B ∧ k.p < B ∧ k.nb < B ∧ k.hb < B) : ArAt w' k x := by
  have no : ∀ q, q < B → q ∉ S := fun q hq hm => by have := h q hm; omega
  exact K.fr f (no _ zb.1) (fun _ => no _ zb.2.1) (no _ zb.2.2.1) (no _ zb.2.2.2.1) (no _ zb.2.2.2.2) (no _ (by show 0 < B; omega))
/-- What lies beyond is written. -/
theorem St.own {S : List Nat} (H : St w0 w B k x v7 v8 al de) (f : Fr S w w') (h : ∀ q ∈ S, B ≤ q ∧ v7.ownBlock ≠ some q ∧ v8.ownBlock ≠ some q) : St w0 w' B k x v7 v8 al de :=
  ⟨H.K.frB f (fun q hq => (h q hq).1) H.zb, H.T.fr f (fun q hq => .inr (h q hq).2), H.F.trans_new f (fun q hq => .inr (by have := (h q hq).1; have := H.zk; have := H.zb; omega)), H.zk, H.zb, Nat.le_trans H.zB f.size, H.z0⟩
theorem St.own1 {q : Nat} (H : St w0 w B k x v7 v8 al de) (f : Fr [q] w w') (h : B ≤ q ∧ v7.ownBlock ≠ some q ∧ v8.ownBlock ≠ some q) : St w0 w' B k x v7 v8 al de :=
  H.own f (by intro r hr; obtain rfl := List.mem_singleton.1 hr; exact h)
/-- The arena is written. -/
theorem St.ar (H : St w0 w B k x v7 v8 al de) (K : ArAt w' k x') (f : Fr [k.sb, k.ap, k.nb, k.hb] w w') : St w0 w' B k x' v7 v8 al de :=
  ⟨K, H.T.fr f (fun q hq => .inl (by have := H.zb; simp only [List.mem_cons, List.not_mem_nil, or_false] at hq; omega)), H.F.trans_new f (fun q hq => .inr (by have := H.zk; simp only [List.mem_cons, List.not_mem_nil, or_false] at hq; omega)), H.zk, H.zb, Nat.le_trans H.zB f.size, H.z0⟩
theorem St.bx (H : St w0 w B k x v7 v8 al de) {q : Nat} {T : TypeId} {l : List Value} (b : Blk w q T l) (hq : B ≤ q) (f : Fr [k.sb, k.ap, k.nb, k.hb] w w') : Blk w' q T l :=
  b.fr f (by have := H.zb; simp; omega)
theorem grown_B {row : Option Nat} (hg : w.grownBy w' row) (K : ArAt w k x) (hr : ∀ q, row = some q → B ≤ q) (zb : k.ap < B ∧ k.sb < B ∧ k.p < B ∧ k.nb < B ∧ k.hb < B) : ArAt w' k x :=
  K.frB (Fr.of_grown hg) (fun q hq => hr q (by cases row with | none => simp at hq | some r => simp at hq; rw [hq])) zb
theorem St.app1 (H : St w0 w B k x v7 v8 al de) (hg : w.grownBy w' v7.ownBlock) (ho : w'.ownsRow B 33 2 v' al'.length (flat encN al')) (hat : v'.ownBlock = v7.ownBlock ∨ v'.ownBlock = some w.heap.size) : St w0 w' B k x v' v8 al' de :=
  ⟨grown_B hg H.K (own_ge H.T.o1) H.zb, H.T.app1 hg ho hat, H.F.grown hg (fun q hq => by have := own_ge H.T.o1 q hq; have := H.zk; have := H.zb; omega), H.zk, H.zb, Nat.le_trans H.zB (Fr.of_grown hg).size, H.z0⟩
theorem St.app2 (H : St w0 w B k x v7 v8 al de) (hg : w.grownBy w' v8.ownBlock) (ho : w'.ownsRow B 33 2 v' al'.length (flat encN al')) (hat : v'.ownBlock = v8.ownBlock ∨ v'.ownBlock = some w.heap.size) : St w0 w' B k x v7 v' al al' :=
  ⟨grown_B hg H.K (own_ge H.T.o2) H.zb, H.T.app2 hg ho hat, H.F.grown hg (fun q hq => by have := own_ge H.T.o2 q hq; have := H.zk; have := H.zb; omega), H.zk, H.zb, Nat.le_trans H.zB (Fr.of_grown hg).size, H.z0⟩
theorem St.swap1 (H : St w0 w B k x v7 v8 al de) {va : Value} (HOa : w.ownsRow B 33 2 va al'.length (flat encN al')) (hva : ∀ q, va.ownBlock = some q → v8.ownBlock ≠ some q) : St w0 w B k x va v8 al' de :=
  ⟨H.K, H.T.swap1 HOa hva, H.F, H.zk, H.zb, H.zB, H.z0⟩
end
theorem pick_row {w : World} {A0 : Option Addr} {n : Nat} (h : ∀ j : Nat, j < n → ∃ (x : Addr) (z : Int), A0 = some x ∧ w.cell? (x.add (((j : Nat) : Int).toNat * 1)) = some (.int .i64 z) ∧ (Lit.int .i64 z).wf = true) : ∀ m, m ≤ n →
    ∃ qs : List Int, qs.length = m ∧ ∀ (j : Nat) q, qs[j]? = some q → ∃ a, A0 = some a ∧ w.cell? (a.add (((j : Nat) : Int).toNat * 1)) = some (.int .i64 q) := by
  intro m
  induction m with
  | zero => intro _; exact ⟨[], rfl, fun j q hj => by simp at hj⟩
  | succ m ih =>
    intro hm
    obtain ⟨qs, hl, hq⟩ := ih (by omega)
    obtain ⟨a, z, ha, hc, _⟩ := h m (by omega)
    refine ⟨qs ++ [z], by simp [hl], fun j q hj => ?_⟩
    rcases Nat.lt_or_ge j m with hjm | hjm
    · rw [List.getElem?_append_left (by omega)] at hj
      exact hq j q hj
    · have hlt := (List.getElem?_eq_some_iff.1 hj).1
      simp only [List.length_append, List.length_cons, List.length_nil] at hlt
      obtain rfl : j = m := by omega
      rw [List.getElem?_append_right (by omega), hl, Nat.sub_self] at hj
      obtain rfl := Option.some.inj hj
      exact ⟨a, ha, hc⟩
theorem idx_of (pt : Int) (n : Nat) (h0 : 0 < n) (h1 : n ≤ 1000) : ∃ kk : Nat, IntKind.i64.wrap ((IntKind.u64.wrap pt).tmod (IntKind.u64.wrap (n : Int))) = (kk : Int) ∧ kk < n := by
  have e : ∀ z : Int, IntKind.u64.wrap z = z % 18446744073709551616 := fun z => by simp [IntKind.wrap, IntKind.bits, IntKind.signed]
  rw [e, e, IntKind.wrap_i64, show (n : Int) % 18446744073709551616 = n by omega]
  rw [Int.tmod_eq_emod_of_nonneg (by omega)]
  have h2 := Int.emod_nonneg (pt % 18446744073709551616) (b := (n : Int)) (by omega)
  have h3 := Int.emod_lt_of_pos (pt % 18446744073709551616) (b := (n : Int)) (by omega)
  refine ⟨((pt % 18446744073709551616) % (n : Int)).toNat, ?_, by omega⟩
  generalize (pt % 18446744073709551616) % (n : Int) = r at *
  omega
end Go.Proofs.YtjjaijabdfoanaaDoor.Arn
