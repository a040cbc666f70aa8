/- The lists by links in memory, told as rows of numbers. -/
import Derived.Test.YtjjaijabdfoanaaDoorLsW4
import Derived.Test.YtjjaijabdfoanaaDoorLsAbs
set_option linter.unusedVariables false
namespace Go.Proofs.YtjjaijabdfoanaaDoor.Ls
open Go Go.RowKit Go.Proofs.YtjjaijabdfoanaaDoor.Sx
structure LsR (w : World) (p nb hb N H : Nat) (ls : Rows) : Prop where
  ex : ∃ x, LsAt w p nb hb N H x ∧ Rep N ls x
  len : ls.length = H
theorem LsR.fr {S : List Nat} {w w' : World} {p nb hb N H : Nat} {ls : Rows} (R : LsR w p nb hb N H ls) (k : Fr S w w') (h1 : p ∉ S) (h2 : nb ∉ S) (h3 : hb ∉ S) (h4 : 0 ∉ S) : LsR w' p nb hb N H ls :=
  ⟨let ⟨x, L, r⟩ := R.ex; ⟨x, L.fr k h1 h2 h3 h4, r⟩, R.len⟩
theorem LsR.fr0 {w w' : World} {p nb hb N H : Nat} {ls : Rows} (R : LsR w p nb hb N H ls) (k : Fr [] w w') : LsR w' p nb hb N H ls := R.fr k (by simp) (by simp) (by simp) (by simp)
theorem wf0 {N H : Nat} {x : LS} {ls : Rows} (hs : N ≤ 65536) (R : Rep N ls x) (hl : ls.length = H) : WF N H x := by
  have hH : ∀ (i : Nat) u, x.heads[i]? = some u → ∃ l, ls[i]? = some l ∧ u = ⟨(l[0]?).getD (-1), (l.getLast?).getD (-1), l.length⟩ := by
    intro i u hu
    have hi : i < ls.length := by rw [← R.lh]; exact (List.getElem?_eq_some_iff.1 hu).1
    refine ⟨ls[i], List.getElem?_eq_getElem hi, ?_⟩
    have := R.hd i _ (List.getElem?_eq_getElem hi)
    rw [hu] at this
    exact Option.some.inj this
  have hg : ∀ (i : Nat) l (o : Option Int), ls[i]? = some l → (∀ n, o = some n → n ∈ l) → o.getD (-1) = -1 ∨ 0 ≤ o.getD (-1) ∧ o.getD (-1) < (N : Int) := by
    intro i l o h ho
    cases o with
    | none => exact .inl rfl
    | some n => exact .inr (R.range h (ho n rfl))
  refine ⟨?_, ?_, ?_, ?_, ?_⟩
  · intro i u hu
    obtain ⟨l, h, rfl⟩ := hH i u hu
    exact hg i l _ h (fun n hn => List.mem_of_getElem? hn)
  · intro i u hu
    obtain ⟨l, h, rfl⟩ := hH i u hu
    exact hg i l _ h (fun n hn => List.mem_of_getLast? hn)
  · intro i u hu
    obtain ⟨l, h, rfl⟩ := hH i u hu
    have h1 := R.len h
    have h2 := hs
    dsimp only
    omega
  · intro i u hu hc
    obtain ⟨l, h, rfl⟩ := hH i u hu
    cases l with
    | nil => simp at hc
    | cons a r => exact R.range h (n := a) (by simp)
  · intro i y hy hlo
    have hi : i < N := by rw [← R.ln]; exact (List.getElem?_eq_some_iff.1 hy).1
    have hex : ¬ ∀ (j : Nat) l, ls[j]? = some l → ((i : Nat) : Int) ∉ l := fun hall => by
      have := R.lo i (by omega) (by omega) hall
      rw [Int.toNat_natCast, hy] at this
      exact hlo (Option.some.inj this)
    have : ∃ (j : Nat) (l : List Int), ls[j]? = some l ∧ ((i : Nat) : Int) ∈ l := by
      apply Classical.byContradiction
      intro hn
      exact hex (fun j l hl hm => hn ⟨j, l, hl, hm⟩)
    obtain ⟨j, l, hl, hm⟩ := this
    obtain ⟨k, hk⟩ := List.getElem?_of_mem hm
    have h1 := (R.nd j l k _ hl hk).2
    rw [Int.toNat_natCast, hy] at h1
    obtain rfl := Option.some.inj h1
    have hj : j < ls.length := (List.getElem?_eq_some_iff.1 hl).1
    refine ⟨⟨by dsimp only; omega, by dsimp only; omega⟩, ?_, hg j l _ hl (fun n hn => List.mem_of_getElem? hn)⟩
    dsimp only [pv]
    split
    · exact .inl rfl
    · exact hg j l _ hl (fun n hn => List.mem_of_getElem? hn)
theorem wf {w : World} {p nb hb N H : Nat} {x : LS} {ls : Rows} (L : LsAt w p nb hb N H x) (R : Rep N ls x) (hl : ls.length = H) : WF N H x := wf0 L.sN R hl
section
variable {w : World} {p nb hb N H : Nat} {ls : Rows}
/-- A node that is in a row, or in none. -/
theorem node_of {x : LS} (R : Rep N ls x) {nd : Int} (h : okN N nd) : (isIn ls nd = none ∧ x.nodes[nd.toNat]? = some loose) ∨
    ∃ (i : Nat) (l : List Int) (k : Nat) (y : Link), isIn ls nd = some i ∧ ls[i]? = some l ∧ l[k]? = some nd ∧ x.nodes[nd.toNat]? = some y ∧ y.lst = i ∧ ¬ y = loose := by
  cases hi : isIn ls nd with
  | none => exact .inl ⟨rfl, R.lo nd h.1 h.2 (isIn_none hi)⟩
  | some i =>
    obtain ⟨l, hl, hm⟩ := isIn_some hi
    obtain ⟨k, hk⟩ := List.getElem?_of_mem hm
    have h1 := (R.nd i l k nd hl hk).2
    refine .inr ⟨i, l, k, _, rfl, hl, hk, h1, rfl, ?_⟩
    intro e
    have := congrArg Link.lst e
    simp [loose] at this
theorem head_of {x : LS} (R : Rep N ls x) {li : Int} (h : okL ls li) : x.heads[li.toNat]? = some ⟨((rowAt ls li)[0]?).getD (-1), ((rowAt ls li).getLast?).getD (-1), (rowAt ls li).length⟩ := R.hd _ _ (rowAt_some h)
theorem push_r (Q : LsR w p nb hb N H ls) (li nd : Int) : Cl Tryd.prog 27 [.pointer (some ⟨p, 0, none⟩), .int .i64 li, .int .i64 nd] w
    (fun v w' => v = .int .i64 (aPush N ls li nd false).2 ∧ LsR w' p nb hb N H (aPush N ls li nd false).1 ∧ Fr [nb, hb] w w') := by
  obtain ⟨⟨x, L, R⟩, hl⟩ := Q
  refine Push_of w p li nd _ ?_
  unfold aPush
  by_cases hok : okL ls li ∧ okN N nd
  · rw [if_pos hok]
    obtain ⟨hL, hN⟩ := hok
    have hL' : 0 ≤ li ∧ li < (H : Int) := by rw [← hl]; exact hL
    rcases node_of R hN with ⟨hi, hy⟩ | ⟨i, l, k, y, hi, hli, hk, hy, _, hlo⟩
    · rw [hi]
      refine (add_ok_false w p nb hb N H x L (wf L R hl) li nd hL' hN hy _ (head_of R hL)).mono ?_
      rintro v w' ⟨rfl, L', F⟩
      have r := R.back (rowAt_some hL) hN.1 hN.2 (isIn_none hi)
      have e : ((li.toNat : Nat) : Int) = li := Int.toNat_of_nonneg hL.1
      rw [e] at r
      exact ⟨rfl, ⟨⟨_, L', r⟩, by simpa using hl⟩, F⟩
    · rw [hi]
      refine (add_in_false w p nb hb N H x L li nd hL' hN y hy hlo).mono ?_
      rintro v w' ⟨rfl, L', F⟩
      exact ⟨rfl, ⟨⟨x, L', R⟩, hl⟩, F⟩
  · rw [if_neg hok]
    refine (add_bad_false w p nb hb N H x L li nd (by rw [← hl]; exact hok)).mono ?_
    rintro v w' ⟨rfl, L', F⟩
    exact ⟨rfl, ⟨⟨x, L', R⟩, hl⟩, F⟩
theorem pop_r (Q : LsR w p nb hb N H ls) (li : Int) : Cl Tryd.prog 29 [.pointer (some ⟨p, 0, none⟩), .int .i64 li] w
    (fun v w' => v = .tuple #[.int .i64 (aPop ls li).2.1, .bool (aPop ls li).2.2] ∧ LsR w' p nb hb N H (aPop ls li).1 ∧ Fr [nb, hb] w w') := by
  obtain ⟨⟨x, L, R⟩, hl⟩ := Q
  unfold aPop
  by_cases hL : okL ls li
  · rw [if_pos hL]
    have hL' : 0 ≤ li ∧ li < (H : Int) := by rw [← hl]; exact hL
    have hh := head_of R hL
    have hr := rowAt_some hL
    cases hrow : rowAt ls li with
    | nil =>
      refine (pop_none w p nb hb N H x L li hL' _ hh (by rw [hrow]; rfl)).mono ?_
      rintro v w' ⟨rfl, L', F⟩
      exact ⟨rfl, ⟨⟨x, L', R⟩, hl⟩, F⟩
    | cons a r =>
      rw [hrow] at hh hr
      have ha : (a :: r)[0]? = some a := rfl
      have hy := (R.nd _ _ 0 a hr ha).2
      refine (pop_some w p nb hb N H x L (wf L R hl) li hL' _ hh (by simp; omega) _ hy (fun e => by have := congrArg Link.lst e; simp [loose] at this; omega)).mono ?_
      rintro v w' ⟨rfl, L', F⟩
      have r' := R.remove hr ha
      exact ⟨rfl, ⟨⟨_, L', r'⟩, by simpa using hl⟩, F⟩
  · rw [if_neg hL]
    refine (pop_bad w p nb hb N H x L li (by rw [← hl]; exact hL)).mono ?_
    rintro v w' ⟨rfl, L', F⟩
    exact ⟨rfl, ⟨⟨x, L', R⟩, hl⟩, F⟩
theorem len_r (Q : LsR w p nb hb N H ls) (li : Int) : Cl Tryd.prog 37 [.pointer (some ⟨p, 0, none⟩), .int .i64 li] w
    (fun v w' => v = .int .i64 (aLen ls li) ∧ LsR w' p nb hb N H ls ∧ Fr [] w w') := by
  obtain ⟨⟨x, L, R⟩, hl⟩ := Q
  unfold aLen
  by_cases hL : okL ls li
  · rw [if_pos hL]
    refine (len_ok w p nb hb N H x L li (by rw [← hl]; exact hL) _ (head_of R hL)).mono ?_
    rintro v w' ⟨rfl, L', F⟩
    exact ⟨rfl, ⟨⟨x, L', R⟩, hl⟩, F⟩
  · rw [if_neg hL]
    refine (len_bad w p nb hb N H x L li (by rw [← hl]; exact hL)).mono ?_
    rintro v w' ⟨rfl, L', F⟩
    exact ⟨rfl, ⟨⟨x, L', R⟩, hl⟩, F⟩
theorem without_eq {x : LS} (R : Rep N ls x) {nd : Int} {i k : Nat} {l : List Int} (hli : ls[i]? = some l) (hk : l[k]? = some nd) : l.eraseIdx k = without (rowAt ls (i : Int)) nd := by
  rw [rowAt_nat hli]; exact eraseIdx_without (R.nodup i l hli) hk
/-- A row as a slice of the call's own. -/
theorem new_r (n m : Nat) (hG : Glb w) (hn : n ≤ 65536) (hm : m ≤ 65536) : Cl Tryd.prog 26 [.int .i64 n, .int .i64 m] w
    (fun v w' => ∃ p nb hb, v = .tuple #[.pointer (some ⟨p, 0, none⟩), .int .i64 0] ∧ LsR w' p nb hb n m (List.replicate m []) ∧ w.heap.size ≤ p ∧ w.heap.size ≤ nb ∧ w.heap.size ≤ hb ∧ Fr [] w w') := by
  refine (new_c w n m hG hn hm).mono ?_
  rintro v w' ⟨p, nb, hb, rfl, L, h1, h2, h3, F⟩
  exact ⟨p, nb, hb, rfl, ⟨⟨_, L, Rep.new n m⟩, by simp⟩, h1, h2, h3, F⟩
end
end Go.Proofs.YtjjaijabdfoanaaDoor.Ls
