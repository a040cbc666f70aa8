/- The lists by links in memory, told as rows of numbers. -/
import Derived.Test.YtcbkpekbfkaeeaaDoorLsW4
import Derived.Test.YtcbkpekbfkaeeaaDoorLsAbs
set_option linter.unusedVariables false
namespace Go.Proofs.YtcbkpekbfkaeeaaDoor.Ls
open Go Go.RowKit Go.Proofs.YtcbkpekbfkaeeaaDoor.Sx
structure LsR (w : World) (p nb hb N H : Nat) (ls : Rows) : Prop where
  ex : ∃ x, LsAt w p nb hb N H x ∧ Rep N ls x
  len : ls.length = H
theorem LsR.fr {S : List Nat} {w w' : World} {p nb hb N H : Nat} {ls : Rows} (R : LsR w p nb hb N H ls) (k : Fr S w w') (h1 : p ∉ S) (h2 : nb ∉ S) (h3 : hb ∉ S) (h4 : 0 ∉ S) : LsR w' p nb hb N H ls :=
  ⟨let ⟨x, L, r⟩ := R.ex; ⟨x, L.fr k h1 h2 h3 h4, r⟩, R.len⟩
theorem LsR.fr0 {w w' : World} {p nb hb N H : Nat} {ls : Rows} (R : LsR w p nb hb N H ls) (k : Fr [] w w') : LsR w' p nb hb N H ls := R.fr k (by simp) (by simp) (by simp) (by simp)
theorem wf0 {N H : Nat} {x : LS} {ls : Rows} (hs : N ≤ 65536) (R : Rep N ls x) (hl : ls.length = H) : WF N H x := by
  have hH : ∀ (i : Nat) u, x.heads[i]? = some u → ∃ l, ls[i]? = some l ∧ u = ⟨(l[0]?).getD (-1), (l.getLast?).getD (-1), l.length⟩ := by
    intro i u hu
    have hi : i < ls.length := by rw [← R.lh]; exact (List.getElem?_eq_some_iff.1 hu).1
    refine ⟨ls[i], List.getElem?_eq_getElem hi, ?_⟩
    have := R.hd i _ (List.getElem?_eq_getElem hi)
    rw [hu] at this
    exact Option.some.inj this
  have hg : ∀ (i : Nat) l (o : Option Int), ls[i]? = some l → (∀ n, o = some n → n ∈ l) → o.getD (-1) = -1 ∨ 0 ≤ o.getD (-1) ∧ o.getD (-1) < (N : Int) := by
    intro i l o h ho
    cases o with
    | none => exact .inl rfl
    | some n => exact .inr (R.range h (ho n rfl))
  refine ⟨?_, ?_, ?_, ?_, ?_⟩
  · intro i u hu
    obtain ⟨l, h, rfl⟩ := hH i u hu
    exact hg i l _ h (fun n hn => List.mem_of_getElem? hn)
  · intro i u hu
    obtain ⟨l, h, rfl⟩ := hH i u hu
    exact hg i l _ h (fun n hn => List.mem_of_getLast? hn)
  · intro i u hu
    obtain ⟨l, h, rfl⟩ := hH i u hu
    have h1 := R.len h
    have h2 := hs
    dsimp only
    omega
  · intro i u hu hc
    obtain ⟨l, h, rfl⟩ := hH i u hu
    cases l with
    | nil => simp at hc
    | cons a r => exact R.range h (n := a) (by simp)
  · intro i y hy hlo
    have hi : i < N := by rw [← R.ln]; exact (List.getElem?_eq_some_iff.1 hy).1
    have hex : ¬ ∀ (j : Nat) l, ls[j]? = some l → ((i : Nat) : Int) ∉ l := fun hall => by
      have := R.lo i (by omega) (by omega) hall
      rw [Int.toNat_natCast, hy] at this
      exact hlo (Option.some.inj this)
    have : ∃ (j : Nat) (l : List Int), ls[j]? = some l ∧ ((i : Nat) : Int) ∈ l := by
      apply Classical.byContradiction
      intro hn
      exact hex (fun j l hl hm => hn ⟨j, l, hl, hm⟩)
    obtain ⟨j, l, hl, hm⟩ := this
    obtain ⟨k, hk⟩ := List.getElem?_of_mem hm
    have h1 := (R.nd j l k _ hl hk).2
    rw [Int.toNat_natCast, hy] at h1
    obtain rfl := Option.some.inj h1
    have hj : j < ls.length := (List.getElem?_eq_some_iff.1 hl).1
    refine ⟨⟨by dsimp only; omega, by dsimp only; omega⟩, ?_, hg j l _ hl (fun n hn => List.mem_of_getElem? hn)⟩
    dsimp only [pv]
    split
    · exact .inl rfl
    · exact hg j l _ hl (fun n hn => List.mem_of_getElem? hn)
theorem wf {w : World} {p nb hb N H : Nat} {x : LS} {ls : Rows} (L : LsAt w p nb hb N H x) (R : Rep N ls x) (hl : ls.length = H) : WF N H x := wf0 L.sN R hl
section
variable {w : World} {p nb hb N H : Nat} {ls : Rows}
/-- A node that is in a row, or in none. -/
theorem node_of {x : LS} (R : Rep N ls x) {nd : Int} (h : okN N nd) : (isIn ls nd = none ∧ x.nodes[nd.toNat]? = some loose) ∨
    ∃ (i : Nat) (l : List Int) (k : Nat) (y : Link), isIn ls nd = some i ∧ ls[i]? = some l ∧ l[k]? = some nd ∧ x.nodes[nd.toNat]? = some y ∧ y.lst = i ∧ ¬ y = loose := by
  cases hi : isIn ls nd with
  | none => exact .inl ⟨rfl, R.lo nd h.1 h.2 (isIn_none hi)⟩
  | some i =>
    obtain ⟨l, hl, hm⟩ := isIn_some hi
    obtain ⟨k, hk⟩ := List.getElem?_of_mem hm
    have h1 := (R.nd i l k nd hl hk).2
    refine .inr ⟨i, l, k, _, rfl, hl, hk, h1, rfl, ?_⟩
    intro e
    have := congrArg Link.lst e
    simp [loose] at this
theorem head_of {x : LS} (R : Rep N ls x) {li : Int} (h : okL ls li) : x.heads[li.toNat]? = some ⟨((rowAt ls li)[0]?).getD (-1), ((rowAt ls li).getLast?).getD (-1), (rowAt ls li).length⟩ := R.hd _ _ (rowAt_some h)
theorem push_r (Q : LsR w p nb hb N H ls) (li nd : Int) : Cl Tryd.prog 42 [.pointer (some ⟨p, 0, none⟩), .int .i64 li, .int .i64 nd] w
    (fun v w' => v = .int .i64 (aPush N ls li nd false).2 ∧ LsR w' p nb hb N H (aPush N ls li nd false).1 ∧ Fr [nb, hb] w w') := by
  obtain ⟨⟨x, L, R⟩, hl⟩ := Q
  refine Push_of w p li nd _ ?_
  unfold aPush
  by_cases hok : okL ls li ∧ okN N nd
  · rw [if_pos hok]
    obtain ⟨hL, hN⟩ := hok
    have hL' : 0 ≤ li ∧ li < (H : Int) := by rw [← hl]; exact hL
    rcases node_of R hN with ⟨hi, hy⟩ | ⟨i, l, k, y, hi, hli, hk, hy, _, hlo⟩
    · rw [hi]
      refine (add_ok_false w p nb hb N H x L (wf L R hl) li nd hL' hN hy _ (head_of R hL)).mono ?_
      rintro v w' ⟨rfl, L', F⟩
      have r := R.back (rowAt_some hL) hN.1 hN.2 (isIn_none hi)
      have e : ((li.toNat : Nat) : Int) = li := Int.toNat_of_nonneg hL.1
      rw [e] at r
      exact ⟨rfl, ⟨⟨_, L', r⟩, by simpa using hl⟩, F⟩
    · rw [hi]
      refine (add_in_false w p nb hb N H x L li nd hL' hN y hy hlo).mono ?_
      rintro v w' ⟨rfl, L', F⟩
      exact ⟨rfl, ⟨⟨x, L', R⟩, hl⟩, F⟩
  · rw [if_neg hok]
    refine (add_bad_false w p nb hb N H x L li nd (by rw [← hl]; exact hok)).mono ?_
    rintro v w' ⟨rfl, L', F⟩
    exact ⟨rfl, ⟨⟨x, L', R⟩, hl⟩, F⟩
theorem without_eq {x : LS} (R : Rep N ls x) {nd : Int} {i k : Nat} {l : List Int} (hli : ls[i]? = some l) (hk : l[k]? = some nd) : l.eraseIdx k = without (rowAt ls (i : Int)) nd := by
  rw [rowAt_nat hli]; exact eraseIdx_without (R.nodup i l hli) hk
theorem drop_r (Q : LsR w p nb hb N H ls) (nd : Int) : Cl Tryd.prog 53 [.pointer (some ⟨p, 0, none⟩), .int .i64 nd] w
    (fun v w' => v = .int .i64 (aDrop N ls nd).2 ∧ LsR w' p nb hb N H (aDrop N ls nd).1 ∧ Fr [nb, hb] w w') := by
  obtain ⟨⟨x, L, R⟩, hl⟩ := Q
  unfold aDrop
  by_cases hN : okN N nd
  · rw [if_pos hN]
    rcases node_of R hN with ⟨hi, hy⟩ | ⟨i, l, k, y, hi, hli, hk, hy, _, hlo⟩
    · rw [hi]
      refine (drop_out w p nb hb N H x L nd hN hy).mono ?_
      rintro v w' ⟨rfl, L', F⟩
      exact ⟨rfl, ⟨⟨x, L', R⟩, hl⟩, F⟩
    · rw [hi]
      refine (drop_ok w p nb hb N H x L (wf L R hl) nd hN y hy hlo).mono ?_
      rintro v w' ⟨rfl, L', F⟩
      have r := R.remove hli hk
      rw [without_eq R hli hk] at r
      exact ⟨rfl, ⟨⟨_, L', r⟩, by simpa using hl⟩, F⟩
  · rw [if_neg hN]
    refine (drop_bad w p nb hb N H x L nd hN).mono ?_
    rintro v w' ⟨rfl, L', F⟩
    exact ⟨rfl, ⟨⟨x, L', R⟩, hl⟩, F⟩
/-- A row as a slice of the call's own. -/
theorem row_r (Q : LsR w p nb hb N H ls) (li : Int) : Cl Tryd.prog 64 [.pointer (some ⟨p, 0, none⟩), .int .i64 li, .bool false] w
    (fun v w' => w'.ownsRow w.heap.size 3 1 v (aAll ls li).length (ints (aAll ls li)) ∧ LsR w' p nb hb N H ls ∧ Fr [] w w') := by
  obtain ⟨⟨x, L, R⟩, hl⟩ := Q
  unfold aAll
  by_cases hL : okL ls li
  · rw [if_pos hL]
    have hr := rowAt_some hL
    have hb' := R.len hr
    have hs := L.sN
    refine (row_false w p nb hb N H x L li (by rw [← hl]; exact hL) _ (head_of R hL) (rowAt ls li) (by omega) rfl ?_).mono ?_
    · intro k n hn
      obtain ⟨h1, h2⟩ := R.nd _ _ k n hr hn
      exact ⟨h1, _, h2, rfl⟩
    · rintro v w' ⟨HO, L', F⟩
      exact ⟨HO, ⟨⟨x, L', R⟩, hl⟩, F⟩
  · rw [if_neg hL]
    refine (row_bad_false w p nb hb N H x L li (by rw [← hl]; exact hL)).mono ?_
    rintro v w' ⟨HO, L', F⟩
    exact ⟨HO, ⟨⟨x, L', R⟩, hl⟩, F⟩
theorem rowb_r (Q : LsR w p nb hb N H ls) (li : Int) : Cl Tryd.prog 64 [.pointer (some ⟨p, 0, none⟩), .int .i64 li, .bool true] w
    (fun v w' => w'.ownsRow w.heap.size 3 1 v (aAll ls li).reverse.length (ints (aAll ls li).reverse) ∧ LsR w' p nb hb N H ls ∧ Fr [] w w') := by
  obtain ⟨⟨x, L, R⟩, hl⟩ := Q
  unfold aAll
  by_cases hL : okL ls li
  · rw [if_pos hL]
    have hr := rowAt_some hL
    have hb' := R.len hr
    have hs := L.sN
    refine (row_true w p nb hb N H x L li (by rw [← hl]; exact hL) _ (head_of R hL) (rowAt ls li).reverse (by simp; omega) (by show ((rowAt ls li).getLast?).getD (-1) = _; rw [← List.head?_eq_getElem? (l := (rowAt ls li).reverse), List.head?_reverse]) ?_).mono ?_
    · intro k n hn
      have hk : k < (rowAt ls li).length := by have := (List.getElem?_eq_some_iff.1 hn).1; simpa using this
      rw [List.getElem?_reverse hk] at hn
      obtain ⟨h1, h2⟩ := R.nd _ _ _ n hr hn
      refine ⟨h1, _, h2, ?_⟩
      dsimp only [pv]
      by_cases e : (rowAt ls li).length - 1 - k = 0
      · rw [if_pos e, List.getElem?_eq_none (by simp; omega)]; rfl
      · rw [if_neg e, List.getElem?_reverse (by omega), show (rowAt ls li).length - 1 - (k + 1) = (rowAt ls li).length - 1 - k - 1 by omega]
    · rintro v w' ⟨HO, L', F⟩
      exact ⟨HO, ⟨⟨x, L', R⟩, hl⟩, F⟩
  · rw [if_neg hL]
    refine (row_bad_true w p nb hb N H x L li (by rw [← hl]; exact hL)).mono ?_
    rintro v w' ⟨HO, L', F⟩
    exact ⟨HO, ⟨⟨x, L', R⟩, hl⟩, F⟩
theorem new_r (n m : Nat) (hG : Glb w) (hn : n ≤ 65536) (hm : m ≤ 65536) : Cl Tryd.prog 26 [.int .i64 n, .int .i64 m] w
    (fun v w' => ∃ p nb hb, v = .tuple #[.pointer (some ⟨p, 0, none⟩), .int .i64 0] ∧ LsR w' p nb hb n m (List.replicate m []) ∧ w.heap.size ≤ p ∧ w.heap.size ≤ nb ∧ w.heap.size ≤ hb ∧ Fr [] w w') := by
  refine (new_c w n m hG hn hm).mono ?_
  rintro v w' ⟨p, nb, hb, rfl, L, h1, h2, h3, F⟩
  exact ⟨p, nb, hb, rfl, ⟨⟨_, L, Rep.new n m⟩, by simp⟩, h1, h2, h3, F⟩
end
end Go.Proofs.YtcbkpekbfkaeeaaDoor.Ls
