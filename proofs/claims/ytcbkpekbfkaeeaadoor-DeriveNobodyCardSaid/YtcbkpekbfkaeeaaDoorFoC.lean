/- Forests: how the words, links and lists stand for the entries; the forest in memory. -/
import Derived.Test.YtcbkpekbfkaeeaaDoorFoA
import Derived.Test.YtcbkpekbfkaeeaaDoorFoB
set_option linter.unusedVariables false
set_option linter.unusedSimpArgs false
namespace Go.Proofs.YtcbkpekbfkaeeaaDoor.Fo
open Go Go.RowKit Go.Proofs.YtcbkpekbfkaeeaaDoor.Sx Go.Proofs.YtcbkpekbfkaeeaaDoor.Ls
open Go.Proofs.YtcbkpekbfkaeeaaDoor.Lin (bit_or bit_get bit_has)
def wordBit (ws : List (BitVec 64)) (i : Nat) : Bool := ((ws[i / 64]?).getD 0#64).getLsbD (i % 64)
def lkOf (p : Int) : Int × Bool := if p < 0 then (0, true) else (p, false)
/-- All but D is as the entries say. -/
structure FRep (N : Nat) (L : En) (D : List Int) (ws : List (BitVec 64)) (lk : List (Int × Bool)) (rows : Ls.Rows) (sz : Int) : Prop where
  bits : ∀ i : Nat, i < 1024 → wordBit ws i = (has L (i : Int) && !D.contains (i : Int))
  lks : ∀ e ∈ L, lk[e.1.toNat]? = some (lkOf e.2)
  rws : rows = (List.range N).map (fun i : Nat => (kids L (i : Int)).filter (fun c => !D.contains c))
  siz : sz = (L.length : Int) - D.length
  inv : Inv N L
theorem has_snoc {L : En} {n p i : Int} : has (L ++ [(n, p)]) i = (has L i || n == i) := by simp [has]
theorem wordBit_set {ws : List (BitVec 64)} {n i : Nat} {b : BitVec 64} (hw : ws.length = 16) (hn : n < 1024) : wordBit (ws.set (n / 64) b) i = if n / 64 = i / 64 then b.getLsbD (i % 64) else wordBit ws i := by
  unfold wordBit
  rw [List.getElem?_set]
  split
  · rw [if_pos (by omega)]; rfl
  · rfl
theorem wordBit_on {ws : List (BitVec 64)} {n i : Nat} (hw : ws.length = 16) (hn : n < 1024) : wordBit (ws.set (n / 64) (((ws[n / 64]?).getD 0#64) ||| ((1#64) <<< (n % 64)))) i = (wordBit ws i || decide (i = n)) := by
  rw [wordBit_set hw hn]
  split
  · rename_i h
    rw [bit_or _ (by omega)]
    unfold wordBit
    rw [h]
    congr 1
    exact decide_eq_decide.2 (by omega)
  · rename_i h
    rw [decide_eq_false (by rintro rfl; exact h rfl), Bool.or_false]
theorem wordBit_off {ws : List (BitVec 64)} {n i : Nat} (hw : ws.length = 16) (hn : n < 1024) : wordBit (ws.set (n / 64) (((ws[n / 64]?).getD 0#64) &&& ~~~((1#64) <<< (n % 64)))) i = (wordBit ws i && !decide (i = n)) := by
  rw [wordBit_set hw hn]
  split
  · rename_i h
    rw [BitVec.getLsbD_and, BitVec.getLsbD_not, bit_get (by omega)]
    unfold wordBit
    rw [h]
    have h1 : decide (i % 64 < 64) = true := decide_eq_true (by omega)
    rw [h1, Bool.true_and]
    congr 2
    exact decide_eq_decide.2 (by omega)
  · rename_i h
    rw [decide_eq_false (by rintro rfl; exact h rfl)]
    simp
theorem kids_snoc {L : En} {n p i : Int} : kids (L ++ [(n, p)]) i = kids L i ++ (if p = i then [n] else []) := by
  unfold kids
  rw [List.filter_append, List.map_append]
  congr 1
  by_cases h : p = i
  · simp [h]
  · simp [h]
theorem inv_snoc {N : Nat} {L : En} {n p : Int} (I : Inv N L) (hn : okF N n) (hh : has L n = false) (hp : p = -1 ∨ has L p = true) : Inv N (L ++ [(n, p)]) := by
  refine ⟨fun e he => ?_, ?_, fun i e he => ?_⟩
  · rcases List.mem_append.1 he with h | h
    · exact I.rg e h
    · simp at h; subst h; exact hn
  · rw [List.map_append, List.nodup_append]
    refine ⟨I.nd, by simp, fun a ha b hb e => ?_⟩
    simp at hb
    subst hb; subst e
    obtain ⟨x, hx, rfl⟩ := List.mem_map.1 ha
    have : has L x.1 = true := has_iff.2 ⟨x.2, hx⟩
    rw [hh] at this; cases this
  · rcases Nat.lt_or_ge i L.length with h | h
    · rw [List.getElem?_append_left h] at he
      rcases I.pa i e he with h1 | ⟨j, f, h1, h2, h3⟩
      · exact .inl h1
      · exact .inr ⟨j, f, h1, by rw [List.getElem?_append_left (by omega)]; exact h2, h3⟩
    · have hl := (List.getElem?_eq_some_iff.1 he).1
      simp only [List.length_append, List.length_cons, List.length_nil] at hl
      obtain rfl : i = L.length := by omega
      simp at he
      subst he
      rcases hp with hp | hp
      · exact .inl hp
      · obtain ⟨q, hq⟩ := has_iff.1 hp
        obtain ⟨j, hj⟩ := List.getElem?_of_mem hq
        have hjl := (List.getElem?_eq_some_iff.1 hj).1
        exact .inr ⟨j, _, hjl, by rw [List.getElem?_append_left hjl]; exact hj, rfl⟩
section
variable {N : Nat} {L : En} {D : List Int} {ws : List (BitVec 64)} {lk : List (Int × Bool)} {rows : Ls.Rows} {sz : Int}
theorem FRep.new (hN : N ≤ 1024) : FRep N [] [] (List.replicate 16 0#64) (List.replicate N (0, false)) (List.replicate N []) 0 := by
  refine ⟨fun i hi => ?_, fun e h => absurd h (by simp), ?_, rfl, Inv.nil N⟩
  · unfold wordBit
    rw [List.getElem?_replicate]
    split <;> simp [has]
  · apply List.ext_getElem?
    intro j
    rw [List.getElem?_replicate, List.getElem?_map]
    by_cases h : j < N
    · rw [if_pos h, List.getElem?_range h]; rfl
    · rw [if_neg h, List.getElem?_eq_none (by simp; omega)]; rfl
theorem FRep.row (R : FRep N L D ws lk rows sz) {i : Nat} (hi : i < N) : rows[i]? = some ((kids L (i : Int)).filter (fun c => !D.contains c)) := by
  rw [R.rws, List.getElem?_map, List.getElem?_range hi]; rfl
theorem FRep.rlen (R : FRep N L D ws lk rows sz) : rows.length = N := by rw [R.rws]; simp
theorem FRep.isIn_no (R : FRep N L [] ws lk rows sz) {n : Int} (h : has L n = false) : isIn rows n = none := by
  cases hc : isIn rows n with
  | none => rfl
  | some i =>
    obtain ⟨l, hl, hn⟩ := isIn_some hc
    have hi := (List.getElem?_eq_some_iff.1 hl).1
    rw [R.row (by rw [R.rlen] at hi; exact hi)] at hl
    injection hl with hl
    subst hl
    have := has_iff.2 ⟨_, kids_iff.1 (List.mem_filter.1 hn).1⟩
    rw [h] at this; cases this
theorem filter_all (l : List Int) : l.filter (fun c => !([] : List Int).contains c) = l := List.filter_eq_self.2 (fun _ _ => by simp)
/-- A node is set. -/
theorem FRep.set (R : FRep N L [] ws lk rows sz) (hw : ws.length = 16) (hl : lk.length = N) (hN : N ≤ 1024) {n : Nat} {p : Int} (hn : okF N n) (hh : has L n = false) (hp : p = -1 ∨ has L p = true) {rows' : Ls.Rows} (hr : rows' = (List.range N).map (fun i : Nat => (kids (L ++ [((n : Int), p)]) (i : Int)).filter (fun c => !([] : List Int).contains c))) :
    FRep N (L ++ [((n : Int), p)]) [] (ws.set (n / 64) (((ws[n / 64]?).getD 0#64) ||| ((1#64) <<< (n % 64)))) (lk.set n (lkOf p)) rows' (sz + 1) := by
  have hnN : n < N := by have := hn.2; omega
  refine ⟨fun i hi => ?_, fun e he => ?_, hr, ?_, inv_snoc R.inv hn hh hp⟩
  · rw [wordBit_on hw (by omega), R.bits i hi, has_snoc]
    have : decide (i = n) = ((n : Int) == (i : Int)) := by
      by_cases e : i = n
      · subst e; simp
      · have : ¬ (n : Int) = i := by omega
        simp [e, this]
    rw [this]
    simp
  · rcases List.mem_append.1 he with h | h
    · have h1 := R.inv.rg e h
      have hne : e.1.toNat ≠ n := by
        intro e1
        have : has L (n : Int) = true := has_iff.2 ⟨e.2, by rw [show (n : Int) = e.1 by omega]; exact h⟩
        rw [hh] at this; cases this
      rw [List.getElem?_set_ne (Ne.symm hne)]
      exact R.lks e h
    · simp at h
      subst h
      simp only [Int.toNat_natCast]
      rw [List.getElem?_set_self (by omega)]
  · rw [R.siz, List.length_append]; simp only [List.length_cons, List.length_nil]; omega
theorem FRep.rows_root (R : FRep N L [] ws lk rows sz) {n : Int} : rows = (List.range N).map (fun i : Nat => (kids (L ++ [(n, -1)]) (i : Int)).filter (fun c => !([] : List Int).contains c)) := by
  rw [R.rws]
  refine List.map_congr_left (fun i hi => ?_)
  rw [kids_snoc, if_neg (by omega), List.append_nil]
theorem FRep.rows_der (R : FRep N L [] ws lk rows sz) {n p : Int} (hp : okF N p) (hn : okF N n) (hh : has L n = false) : aPush N rows p n false = ((List.range N).map (fun i : Nat => (kids (L ++ [(n, p)]) (i : Int)).filter (fun c => !([] : List Int).contains c)), 0) := by
  unfold aPush
  have hpl : okL rows p := ⟨hp.1, by rw [R.rlen]; exact hp.2⟩
  rw [if_pos ⟨hpl, hn⟩, R.isIn_no hh]
  simp only [Option.isSome_none, Bool.false_eq_true, if_false]
  congr 1
  have hpN : p.toNat < N := by have := hp.1; have := hp.2; omega
  apply List.ext_getElem?
  intro j
  rw [List.getElem?_set, List.getElem?_map]
  by_cases hj : j < N
  · rw [List.getElem?_range hj]
    show _ = some ((kids (L ++ [(n, p)]) (j : Int)).filter _)
    rw [kids_snoc, filter_all]
    by_cases e : p.toNat = j
    · rw [if_pos e, if_pos (by rw [R.rlen]; omega)]
      have : p = (j : Int) := by have := hp.1; omega
      rw [if_pos this]
      have hrow := R.row hj
      rw [filter_all] at hrow
      rw [this, rowAt_nat hrow]
    · rw [if_neg e, if_neg (by have := hp.1; omega), List.append_nil, R.row hj, filter_all]
  · have h1 : ¬ p.toNat = j := by omega
    rw [if_neg h1, List.getElem?_eq_none (by rw [R.rlen]; omega), List.getElem?_eq_none (by simp; omega)]
    rfl
/-- One more is taken away. -/
theorem FRep.drop (R : FRep N L D ws lk rows sz) (hw : ws.length = 16) (hN : N ≤ 1024) {n : Nat} (hh : has L n = true) (hD : (n : Int) ∉ D) :
    FRep N L (D ++ [(n : Int)]) (ws.set (n / 64) (((ws[n / 64]?).getD 0#64) &&& ~~~((1#64) <<< (n % 64)))) lk (aDrop N rows n).1 (sz - 1) := by
  obtain ⟨q, hq⟩ := has_iff.1 hh
  have hr := R.inv.rg _ hq
  simp only at hr
  have hnN : n < N := by omega
  have hcon : ∀ z : Int, (D ++ [(n : Int)]).contains z = (D.contains z || z == (n : Int)) := fun z => by
    simp [List.contains_eq_mem]
    by_cases h1 : z ∈ D <;> by_cases h2 : z = (n : Int) <;> simp [h1, h2]
  refine ⟨fun i hi => ?_, R.lks, ?_, by rw [R.siz]; simp; omega, R.inv⟩
  · rw [wordBit_off hw (by omega), R.bits i hi, hcon]
    have : decide (i = n) = ((i : Int) == (n : Int)) := by
      by_cases e : i = n
      · subst e; simp
      · have : ¬ (i : Int) = n := by omega
        simp [e, this]
    rw [this]
    cases has L (i : Int) <;> cases D.contains (i : Int) <;> cases ((i : Int) == (n : Int)) <;> rfl
  · unfold aDrop
    rw [if_pos (show okN N (n : Int) from ⟨by omega, by omega⟩)]
    have hother : ∀ (i : Nat), (n : Int) ∉ (kids L (i : Int)) → (kids L (i : Int)).filter (fun c => !(D ++ [(n : Int)]).contains c) = (kids L (i : Int)).filter (fun c => !D.contains c) := fun i hni => by
      refine List.filter_congr (fun c hc => ?_)
      rw [hcon]
      have : ¬ c = (n : Int) := fun e => hni (e ▸ hc)
      simp [this]
    cases hc : isIn rows (n : Int) with
    | none =>
      show rows = _
      rw [R.rws]
      refine List.map_congr_left (fun i hi => ?_)
      refine (hother i (fun hm => ?_)).symm
      have hi := List.mem_range.1 hi
      exact isIn_none hc i _ (R.row hi) (List.mem_filter.2 ⟨hm, by simp [List.contains_eq_mem, hD]⟩)
    | some i =>
      obtain ⟨l, hl, hn⟩ := isIn_some hc
      have hi := (List.getElem?_eq_some_iff.1 hl).1
      rw [R.rlen] at hi
      have hrow := R.row hi
      show rows.set i (without (Ls.rowAt rows (i : Int)) (n : Int)) = _
      rw [rowAt_nat hrow]
      apply List.ext_getElem?
      intro j
      rw [List.getElem?_set, List.getElem?_map]
      by_cases hj : j < N
      · rw [List.getElem?_range hj]
        show _ = some ((kids L (j : Int)).filter _)
        by_cases e : i = j
        · subst e
          rw [if_pos rfl, if_pos (by rw [R.rlen]; exact hi)]
          congr 1
          unfold without
          rw [List.filter_filter]
          refine List.filter_congr (fun c _ => ?_)
          rw [hcon]
          cases D.contains c <;> by_cases hcn : c = (n : Int) <;> simp [hcn, bne]
        · rw [if_neg e, R.row hj, hother j (fun hm => ?_)]
          have h1 := kids_iff.1 hm
          rw [hrow] at hl
          injection hl with hl
          subst hl
          have h2 := kids_iff.1 (List.mem_filter.1 hn).1
          have := R.inv.uniq h1 h2
          omega
      · rw [if_neg (by omega), List.getElem?_eq_none (by rw [R.rlen]; omega), List.getElem?_eq_none (by simp; omega)]
        rfl
theorem minus_mem {L : En} {out : List Int} {e : Int × Int} : e ∈ minus L out ↔ e ∈ L ∧ e.1 ∉ out := by
  unfold minus
  rw [List.mem_filter]
  simp [List.contains_eq_mem]
theorem minus_has {L : En} {out : List Int} {n : Int} : has (minus L out) n = (has L n && !out.contains n) := by
  rw [Bool.eq_iff_iff, Bool.and_eq_true, has_iff, has_iff]
  constructor
  · rintro ⟨p, hp⟩
    obtain ⟨h1, h2⟩ := minus_mem.1 hp
    exact ⟨⟨p, h1⟩, by simpa [List.contains_eq_mem] using h2⟩
  · rintro ⟨⟨p, hp⟩, h⟩
    exact ⟨p, minus_mem.2 ⟨hp, by simpa [List.contains_eq_mem] using h⟩⟩
/-- What is taken away is closed: what was derived from it goes too. -/
def Closed (L : En) (out : List Int) : Prop := ∀ c n, (c, n) ∈ L → n ∈ out → c ∈ out
theorem minus_inv {N : Nat} {L : En} {out : List Int} (I : Inv N L) (hc : Closed L out) : Inv N (minus L out) := by
  refine ⟨fun e he => I.rg e (minus_mem.1 he).1, List.Sublist.nodup (List.Sublist.map _ List.filter_sublist) I.nd, ?_⟩
  -- by prefixes of the entries
  have pre : ∀ (m : Nat), ∀ (i : Nat) e, (minus (L.take m) out)[i]? = some e → e.2 = -1 ∨ ∃ (j : Nat) (f : Int × Int), j < i ∧ (minus (L.take m) out)[j]? = some f ∧ f.1 = e.2 := by
    intro m
    induction m with
    | zero => intro i e h; simp [minus] at h
    | succ m ih =>
      intro i e h
      cases hm : L[m]? with
      | none =>
        have hl : L.length ≤ m := List.getElem?_eq_none_iff.1 hm
        rw [List.take_of_length_le (by omega)] at h ⊢
        rw [List.take_of_length_le (by omega)] at ih
        exact ih i e h
      | some x =>
        have ht : L.take (m + 1) = L.take m ++ [x] := by rw [List.take_add_one, hm]; rfl
        have hmn : minus (L.take (m + 1)) out = minus (L.take m) out ++ minus [x] out := by rw [ht]; unfold minus; rw [List.filter_append]
        rw [hmn] at h ⊢
        rcases Nat.lt_or_ge i (minus (L.take m) out).length with hi | hi
        · rw [List.getElem?_append_left hi] at h
          rcases ih i e h with h1 | ⟨j, f, h1, h2, h3⟩
          · exact .inl h1
          · exact .inr ⟨j, f, h1, by rw [List.getElem?_append_left (by omega)]; exact h2, h3⟩
        · rw [List.getElem?_append_right hi] at h
          have hxe : e = x ∧ x.1 ∉ out := by
            have := List.mem_of_getElem? h
            obtain ⟨h1, h2⟩ := minus_mem.1 this
            simp at h1
            subst h1
            exact ⟨rfl, h2⟩
          obtain ⟨rfl, hx⟩ := hxe
          rcases I.pa m e hm with h1 | ⟨j, f, h1, h2, h3⟩
          · exact .inl h1
          · refine .inr ?_
            have hfo : f.1 ∉ out := fun ho => hx (hc e.1 e.2 (List.mem_of_getElem? hm) (h3 ▸ ho))
            have hft : f ∈ L.take m := List.mem_of_getElem? (i := j) (by rw [List.getElem?_take, if_pos h1]; exact h2)
            obtain ⟨q, hq⟩ := List.getElem?_of_mem (minus_mem.2 ⟨hft, hfo⟩)
            have hql := (List.getElem?_eq_some_iff.1 hq).1
            exact ⟨q, f, by omega, by rw [List.getElem?_append_left hql]; exact hq, h3⟩
  have := pre L.length
  rw [List.take_length] at this
  exact this
theorem minus_kids {L : En} {out : List Int} {n : Int} (hn : n ∉ out) : kids (minus L out) n = (kids L n).filter (fun c => !out.contains c) := by
  unfold kids minus
  rw [List.filter_filter, List.filter_map, List.filter_filter]
  congr 1
  refine List.filter_congr (fun e _ => ?_)
  simp only [Function.comp]
  rw [Bool.and_comm]
theorem minus_len {N : Nat} {L : En} {out : List Int} (I : Inv N L) (hd : out.Nodup) (hs : ∀ n ∈ out, has L n = true) : ((minus L out).length : Int) = (L.length : Int) - out.length := by
  have h1 : (L.filter (fun e => out.contains e.1)).length + (minus L out).length = L.length := by
    unfold minus
    have := List.length_eq_countP_add_countP (fun e : Int × Int => out.contains e.1) (l := L)
    rw [List.countP_eq_length_filter, List.countP_eq_length_filter] at this
    have e2 : (L.filter fun a => decide ¬(out.contains a.1 = true)) = L.filter (fun e => !out.contains e.1) := List.filter_congr (fun e _ => by cases out.contains e.1 <;> simp)
    rw [e2] at this
    omega
  have h2 : (L.filter (fun e => out.contains e.1)).length = out.length := by
    have h3 : ((L.filter (fun e => out.contains e.1)).map (·.1)).Perm out := by
      refine (List.perm_ext_iff_of_nodup (List.Sublist.nodup (List.Sublist.map _ List.filter_sublist) I.nd) hd).2 (fun z => ?_)
      rw [List.mem_map]
      constructor
      · rintro ⟨e, he, rfl⟩
        have := (List.mem_filter.1 he).2
        simpa [List.contains_eq_mem] using this
      · intro hz
        obtain ⟨p, hp⟩ := has_iff.1 (hs z hz)
        exact ⟨(z, p), List.mem_filter.2 ⟨hp, by simpa [List.contains_eq_mem] using hz⟩, rfl⟩
    have := h3.length_eq
    simpa using this
  omega
theorem FRep.minus {out : List Int} (R : FRep N L out ws lk rows sz) (hc : Closed L out) (hd : out.Nodup) (hs : ∀ n ∈ out, has L n = true) : FRep N (Fo.minus L out) [] ws lk rows sz := by
  refine ⟨fun i hi => by rw [R.bits i hi, minus_has]; simp, fun e he => R.lks e (minus_mem.1 he).1, ?_, by rw [R.siz, minus_len R.inv hd hs]; simp, minus_inv R.inv hc⟩
  rw [R.rws]
  refine List.map_congr_left (fun i hi => ?_)
  rw [filter_all]
  by_cases h : (i : Int) ∈ out
  · have h1 : kids (Fo.minus L out) (i : Int) = [] := by
      rw [List.eq_nil_iff_forall_not_mem]
      intro c hcm
      obtain ⟨h2, h3⟩ := minus_mem.1 (kids_iff.1 hcm)
      exact h3 (hc c _ h2 h)
    have h2 : (kids L (i : Int)).filter (fun c => !out.contains c) = [] := by
      rw [List.filter_eq_nil_iff]
      intro c hcm
      have := hc c _ (kids_iff.1 hcm) h
      simp [List.contains_eq_mem, this]
    rw [h1, h2]
  · rw [minus_kids h]
theorem out_ok {N : Nat} {L : En} (I : Inv N L) {n : Int} (hn : has L n = true) (own : Bool) : Closed L (outOf L n own) ∧ (outOf L n own).Nodup ∧ ∀ c ∈ outOf L n own, has L c = true := by
  obtain ⟨p, hp⟩ := has_iff.1 hn
  have h0 : 0 ≤ n := (I.rg _ hp).1
  have hA : ∀ c, c ∈ below L n ↔ Anc L c n := fun c => mem_below I h0
  refine ⟨fun c m hcm hm => ?_, ?_, fun c hc => ?_⟩
  · unfold outOf at hm ⊢
    rcases List.mem_append.1 hm with h | h
    · have : m = n := by cases own <;> simp at h; exact h
      subst this
      exact List.mem_append_right _ ((hA c).2 (.one h0 hcm))
    · have h1 := (hA m).1 h
      obtain ⟨q, hq⟩ := has_iff.1 (h1.idx I).2.1
      exact List.mem_append_right _ ((hA c).2 (.up (I.rg _ hq).1 hcm h1))
  · unfold outOf
    have hb : (below L n).Nodup := below_nodup I L.length n h0
    cases own with
    | false => simpa using hb
    | true =>
      refine List.nodup_cons.2 ⟨fun hm => ?_, hb⟩
      have := ((hA n).1 hm).idx I
      omega
  · unfold outOf at hc
    rcases List.mem_append.1 hc with h | h
    · have : c = n := by cases own <;> simp at h; exact h
      subst this; exact hn
    · exact (((hA c).1 h).idx I).2.1
end
/-! ### memory -/
structure FK where
  fp : Nat
  lb : Nat
  p : Nat
  nb : Nat
  hb : Nat
def encK (x : Int × Bool) : List Value := [.int .i64 x.1, .bool x.2]
theorem lenK (x : Int × Bool) : (encK x).length = 2 := rfl
theorem oneK (x : Int × Bool) : ∀ v ∈ encK x, v.oneCell' = true := by intro v hv; simp only [encK, List.mem_cons, List.not_mem_nil, or_false] at hv; rcases hv with rfl | rfl <;> rfl
def encU (b : BitVec 64) : Value := .int .u64 (b.toNat : Nat)
def topC (N : Nat) (ws : List (BitVec 64)) (k : FK) (sz : Int) : List Value := .bool true :: .int .i64 N :: (ws.map encU ++ [.slice (some ⟨k.lb, 0, none⟩) N N, .pointer (some ⟨k.p, 0, none⟩), .int .i64 sz])
theorem topC_get {N : Nat} {ws : List (BitVec 64)} {k : FK} {sz : Int} {i : Nat} {b : BitVec 64} (h : ws[i]? = some b) : (topC N ws k sz)[2 + i]? = some (encU b) := by
  have hl := (List.getElem?_eq_some_iff.1 h).1
  rw [Nat.add_comm 2 i]
  show (ws.map encU ++ _)[i]? = _
  rw [List.getElem?_append_left (by simpa using hl), List.getElem?_map, h]
  rfl
theorem topC_set {N : Nat} {ws : List (BitVec 64)} {k : FK} {sz : Int} {i : Nat} (b : BitVec 64) (hi : i < ws.length) : (topC N ws k sz).set (2 + i) (encU b) = topC N (ws.set i b) k sz := by
  unfold topC
  rw [Nat.add_comm 2 i, List.set_cons_succ, List.set_cons_succ, List.set_append_left _ _ (by simpa using hi), List.map_set]
theorem topC_18 {N : Nat} {ws : List (BitVec 64)} {k : FK} {sz : Int} (hw : ws.length = 16) : (topC N ws k sz)[18]? = some (.slice (some ⟨k.lb, 0, none⟩) N N) ∧ (topC N ws k sz)[19]? = some (.pointer (some ⟨k.p, 0, none⟩)) ∧ (topC N ws k sz)[20]? = some (.int .i64 sz) := by
  have e : ∀ j, (topC N ws k sz)[2 + (16 + j)]? = ([.slice (some ⟨k.lb, 0, none⟩) N N, .pointer (some ⟨k.p, 0, none⟩), .int .i64 sz] : List Value)[j]? := fun j => by
    rw [Nat.add_comm 2 (16 + j)]
    show (ws.map encU ++ _)[16 + j]? = _
    rw [List.getElem?_append_right (by simp [hw])]
    simp [hw]
  exact ⟨e 0, e 1, e 2⟩
theorem topC_sz {N : Nat} {ws : List (BitVec 64)} {k : FK} {sz : Int} (hw : ws.length = 16) (z : Int) : (topC N ws k sz).set 20 (.int .i64 z) = topC N ws k z := by
  unfold topC
  rw [List.set_cons_succ, List.set_cons_succ, List.set_append_right _ _ (by simp [hw])]
  simp [hw]
theorem topC_len {N : Nat} {ws : List (BitVec 64)} {k : FK} {sz : Int} (hw : ws.length = 16) : (topC N ws k sz).length = 21 := by simp [topC, hw]
structure FoAt (w : World) (k : FK) (N : Nat) (ws : List (BitVec 64)) (lk : List (Int × Bool)) (rows : Ls.Rows) (sz : Int) : Prop where
  top : Blk w k.fp 60 (topC N ws k sz)
  lnk : Blk w k.lb 74 (flat encK lk)
  hw : ws.length = 16
  hl : lk.length = N
  Q : LsR w k.p k.nb k.hb N N rows
  fg : k.fp ≠ 0
  lg : k.lb ≠ 0
  sN : N ≤ 1024
/-- A forest in memory, told by its entries (but D). -/
structure FoR (w : World) (k : FK) (N : Nat) (L : En) (D : List Int) : Prop where
  ex : ∃ ws lk rows sz, FoAt w k N ws lk rows sz ∧ FRep N L D ws lk rows sz
def FK.ids (k : FK) : List Nat := [k.fp, k.lb, k.p, k.nb, k.hb]
section
variable {w w' : World} {k : FK} {N : Nat} {ws : List (BitVec 64)} {lk : List (Int × Bool)} {rows : Ls.Rows} {sz : Int} {L : En} {D : List Int}
theorem FoAt.fr {S : List Nat} (K : FoAt w k N ws lk rows sz) (f : Fr S w w') (h : ∀ q ∈ S, q ∉ k.ids) (hg : 0 ∉ S) : FoAt w' k N ws lk rows sz :=
  have no : ∀ q, q ∈ k.ids → q ∉ S := fun q hq hs => h q hs hq
  ⟨K.top.fr f (no _ (by simp [FK.ids])), K.lnk.fr f (no _ (by simp [FK.ids])), K.hw, K.hl, K.Q.fr f (no _ (by simp [FK.ids])) (no _ (by simp [FK.ids])) (no _ (by simp [FK.ids])) hg, K.fg, K.lg, K.sN⟩
theorem FoAt.fr0 (K : FoAt w k N ws lk rows sz) (f : Fr [] w w') : FoAt w' k N ws lk rows sz := K.fr f (by simp) (by simp)
theorem FoR.fr {S : List Nat} (K : FoR w k N L D) (f : Fr S w w') (h : ∀ q ∈ S, q ∉ k.ids) (hg : 0 ∉ S) : FoR w' k N L D := let ⟨ws, lk, rows, sz, A, R⟩ := K.ex; ⟨ws, lk, rows, sz, A.fr f h hg, R⟩
theorem FoR.fr0 (K : FoR w k N L D) (f : Fr [] w w') : FoR w' k N L D := K.fr f (by simp) (by simp)
theorem FoAt.ne (K : FoAt w k N ws lk rows sz) : k.fp ≠ k.lb ∧ k.fp ≠ k.p ∧ k.fp ≠ k.nb ∧ k.fp ≠ k.hb ∧ k.lb ≠ k.p ∧ k.lb ≠ k.nb ∧ k.lb ≠ k.hb := by
  obtain ⟨x, A, _⟩ := K.Q.ex
  exact ⟨K.top.ne K.lnk (by decide), K.top.ne A.top (by decide), K.top.ne A.nod (by decide), K.top.ne A.hed (by decide), K.lnk.ne A.top (by decide), K.lnk.ne A.nod (by decide), K.lnk.ne A.hed (by decide)⟩
theorem FoAt.lt (K : FoAt w k N ws lk rows sz) : ∀ q ∈ k.ids, q < w.heap.size := by
  obtain ⟨x, A, _⟩ := K.Q.ex
  intro q hq
  simp only [FK.ids, List.mem_cons, List.not_mem_nil, or_false] at hq
  rcases hq with rfl | rfl | rfl | rfl | rfl
  · exact K.top.lt
  · exact K.lnk.lt
  · exact A.top.lt
  · exact A.nod.lt
  · exact A.hed.lt
theorem FoR.lt (K : FoR w k N L D) : ∀ q ∈ k.ids, q < w.heap.size := let ⟨_, _, _, _, A, _⟩ := K.ex; A.lt
theorem FoR.inv (K : FoR w k N L D) : Inv N L := let ⟨_, _, _, _, _, R⟩ := K.ex; R.inv
theorem FoR.sN (K : FoR w k N L D) : N ≤ 1024 := let ⟨_, _, _, _, A, _⟩ := K.ex; A.sN
/-- The top is written. -/
theorem FoAt.setT (K : FoAt w k N ws lk rows sz) {ws' : List (BitVec 64)} {sz' : Int} (hw : ws'.length = 16) (b : Blk w' k.fp 60 (topC N ws' k sz')) (f : Fr [k.fp] w w') : FoAt w' k N ws' lk rows sz' := by
  obtain ⟨h1, h2, h3, h4, _⟩ := K.ne
  exact ⟨b, K.lnk.fr f (by simpa using h1.symm), hw, K.hl, K.Q.fr f (by simpa using h2.symm) (by simpa using h3.symm) (by simpa using h4.symm) (by simpa using K.fg.symm), K.fg, K.lg, K.sN⟩
theorem FoAt.setL (K : FoAt w k N ws lk rows sz) {lk' : List (Int × Bool)} (hl : lk'.length = N) (b : Blk w' k.lb 74 (flat encK lk')) (f : Fr [k.lb] w w') : FoAt w' k N ws lk' rows sz := by
  obtain ⟨h1, _, _, _, h2, h3, h4⟩ := K.ne
  exact ⟨K.top.fr f (by simpa using h1), b, K.hw, hl, K.Q.fr f (by simpa using h2.symm) (by simpa using h3.symm) (by simpa using h4.symm) (by simpa using K.lg.symm), K.fg, K.lg, K.sN⟩
theorem FoAt.setQ (K : FoAt w k N ws lk rows sz) {rows' : Ls.Rows} (Q : LsR w' k.p k.nb k.hb N N rows') (f : Fr [k.nb, k.hb] w w') : FoAt w' k N ws lk rows' sz := by
  obtain ⟨_, _, h3, h4, _, h6, h7⟩ := K.ne
  exact ⟨K.top.fr f (by simp [h3, h4]), K.lnk.fr f (by simp [h6, h7]), K.hw, K.hl, Q, K.fg, K.lg, K.sN⟩
end
end Go.Proofs.YtcbkpekbfkaeeaaDoor.Fo
