/- What is read has just that text. In plain words. -/
import Derived.Test.YtdjljgfffcjfmaaGreatDoorQMq
set_option linter.unusedVariables false
set_option linter.unusedSimpArgs false
namespace Go.Proofs.YtdjljgfffcjfmaaGreatDoor.Cg
set_option maxRecDepth 100000
open Go Go.RowKit Go.Proofs.YtdjljgfffcjfmaaGreatDoor.Sx
open Go.Proofs.YtdjljgfffcjfmaaGreatDoor.Cf
open Go.Proofs.YtdjljgfffcjfmaaGreatDoor.Sg
theorem idx_pre : ∀ (s p : Bs) (i : Nat), Lib.index s p = (i : Int) → p.isPrefixOf (s.drop i) = true := by
  intro s p
  induction s with
  | nil =>
    intro i h
    unfold Lib.index at h
    cases p with
    | nil => simp
    | cons b r => simp at h <;> omega
  | cons b l ih =>
    intro i h
    unfold Lib.index at h
    split at h
    · rename_i h1
      have : i = 0 := by omega
      subst this
      exact h1
    · by_cases h2 : Lib.index l p = -1
      · rw [if_pos (beq_iff_eq.2 h2)] at h; omega
      · rw [if_neg (fun e => h2 (beq_iff_eq.1 e))] at h
        cases i with
        | zero =>
          have := Lib.index_ge l p
          omega
        | succ i =>
          have h3 : Lib.index l p = (i : Int) := by omega
          have := ih i h3
          simpa using this
def wordOf (i : Int) : Bs := if i = 1 then kFlows else if i = 2 then kTen else if i = 3 then kCh else if i = 4 then kLane else if i = 5 then kRec else if i = 6 then kGate else if i = 7 then kFrame else kBud
theorem kinds_at : ∀ i : Fin 54, kinds[i.val]? = some 32 → (splitP 32 (kinds.drop (i.val + 1))).headD [] = [] ∨ (splitP 32 (kinds.drop (i.val + 1))).headD [] = wordOf (((kinds.take (i.val + 1)).count 32 : Nat) : Int) := by decide
theorem kinds_cnt : ∀ i : Fin 53, 1 ≤ (kinds.take (i.val + 1)).count 32 ∧ (kinds.take (i.val + 1)).count 32 ≤ 8 := by decide
theorem rank_word {k : Bs} (hk : (32 : UInt8) ∉ k) (h : rankI k ≠ 0) : k = wordOf (rankI k) ∧ 1 ≤ rankI k ∧ rankI k ≤ 8 := by
  unfold rankI at h ⊢
  by_cases h1 : Lib.index kinds ([32] ++ k ++ [32]) < 0
  · rw [if_pos h1] at h; exact absurd rfl h
  rw [if_neg h1] at h ⊢
  by_cases h2 : k = []
  · rw [if_pos h2] at h; exact absurd rfl h
  rw [if_neg h2] at h ⊢
  obtain ⟨i, hi⟩ : ∃ i : Nat, Lib.index kinds ([32] ++ k ++ [32]) = (i : Int) := ⟨(Lib.index kinds ([32] ++ k ++ [32])).toNat, by omega⟩
  have h3 := idx_fit kinds ([32] ++ k ++ [32])
  have hpl : ([32] ++ k ++ [32]).length = k.length + 2 := by simp
  have hkl : kinds.length = 54 := rfl
  have hk0 : 0 < k.length := List.length_pos_iff.2 h2
  have hp := idx_pre _ _ _ hi
  obtain ⟨t, ht⟩ := List.isPrefixOf_iff_prefix.1 hp
  have hil : i < 53 := by omega
  rw [hi]
  have e1 : (((i : Nat) : Int) + 1).toNat = i + 1 := by omega
  rw [e1]
  have h32 : kinds[i]? = some 32 := by
    have := congrArg (fun l => l[0]?) ht
    simp at this
    exact this.symm
  have hd : kinds.drop (i + 1) = k ++ 32 :: t := by
    rw [← List.drop_drop, ← ht]
    simp
  have hs : (splitP 32 (kinds.drop (i + 1))).headD [] = k := by rw [hd, splitP_app hk]; rfl
  obtain ⟨c1, c2⟩ := kinds_cnt ⟨i, hil⟩
  refine ⟨?_, by exact_mod_cast c1, by exact_mod_cast c2⟩
  rcases kinds_at ⟨i, by omega⟩ h32 with h4 | h4
  · rw [hs] at h4; exact absurd h4 h2
  · rw [hs] at h4; exact h4
theorem split_no {c : UInt8} {a : Bs} : ∀ x ∈ splitP c a, c ∉ x := by
  induction a with
  | nil => simp [splitP]
  | cons b r ih =>
    unfold splitP
    split
    · intro x hx
      rcases List.mem_cons.1 hx with rfl | hx
      · simp
      · exact ih x hx
    · rename_i hb
      have hne := splitP_ne c r
      obtain ⟨y, l, e⟩ := List.exists_cons_of_ne_nil hne
      rw [e] at ih ⊢
      intro x hx
      rcases List.mem_cons.1 hx with rfl | hx
      · intro h
        rcases List.mem_cons.1 h with h | h
        · exact hb h.symm
        · exact ih y (by simp) h
      · exact ih x (by simp at hx ⊢; exact .inr hx)
theorem head_no (a : Bs) : (32 : UInt8) ∉ (splitP 32 a).headD [] := by
  obtain ⟨y, l, e⟩ := List.exists_cons_of_ne_nil (splitP_ne 32 a)
  rw [e]
  exact split_no (a := a) y (by rw [e]; simp)
theorem numsN_ok {n : Nat} {l : List Bs} {v : List Int} (h : numsN n l = some v) : n ≤ v.length ∧ ∀ x ∈ v, in64 x := by
  unfold numsN at h
  by_cases hn : l.length < n
  · rw [if_pos hn] at h; cases h
  · rw [if_neg hn] at h
    obtain ⟨e1, e2⟩ := numsP_len h
    exact ⟨by omega, e2⟩
/-- What the lines so far have left. -/
structure IV (s : RS) (ls : List Bs) : Prop where
  li : ls = lines3 s.c ++ (if 7 ≤ s.was then [kFrame ++ nums s.c.frame] else []) ++ (if s.was = 8 then [kBud ++ nums [s.c.budget, s.c.requests, s.c.pending]] else [])
  te : s.was < 2 → s.c.tenants = []
  ch : s.was < 3 → s.c.channels = []
  ga : s.was < 6 → s.c.gates = []
  re : s.was < 5 → ∀ x, s.c.channels.getLast? = some x → x.receivers = []
  ne : 3 ≤ s.was ∧ s.was ≤ 5 → s.c.channels ≠ []
  i64 : In64 s.c
  wr : 0 ≤ s.was ∧ s.was ≤ 8
  m : manyP s.c = false
theorem iv0 : IV s0 [] := ⟨by simp [s0, c0, lines3, lines2, lines1], fun _ => rfl, fun _ => rfl, fun _ => rfl, fun _ x h => by simp [s0, c0] at h, fun h => by simp [s0] at h, ⟨by simp [s0, c0, Wf], by simp [s0, c0], by simp [s0, c0], by simp [s0, c0], by simp [s0, c0], by simp [s0, c0, in64]⟩, by simp [s0], by decide⟩
theorem ofB_lt (v : List Int) : 0 ≤ (((ofB v).toNat : Nat) : Int) ∧ (((ofB v).toNat : Nat) : Int) < 18446744073709551616 := by
  have := (ofB v).isLt
  omega
theorem flowL_of (b : BitVec 64) : flowL ((b.toNat : Nat) : Int) = kFlows ++ nums (Bt.memI b) := by
  unfold flowL
  rw [show BitVec.ofInt 64 ((b.toNat : Nat) : Int) = b from Bt.of_u b]
theorem last_snoc {l : List GChannel} (h : l ≠ []) : ∃ cs x, l = cs ++ [x] := ⟨l.dropLast, l.getLast h, (List.dropLast_concat_getLast h).symm⟩
theorem iv_step {s s' : RS} {ls : List Bs} {l : Bs} (I : IV s ls) (h : takeP s l = some s') : IV s' (ls ++ [l]) := by
  obtain ⟨hm, hw, hf, p, hp, hl, hc⟩ := takeP_ok h
  have hne := takeP_ch h I.ne
  have hk := head_no l
  obtain ⟨k, hkk⟩ : ∃ k, k = (splitP 32 l).headD [] := ⟨_, rfl⟩
  rw [← hkk] at hw hp hk
  have hr0 := follows_0 hf
  rw [hw] at hr0
  obtain ⟨hword, hr1, hr8⟩ := rank_word hk hr0
  rw [← hw] at hword hr1 hr8
  obtain ⟨c', was'⟩ := s'
  obtain ⟨c, was⟩ := s
  dsimp only at hm hw hf hp hc hne hword hr1 hr8
  obtain ⟨li, te, ch, ga, re, ne, i64, wr, m0⟩ := I
  dsimp only at li te ch ga re ne i64 wr m0
  clear h hw hkk hr0
  generalize bod (splitP 32 l).tail = rest at hp
  generalize opn (splitP 32 l).tail = o at hp
  subst hc
  subst hl
  have h8 : was' = 1 ∨ was' = 2 ∨ was' = 3 ∨ was' = 4 ∨ was' = 5 ∨ was' = 6 ∨ was' = 7 ∨ was' = 8 := by omega
  unfold caseP at hp
  unfold followsI at hf
  rcases h8 with rfl | rfl | rfl | rfl | rfl | rfl | rfl | rfl
  · -- flows
    have hf : was ≤ 1 := by simpa using hf
    rw [if_pos rfl] at hp
    obtain ⟨v, hv, hp⟩ := Option.bind_eq_some_iff.1 hp
    by_cases hok : okB v = true
    · rw [if_pos hok] at hp
      cases hp
      have ht := te (by omega)
      have hc := ch (by omega)
      have hg := ga (by omega)
      refine ⟨?_, fun _ => ht, fun _ => hc, fun _ => hg, fun _ x hx => (by rw [hc] at hx; cases hx), hne, ⟨?_, i64.te, i64.ch, i64.ga, i64.fr, i64.bu⟩, (show (0 : Int) ≤ 1 ∧ (1 : Int) ≤ 8 by decide), hm⟩
      · dsimp only
        rw [li, if_neg (by omega), if_neg (by omega), if_neg (by decide), if_neg (by decide)]
        have e : k = kFlows := hword
        rw [e, ← flowL_of]
        simp [lines3, lines2, lines1, ht, hc, hg]
      · intro z hz
        rcases List.mem_append.1 hz with hz | hz
        · exact i64.fl z hz
        · simp only [List.mem_singleton] at hz; subst hz; exact ofB_lt v
    · rw [if_neg hok] at hp; cases hp
  · -- tenant
    have hf : was ≤ 2 := by simpa using hf
    rw [if_neg (by decide), if_pos rfl] at hp
    obtain ⟨v, hv, hp⟩ := Option.bind_eq_some_iff.1 hp
    obtain ⟨hn, h64⟩ := numsN_ok hv
    obtain ⟨a, b, t, rfl⟩ : ∃ a b t, v = a :: b :: t := by match v, hn with | a :: b :: t, _ => exact ⟨a, b, t, rfl⟩
    cases hp
    have hc := ch (by omega)
    have hg := ga (by omega)
    refine ⟨?_, fun h => absurd h (show ¬ (2 : Int) < 2 by decide), fun _ => hc, fun _ => hg, fun _ x hx => (by rw [hc] at hx; cases hx), hne, ⟨i64.fl, ?_, i64.ch, i64.ga, i64.fr, i64.bu⟩, (show (0 : Int) ≤ 2 ∧ (2 : Int) ≤ 8 by decide), hm⟩
    · dsimp only
      rw [li, if_neg (by omega), if_neg (by omega), if_neg (by decide), if_neg (by decide)]
      have e : k = kTen := hword
      rw [e]
      simp [lines3, lines2, lines1, hc, hg, tenL]
    · intro x hx
      rcases List.mem_append.1 hx with hx | hx
      · exact i64.te x hx
      · simp only [List.mem_singleton] at hx; subst hx; exact ⟨h64 a (by simp), h64 b (by simp)⟩
  · -- channel
    have hf : was ≤ 5 := by simpa using hf
    rw [if_neg (by decide), if_neg (by decide), if_pos rfl] at hp
    obtain ⟨v, hv, hp⟩ := Option.bind_eq_some_iff.1 hp
    obtain ⟨hn, h64⟩ := numsN_ok hv
    obtain ⟨a, t, rfl⟩ : ∃ a t, v = a :: t := by match v, hn with | a :: t, _ => exact ⟨a, t, rfl⟩
    cases hp
    have hg := ga (by omega)
    refine ⟨?_, fun h => absurd h (show ¬ (3 : Int) < 2 by decide), fun h => absurd h (show ¬ (3 : Int) < 3 by decide), fun _ => hg, fun _ x hx => ?_, hne, ⟨i64.fl, i64.te, ?_, i64.ga, i64.fr, i64.bu⟩, (show (0 : Int) ≤ 3 ∧ (3 : Int) ≤ 8 by decide), hm⟩
    · dsimp only
      rw [li, if_neg (by omega), if_neg (by omega), if_neg (by decide), if_neg (by decide)]
      have e : k = kCh := hword
      rw [e]
      simp [lines3, lines2, lines1, hg, chL]
    · simp at hx; subst hx; rfl
    · intro x hx
      rcases List.mem_append.1 hx with hx | hx
      · exact i64.ch x hx
      · simp only [List.mem_singleton] at hx; subst hx; exact ⟨h64 a (by simp), by simp, by simp⟩
  · -- lane
    have hf : was = 3 ∨ was = 4 := by simpa using hf
    rw [if_neg (by decide), if_neg (by decide), if_neg (by decide), if_pos rfl] at hp
    obtain ⟨v, hv, hp⟩ := Option.bind_eq_some_iff.1 hp
    obtain ⟨hn, h64⟩ := numsN_ok hv
    obtain ⟨a, b, t, rfl⟩ : ∃ a b t, v = a :: b :: t := by match v, hn with | a :: b :: t, _ => exact ⟨a, b, t, rfl⟩
    cases hp
    have hg := ga (by omega)
    obtain ⟨cs, x, hcx⟩ := last_snoc (ne (by omega))
    have hxr := re (by omega) x (by rw [hcx]; simp)
    have hx64 := i64.ch x (by rw [hcx]; simp)
    dsimp only at hm hne ⊢
    rw [lastU_at hcx] at hm hne ⊢
    refine ⟨?_, fun h => absurd h (show ¬ (4 : Int) < 2 by decide), fun h => absurd h (show ¬ (4 : Int) < 3 by decide), fun _ => hg, fun _ y hy => ?_, hne, ⟨i64.fl, i64.te, ?_, i64.ga, i64.fr, i64.bu⟩, (show (0 : Int) ≤ 4 ∧ (4 : Int) ≤ 8 by decide), hm⟩
    · dsimp only
      rw [li, if_neg (by omega), if_neg (by omega), if_neg (by decide), if_neg (by decide)]
      have e : k = kLane := hword
      rw [e]
      simp [lines3, lines2, lines1, hg, hcx, chL, laneL, hxr]
    · simp at hy; subst hy; exact hxr
    · intro y hy
      rcases List.mem_append.1 hy with hy | hy
      · exact i64.ch y (by rw [hcx]; exact List.mem_append.2 (.inl hy))
      · simp only [List.mem_singleton] at hy; subst hy
        refine ⟨hx64.1, fun l hl => ?_, hx64.2.2⟩
        rcases List.mem_append.1 hl with hl | hl
        · exact hx64.2.1 l hl
        · simp only [List.mem_singleton] at hl; subst hl; exact ⟨h64 a (by simp), h64 b (by simp)⟩
  · -- receiver
    have hf : 3 ≤ was ∧ was ≤ 5 := by simpa using hf
    rw [if_neg (by decide), if_neg (by decide), if_neg (by decide), if_neg (by decide), if_pos rfl] at hp
    obtain ⟨v, hv, hp⟩ := Option.bind_eq_some_iff.1 hp
    obtain ⟨hn, h64⟩ := numsN_ok hv
    obtain ⟨a, t, rfl⟩ : ∃ a t, v = a :: t := by match v, hn with | a :: t, _ => exact ⟨a, t, rfl⟩
    cases hp
    have hg := ga (by omega)
    obtain ⟨cs, x, hcx⟩ := last_snoc (ne hf)
    have hx64 := i64.ch x (by rw [hcx]; simp)
    dsimp only at hm hne ⊢
    rw [lastU_at hcx] at hm hne ⊢
    refine ⟨?_, fun h => absurd h (show ¬ (5 : Int) < 2 by decide), fun h => absurd h (show ¬ (5 : Int) < 3 by decide), fun _ => hg, fun h => absurd h (show ¬ (5 : Int) < 5 by decide), hne, ⟨i64.fl, i64.te, ?_, i64.ga, i64.fr, i64.bu⟩, (show (0 : Int) ≤ 5 ∧ (5 : Int) ≤ 8 by decide), hm⟩
    · dsimp only
      rw [li, if_neg (by omega), if_neg (by omega), if_neg (by decide), if_neg (by decide)]
      have e : k = kRec := hword
      rw [e]
      simp [lines3, lines2, lines1, hg, hcx, chL, recL]
    · intro y hy
      rcases List.mem_append.1 hy with hy | hy
      · exact i64.ch y (by rw [hcx]; exact List.mem_append.2 (.inl hy))
      · simp only [List.mem_singleton] at hy; subst hy
        refine ⟨hx64.1, hx64.2.1, fun r hr => ?_⟩
        rcases List.mem_append.1 hr with hr | hr
        · exact hx64.2.2 r hr
        · simp only [List.mem_singleton] at hr; subst hr; exact h64 a (by simp)
  · -- gate
    have hf : was ≤ 6 := by simpa using hf
    rw [if_neg (by decide), if_neg (by decide), if_neg (by decide), if_neg (by decide), if_neg (by decide), if_pos rfl] at hp
    obtain ⟨v, hv, hp⟩ := Option.bind_eq_some_iff.1 hp
    obtain ⟨hn, h64⟩ := numsN_ok hv
    obtain ⟨a, b, d, t, rfl⟩ : ∃ a b d t, v = a :: b :: d :: t := by match v, hn with | a :: b :: d :: t, _ => exact ⟨a, b, d, t, rfl⟩
    cases hp
    refine ⟨?_, fun h => absurd h (show ¬ (6 : Int) < 2 by decide), fun h => absurd h (show ¬ (6 : Int) < 3 by decide), fun h => absurd h (show ¬ (6 : Int) < 6 by decide), fun h => absurd h (show ¬ (6 : Int) < 5 by decide), hne, ⟨i64.fl, i64.te, i64.ch, ?_, i64.fr, i64.bu⟩, (show (0 : Int) ≤ 6 ∧ (6 : Int) ≤ 8 by decide), hm⟩
    · dsimp only
      rw [li, if_neg (by omega), if_neg (by omega), if_neg (by decide), if_neg (by decide)]
      have e : k = kGate := hword
      rw [e]
      simp [lines3, lines2, lines1, gateL]
    · intro x hx
      rcases List.mem_append.1 hx with hx | hx
      · exact i64.ga x hx
      · simp only [List.mem_singleton] at hx; subst hx; exact ⟨h64 a (by simp), h64 b (by simp), h64 d (by simp)⟩
  · -- frame
    have hf : was < 7 := by simpa using hf
    rw [if_neg (by decide), if_neg (by decide), if_neg (by decide), if_neg (by decide), if_neg (by decide), if_neg (by decide), if_pos rfl] at hp
    obtain ⟨v, hv, hp⟩ := Option.bind_eq_some_iff.1 hp
    obtain ⟨hn, h64⟩ := numsN_ok hv
    cases hp
    refine ⟨?_, fun h => absurd h (show ¬ (7 : Int) < 2 by decide), fun h => absurd h (show ¬ (7 : Int) < 3 by decide), fun h => absurd h (show ¬ (7 : Int) < 6 by decide), fun h => absurd h (show ¬ (7 : Int) < 5 by decide), hne, ⟨i64.fl, i64.te, i64.ch, i64.ga, h64, i64.bu⟩, (show (0 : Int) ≤ 7 ∧ (7 : Int) ≤ 8 by decide), hm⟩
    dsimp only
    rw [li, if_neg (by omega), if_neg (by omega), if_pos (by decide), if_neg (by decide)]
    have e : k = kFrame := hword
    rw [e]
    simp [lines3, lines2, lines1]
  · -- budget
    have hf : was = 7 := by simpa using hf
    subst hf
    rw [if_neg (by decide), if_neg (by decide), if_neg (by decide), if_neg (by decide), if_neg (by decide), if_neg (by decide), if_neg (by decide), if_pos rfl] at hp
    obtain ⟨v, hv, hp⟩ := Option.bind_eq_some_iff.1 hp
    obtain ⟨hn, h64⟩ := numsN_ok hv
    obtain ⟨a, b, d, t, rfl⟩ : ∃ a b d t, v = a :: b :: d :: t := by match v, hn with | a :: b :: d :: t, _ => exact ⟨a, b, d, t, rfl⟩
    cases hp
    refine ⟨?_, fun h => absurd h (show ¬ (8 : Int) < 2 by decide), fun h => absurd h (show ¬ (8 : Int) < 3 by decide), fun h => absurd h (show ¬ (8 : Int) < 6 by decide), fun h => absurd h (show ¬ (8 : Int) < 5 by decide), hne, ⟨i64.fl, i64.te, i64.ch, i64.ga, i64.fr, h64 a (by simp), h64 b (by simp), h64 d (by simp)⟩, (show (0 : Int) ≤ 8 ∧ (8 : Int) ≤ 8 by decide), hm⟩
    dsimp only
    rw [li, if_pos (by decide), if_neg (by decide), if_pos (by decide), if_pos rfl]
    have e : k = kBud := hword
    rw [e]
    simp [lines3, lines2, lines1]
theorem suf_inv {z : Bs} (h : Lib.hasSuffix z [10] = true) : z = Lib.trimSuffix z [10] ++ [10] := by
  unfold Lib.hasSuffix at h
  obtain ⟨t, ht⟩ := List.isSuffixOf_iff_suffix.1 h
  rw [← ht, (suf_nl t).2]
theorem iv_fold : ∀ (zs : List Bs) (s s' : RS) (ls : List Bs), IV s ls → foldP s zs = some s' → ∃ ks : List Bs, zs = ks.map (fun l => l ++ [10]) ∧ IV s' (ls ++ ks) := by
  intro zs
  induction zs with
  | nil =>
    intro s s' ls I h
    cases h
    exact ⟨[], rfl, by simpa using I⟩
  | cons z r ih =>
    intro s s' ls I h
    unfold foldP at h
    obtain ⟨s1, h1, h2⟩ := Option.bind_eq_some_iff.1 h
    unfold stepP at h1
    by_cases hc : Lib.hasSuffix z [10] = true ∧ s.was ≠ 8
    · rw [if_pos hc] at h1
      obtain ⟨ks, e1, e2⟩ := ih s1 s' _ (iv_step I h1) h2
      refine ⟨Lib.trimSuffix z [10] :: ks, ?_, ?_⟩
      · rw [List.map_cons, ← suf_inv hc.1, ← e1]
      · simpa using e2
    · rw [if_neg hc] at h1; cases h1
/-- What is read has just that text. -/
theorem text_back {a : Bs} (h : (parseP a).2.2 = 0) : textP (parseP a).1 = (a, 0) ∧ In64 (parseP a).1 := by
  unfold parseP at h ⊢
  by_cases hl : 65536 < a.length
  · rw [if_pos hl] at h; cases h
  rw [if_neg hl] at h ⊢
  cases hf : foldP s0 (linesOf a) with
  | none => rw [hf] at h; cases h
  | some s =>
    rw [hf] at h
    dsimp only at h ⊢
    by_cases h8 : s.was = 8
    · rw [if_pos h8] at h ⊢
      obtain ⟨ks, e1, I⟩ := iv_fold _ s0 s [] iv0 hf
      have e2 : ks = linesP s.c := by
        have := I.li
        rw [List.nil_append, if_pos (by omega), if_pos h8] at this
        rw [this]
        unfold linesP
        simp
      have e3 : strP s.c = a := by
        show (nlL s.c).flatten = a
        have : nlL s.c = linesOf a := by rw [e1, e2]; rfl
        rw [this]
        exact lines_back _ a (Nat.le_refl _)
      refine ⟨?_, I.i64⟩
      show textP s.c = (a, 0)
      unfold textP
      rw [I.m, if_neg (by simp), e3, if_neg hl]
    · rw [if_neg h8] at h; cases h
theorem parse_bad {a : Bs} (h : (parseP a).2.2 ≠ 0) : (parseP a).1 = c0 := by
  unfold parseP at h ⊢
  by_cases hl : 65536 < a.length
  · rw [if_pos hl]
  rw [if_neg hl] at h ⊢
  cases hf : foldP s0 (linesOf a) with
  | none => rfl
  | some s =>
    rw [hf] at h
    dsimp only at h ⊢
    by_cases h8 : s.was = 8
    · rw [if_pos h8] at h; exact absurd rfl h
    · rw [if_neg h8]
end Go.Proofs.YtdjljgfffcjfmaaGreatDoor.Cg

/- Settings are read of their text, and what is read has just that text: the walk. -/
set_option linter.unusedVariables false
set_option linter.unusedSimpArgs false
namespace Go.Proofs.YtdjljgfffcjfmaaGreatDoor.Cg
open Go Go.RowKit Go.Proofs.YtdjljgfffcjfmaaGreatDoor.Sx
open Go.Proofs.YtdjljgfffcjfmaaGreatDoor.Bi (mixed take_s)
open Go.Proofs.YtdjljgfffcjfmaaGreatDoor.Cf
open Go.Proofs.YtdjljgfffcjfmaaGreatDoor.Sg
def tail2T (x y : Operand) (s : Value) : T := .call 15 [s] fun v47 => Sx.exT 0 v47 fun v48 => Sx.exT 1 v47 fun v49 => Sx.exT 2 v47 fun v50 => .hv (Instr.alloc 28 true (.tuple #[])) fun v10 => .ef (Instr.storeAt 28 v10 v48) (biT true .neq v50 (I 0) fun v52 => gi v52 (faT 1 v10 fun v53 => .ld v53 fun v54 => lnT v54 fun v55 => faT 0 v10 fun v56 => .ld v56 fun v57 => lnT v57 fun v58 => biT false .add v55 v58 fun v59 => biT true .eql v59 (I 0) fun v60 => .ret v60) (.ldn 8 v10 fun v62 => .call 18 [v62] fun v63 => Sx.exT 0 v63 fun v64 => Sx.exT 1 v63 fun v65 => biT true .eql v65 (I 0) fun v67 => gi v67 (.pu (do eqGuard .eql 9 x y v64 s; binOp .eql 9 v64 s) fun v71 => .ret v71) (.ret (B false))))
def tail1T (x y : Operand) (v2 s : Value) : T := .ldn 8 v2 fun v25 => .call 18 [v25] fun v26 => Sx.exT 0 v26 fun v27 => Sx.exT 1 v26 fun v28 => biT true .eql v28 (I 0) fun v30 => gi v30 (.call 15 [v27] fun v33 => Sx.exT 0 v33 fun v34 => Sx.exT 1 v33 fun v35 => Sx.exT 2 v33 fun v36 => .hv (Instr.alloc 28 true (.tuple #[])) fun v7 => .ef (Instr.storeAt 28 v7 v34) (biT true .neq v36 (I 0) fun v38 => gi v38 (.ret (B false)) (.ldn 8 v7 fun v40 => .ldn 8 v2 fun v41 => .call 17 [v40, v41] fun v42 => notT v42 fun v43 => gi v43 (.ret (B false)) (tail2T x y s)))) (tail2T x y s)
section
variable {Z : ZP} {w w0 : World} {R : Value → World → Prop} {A : List Nat → List Value → World → Prop} {B : List Nat → Nat → List Value → World → Prop}
theorem tail2_wp {x y : Operand} {s : Bs} (hs : s.length ≤ 100000) (G : GW w) (k : ∀ w', Fr [] w w' → R (.bool true) w') : wp Tryz.prog Z R [] (tail2T x y (Tx s)) w A B := by
  refine r_call (Parse_t s (by omega) G) ?_
  rintro _ w1 ⟨us, rfl, h1, F1⟩
  have l1 : us.length = 8 := rConf.len h1
  refine b_as (cs := us) (zs := zC) (n := 8) (Bx.nil w1) Tryz.zeroValue28 Tryz.sizeOf28 (rConf.one h1) (fun v10 w2 H => ?_) rfl rfl rfl l1
  have F2 := F1.trans H.F
  refine r_if (fun h => ?_) (fun h => ?_)
  · have e := parse_bad h
    rw [e] at h1
    obtain ⟨A0, c0', A1, c1, A2, c2, A3, c3, A4, c4, rfl, k0, k1, k2, k3, k4⟩ := oConf h1
    refine b_ld H 0 rfl rfl ?_
    refine b_ld H 0 rfl rfl ?_
    refine r_are (y := 0) (by rw [IntKind.wrap_i64]; simp [c0]) ?_
    exact r_ret (k w2 F2)
  · obtain ⟨ht, hI⟩ := text_back (Classical.not_not.1 h)
    refine b_ldn H 0 rfl ?_ l1
    refine r_call (Text_t (rConf.up H.F h1) hI (G.up F2)) ?_
    rintro _ w3 ⟨rfl, F3⟩
    rw [ht]
    refine r_teq (a := s) (b := s) ?_
    rw [decide_eq_true (Eq.refl s)]
    exact r_ret (k w3 (F2.trans F3))
theorem tail1_wp {x y : Operand} {s : Bs} {v2 : Nat} {us : List Value} {c : GConf} (hu : rConf.r w us c) (hb : Blk w v2 28 us) (hi : In64 c) (hs : s.length ≤ 100000) (G : GW w) (k : ∀ w', Fr [] w w' → R (.bool true) w') : wp Tryz.prog Z R [] (tail1T x y (Pt v2 0) (Tx s)) w A B := by
  have lu : us.length = 8 := rConf.len hu
  refine r_ldn (hb.rd lu) ?_
  refine r_call (Text_t hu hi G) ?_
  rintro _ w1 ⟨rfl, F1⟩
  refine r_if (fun h => ?_) (fun h => tail2_wp hs (G.up F1) (fun w' F => k w' (F1.trans F)))
  have hm : manyP c = false ∧ ¬ 65536 < (strP c).length ∧ textP c = (strP c, 0) := by
    unfold textP at h ⊢
    by_cases h1 : manyP c = true
    · rw [if_pos h1] at h; cases h
    rw [if_neg h1] at h ⊢
    by_cases h2 : 65536 < (strP c).length
    · rw [if_pos h2] at h; cases h
    rw [if_neg h2]
    exact ⟨by simpa using h1, h2, rfl⟩
  obtain ⟨h1, h2, h3⟩ := hm
  rw [h3]
  refine r_call (Parse_t (strP c) (by omega) (G.up F1)) ?_
  rintro _ w2 ⟨vs, rfl, hv, F2⟩
  rw [back hi h1 (by omega)] at hv ⊢
  have lv : vs.length = 8 := rConf.len hv
  refine b_as (cs := vs) (zs := zC) (n := 8) (Bx.nil w2) Tryz.zeroValue28 Tryz.sizeOf28 (rConf.one hv) (fun v7 w3 H => ?_) rfl rfl rfl lv
  have F3 := (F1.trans F2).trans H.F
  refine b_ldn H 0 rfl ?_ lv
  refine r_ldn ((hb.fr0 F3).rd lu) ?_
  refine r_call (rSame_t (rConf.up H.F hv) (rConf.up F3 hu)) ?_
  rintro _ w4 ⟨rfl, F4⟩
  refine r_ifn (fun h => absurd rfl h) (fun _ => ?_)
  exact tail2_wp hs (G.up (F3.trans F4)) (fun w' F => k w' ((F3.trans F4).trans F))
theorem back_t {cs : List Value} {c : GConf} (hc : rConf.r w cs c) (hi : In64 c) (G : GW w) (s : Bs) : Cz Tryz.prog 5 [.agg cs.toArray, Tx s] w (fun r w' => r = .bool true ∧ Fr [] w w') Z := by
  refine go mixed Tryz.func5 Tryz.call5 rfl (Tr.e5 _ _) ?_
  refine b_box (Bx.nil w) (fun v2 w1 H => ?_)
  refine r_call (awake_t (G.up H.F)) ?_
  rintro _ w2 ⟨rfl, F2⟩
  have H := H.fr F2
  refine r_cut H hc (fun w3 us hu hl H => ?_)
  have F3 := H.F
  refine r_tlen Tryz.underlying9 ?_
  refine r_if (fun h => ?_) (fun h => ?_)
  · refine r_tslh Tryz.underlying9 4000 rfl (by omega) ?_
    exact tail1_wp hu (H.blk (i := 0) rfl) hi.cut (by rw [List.length_take]; omega) (G.up F3) (fun w' F => ⟨rfl, F3.trans F⟩)
  · exact tail1_wp hu (H.blk (i := 0) rfl) hi.cut (by omega) (G.up F3) (fun w' F => ⟨rfl, F3.trans F⟩)
theorem back_c (W : World) (G : GW W) {cs : List Value} {c : GConf} (hc : rConf.r W cs c) (hi : WfC c) (s : ByteArray) (_ : s.size ≤ reachBytes) : Cl Tryz.prog 5 [.agg cs.toArray, .string s] W (fun r w' => r = .bool true ∧ Fr [] W w') := by
  rw [tx_of]
  exact (back_t hc hi.in64 G s.data.toList).cl
end
end Go.Proofs.YtdjljgfffcjfmaaGreatDoor.Cg
