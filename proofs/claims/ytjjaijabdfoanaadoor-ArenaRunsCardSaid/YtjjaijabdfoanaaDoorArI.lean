/- What holds of any arena; its calls told as plain data. -/
import Derived.Test.YtjjaijabdfoanaaDoorArW4
set_option linter.unusedVariables false
namespace Go.Proofs.YtjjaijabdfoanaaDoor.Arn
open Go Go.RowKit Go.Proofs.YtjjaijabdfoanaaDoor.Sx Go.Proofs.YtjjaijabdfoanaaDoor.Ls
def cntH (S : List Sl) (p : Nat) : Nat := S.countP fun s => s.held && s.part == (p : Int)
structure Inv (x : Ar) : Prop where
  pt : ∀ (i : Nat) s, x.slots[i]? = some s → 0 ≤ s.part ∧ s.part < x.parts
  pp : 1 ≤ x.parts ∧ x.parts ≤ 16
  fl : x.free.length = x.parts
  hl : x.hs.length = 16
  fr : ∀ (p : Nat) l (n : Int), x.free[p]? = some l → (n ∈ l ↔ 0 ≤ n ∧ ∃ s, x.slots[n.toNat]? = some s ∧ s.part = p ∧ s.held = false)
  nd : ∀ (p : Nat) l, x.free[p]? = some l → l.Nodup
  hs : ∀ p : Nat, p < x.parts → x.hs[p]? = some (cntH x.slots p : Int)
  pay : ∀ (i : Nat) s, x.slots[i]? = some s → s.held = false → s.pay = 0
  sl : x.slots.length ≤ 65536
theorem Inv.cnt {x : Ar} (I : Inv x) {p : Int} (h0 : 0 ≤ p) (h1 : p < x.parts) : x.hs[p.toNat]? = some (cntH x.slots p.toNat : Int) ∧ cntH x.slots p.toNat ≤ 65536 :=
  ⟨I.hs p.toNat (by omega), Nat.le_trans List.countP_le_length I.sl⟩
section
variable {w : World} {k : AK} {x : Ar}
theorem alloc_a (K : ArAt w k x) (I : Inv x) (part : Int) : Cl Tryd.prog 11 [.pointer (some ⟨k.ap, 0, none⟩), .int .i64 part] w
    (fun v w' => v = .tuple #[.agg [.int .i64 (x.alloc part).2.1, .int .u64 (x.alloc part).2.2.1].toArray, .int .i64 (x.alloc part).2.2.2] ∧ ArAt w' k (x.alloc part).1 ∧ Fr [k.sb, k.ap, k.nb, k.hb] w w') := by
  unfold Ar.alloc
  by_cases h0 : 0 ≤ part
  · by_cases h1 : part < x.parts
    · rw [if_pos ⟨h0, h1⟩]
      have hrow : x.free[part.toNat]? = some (Ls.rowAt x.free part) := rowAt_some ⟨h0, by rw [I.fl]; exact h1⟩
      cases hr : Ls.rowAt x.free part with
      | nil => exact alloc_none w k x K part h0 h1 hr
      | cons n r =>
        rw [hr] at hrow
        obtain ⟨hn, s, hs, _, _⟩ := (I.fr _ _ n hrow).1 (by simp)
        obtain ⟨hh, hb⟩ := I.cnt h0 h1
        dsimp only
        rw [hs]
        dsimp only
        rw [hh]
        exact alloc_ok w k x K part h0 h1 n r hr s hs hn (cntH x.slots part.toNat : Int) hh (by omega)
    · rw [if_neg (fun h => h1 h.2)]
      exact alloc_out w k x K part h0 (by omega)
  · rw [if_neg (fun h => h0 h.1)]
    exact alloc_neg w k x K part (by omega)
theorem free_a (K : ArAt w k x) (I : Inv x) (n g : Int) : Cl Tryd.prog 12 [.pointer (some ⟨k.ap, 0, none⟩), .agg [.int .i64 n, .int .u64 g].toArray] w
    (fun v w' => v = .int .i64 (x.drop n g).2 ∧ ArAt w' k (x.drop n g).1 ∧ Fr [k.sb, k.ap, k.nb, k.hb] w w') := by
  unfold Ar.drop
  cases h : x.find n g with
  | none => exact free_no w k x K n g h
  | some s =>
    obtain ⟨h0, hs, _, _⟩ := find_some h
    obtain ⟨p0, p1⟩ := I.pt _ _ hs
    obtain ⟨hh, hb⟩ := I.cnt p0 p1
    have := I.pp
    dsimp only
    rw [hh]
    exact free_ok w k x K n g s h (by omega) (cntH x.slots s.part.toNat : Int) hh (by omega)
end
end Go.Proofs.YtjjaijabdfoanaaDoor.Arn
