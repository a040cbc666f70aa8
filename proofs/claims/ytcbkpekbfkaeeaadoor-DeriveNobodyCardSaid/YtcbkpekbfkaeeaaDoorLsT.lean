/- The lists' iterator, over its tree. -/
import Derived.Test.YtcbkpekbfkaeeaaDoorLsC
import Derived.Test.YtcbkpekbfkaeeaaDoorSxI
import Derived.Test.YtcbkpekbfkaeeaaDoorTr
set_option linter.unusedVariables false
set_option linter.unusedSimpArgs false
namespace Go.Proofs.YtcbkpekbfkaeeaaDoor.Ls
open Go Go.RowKit Go.Proofs.YtcbkpekbfkaeeaaDoor.Sx
theorem mixed : Tryd.prog.follows .mixedOrders = true := by kernel_rfl
theorem told1_it {Z : ZP} {w : World} {q : Option Addr} {li : Int} {bk : Bool} {b1 b2 b3 : Nat} (hb1 : Blk w b1 58 [.pointer q]) (hb2 : Blk w b2 3 [I li]) (hb3 : Blk w b3 4 [B bk]) (xs : List Int) (hx : xs.length ≤ 100000)
    (hrow : Cl Tryd.prog 64 [.pointer q, I li, B bk] w (fun v w' => w'.ownsRow w.heap.size 3 1 v xs.length (ints xs) ∧ Fr [] w w'))
    {L : Nat} {J : List Nat → Nat → World → Prop} {K : List Nat → World → Prop} (RG : Rg Tryd.prog L (St xs) J K) (h0 : J [] 0 w) :
    Cz Tryd.prog 63 [.func (.yield L) #[] #[], Pt b1 0, Pt b2 0, Pt b3 0] w (fun _ w' => ∃ V, J V xs.length w' ∨ K V w') Z := by
  refine go mixed Tryd.func63 Tryd.call63 rfl (Tr.e63 _ _ _ _) ?_
  refine r_ld (hb1.cell rfl) ?_
  refine r_ld (hb2.cell rfl) ?_
  refine r_ld (hb3.cell rfl) ?_
  refine r_call (Cz.of Tryd.call64 hrow) ?_
  rintro v ws ⟨HO, F⟩
  have hJ := RG.row h0 HO (Nat.le_refl _) F
  obtain ⟨X, c, hv, hc⟩ := own_int HO
  generalize hV : v.ownBlock.toList = V at hJ
  have hlt : ∀ q ∈ V, q < ws.heap.size := fun q hq => by subst hV; exact (own_lt HO q hq).2
  subst hv
  refine r_loop (fun (m : Nat) => [I (m : Int)]) (fun m w' => m ≤ xs.length ∧ J V m w' ∧ (∀ q ∈ V, w'.heap[q]? = ws.heap[q]?) ∧ ws.heap.size ≤ w'.heap.size) (fun m => xs.length - m) 0 ⟨Nat.zero_le _, hJ, fun _ _ => rfl, Nat.le_refl _⟩ rfl ?_
  rintro m w1 ⟨hm, hJ, hk, hs⟩
  refine r_if (fun h => ?_) (fun h => ?_)
  · refine r_ob ⟨by omega, by omega⟩ ?_
    obtain ⟨z, hz⟩ := gt (xs := xs) (j := m) (by omega)
    have HO1 := own_keep (w' := w1) HO (fun q hq => hk q (by rw [← hV, hq]; simp))
    obtain ⟨X', c', hv', hc'⟩ := own_int HO1
    cases hv'
    obtain ⟨ad, rfl, hcell⟩ := hc' m z hz
    refine r_ld hcell ?_
    refine r_yld (RG.yd V m (m + 1) _ _ hJ (fun q hq => Nat.lt_of_lt_of_le (hlt q hq) hs) ⟨z, hz, rfl, rfl⟩) ?_
    rintro v w2 ⟨⟨rfl, hJ2⟩ | ⟨rfl, hK⟩, hs2, hk2⟩
    · refine r_ar (z := (m : Int) + 1) (by omega) ?_
      exact r_ag (m + 1) ⟨by omega, hJ2, fun q hq => (hk2 q hq).trans (hk q hq), Nat.le_trans hs hs2⟩ (by omega) rfl
    · exact r_ret ⟨V, .inr hK⟩
  · have : m = xs.length := by omega
    subst this
    exact r_brk (r_ret ⟨V, .inl hJ⟩)
end Go.Proofs.YtcbkpekbfkaeeaaDoor.Ls
