/- The law of forests, over trees: forests made by calls; DeriveTrees. -/
import Derived.Test.YtcbkpekbfkaeeaaDoorFoN
set_option linter.unusedVariables false
set_option linter.unusedSimpArgs false
namespace Go.Proofs.YtcbkpekbfkaeeaaDoor.Fo
open Go Go.RowKit Go.Proofs.YtcbkpekbfkaeeaaDoor.Sx
open Go.Proofs.YtcbkpekbfkaeeaaDoor.Ls (mixed new_r Glb)
def mkL (L : En) (o : Op3) : En := if o.1 = 1 then (fRoot 16 L o.2.1).1 else if o.1 = 2 then (fDer 16 L o.2.1 o.2.2).1 else if o.1 = 3 then (fTake 16 L o.2.1 true).1 else (fTake 16 L o.2.1 false).1
def makeL (ops : List Op3) : En := (ops.take 50).foldl mkL []
section
variable {Z : ZP} {w : World}
theorem made_t (hG : Glb w) {X : Option Addr} {cp : Nat} {ops : List Op3} (hops : OpsAt w X ops) : Cz Tryd.prog 16 [.slice X ops.length cp] w (fun r w' => ∃ k : FK, r = Pt k.fp 0 ∧ FoR w' k 16 (makeL ops) [] ∧ (∀ q ∈ k.ids, w.heap.size ≤ q) ∧ Fr [] w w') Z := by
  refine go mixed Tryd.func16 Tryd.call16 rfl (Tr.e16 _) ?_
  refine r_call (FNew_y (n := 16) hG (by omega)) ?_
  rintro _ w1 ⟨k, rfl, K1, hk, F1⟩
  have up : ∀ {a b : World} {S : List Nat}, Fr [] w a → Fr S a b → (∀ q ∈ S, q ∈ k.ids) → Fr [] w b := fun F f h => F.trans_new f (fun q hq => .inr (hk q (h q hq)))
  refine r_loop (fun (i : Nat) => [I (i : Int)]) (fun i w' => (i ≤ ops.length ∧ i ≤ 50) ∧ FoR w' k 16 ((ops.take i).foldl mkL []) [] ∧ Fr [] w w') (fun i => 50 - i) 0 ⟨⟨Nat.zero_le _, Nat.zero_le _⟩, K1, F1⟩ rfl ?_
  rintro i w2 ⟨⟨hi1, hi2⟩, K, F⟩
  have fin : (i = ops.length ∨ i = 50) → makeL ops = (ops.take i).foldl mkL [] := by
    intro h
    unfold makeL
    rcases h with h | h
    · subst h
      rw [List.take_length, List.take_of_length_le hi2]
    · rw [h]
  refine r_if (fun h1 => ?_) (fun h1 => ?_)
  · refine r_if (fun h2 => ?_) (fun h2 => ?_)
    · obtain ⟨⟨a, b, c⟩, he⟩ := gt (xs := ops) (j := i) (by omega)
      obtain ⟨ad, rfl, rd⟩ := hops i _ he
      have rd2 := rd.fr F
      have hs : (ops.take (i + 1)).foldl mkL [] = mkL ((ops.take i).foldl mkL []) (a, b, c) := by rw [take_succ' he, List.foldl_append]; rfl
      have hm : mkL ((ops.take i).foldl mkL []) (a, b, c) = if a = 1 then (fRoot 16 ((ops.take i).foldl mkL []) b).1 else if a = 2 then (fDer 16 ((ops.take i).foldl mkL []) b c).1 else if a = 3 then (fTake 16 ((ops.take i).foldl mkL []) b true).1 else (fTake 16 ((ops.take i).foldl mkL []) b false).1 := rfl
      refine r_ob ⟨by omega, by omega⟩ ?_
      refine r_ld (rd2.2 0 _ rfl) ?_
      refine r_if (fun k1 => ?_) (fun k1 => ?_)
      · rw [if_pos k1] at hm
        refine r_ob ⟨by omega, by omega⟩ ?_
        refine r_ld (rd2.2 1 _ rfl) ?_
        refine r_call (Cz.of Tryd.call24 (Root_c w2 k 16 _ K b)) ?_
        rintro _ w3 ⟨rfl, K3, f3⟩
        refine r_ar (by omega) ?_
        exact r_ag (i + 1) ⟨⟨by omega, by omega⟩, by rw [hs, hm]; exact K3, up F f3 (by simp [FK.ids])⟩ (by omega) rfl
      rw [if_neg k1] at hm
      refine r_if (fun k2 => ?_) (fun k2 => ?_)
      · rw [if_pos k2] at hm
        refine r_dr (fun w3 f3 => ?_)
        have rd3 := rd2.fr f3
        refine r_ob ⟨by omega, by omega⟩ ?_
        refine r_ld (rd3.2 1 _ rfl) ?_
        refine r_ob ⟨by omega, by omega⟩ ?_
        refine r_ld (rd3.2 2 _ rfl) ?_
        refine r_call (Cz.of Tryd.call25 (Derive_c w3 k 16 _ (K.fr0 f3) b c)) ?_
        rintro _ w4 ⟨rfl, K4, f4⟩
        refine r_ar (by omega) ?_
        exact r_ag (i + 1) ⟨⟨by omega, by omega⟩, by rw [hs, hm]; exact K4, up (F.trans f3) f4 (by simp [FK.ids])⟩ (by omega) rfl
      rw [if_neg k2] at hm
      refine r_if (fun k3 => ?_) (fun k3 => ?_)
      · rw [if_pos k3] at hm
        refine r_ob ⟨by omega, by omega⟩ ?_
        refine r_ld (rd2.2 1 _ rfl) ?_
        refine r_call (Cut_t K b) ?_
        rintro _ w3 ⟨s, rfl, _, K3, f3⟩
        refine r_ar (by omega) ?_
        exact r_ag (i + 1) ⟨⟨by omega, by omega⟩, by rw [hs, hm]; exact K3, up F f3 (fun q hq => hq)⟩ (by omega) rfl
      · rw [if_neg k3] at hm
        refine r_ob ⟨by omega, by omega⟩ ?_
        refine r_ld (rd2.2 1 _ rfl) ?_
        refine r_call (Prune_t K b) ?_
        rintro _ w3 ⟨s, rfl, _, K3, f3⟩
        refine r_ar (by omega) ?_
        exact r_ag (i + 1) ⟨⟨by omega, by omega⟩, by rw [hs, hm]; exact K3, up F f3 (fun q hq => hq)⟩ (by omega) rfl
    · exact r_brk (r_ret ⟨k, rfl, by rw [fin (.inr (by omega))]; exact K, hk, F⟩)
  · exact r_brk (r_ret ⟨k, rfl, by rw [fin (.inl (by omega))]; exact K, hk, F⟩)
end
end Go.Proofs.YtcbkpekbfkaeeaaDoor.Fo
