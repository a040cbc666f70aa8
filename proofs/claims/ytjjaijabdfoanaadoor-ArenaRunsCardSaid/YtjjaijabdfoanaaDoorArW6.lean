/- The arena: the walk of few. -/
import Derived.Test.YtjjaijabdfoanaaDoorArW5
set_option linter.unusedVariables false
namespace Go.Proofs.YtjjaijabdfoanaaDoor.Arn
open Go Go.RowKit Go.Proofs.YtjjaijabdfoanaaDoor.Sx Go.Proofs.YtjjaijabdfoanaaDoor.Ls Go.Proofs.YtjjaijabdfoanaaDoor
set_option maxRecDepth 100000

theorem few_c (w : World) (A0 : Option Addr) (n c0 : Nat) (hc : n ≤ c0) : Cl Tryd.prog 9 [.slice A0 n c0] w (fun v w' => v = .slice A0 (min n 17) c0 ∧ w' = w) := by
  refine enter Tryd.func9 rfl Tryd.ntmps9 rfl ?_
  refine cl_seq rfl ?_
  refine cl_reg rfl ?_
  refine st rfl rfl rfl rfl (x_asg rfl) ?_
  refine rl_end rfl ?_
  refine al_k ?_
  refine cl_seq rfl ?_
  refine cl_reg rfl ?_
  refine st rfl rfl rfl rfl (x_move rfl) ?_
  refine st rfl rfl rfl rfl (x_move rfl) ?_
  refine st rfl rfl rfl rfl (x_len rfl Tryd.underlying22) ?_
  refine st rfl rfl rfl rfl (x_min rfl rfl) ?_
  refine st rfl rfl rfl rfl (x_slh rfl rfl Tryd.underlying22 Tryd.sizeOf3 (by split <;> omega)) ?_
  refine st rfl rfl rfl rfl (x_asg rfl) ?_
  refine rl_end rfl ?_
  refine al_k ?_
  refine cl_ret rfl ?_
  refine fin1 rfl rfl ?_
  refine ⟨?_, rfl⟩
  have e : (if (17 : Int) < (n : Int) then (17 : Int) else (n : Int)).toNat = min n 17 := by split <;> omega
  rw [e]

end Go.Proofs.YtjjaijabdfoanaaDoor.Arn
