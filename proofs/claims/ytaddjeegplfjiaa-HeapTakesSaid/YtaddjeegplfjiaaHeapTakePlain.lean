/- heap.Take and the reference's Take compute the same. -/
import Derived.Test.YtaddjeegplfjiaaQx0
import Derived.Test.YtaddjeegplfjiaaHheapTake
import Derived.Test.YtaddjeegplfjiaaHrefTake
--@needs XHheapTake
--@needs XHrefTake
namespace Go.Proofs.Ytaddjeegplfjiaa.Q
open Go.RowKit Go.Proofs.YtaddjeegplfjiaaW.PrintWords Go.Proofs.YtaddjeegplfjiaaW.PrintLast Go.Proofs.YtaddjeegplfjiaaW.PrintMore
attribute [local go_sem] max2_int min2_int max_two min_two max_three min_three max_four min_four   -- for this text's walks alone
set_option linter.unusedVariables false
set_option linter.unusedSimpArgs false

theorem hTake_eq (k : Nat) (m : List Int) (x a : Int) : heap_Take.f m x a = camletref41_Take.f k m x a := by
  unfold heap_Take.f camletref41_Take.f
  by_cases h : a < 0
  · have e : hMx a = 0 := by unfold hMx; rw [if_pos h]
    have e2 : a.toNat = 0 := by omega
    rw [e, e2]
    rfl
  · have e : hMx a = a := by unfold hMx; rw [if_neg h]
    rw [e]
end Go.Proofs.Ytaddjeegplfjiaa.Q
