/- The pure statement of HeapHeads: over numbers, strings and lists alone. By a program of this session. -/
import Derived.Test.YtaddjeegplfjiaaRd
import Derived.Test.YtaddjeegplfjiaaQx4
namespace Go.Proofs.Ytaddjeegplfjiaa.Q
open Go.RowKit Go.Proofs.YtaddjeegplfjiaaW.PrintWords Go.Proofs.YtaddjeegplfjiaaW.PrintLast Go.Proofs.YtaddjeegplfjiaaW.PrintMore
attribute [local go_sem] max2_int min2_int max_two min_two max_three min_three max_four min_four   -- for this text's walks alone
set_option linter.unusedVariables false
set_option linter.unusedSimpArgs false

def HeapHeads.Pure : Prop := ∀ (x0 : Int) (x1 : Int) (x2 : Int) (x3 : Int), (∃ (H : Type) (y0 y1 y2 y3 : DataW H), (Dint .i64) H x0 y0 ∧ (Dint .i64) H x1 y1 ∧ (Dint .i64) H x2 y2 ∧ (Dint .u32) H x3 y3) → ∃ k, camletlaw41_HeapHeads.f k x0 x1 x2 x3 = some true
end Go.Proofs.Ytaddjeegplfjiaa.Q
