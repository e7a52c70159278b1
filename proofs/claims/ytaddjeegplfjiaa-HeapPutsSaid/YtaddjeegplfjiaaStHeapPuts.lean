/- The pure statement of HeapPuts: over numbers, strings and lists alone. By a program of this session. -/
import Derived.Test.YtaddjeegplfjiaaRd
import Derived.Test.YtaddjeegplfjiaaQx9
namespace Go.Proofs.Ytaddjeegplfjiaa.Q
open Go.RowKit Go.Proofs.YtaddjeegplfjiaaW.PrintWords Go.Proofs.YtaddjeegplfjiaaW.PrintLast Go.Proofs.YtaddjeegplfjiaaW.PrintMore
attribute [local go_sem] max2_int min2_int max_two min_two max_three min_three max_four min_four   -- for this text's walks alone
set_option linter.unusedVariables false
set_option linter.unusedSimpArgs false

def HeapPuts.Pure : Prop := ∀ (x0 : List Int) (x1 : Int) (x2 : S34), (∃ (H : Type) (y0 y1 y2 : DataW H), (Dsl (Dint .u32)) H x0 y0 ∧ (Dint .i64) H x1 y1 ∧ D34 H x2 y2) → ∃ k, camletlaw41_HeapPuts.f k x0 x1 x2.f0 x2.f1 x2.f2 = some true
end Go.Proofs.Ytaddjeegplfjiaa.Q
