/- The pure statement of AsmNames: over numbers, strings and lists alone. By a program of this session. -/
import Derived.Test.YtlhkojnocconfaaDoorRd
import Derived.Test.YtlhkojnocconfaaDoorQx6
namespace Go.Proofs.YtlhkojnocconfaaDoor.Q
open Go.RowKit Go.Proofs.YtlhkojnocconfaaDoorW.PrintWords Go.Proofs.YtlhkojnocconfaaDoorW.PrintLast Go.Proofs.YtlhkojnocconfaaDoorW.PrintMore
attribute [local go_sem] max2_int min2_int max_two min_two max_three min_three max_four min_four   -- for this text's walks alone
set_option linter.unusedVariables false
set_option linter.unusedSimpArgs false

def AsmNames.Pure : Prop := ∀ (x0 : List S36), (∃ (H : Type) (y0 : DataW H), (Dsl D36) H x0 y0) → ∃ k, camletlaw40_AsmNames.f k x0 = some true
end Go.Proofs.YtlhkojnocconfaaDoor.Q
