/- The pure statement of NumBack: over numbers, strings and lists alone. By a program of this session. -/
import Derived.Test.YtgnfobnlipjedaaDoorRd
import Derived.Test.YtgnfobnlipjedaaDoorQx3
namespace Go.Proofs.YtgnfobnlipjedaaDoor.Q
open Go.RowKit Go.Proofs.YtgnfobnlipjedaaDoorW.PrintWords Go.Proofs.YtgnfobnlipjedaaDoorW.PrintLast Go.Proofs.YtgnfobnlipjedaaDoorW.PrintMore
attribute [local go_sem] max2_int min2_int max_two min_two max_three min_three max_four min_four   -- for this text's walks alone
set_option linter.unusedVariables false
set_option linter.unusedSimpArgs false

def NumBack.Pure : Prop := ∀ (x0 : Int) (x1 : Int), (∃ (H : Type) (y0 y1 : DataW H), (Dint .i64) H x0 y0 ∧ (Dint .u32) H x1 y1) → ∃ k, camletlaw01_NumBack.f k x0 x1 = some true
end Go.Proofs.YtgnfobnlipjedaaDoor.Q
