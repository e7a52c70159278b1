/- The pure statement of ImageBack: over numbers, strings and lists alone. By a program of this session. -/
import Derived.Test.YtbjfchkfhbpclaaRd
import Derived.Test.YtbjfchkfhbpclaaQx15
namespace Go.Proofs.Ytbjfchkfhbpclaa.Q
open Go.RowKit Go.Proofs.YtbjfchkfhbpclaaW.PrintWords Go.Proofs.YtbjfchkfhbpclaaW.PrintLast Go.Proofs.YtbjfchkfhbpclaaW.PrintMore
attribute [local go_sem] max2_int min2_int max_two min_two max_three min_three max_four min_four   -- for this text's walks alone
set_option linter.unusedVariables false
set_option linter.unusedSimpArgs false

def ImageBack.Pure : Prop := ∀ (x0 : S27) (x1 : Int) (x2 : Int), (∃ (H : Type) (y0 y1 y2 : DataW H), D27 H x0 y0 ∧ (Dint .i64) H x1 y1 ∧ (Dint .u8) H x2 y2) → ∃ k, camletlaw44_ImageBack.f k x0.f0 x0.f1 x1 x2 = some true
end Go.Proofs.Ytbjfchkfhbpclaa.Q
