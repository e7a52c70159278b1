/- The pure statement of ImageBytes: over numbers, strings and lists alone. By a program of this session. -/
import Derived.Test.YtbjfchkfhbpclaaRd
import Derived.Test.YtbjfchkfhbpclaaQx12
namespace Go.Proofs.Ytbjfchkfhbpclaa.Q
open Go.RowKit Go.Proofs.YtbjfchkfhbpclaaW.PrintWords Go.Proofs.YtbjfchkfhbpclaaW.PrintLast Go.Proofs.YtbjfchkfhbpclaaW.PrintMore
attribute [local go_sem] max2_int min2_int max_two min_two max_three min_three max_four min_four   -- for this text's walks alone
set_option linter.unusedVariables false
set_option linter.unusedSimpArgs false

def ImageBytes.Pure : Prop := ∀ (x0 : S27), (∃ (H : Type) (y0 : DataW H), D27 H x0 y0) → ∃ k, camletlaw44_ImageBytes.f k x0.f0 x0.f1 = some true
end Go.Proofs.Ytbjfchkfhbpclaa.Q
