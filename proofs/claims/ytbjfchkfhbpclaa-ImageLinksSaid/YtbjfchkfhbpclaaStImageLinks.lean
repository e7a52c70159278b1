/- The pure statement of ImageLinks: over numbers, strings and lists alone. By a program of this session. -/
import Derived.Test.YtbjfchkfhbpclaaRd
import Derived.Test.YtbjfchkfhbpclaaQx10
namespace Go.Proofs.Ytbjfchkfhbpclaa.Q
open Go.RowKit Go.Proofs.YtbjfchkfhbpclaaW.PrintWords Go.Proofs.YtbjfchkfhbpclaaW.PrintLast Go.Proofs.YtbjfchkfhbpclaaW.PrintMore
attribute [local go_sem] max2_int min2_int max_two min_two max_three min_three max_four min_four   -- for this text's walks alone
set_option linter.unusedVariables false
set_option linter.unusedSimpArgs false

def ImageLinks.Pure : Prop := ∀ (x0 : List S44), (∃ (H : Type) (y0 : DataW H), (Dsl D44) H x0 y0) → ∃ k, camletlaw44_ImageLinks.f k x0 = some true
end Go.Proofs.Ytbjfchkfhbpclaa.Q
