/- The pure statement of IsaTakes: over numbers, strings and lists alone. By a program of this session. -/
import Derived.Test.YtcdeekfgdmckmaaDoorRd
import Derived.Test.YtcdeekfgdmckmaaDoorQx11
namespace Go.Proofs.YtcdeekfgdmckmaaDoor.Q
open Go.RowKit Go.Proofs.YtcdeekfgdmckmaaDoorW.PrintWords Go.Proofs.YtcdeekfgdmckmaaDoorW.PrintLast Go.Proofs.YtcdeekfgdmckmaaDoorW.PrintMore
attribute [local go_sem] max2_int min2_int max_two min_two max_three min_three max_four min_four   -- for this text's walks alone
set_option linter.unusedVariables false
set_option linter.unusedSimpArgs false

def IsaTakes.Pure : Prop := ∀ (x0 : Int), (∃ (H : Type) (y0 : DataW H), (Dint .u32) H x0 y0) → ∃ k, camletlaw39_IsaTakes.f k x0 = some true
end Go.Proofs.YtcdeekfgdmckmaaDoor.Q
