/- The pure statement of IsaBack: over numbers, strings and lists alone. By a program of this session. -/
import Derived.Test.YtcdeekfgdmckmaaDoorRd
import Derived.Test.YtcdeekfgdmckmaaDoorQx11
namespace Go.Proofs.YtcdeekfgdmckmaaDoor.Q
open Go.RowKit Go.Proofs.YtcdeekfgdmckmaaDoorW.PrintWords Go.Proofs.YtcdeekfgdmckmaaDoorW.PrintLast Go.Proofs.YtcdeekfgdmckmaaDoorW.PrintMore
attribute [local go_sem] max2_int min2_int max_two min_two max_three min_three max_four min_four   -- for this text's walks alone
set_option linter.unusedVariables false
set_option linter.unusedSimpArgs false

def IsaBack.Pure : Prop := ∀ (x0 : S24) (x1 : Int), (∃ (H : Type) (y0 y1 : DataW H), D24 H x0 y0 ∧ (Dint .u32) H x1 y1) → ∃ k, camletlaw39_IsaBack.f k x0.f0 x0.f1 x0.f2 x0.f3 x0.f4 x1 = some true
end Go.Proofs.YtcdeekfgdmckmaaDoor.Q
