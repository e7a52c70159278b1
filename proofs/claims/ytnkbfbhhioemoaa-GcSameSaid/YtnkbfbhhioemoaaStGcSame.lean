/- The pure statement of GcSame: over numbers, strings and lists alone. By a program of this session. -/
import Derived.Test.YtnkbfbhhioemoaaRd
import Derived.Test.YtnkbfbhhioemoaaQx7
namespace Go.Proofs.Ytnkbfbhhioemoaa.Q
open Go.RowKit Go.Proofs.YtnkbfbhhioemoaaW.PrintWords Go.Proofs.YtnkbfbhhioemoaaW.PrintLast Go.Proofs.YtnkbfbhhioemoaaW.PrintMore
attribute [local go_sem] max2_int min2_int max_two min_two max_three min_three max_four min_four   -- for this text's walks alone
set_option linter.unusedVariables false
set_option linter.unusedSimpArgs false

def GcSame.Pure : Prop := ∀ (x0 : List Int) (x1 : S23) (x2 : List Int), (∃ (H : Type) (y0 y1 y2 : DataW H), (Dsl (Dint .u32)) H x0 y0 ∧ D23 H x1 y1 ∧ (Dsl (Dint .u32)) H x2 y2) → ∃ k, camletlaw42_GcSame.f k x0 x1.f0 x1.f1 x1.f2 x2 = some true
end Go.Proofs.Ytnkbfbhhioemoaa.Q
