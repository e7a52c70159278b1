/- The pure statement of AsmBack: over numbers, strings and lists alone. By a program of this session. -/
import Derived.Test.YtlhkojnocconfaaDoorRd
import Derived.Test.YtlhkojnocconfaaDoorQx10
namespace Go.Proofs.YtlhkojnocconfaaDoor.Q
open Go.RowKit Go.Proofs.YtlhkojnocconfaaDoorW.PrintWords Go.Proofs.YtlhkojnocconfaaDoorW.PrintLast Go.Proofs.YtlhkojnocconfaaDoorW.PrintMore
attribute [local go_sem] max2_int min2_int max_two min_two max_three min_three max_four min_four   -- for this text's walks alone
set_option linter.unusedVariables false
set_option linter.unusedSimpArgs false

def AsmBack.Pure : Prop := ∀ (x0 : List S36) (x1 : ByteArray) (x2 : List Int), (∃ (H : Type) (y0 y1 y2 : DataW H), (Dsl D36) H x0 y0 ∧ Dstr H x1 y1 ∧ (Dsl (Dint .u32)) H x2 y2) → x1.size ≤ 140737488351232 → ∃ k, camletlaw40_AsmBack.f k x0 x1 x2 = some true
end Go.Proofs.YtlhkojnocconfaaDoor.Q
