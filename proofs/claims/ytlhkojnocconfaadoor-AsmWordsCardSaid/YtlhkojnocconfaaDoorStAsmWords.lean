/- The pure statement of AsmWords: over numbers, strings and lists alone. By a program of this session. -/
import Derived.Test.YtlhkojnocconfaaDoorRd
import Derived.Test.YtlhkojnocconfaaDoorQx11
namespace Go.Proofs.YtlhkojnocconfaaDoor.Q
open Go.RowKit Go.Proofs.YtlhkojnocconfaaDoorW.PrintWords Go.Proofs.YtlhkojnocconfaaDoorW.PrintLast Go.Proofs.YtlhkojnocconfaaDoorW.PrintMore
attribute [local go_sem] max2_int min2_int max_two min_two max_three min_three max_four min_four   -- for this text's walks alone
set_option linter.unusedVariables false
set_option linter.unusedSimpArgs false

def AsmWords.Pure : Prop := ∀ (x0 : List S36) (x1 : ByteArray), (∃ (H : Type) (y0 y1 : DataW H), (Dsl D36) H x0 y0 ∧ Dstr H x1 y1) → x1.size ≤ 140737488351232 → ∃ k, camletlaw40_AsmWords.f k x0 x1 = some true
end Go.Proofs.YtlhkojnocconfaaDoor.Q
