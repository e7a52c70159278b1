/- The pure statement of NumTexts: over numbers, strings and lists alone. By a program of this session. -/
import Derived.Test.YtgnfobnlipjedaaDoorRd
import Derived.Test.YtgnfobnlipjedaaDoorQx3
namespace Go.Proofs.YtgnfobnlipjedaaDoor.Q
open Go.RowKit Go.Proofs.YtgnfobnlipjedaaDoorW.PrintWords Go.Proofs.YtgnfobnlipjedaaDoorW.PrintLast Go.Proofs.YtgnfobnlipjedaaDoorW.PrintMore
attribute [local go_sem] max2_int min2_int max_two min_two max_three min_three max_four min_four   -- for this text's walks alone
set_option linter.unusedVariables false
set_option linter.unusedSimpArgs false

def NumTexts.Pure : Prop := ∀ (x0 : Int) (x1 : ByteArray) (x2 : Int), (∃ (H : Type) (y0 y1 y2 : DataW H), (Dint .i64) H x0 y0 ∧ Dstr H x1 y1 ∧ (Dint .i64) H x2 y2) → x1.size ≤ 140737488351232 → ∃ k, camletlaw01_NumTexts.f k x0 x1 x2 = some true
end Go.Proofs.YtgnfobnlipjedaaDoor.Q
