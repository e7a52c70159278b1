/- Readings of the laws' arguments, kind by kind. By a program of this session (wip/tools/rowgen.py). -/
import Derived.Test.YtgnfobnlipjedaaDoorReads
namespace Go.Proofs.YtgnfobnlipjedaaDoor.Q
open Go.RowKit Go.Proofs.YtgnfobnlipjedaaDoorW.PrintWords Go.Proofs.YtgnfobnlipjedaaDoorW.PrintLast Go.Proofs.YtgnfobnlipjedaaDoorW.PrintMore
attribute [local go_sem] max2_int min2_int max_two min_two max_three min_three max_four min_four   -- for this text's walks alone
set_option linter.unusedVariables false
set_option linter.unusedSimpArgs false

end Go.Proofs.YtgnfobnlipjedaaDoor.Q
