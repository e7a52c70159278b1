/- A run that was cut off agrees with every run whose output continues its own, and with none whose output differs ahead. -/
import Derived.Test.YtaijpfooobcdkaaDoorStEndsCut
namespace Go.Proofs.YtaijpfooobcdkaaDoor.Q
open Go.RowKit Go.Proofs.YtaijpfooobcdkaaDoorW.PrintWords Go.Proofs.YtaijpfooobcdkaaDoorW.PrintLast Go.Proofs.YtaijpfooobcdkaaDoorW.PrintMore
set_option linter.unusedVariables false
set_option linter.unusedSimpArgs false

theorem EndsCut.proved : EndsCut.Pure := fun _ _ _ _ => rfl
end Go.Proofs.YtaijpfooobcdkaaDoor.Q
