/- The pure statement of EndsAgree: over numbers, strings and lists alone. By a program of this session. -/
import Derived.Test.YtaijpfooobcdkaaDoorRd
import Derived.Test.YtaijpfooobcdkaaDoorQx7
namespace Go.Proofs.YtaijpfooobcdkaaDoor.Q
open Go.RowKit Go.Proofs.YtaijpfooobcdkaaDoorW.PrintWords Go.Proofs.YtaijpfooobcdkaaDoorW.PrintLast Go.Proofs.YtaijpfooobcdkaaDoorW.PrintMore
attribute [local go_sem] max2_int min2_int max_two min_two max_three min_three max_four min_four   -- for this text's walks alone
set_option linter.unusedVariables false
set_option linter.unusedSimpArgs false

def EndsAgree.Pure : Prop := ∀ (x0 : S25) (x1 : S25), (∃ (H : Type) (y0 y1 : DataW H), D25 H x0 y0 ∧ D25 H x1 y1) → ∃ k, camletlaw02_EndsAgree.f k x0.f0 x0.f1 x0.f2 x0.f3 x1.f0 x1.f1 x1.f2 x1.f3 = some true
end Go.Proofs.YtaijpfooobcdkaaDoor.Q
