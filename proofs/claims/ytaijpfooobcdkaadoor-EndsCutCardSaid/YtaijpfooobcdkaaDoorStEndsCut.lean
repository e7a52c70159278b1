/- The pure statement of EndsCut: over numbers, strings and lists alone. By a program of this session. -/
import Derived.Test.YtaijpfooobcdkaaDoorRd
import Derived.Test.YtaijpfooobcdkaaDoorHendsCut
namespace Go.Proofs.YtaijpfooobcdkaaDoor.Q
open Go.RowKit Go.Proofs.YtaijpfooobcdkaaDoorW.PrintWords Go.Proofs.YtaijpfooobcdkaaDoorW.PrintLast Go.Proofs.YtaijpfooobcdkaaDoorW.PrintMore
attribute [local go_sem] max2_int min2_int max_two min_two max_three min_three max_four min_four   -- for this text's walks alone
set_option linter.unusedVariables false
set_option linter.unusedSimpArgs false

def EndsCut.Pure : Prop := ∀ (x0 : S25) (x1 : List Int) (x2 : Int), (∃ (H : Type) (y0 y1 y2 : DataW H), D25 H x0 y0 ∧ (Dsl (Dint .i64)) H x1 y1 ∧ (Dint .i64) H x2 y2) → camletlaw02_EndsCut.f x0.f0 x0.f1 x0.f2 x0.f3 x1 x2 = some true
end Go.Proofs.YtaijpfooobcdkaaDoor.Q
