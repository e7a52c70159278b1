/- Wrap agrees with the reference for every number, and wrapping twice is wrapping once. -/
import Derived.Test.YtgnfobnlipjedaaQx2
import Derived.Test.YtgnfobnlipjedaaNumPlain
namespace Go.Proofs.Ytgnfobnlipjedaa.Pure
open Go.RowKit Go.Proofs.Ytgnfobnlipjedaa.Q Go.Proofs.YtgnfobnlipjedaaW.PrintWords Go.Proofs.YtgnfobnlipjedaaW.PrintLast Go.Proofs.YtgnfobnlipjedaaW.PrintMore
theorem NumWraps : camletlaw01_NumWraps.Pure := by
  intro a _
  unfold camletlaw01_NumWraps.f
  simp [wrap_f, refwrap_f, W_W, knows_f]
end Go.Proofs.Ytgnfobnlipjedaa.Pure
