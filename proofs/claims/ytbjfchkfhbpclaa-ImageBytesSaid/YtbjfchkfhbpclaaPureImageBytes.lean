/- Right and Put of an image agree with the reference. -/
import Derived.Test.YtbjfchkfhbpclaaImgRef
import Derived.Test.YtbjfchkfhbpclaaStImageBytes
namespace Go.Proofs.Ytbjfchkfhbpclaa.Q
open Go.RowKit Go.Proofs.YtbjfchkfhbpclaaW.PrintWords Go.Proofs.YtbjfchkfhbpclaaW.PrintLast Go.Proofs.YtbjfchkfhbpclaaW.PrintMore
set_option linter.unusedVariables false
set_option linter.unusedSimpArgs false

theorem ImageBytes.proved : ImageBytes.Pure := by
  intro x ⟨H, y0, h0⟩
  refine ⟨0, ?_⟩
  have k : camletlaw44_knows.f = some true := rfl
  unfold camletlaw44_ImageBytes.f
  by_cases h : (x.f0.length : Int) > 20000
  · rw [if_pos h, k]; rfl
  rw [if_neg h, imgRight_eq, ref44_Right_eq, k]
  unfold image_Put.f camletref44_Put.f
  cases hr : imgRight x.f0 x.f1 with
  | true => simp
  | false => simp
end Go.Proofs.Ytbjfchkfhbpclaa.Q
