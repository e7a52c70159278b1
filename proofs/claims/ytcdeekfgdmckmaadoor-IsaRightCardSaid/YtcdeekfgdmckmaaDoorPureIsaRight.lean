/- Right and Put agree with the reference for every instruction. -/
import Derived.Test.YtcdeekfgdmckmaaDoorStIsaRight
import Derived.Test.YtcdeekfgdmckmaaDoorIsaRefPut
namespace Go.Proofs.YtcdeekfgdmckmaaDoor.Q
open Go.RowKit Go.Proofs.YtcdeekfgdmckmaaDoorW.PrintWords Go.Proofs.YtcdeekfgdmckmaaDoorW.PrintLast Go.Proofs.YtcdeekfgdmckmaaDoorW.PrintMore
set_option linter.unusedVariables false
set_option linter.unusedSimpArgs false

theorem isa_knows : camletlaw39_knows.f = some true := by kernel_rfl
theorem IsaRight.proved : IsaRight.Pure := by
  intro x0 _
  refine ⟨60, ?_⟩
  obtain ⟨k, D, A, B, N⟩ := x0
  dsimp only
  have h1 : camletref39_Put.f 60 k D A B N = isa_Put.f k D A B N := refPut_eq 0 k D A B N
  have h2 : camletref39_Right.f 60 k D A B N = some (isaRight k D A B N) := refRight_eq 40 k D A B N
  have h3 : isa_Right.f k D A B N = some (isaRight k D A B N) := rfl
  obtain ⟨p, hp⟩ : ∃ p, isa_Put.f k D A B N = some p := by
    unfold isa_Put.f; split <;> exact ⟨_, rfl⟩
  unfold camletlaw39_IsaRight.f
  rw [h1, h2, h3, hp, isa_knows]
  simp
end Go.Proofs.YtcdeekfgdmckmaaDoor.Q
