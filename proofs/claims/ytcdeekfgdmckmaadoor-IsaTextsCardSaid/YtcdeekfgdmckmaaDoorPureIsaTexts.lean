/- An instruction's text and the instruction of a text agree with the reference (texts of at most 200 bytes). -/
import Derived.Test.YtcdeekfgdmckmaaDoorIsaTR
import Derived.Test.YtcdeekfgdmckmaaDoorStIsaTexts
namespace Go.Proofs.YtcdeekfgdmckmaaDoor.Q
open Go.RowKit Go.Proofs.YtcdeekfgdmckmaaDoorW.PrintWords Go.Proofs.YtcdeekfgdmckmaaDoorW.PrintLast Go.Proofs.YtcdeekfgdmckmaaDoorW.PrintMore
set_option linter.unusedVariables false
set_option linter.unusedSimpArgs false

theorem it_knows : camletlaw39_knows.f = some true := by decide +kernel
theorem IsaTexts.proved : IsaTexts.Pure := by
  intro x0 x1 _ _
  refine Ev.rounds ?_
  unfold camletlaw39_IsaTexts.f
  by_cases h : (x1.size : Int) > 200
  · exact Ev.pos h (Ev.val it_knows (Ev.now _))
  · obtain ⟨r, h1, h2⟩ := refRead_ev x1 (by omega)
    refine Ev.neg h (Ev.val h1 (Ev.bind h2 (Ev.val (show_text _ _ _ _ _) (Ev.bind (refShow_ev _ _ _ _ _) (Ev.pos rfl (Ev.pos ?_ (Ev.pos ?_ (Ev.val it_knows (Ev.now _)))))))))
    · simp
    · simp
end Go.Proofs.YtcdeekfgdmckmaaDoor.Q
