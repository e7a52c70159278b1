/- Take agrees with the reference for every word. -/
import Derived.Test.YtcdeekfgdmckmaaDoorStIsaTakes
import Derived.Test.YtcdeekfgdmckmaaDoorIsaRefTake
namespace Go.Proofs.YtcdeekfgdmckmaaDoor.Q
open Go.RowKit Go.Proofs.YtcdeekfgdmckmaaDoorW.PrintWords Go.Proofs.YtcdeekfgdmckmaaDoorW.PrintLast Go.Proofs.YtcdeekfgdmckmaaDoorW.PrintMore
set_option linter.unusedVariables false
set_option linter.unusedSimpArgs false

theorem isa_knows2 : camletlaw39_knows.f = some true := by kernel_rfl
theorem u32_span {n : Int} (h : (Lit.int .u32 n).wf = true) : 0 ≤ n ∧ n < 4294967296 := by
  have h2 : IntKind.u32.min ≤ n ∧ n ≤ IntKind.u32.max := by simpa [Lit.wf] using h
  have e1 : IntKind.u32.min = 0 := rfl
  have e2 : IntKind.u32.max = 4294967295 := rfl
  omega
theorem IsaTakes.proved : IsaTakes.Pure := by
  intro x ⟨H, y0, hy⟩
  obtain ⟨hx0, hx1⟩ := u32_span hy.2
  refine ⟨90, ?_⟩
  have h1 : camletref39_Take.f 90 x = isa_Take.f x := refTake_eq 0 x hx0 hx1
  obtain ⟨p, hp⟩ : ∃ p, isa_Take.f x = some p := by
    unfold isa_Take.f
    rw [if_pos ⟨hx0, hx1⟩]
    dsimp only
    split
    · exact ⟨_, rfl⟩
    · split <;> exact ⟨_, rfl⟩
  unfold camletlaw39_IsaTakes.f
  rw [h1, hp, isa_knows2]
  simp
end Go.Proofs.YtcdeekfgdmckmaaDoor.Q
