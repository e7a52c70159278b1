/- Read and Show agree with the reference for every number and text. -/
import Derived.Test.YtgnfobnlipjedaaDoorReadPlain
import Derived.Test.YtgnfobnlipjedaaDoorShowPlain
import Derived.Test.YtgnfobnlipjedaaDoorStNumTexts
namespace Go.Proofs.YtgnfobnlipjedaaDoor.Q
open Go.RowKit Go.Proofs.YtgnfobnlipjedaaDoorW.PrintWords Go.Proofs.YtgnfobnlipjedaaDoorW.PrintLast Go.Proofs.YtgnfobnlipjedaaDoorW.PrintMore
set_option linter.unusedVariables false
set_option linter.unusedSimpArgs false

theorem nt_knows : camletlaw01_knows.f = some true := by decide +kernel
theorem nt_i64 {H : Type} {x : Int} {y : DataW H} (h : Dint .i64 H x y) : -9223372036854775808 ≤ x ∧ x ≤ 9223372036854775807 := by
  have h2 : IntKind.i64.min ≤ x ∧ x ≤ IntKind.i64.max := by simpa [Lit.wf] using h.2
  rw [show IntKind.i64.min = -9223372036854775808 from rfl, show IntKind.i64.max = 9223372036854775807 from rfl] at h2
  exact h2
theorem NumTexts.proved : NumTexts.Pure := by
  intro n s m ⟨H, y0, y1, y2, h0, h1, h2⟩ hs
  have b0 := nt_i64 h0
  have b2 := nt_i64 h2
  obtain ⟨r, e1, e2⟩ := refread s m (by omega) b2.1 b2.2
  have eS : num_Show.f n = some ⟨(Lib.itoa n).toArray⟩ := by unfold num_Show.f; rw [if_pos b0]
  refine Ev.rounds ?_
  unfold camletlaw01_NumTexts.f
  simp only [e1, eS, Option.bind_some, nt_knows]
  refine Ev.bind e2 ?_
  refine Ev.bind (refshow n b0.1 b0.2) ?_
  refine Ev.ifp rfl ?_
  refine Ev.ifp rfl ?_
  refine Ev.ifp rfl ?_
  exact Ev.now _
end Go.Proofs.YtgnfobnlipjedaaDoor.Q
