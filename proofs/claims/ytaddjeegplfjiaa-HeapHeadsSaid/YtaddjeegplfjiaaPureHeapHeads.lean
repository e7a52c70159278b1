/- Head and Split agree with the reference: the plain statement. -/
import Derived.Test.YtaddjeegplfjiaaHeapPlain
import Derived.Test.YtaddjeegplfjiaaHeapRef
import Derived.Test.YtaddjeegplfjiaaStHeapHeads
namespace Go.Proofs.Ytaddjeegplfjiaa.Q
open Go.RowKit Go.Proofs.YtaddjeegplfjiaaW.PrintWords Go.Proofs.YtaddjeegplfjiaaW.PrintLast Go.Proofs.YtaddjeegplfjiaaW.PrintMore
set_option linter.unusedVariables false
set_option linter.unusedSimpArgs false

theorem hh_u32 {H : Type} {x : Int} {y : DataW H} (h : Dint .u32 H x y) : 0 ≤ x ∧ x < 4294967296 := by
  have h2 : IntKind.u32.min ≤ x ∧ x ≤ IntKind.u32.max := by simpa [Lit.wf] using h.2
  rw [show IntKind.u32.min = 0 from rfl, show IntKind.u32.max = 4294967295 from rfl] at h2
  omega
theorem HeapHeads.proved : HeapHeads.Pure := by
  intro x0 x1 x2 x3 ⟨H, y0, y1, y2, y3, h0, h1, h2, h3⟩
  obtain ⟨hw0, hw1⟩ := hh_u32 h3
  refine ⟨1, ?_⟩
  unfold camletlaw41_HeapHeads.f
  rw [heap_Head_eq, ref41_Head_eq 0, heap_Split_eq x3 hw0 hw1, ref41_Split_eq 0 x3 hw0 hw1]
  simp [camletlaw41_knows.f]
end Go.Proofs.Ytaddjeegplfjiaa.Q
