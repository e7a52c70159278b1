/- Right agrees with the reference: the plain statement. -/
import Derived.Test.YtaddjeegplfjiaaHeapRightPlain
import Derived.Test.YtaddjeegplfjiaaStHeapRights
namespace Go.Proofs.Ytaddjeegplfjiaa.Q
open Go.RowKit Go.Proofs.YtaddjeegplfjiaaW.PrintWords Go.Proofs.YtaddjeegplfjiaaW.PrintLast Go.Proofs.YtaddjeegplfjiaaW.PrintMore
set_option linter.unusedVariables false
set_option linter.unusedSimpArgs false

theorem hr_u32 {H : Type} {x : Int} {y : DataW H} (h : Dint .u32 H x y) : 0 ≤ x ∧ x < 4294967296 := by
  have h2 : IntKind.u32.min ≤ x ∧ x ≤ IntKind.u32.max := by simpa [Lit.wf] using h.2
  rw [show IntKind.u32.min = 0 from rfl, show IntKind.u32.max = 4294967295 from rfl] at h2
  omega
theorem hr_u32s {H : Type} {l : List Int} {y : DataW H} (h : (Dsl (Dint .u32)) H l y) : ∀ x ∈ l, 0 ≤ x ∧ x < 4294967296 := by
  intro x hx
  obtain ⟨es, sp, _, hl, _, he⟩ := h
  obtain ⟨i, hi, rfl⟩ := List.getElem_of_mem hx
  exact hr_u32 (he i _ _ (List.getElem?_eq_getElem hi) (List.getElem?_eq_getElem (by omega)))
theorem HeapRights.proved : HeapRights.Pure := by
  intro x0 x1 x2 ⟨H, y0, y1, y2, h0, h1, h2⟩
  have hm := hr_u32s h0
  by_cases hl : (x0.length : Int) > 500
  · refine ⟨1, ?_⟩
    unfold camletlaw41_HeapRights.f
    rw [if_pos hl]
    simp [camletlaw41_knows.f]
  · have hm2 : x0.length ≤ 1000000 ∧ ∀ x ∈ x0, 0 ≤ x ∧ x < 4294967296 := ⟨by omega, hm⟩
    obtain ⟨k, hk⟩ := Ev.out (hRight_ref hm2 x1 x2)
    refine ⟨k, ?_⟩
    unfold camletlaw41_HeapRights.f
    rw [if_neg hl, show heap_Right.f x0 x1 x2 = some (rightB x0 x1 x2) from if_pos hm2, Option.bind_some, hk, Option.bind_some]
    simp [camletlaw41_knows.f]
end Go.Proofs.Ytaddjeegplfjiaa.Q
