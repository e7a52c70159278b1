/- What Take accepts is exactly what Put returns for the result. -/
import Derived.Test.YtbjfchkfhbpclaaImgPlain
import Derived.Test.YtbjfchkfhbpclaaStImageOnly
namespace Go.Proofs.Ytbjfchkfhbpclaa.Q
open Go.RowKit Go.Proofs.YtbjfchkfhbpclaaW.PrintWords Go.Proofs.YtbjfchkfhbpclaaW.PrintLast Go.Proofs.YtbjfchkfhbpclaaW.PrintMore
set_option linter.unusedVariables false
set_option linter.unusedSimpArgs false

theorem u8_val2 {H : Type} {l : List Int} {y : DataW H} (h : (Dsl (Dint .u8)) H l y) : ∀ x ∈ l, 0 ≤ x ∧ x < 256 := by
  intro x hx
  obtain ⟨es, sp, _, hl, _, he⟩ := h
  obtain ⟨i, hi, rfl⟩ := List.getElem_of_mem hx
  have h1 := (he i _ _ (List.getElem?_eq_getElem hi) (List.getElem?_eq_getElem (by omega))).2
  have h2 : IntKind.u8.min = 0 := by decide
  have h3 : IntKind.u8.max = 255 := by decide
  have h4 : (decide (IntKind.u8.min ≤ l[i]) && decide (l[i] ≤ IntKind.u8.max)) = true := h1
  rw [h2, h3] at h4
  simp only [Bool.and_eq_true, decide_eq_true_eq] at h4
  omega
theorem ImageOnly.proved : ImageOnly.Pure := by
  intro l ⟨H, y0, h0⟩
  refine ⟨0, ?_⟩
  have hb := u8_val2 h0
  have k : camletlaw44_knows.f = some true := rfl
  unfold camletlaw44_ImageOnly.f
  by_cases h : (l.length : Int) > 70000
  · rw [if_pos h, k]; rfl
  have hl : l.length ≤ 1000000 := by omega
  have ht : image_Take.f l = some (imgTake l) := by
    unfold image_Take.f
    rw [if_pos ⟨hl, hb⟩]
  rw [if_neg h, ht, k]
  simp only [Option.bind_some]
  by_cases he : (imgTake l).2.2 = 0
  · have hs := imgTake_some (c := (imgTake l).1) (e := (imgTake l).2.1) hb (by rw [← he])
    rw [if_pos he]
    unfold image_Put.f
    rw [if_pos hs.1]
    simp only [Option.bind_some]
    rw [if_pos trivial, hs.2.1, if_pos rfl]
  · have hn := imgTake_none he
    rw [if_neg he, hn.1]
    rfl
end Go.Proofs.Ytbjfchkfhbpclaa.Q
