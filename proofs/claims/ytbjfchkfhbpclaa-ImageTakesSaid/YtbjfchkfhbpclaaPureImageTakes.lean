/- Take agrees with the reference for all bytes, including errors. -/
import Derived.Test.YtbjfchkfhbpclaaImgRef
import Derived.Test.YtbjfchkfhbpclaaStImageTakes
namespace Go.Proofs.Ytbjfchkfhbpclaa.Q
open Go.RowKit Go.Proofs.YtbjfchkfhbpclaaW.PrintWords Go.Proofs.YtbjfchkfhbpclaaW.PrintLast Go.Proofs.YtbjfchkfhbpclaaW.PrintMore
set_option linter.unusedVariables false
set_option linter.unusedSimpArgs false

theorem u8_val {H : Type} {l : List Int} {y : DataW H} (h : (Dsl (Dint .u8)) H l y) : ∀ x ∈ l, 0 ≤ x ∧ x < 256 := by
  intro x hx
  obtain ⟨es, sp, _, hl, _, he⟩ := h
  obtain ⟨i, hi, rfl⟩ := List.getElem_of_mem hx
  have h1 := (he i _ _ (List.getElem?_eq_getElem hi) (List.getElem?_eq_getElem (by omega))).2
  have h2 : IntKind.u8.min = 0 := by decide
  have h3 : IntKind.u8.max = 255 := by decide
  have h4 : (decide (IntKind.u8.min ≤ l[i]) && decide (l[i] ≤ IntKind.u8.max)) = true := h1
  rw [h2, h3] at h4
  simp only [Bool.and_eq_true, decide_eq_true_eq] at h4
  omega
theorem imgTake_len {l : List Int} (h : l.length ≤ 1000000) : (imgTake l).1.length ≤ 1000000 := by
  unfold imgTake
  repeat' split
  all_goals first | (simp; done) | skip
  all_goals (dsimp only; rw [nums_len]; omega)
theorem ImageTakes.proved : ImageTakes.Pure := by
  intro l ⟨H, y0, h0⟩
  refine Ev.rounds ?_
  have hb := u8_val h0
  have k : camletlaw44_knows.f = some true := rfl
  unfold camletlaw44_ImageTakes.f
  by_cases h : (l.length : Int) > 70000
  · exact Ev.pos h (Ev.val k (Ev.now _))
  refine Ev.neg h ?_
  have hl : l.length ≤ 1000000 := by omega
  have ht : image_Take.f l = some (imgTake l) := by
    unfold image_Take.f
    rw [if_pos ⟨hl, hb⟩]
  refine Ev.val ht (Ev.bind (img_take_ref hb hl) (Ev.pos rfl ?_))
  refine Ev.bind (img_same44 _ _ (by have := imgTake_len hl; omega)) (Ev.pos rfl (Ev.val k (Ev.now _)))
end Go.Proofs.Ytbjfchkfhbpclaa.Q
