/- Reach agrees with the reference for all words, including errors (at most 300 words, 60 roots). -/
import Derived.Test.YtnkbfbhhioemoaaGcRefD
import Derived.Test.YtnkbfbhhioemoaaStGcReaches
namespace Go.Proofs.Ytnkbfbhhioemoaa.Q
open Go.RowKit Go.Proofs.YtnkbfbhhioemoaaW.PrintWords Go.Proofs.YtnkbfbhhioemoaaW.PrintLast Go.Proofs.YtnkbfbhhioemoaaW.PrintMore
set_option linter.unusedVariables false
set_option linter.unusedSimpArgs false

theorem GcReaches.proved : GcReaches.Pure := by
  intro m k roots ⟨H, y0, y1, y2, h0, h1, h2⟩
  refine Ev.rounds ?_
  have hv := u32_val h0
  have hrv := u32_val h2
  unfold camletlaw42_GcReaches.f
  by_cases hf : (m.length : Int) ≤ 300 ∧ (roots.length : Int) ≤ 60
  · refine Ev.val (gc_few_true hf) (Ev.pos rfl ?_)
    have hc : gc_Reach.f m k.f0 k.f1 roots = some (if k.f0 < 0 ∨ k.f1 < k.f0 ∨ (m.length : Int) < k.f1 then ((0, 1) : Int × Int) else match gReach m k.f0 k.f1 (gBlk m k.f1) roots with | none => (0, 22) | some l => (gWords (gBlk m k.f1) l, (0 : Int))) := by
      unfold gc_Reach.f
      rw [if_pos ⟨⟨by omega, hv⟩, ⟨by omega, hrv⟩⟩]
      rfl
    refine Ev.val hc ?_
    refine Ev.bind (ref_Reach hv (by omega) (by omega) hrv) ?_
    refine Ev.pos rfl (Ev.pos rfl ?_)
    exact Ev.bind gc_knows_ev (Ev.now _)
  · refine Ev.val (gc_few_false hf) (Ev.neg (by decide) ?_)
    exact Ev.bind gc_knows_ev (Ev.now _)
end Go.Proofs.Ytnkbfbhhioemoaa.Q
