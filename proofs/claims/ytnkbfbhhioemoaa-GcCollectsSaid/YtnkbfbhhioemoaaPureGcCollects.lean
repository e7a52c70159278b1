/- Collect agrees with the reference for all words, including errors (at most 300 words, 60 roots). -/
import Derived.Test.YtnkbfbhhioemoaaGcRefD
import Derived.Test.YtnkbfbhhioemoaaStGcCollects
namespace Go.Proofs.Ytnkbfbhhioemoaa.Q
open Go.RowKit Go.Proofs.YtnkbfbhhioemoaaW.PrintWords Go.Proofs.YtnkbfbhhioemoaaW.PrintLast Go.Proofs.YtnkbfbhhioemoaaW.PrintMore
set_option linter.unusedVariables false
set_option linter.unusedSimpArgs false

theorem gc_Collect_lens {m roots : List Int} {F T t : Int} (hm : m.length ≤ 1000000) (hr : roots.length ≤ 1000000) : (gCollect m F T t roots).1.length ≤ 1000000 ∧ (gCollect m F T t roots).2.1.length ≤ 1000000 := by
  unfold gCollect
  by_cases h1 : F < 0 ∨ T < F ∨ (m.length : Int) < T
  · rw [if_pos h1]; exact ⟨by simp, by simp⟩
  rw [if_neg h1]
  by_cases h2 : t < 0 ∨ (m.length : Int) < t
  · rw [if_pos h2]; exact ⟨by simp, by simp⟩
  rw [if_neg h2]
  by_cases h3 : gRoomOk m.length F T t = false
  · rw [if_pos h3]; exact ⟨by simp, by simp⟩
  rw [if_neg h3]
  cases hg : gReach m F T (gBlk m T) roots with
  | none => exact ⟨by simp, by simp⟩
  | some l =>
    dsimp only
    by_cases h4 : gRoom m.length F T t < gWords (gBlk m T) l
    · rw [if_pos h4]; exact ⟨by simp, by simp⟩
    · rw [if_neg h4]
      have hrb : gRoom m.length F T t ≤ m.length - t := by unfold gRoom; split <;> omega
      have hi := gReach_inv (gBlk_ok m F T) (by omega) (by omega) (by omega) hg
      have := gLay_len (m := m) (chg := gChange F T (gMoved (gBlk m T) t l)) (F := F) (T := T) (t := t) (O := m) (by omega) (by omega) hi (by omega) (by omega)
      exact ⟨by rw [this]; exact hm, by rw [List.length_map]; exact hr⟩
theorem GcCollects.proved : GcCollects.Pure := by
  intro m k roots ⟨H, y0, y1, y2, h0, h1, h2⟩
  refine Ev.rounds ?_
  have hv := u32_val h0
  have hrv := u32_val h2
  unfold camletlaw42_GcCollects.f
  by_cases hf : (m.length : Int) ≤ 300 ∧ (roots.length : Int) ≤ 60
  · refine Ev.val (gc_few_true hf) (Ev.pos rfl ?_)
    have hc : gc_Collect.f m k.f0 k.f1 k.f2 roots = some (gCollect m k.f0 k.f1 k.f2 roots) := by
      unfold gc_Collect.f
      rw [if_pos ⟨⟨by omega, hv⟩, ⟨by omega, hrv⟩⟩]
    refine Ev.val hc ?_
    refine Ev.bind (ref_Collect hv (by omega) (by omega) hrv) ?_
    obtain ⟨l1, l2⟩ := gc_Collect_lens (m := m) (roots := roots) (F := k.f0) (T := k.f1) (t := k.f2) (by omega) (by omega)
    refine Ev.bind (ref42_Same l1) (Ev.pos rfl ?_)
    refine Ev.bind (ref42_Same l2) (Ev.pos rfl (Ev.pos rfl (Ev.pos rfl ?_)))
    exact Ev.bind gc_knows_ev (Ev.now _)
  · refine Ev.val (gc_few_false hf) (Ev.neg (by decide) ?_)
    exact Ev.bind gc_knows_ev (Ev.now _)
end Go.Proofs.Ytnkbfbhhioemoaa.Q
