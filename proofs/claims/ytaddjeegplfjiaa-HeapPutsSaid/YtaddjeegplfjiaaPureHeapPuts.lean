/- Put agrees with the reference: the plain statement. -/
import Derived.Test.YtaddjeegplfjiaaFewPlain
import Derived.Test.YtaddjeegplfjiaaHrefAll
import Derived.Test.YtaddjeegplfjiaaStHeapPuts
namespace Go.Proofs.Ytaddjeegplfjiaa.Q
open Go.RowKit Go.Proofs.YtaddjeegplfjiaaW.PrintWords Go.Proofs.YtaddjeegplfjiaaW.PrintLast Go.Proofs.YtaddjeegplfjiaaW.PrintMore
set_option linter.unusedVariables false
set_option linter.unusedSimpArgs false

theorem hp_same (l : List Int) (hl : l.length ≤ 1000000) : Ev (fun k => camletref41_Same.f k l l) true := by
  have go : ∀ (d i : Nat), i + d = l.length → Ev (fun k => camletref41_Same.l0 k l l (l.length : Int) (i : Int)) true := by
    intro d
    induction d with
    | zero =>
      intro i hi
      exact Ev.some 1 (fun k => by rw [camletref41_Same.l0, if_neg (by omega)])
    | succ d ih =>
      intro i hi
      refine Ev.step (fun k => by rw [camletref41_Same.l0, if_pos (by omega), if_pos (by omega), if_pos (by omega), if_pos (by omega), if_pos rfl, wr64 (n := (i : Int) + 1) (by omega)]) ?_
      exact ih (i + 1) (by omega)
  have h := go l.length 0 (by omega)
  exact Ev.congr (fun k => by rw [camletref41_Same.f, if_pos rfl]; rfl) h
theorem heap_Put_some {l0 : List Int} {a1 : Int} {x : SV} (hl : l0.length ≤ 2000) (hw : wordsV 100 x ≤ 1000000000) : ∃ q, heap_Put.f l0 a1 x.f0 x.f1 x.f2 = some q ∧ q.1.length ≤ 2000 := by
  obtain ⟨f0, f1, f2⟩ := x
  unfold heap_Put.f
  rw [if_pos (show l0.length ≤ 1000000 by omega)]
  by_cases h1 : a1 < 0 ∨ a1 > (l0.length : Int)
  · rw [if_pos h1]; exact ⟨_, rfl, by simp⟩
  · rw [if_neg h1]
    by_cases h2 : valR 100 ⟨f0, f1, f2⟩ = false ∨ mayM 100 ⟨f0, f1, f2⟩ = false
    · rw [if_pos h2]; exact ⟨_, rfl, by simp⟩
    · rw [if_neg h2, if_pos hw]
      by_cases h3 : wordsV 100 ⟨f0, f1, f2⟩ > (l0.length : Int) - a1
      · rw [if_pos h3]; exact ⟨_, rfl, by simp⟩
      · rw [if_neg h3]
        exact ⟨_, rfl, by dsimp only; rw [(layV_ok 100 _ _).1]; exact hl⟩
theorem HeapPuts.proved : HeapPuts.Pure := by
  intro x0 x1 x2 _
  have hj : Ev (fun k => camletlaw41_HeapPuts.j0 k x0 x1 true x2.f0 x2.f1 x2.f2) true := Ev.some 1 (fun k => by rw [camletlaw41_HeapPuts.j0, if_pos rfl]; rfl)
  refine Ev.rounds (g := fun k => camletlaw41_HeapPuts.f k x0 x1 x2.f0 x2.f1 x2.f2) ?_
  refine Ev.ite (fun h => hj) (fun h => ?_)
  refine Ev.bind (FewValue_ev x2 400 (by decide) (by decide)) ?_
  by_cases hf : 0 ≤ valM 131 x2 400
  · rw [decide_eq_true hf]
    have hs := valM_small 131 x2 400 (by decide) (by decide) hf
    have hw := valM_words 131 x2 400 (by decide) hf 100
    have hle := valM_le 131 x2 400 (by decide)
    obtain ⟨q, hq, hql⟩ := heap_Put_some (l0 := x0) (a1 := x1) (x := x2) (by omega) (by omega)
    refine Ev.step (fun k => by rw [show (!true) = false from rfl, camletlaw41_HeapPuts.j0, if_neg (by decide), hq, Option.bind_some, show camletref41_Put.f k x0 x1 x2.f0 x2.f1 x2.f2 = some q from (if_pos hs).trans hq, Option.bind_some]) ?_
    refine Ev.bind (hp_same q.1 (by omega)) ?_
    refine Ev.pos rfl (Ev.pos rfl (Ev.pos rfl (Ev.pos rfl ?_)))
    exact Ev.now true
  · rw [decide_eq_false hf]
    exact hj
end Go.Proofs.Ytaddjeegplfjiaa.Q
