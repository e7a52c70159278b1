/- Right, Same, Agree and Show agree with the reference for any two ends. -/
import Derived.Test.YtaijpfooobcdkaaDoorEndsShowPlain
import Derived.Test.YtaijpfooobcdkaaDoorStEndsTells
namespace Go.Proofs.YtaijpfooobcdkaaDoor.Q
open Go.RowKit Go.Proofs.YtaijpfooobcdkaaDoorW.PrintWords Go.Proofs.YtaijpfooobcdkaaDoorW.PrintLast Go.Proofs.YtaijpfooobcdkaaDoorW.PrintMore
set_option linter.unusedVariables false
set_option linter.unusedSimpArgs false

theorem EndsTells.proved : EndsTells.Pure := by
  intro x0 x1 ⟨H, y0, y1, h0, h1⟩
  obtain ⟨b0, n0⟩ := end_facts h0
  obtain ⟨b1, n1⟩ := end_facts h1
  have big : ∀ b : Bool, (b = true ∨ (x0.f2.length ≤ 300 ∧ x1.f2.length ≤ 300)) → Ev (fun k => camletlaw02_EndsTells.j0 k b x0.f0 x0.f1 x0.f2 x0.f3 x1.f0 x1.f1 x1.f2 x1.f3) true := by
    intro b hb
    cases b with
    | true =>
      refine Ev.step (f := fun k => (camletlaw02_knows.f k).bind fun t => some t) (fun k => by simp only [camletlaw02_EndsTells.j0, if_true]) (Ev.id' knows_ev)
    | false =>
      obtain ⟨l0, l1⟩ : x0.f2.length ≤ 300 ∧ x1.f2.length ≤ 300 := by rcases hb with h | h; cases h; exact h
      refine Ev.step (fun k => by simp only [camletlaw02_EndsTells.j0, Bool.false_eq_true, if_false]; rfl) ?_
      refine Ev.bind (right_ev _ _ _ _ b0) ?_
      refine Ev.bind (refright_ev _ _ _ _ b0) ?_
      refine Ev.ifp (beq_self_eq_true _) ?_
      refine Ev.bind (same_ev _ _ _ _ _ _ _ _ b1) ?_
      refine Ev.bind (refsame_ev _ _ _ _ _ _ _ _ b1) ?_
      refine Ev.ifp (beq_self_eq_true _) ?_
      refine Ev.bind (agree_ev _ _ _ _ _ _ _ _ b0 b1) ?_
      refine Ev.bind (refagree_ev _ _ _ _ _ _ _ _ b0 b1) ?_
      refine Ev.ifp (beq_self_eq_true _) ?_
      refine Ev.bind (show_ev _ _ _ _ l0 n0) ?_
      refine Ev.bind (refshow_ev _ _ _ _ l0 n0) ?_
      refine Ev.ifp rfl ?_
      exact Ev.id' knows_ev
  refine Ev.rounds ?_
  by_cases h : x0.f2.length > 300
  · exact Ev.congr (fun k => by unfold camletlaw02_EndsTells.f; rw [if_pos (by omega)]) (big true (.inl rfl))
  · refine Ev.congr (fun k => by unfold camletlaw02_EndsTells.f; rw [if_neg (by omega)]) (big (decide ((x1.f2.length : Int) > 300)) ?_)
    by_cases h' : (x1.f2.length : Int) > 300
    · exact .inl (decide_eq_true h')
    · exact .inr ⟨by omega, by omega⟩
end Go.Proofs.YtaijpfooobcdkaaDoor.Q
