/- A valid end agrees with itself, agreement is symmetric, and of two whole runs just equal ends agree. -/
import Derived.Test.YtaijpfooobcdkaaDoorEndsShowPlain
import Derived.Test.YtaijpfooobcdkaaDoorStEndsAgree
namespace Go.Proofs.YtaijpfooobcdkaaDoor.Q
open Go.RowKit Go.Proofs.YtaijpfooobcdkaaDoorW.PrintWords Go.Proofs.YtaijpfooobcdkaaDoorW.PrintLast Go.Proofs.YtaijpfooobcdkaaDoorW.PrintMore
set_option linter.unusedVariables false
set_option linter.unusedSimpArgs false

theorem agree_self (a n : Int) (l : List Int) (s : Int) : eAgree a n l s a n l s = eRight a n l s := by
  unfold eAgree
  cases h : eRight a n l s with
  | false => simp
  | true =>
    simp only [and_self, if_true]
    split
    · simp [eSame]
    · rename_i hn
      cases hc : eCut a with
      | true => simp
      | false => exact absurd (by simp [hc]) hn
theorem same_symm (a n : Int) (l : List Int) (b m : Int) (r : List Int) : eSame a n l b m r = eSame b m r a n l := by
  unfold eSame
  rw [decide_eq_decide]
  exact Iff.intro (fun h => And.intro h.1.symm (And.intro h.2.1.symm h.2.2.symm)) (fun h => And.intro h.1.symm (And.intro h.2.1.symm h.2.2.symm))
theorem mid_symm (a n : Int) (l : List Int) (b m : Int) (r : List Int) : eMid a n l b m r = eMid b m r a n l := by
  unfold eMid
  by_cases h : a = 4 ∨ b = 4 ∨ (eCut a = false ∧ eCut b = false)
  · have h' : b = 4 ∨ a = 4 ∨ (eCut b = false ∧ eCut a = false) := by
      rcases h with h | h | h
      · exact Or.inr (Or.inl h)
      · exact Or.inl h
      · exact Or.inr (Or.inr h.symm)
    rw [if_pos h, if_pos h']
    exact same_symm a n l b m r
  · have h' : ¬ (b = 4 ∨ a = 4 ∨ (eCut b = false ∧ eCut a = false)) := by
      intro h2
      apply h
      rcases h2 with h | h | h
      · exact Or.inr (Or.inl h)
      · exact Or.inl h
      · exact Or.inr (Or.inr h.symm)
    rw [if_neg h, if_neg h']
    unfold ePart
    exact Bool.or_comm _ _
theorem agree_symm (a n : Int) (l : List Int) (s b m : Int) (r : List Int) (t : Int) : eAgree a n l s b m r t = eAgree b m r t a n l s := by
  rw [eAgree_mid, eAgree_mid, mid_symm a, Bool.and_comm (eRight a n l s)]
theorem whole_agree {a n : Int} {l : List Int} {s b m : Int} {r : List Int} {t : Int} (ha : a = 1 ∨ a = 2) (hb : b = 1 ∨ b = 2) : eAgree a n l s b m r t = (eSame a n l b m r && (eRight a n l s && eRight b m r t)) := by
  have c1 : eCut a = false := by rcases ha with rfl | rfl <;> rfl
  have c2 : eCut b = false := by rcases hb with rfl | rfl <;> rfl
  have e : eMid a n l b m r = eSame a n l b m r := by
    unfold eMid
    exact if_pos (Or.inr (Or.inr (And.intro c1 c2)))
  rw [eAgree_mid, e, Bool.and_comm]
theorem EndsAgree.proved : EndsAgree.Pure := by
  intro x0 x1 ⟨H, y0, y1, h0, h1⟩
  obtain ⟨b0, n0⟩ := end_facts h0
  obtain ⟨b1, n1⟩ := end_facts h1
  have know := Ev.id' knows_ev
  have j2 : ∀ w : Bool, (w = true → (x0.f0 = 1 ∨ x0.f0 = 2) ∧ (x1.f0 = 1 ∨ x1.f0 = 2)) → Ev (fun k => camletlaw02_EndsAgree.j2 k w false x0.f0 x0.f1 x0.f2 x0.f3 x1.f0 x1.f1 x1.f2 x1.f3) true := by
    intro w hw
    cases w with
    | false => exact Ev.step (f := fun k => (camletlaw02_knows.f k).bind fun t => some t) (fun k => by simp only [camletlaw02_EndsAgree.j2, Bool.false_eq_true, if_false]) know
    | true =>
      obtain ⟨ha, hb⟩ := hw rfl
      refine Ev.step (fun k => by simp only [camletlaw02_EndsAgree.j2, Bool.false_eq_true, if_false, if_true]; rfl) ?_
      refine Ev.bind (agree_ev _ _ _ _ _ _ _ _ b0 b1) ?_
      rw [whole_agree ha hb]
      refine Ev.bind (same_ev _ _ _ _ _ _ _ _ b1) ?_
      cases hs : eSame x0.f0 x0.f1 x0.f2 x1.f0 x1.f1 x1.f2 with
      | false => simpa using know
      | true =>
        refine Ev.ifp rfl ?_
        refine Ev.bind (right_ev _ _ _ _ b0) ?_
        cases hr : eRight x0.f0 x0.f1 x0.f2 x0.f3 with
        | false => simpa using know
        | true =>
          refine Ev.ifp rfl ?_
          refine Ev.bind (right_ev _ _ _ _ b1) ?_
          refine Ev.ifp (by simp) ?_
          exact know
  have j1 : ∀ w : Bool, (w = true → (x0.f0 = 1 ∨ x0.f0 = 2) ∧ (x1.f0 = 1 ∨ x1.f0 = 2)) → Ev (fun k => camletlaw02_EndsAgree.j1 k w x0.f0 x0.f1 x0.f2 x0.f3 x1.f0 x1.f1 x1.f2 x1.f3) true := by
    intro w hw
    refine Ev.step (fun k => by simp only [camletlaw02_EndsAgree.j1]; rfl) ?_
    refine Ev.bind (agree_ev _ _ _ _ _ _ _ _ b0 b0) ?_
    refine Ev.bind (right_ev _ _ _ _ b0) ?_
    rw [agree_self]
    refine Ev.ifn (by simp) ?_
    refine Ev.bind (agree_ev _ _ _ _ _ _ _ _ b0 b1) ?_
    refine Ev.bind (agree_ev _ _ _ _ _ _ _ _ b1 b0) ?_
    rw [agree_symm x1.f0, bne_self_eq_false]
    exact j2 w hw
  have j0 : ∀ b : Bool, Ev (fun k => camletlaw02_EndsAgree.j0 k b x0.f0 x0.f1 x0.f2 x0.f3 x1.f0 x1.f1 x1.f2 x1.f3) true := by
    intro b
    cases b with
    | true => exact Ev.step (f := fun k => (camletlaw02_knows.f k).bind fun t => some t) (fun k => by simp only [camletlaw02_EndsAgree.j0, if_true]) know
    | false =>
      by_cases h1 : x0.f0 = 1
      · by_cases h2 : x1.f0 = 1
        · exact Ev.step (fun k => by simp only [camletlaw02_EndsAgree.j0, Bool.false_eq_true, if_false]; rw [if_pos h1, if_pos h2]) (j1 true (fun _ => ⟨.inl h1, .inl h2⟩))
        · exact Ev.step (fun k => by simp only [camletlaw02_EndsAgree.j0, Bool.false_eq_true, if_false]; rw [if_pos h1, if_neg h2]) (j1 (x1.f0 == 2) (fun h => ⟨.inl h1, .inr (beq_iff_eq.mp h)⟩))
      · by_cases h3 : x0.f0 = 2
        · by_cases h2 : x1.f0 = 1
          · exact Ev.step (fun k => by simp only [camletlaw02_EndsAgree.j0, Bool.false_eq_true, if_false]; rw [if_neg h1, if_pos h3, if_pos h2]) (j1 true (fun _ => ⟨.inr h3, .inl h2⟩))
          · exact Ev.step (fun k => by simp only [camletlaw02_EndsAgree.j0, Bool.false_eq_true, if_false]; rw [if_neg h1, if_pos h3, if_neg h2]) (j1 (x1.f0 == 2) (fun h => ⟨.inr h3, .inr (beq_iff_eq.mp h)⟩))
        · exact Ev.step (fun k => by simp only [camletlaw02_EndsAgree.j0, Bool.false_eq_true, if_false]; rw [if_neg h1, if_neg h3]) (j1 false (fun h => by cases h))
  refine Ev.rounds ?_
  by_cases h : x0.f2.length > 300
  · exact Ev.congr (fun k => by unfold camletlaw02_EndsAgree.f; rw [if_pos (by omega)]) (j0 true)
  · exact Ev.congr (fun k => by unfold camletlaw02_EndsAgree.f; rw [if_neg (by omega)]) (j0 (decide ((x1.f2.length : Int) > 300)))
end Go.Proofs.YtaijpfooobcdkaaDoor.Q
