/- Do agrees with the reference for every primitive and any two numbers. -/
import Derived.Test.YtgnfobnlipjedaaQx2
import Derived.Test.YtgnfobnlipjedaaNumPlain
namespace Go.Proofs.Ytgnfobnlipjedaa.Pure
open Go.RowKit Go.Proofs.Ytgnfobnlipjedaa.Q Go.Proofs.YtgnfobnlipjedaaW.PrintWords Go.Proofs.YtgnfobnlipjedaaW.PrintLast Go.Proofs.YtgnfobnlipjedaaW.PrintMore
theorem truth_f (b : Bool) : camletref01_truth.f b = some (one b) := by cases b <;> rfl
theorem one_W (b : Bool) : W (one b) = one b := by cases b <;> rfl
theorem refDo_f (p a b : Int) : camletref01_Do.f p a b = num_Do.f p a b := by
  unfold camletref01_Do.f num_Do.f
  simp only [refwrap_f, Option.bind_some, truth_f, nw_W]
  by_cases h1 : p = 1
  · subst h1; simp [opOf]
  by_cases h2 : p = 2
  · subst h2; simp [opOf]
  by_cases h3 : p = 3
  · subst h3; simp [opOf]
  by_cases h4 : p = 4
  · subst h4; simp [opOf]
  by_cases h5 : p = 5
  · subst h5; simp [opOf]
  by_cases h6 : p = 6
  · subst h6; simp [opOf, one_W]
  by_cases h7 : p = 7
  · subst h7; simp [opOf, one_W]
  by_cases h8 : p = 8
  · subst h8; simp [opOf, one_W]
  by_cases h9 : p = 9
  · subst h9; simp [opOf, one_W]
  rw [if_neg h1, if_neg h2, if_neg h3, if_neg h4, if_neg h5, if_neg h6, if_neg h7, if_neg h8, if_neg h9]
  by_cases l : p < 1
  · rw [if_pos l]
  · rw [if_neg l, if_pos (by omega)]
theorem do_some (p a b : Int) : ∃ r, num_Do.f p a b = some r := by
  unfold num_Do.f; split
  · exact ⟨_, rfl⟩
  · split
    · exact ⟨_, rfl⟩
    · split <;> exact ⟨_, rfl⟩
theorem NumDoes : camletlaw01_NumDoes.Pure := by
  intro p a b _ _ _
  unfold camletlaw01_NumDoes.f
  obtain ⟨r, hr⟩ := do_some p a b
  rw [refDo_f, hr]
  simp [knows_f]
end Go.Proofs.Ytgnfobnlipjedaa.Pure
