/- Of and Labels agree with the reference, including the first error. -/
import Derived.Test.YtlhkojnocconfaaDoorAsmLS
import Derived.Test.YtlhkojnocconfaaDoorAsmRef
import Derived.Test.YtlhkojnocconfaaDoorStAsmWords
namespace Go.Proofs.YtlhkojnocconfaaDoor.Q
open Go.RowKit Go.Proofs.YtlhkojnocconfaaDoorW.PrintWords Go.Proofs.YtlhkojnocconfaaDoorW.PrintLast Go.Proofs.YtlhkojnocconfaaDoorW.PrintMore
set_option linter.unusedVariables false
set_option linter.unusedSimpArgs false

theorem AsmWords.proved : AsmWords.Pure := by
  intro l s _ _
  refine Ev.rounds ?_
  unfold camletlaw40_AsmWords.f
  obtain ⟨b, hb, hb2⟩ := asm_few l
  have kn : ∀ b : Bool, b = true → Ev (fun k => camletlaw40_AsmWords.j0 k l s b) true := by
    intro b hb
    subst hb
    refine Ev.step (f := fun k => (camletlaw40_knows.f k).bind fun t184 => (some t184)) (fun k => ?_) (Ev.bind asm_knows (Ev.now _))
    rw [camletlaw40_AsmWords.j0]
    rw [if_pos rfl]
  refine Ev.bind hb ?_
  cases b with
  | false => exact Ev.neg (by decide) (kn true rfl)
  | true =>
  refine Ev.pos rfl ?_
  by_cases hs : (s.size : Int) > 60
  · exact kn _ (decide_eq_true hs)
  obtain ⟨hl, hsz⟩ := hb2 rfl
  have hok := asm_ok hsz
  have hof := asm_of (by omega) hok
  have href := ref40_Of_eq l hok
  rw [if_neg (by omega)] at href
  have hlen := asmGo_len l l 0 []
  have h1 := asm_Labels_eq l (by omega) s
  have h2 := ref40_Labels_eq l (by omega) s
  refine Ev.step (f := fun k => (asm_Of.f l).bind fun bt185 => ((camletref40_Of.f k l).bind fun bt190 => ((camletref40_SameWords.f k bt185.1 bt190.1).bind fun t195 => (if t195 = true then (if bt185.2.1 = bt190.2.1 then (if bt185.2.2 = bt190.2.2 then ((asm_Labels.f k l s).bind fun t196 => ((camletref40_Labels.f k l s).bind fun t197 => (if t196 = t197 then ((camletlaw40_knows.f k).bind fun t198 => (some t198)) else (some false)))) else (some false)) else (some false)) else (some false))))) (fun k => ?_) ?_
  · rw [camletlaw40_AsmWords.j0]
    rw [if_neg (by rw [decide_eq_false hs]; decide)]
  refine Ev.val hof (Ev.bind href (Ev.bind (asm_same _ (by simp at hlen; omega)) (Ev.pos rfl (Ev.pos rfl (Ev.pos rfl (Ev.bind h1 (Ev.bind h2 (Ev.pos rfl (Ev.bind asm_knows (Ev.now _))))))))))
end Go.Proofs.YtlhkojnocconfaaDoor.Q
