/- asm: the reference's SameWords of words with themselves. -/
import Derived.Test.YtlhkojnocconfaaDoorQx0
import Derived.Test.YtlhkojnocconfaaDoorQx5
import Derived.Test.YtlhkojnocconfaaDoorAsmLab
import Derived.Test.YtlhkojnocconfaaDoorEvW
--@needs XAsmLab
--@needs XEvW
namespace Go.Proofs.YtlhkojnocconfaaDoor.Q
open Go.RowKit Go.Proofs.YtlhkojnocconfaaDoorW.PrintWords Go.Proofs.YtlhkojnocconfaaDoorW.PrintLast Go.Proofs.YtlhkojnocconfaaDoorW.PrintMore
attribute [local go_sem] max2_int min2_int max_two min_two max_three min_three max_four min_four   -- for this text's walks alone
set_option linter.unusedVariables false
set_option linter.unusedSimpArgs false

theorem asm_same : ∀ (l : List Int), l.length ≤ 1000000 → Ev (fun k => camletref40_SameWords.f k l l) true := by
  intro l hl
  have go : ∀ (d i : Nat), i + d = l.length → Ev (fun k => camletref40_SameWords.l0 k l l (i : Int)) true := by
    intro d
    induction d with
    | zero =>
      intro i hi
      refine Ev.step (f := fun _ => some true) (fun k => ?_) (Ev.now _)
      rw [camletref40_SameWords.l0]
      rw [if_neg (by omega)]
    | succ d ih =>
      intro i hi
      have hw : wrap64 ((i : Int) + 1) = ((i + 1 : Nat) : Int) := by rw [aw64 (by omega) (by omega)]; omega
      refine Ev.step (f := fun k => camletref40_SameWords.l0 k l l ((i + 1 : Nat) : Int)) (fun k => ?_) (ih (i + 1) (by omega))
      rw [camletref40_SameWords.l0]
      rw [if_pos (by omega), if_pos (by omega), if_pos (by omega), if_pos rfl, hw]
  unfold camletref40_SameWords.f
  exact Ev.pos rfl (go l.length 0 (by omega))
end Go.Proofs.YtlhkojnocconfaaDoor.Q
