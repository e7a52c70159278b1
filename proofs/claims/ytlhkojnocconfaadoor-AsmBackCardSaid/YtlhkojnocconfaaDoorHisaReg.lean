/- isa.reg: where an instruction keeps a register. -/
import Derived.Test.YtlhkojnocconfaaDoorQx0
namespace Go.Proofs.YtlhkojnocconfaaDoor.Q
open Go.RowKit Go.Proofs.YtlhkojnocconfaaDoorW.PrintWords Go.Proofs.YtlhkojnocconfaaDoorW.PrintLast Go.Proofs.YtlhkojnocconfaaDoorW.PrintMore
attribute [local go_sem] max2_int min2_int max_two min_two max_three min_three max_four min_four   -- for this text's walks alone
set_option linter.unusedVariables false
set_option linter.unusedSimpArgs false

def regOff (r : Int) : Nat := if r = 68 then 1 else if r = 65 then 2 else 3
set_option maxHeartbeats 1000000 in
theorem isa_reg.calls (b : Nat) (r : Int) (w : World) :
    Calls Tryd.prog 26 #[.pointer (some ⟨b, 0, none⟩), .int .i32 r] w fun e w' => e = .returned (.pointer (some ⟨b, regOff r, none⟩)) ∧ w' = w := by
  by_cases h1 : r = 68
  · subst h1
    go_enter Tryd.func26, Tryd.ntmps26
    go_wp2
    go_ret
    exact ⟨rfl, rfl⟩
  by_cases h2 : r = 65
  · subst h2
    go_enter Tryd.func26, Tryd.ntmps26
    go_wp2
    go_ret
    exact ⟨rfl, rfl⟩
  · have e : regOff r = 3 := by unfold regOff; rw [if_neg h1, if_neg h2]
    rw [e]
    have c1 := beq_eq_false_iff_ne.mpr h1
    have c2 := beq_eq_false_iff_ne.mpr h2
    go_enter Tryd.func26, Tryd.ntmps26
    go_wp2
    go_ret
    exact ⟨rfl, rfl⟩
end Go.Proofs.YtlhkojnocconfaaDoor.Q
