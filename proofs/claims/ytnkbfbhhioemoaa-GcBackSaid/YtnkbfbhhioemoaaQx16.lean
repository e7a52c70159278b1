-- Made by a program of this session (wip/tools/pr.py) out of the translation, over the kit's printer. Not trusted: Lean checks it.
import Derived.Test.YtnkbfbhhioemoaaQx0
namespace Go.Proofs.Ytnkbfbhhioemoaa.Q
open Go.RowKit Go.Proofs.YtnkbfbhhioemoaaW.PrintWords Go.Proofs.YtnkbfbhhioemoaaW.PrintLast Go.Proofs.YtnkbfbhhioemoaaW.PrintMore
attribute [local go_sem] max2_int min2_int max_two min_two max_three min_three max_four min_four   -- for this text's walks alone
set_option linter.unusedVariables false
set_option linter.unusedSimpArgs false

/-! ### camletlaw42_back: function 19 -/
def camletlaw42_back.f (a0 : Int) (a1 : Int) (a2 : Int) (a3 : Int) : Option (Int) := if (Int.tmod a0 2) = 0 then (if (wrap64 (a0)) ≥ (wrap64 (4 * a1)) then (if (wrap64 (a0)) < (wrap64 (4 * a2)) then (some ((wrap64 ((wrap64 (a0)) - a3)) % 4294967296)) else (some a0)) else (some a0)) else (some a0)
set_option maxHeartbeats 8000000 in
set_option maxRecDepth 100000 in
theorem camletlaw42_back.calls (a0 : Int) (a1 : Int) (a2 : Int) (a3 : Int) (r : Int) (w : World) (h : camletlaw42_back.f a0 a1 a2 a3 = some r) :
    Calls Try.prog 19 #[.int .u32 a0, .int .i64 a1, .int .i64 a2, .int .i64 a3] w fun e w' => e = .returned (.int .u32 r) ∧ Drawn0 w w' := by
  have H : (if (Int.tmod a0 2) = 0 then (if (wrap64 (a0)) ≥ (wrap64 (4 * a1)) then (if (wrap64 (a0)) < (wrap64 (4 * a2)) then (some ((wrap64 ((wrap64 (a0)) - a3)) % 4294967296)) else (some a0)) else (some a0)) else (some a0)) = some r := h
  clear h
  by_cases c5 : (Int.tmod a0 2) = 0
  · rw [if_pos c5] at H
    have c5b0 : ((Int.tmod a0 2) == 0) = true := beq_iff_eq.mpr c5
    have c5b1 : ((Int.tmod a0 2) != 0) = false := bne_eq_false_iff_eq.mpr c5
    clear c5
    by_cases c6 : (wrap64 (a0)) ≥ (wrap64 (4 * a1))
    · rw [if_pos c6] at H
      have c6b0 : decide ((wrap64 (4 * a1)) ≤ (wrap64 (a0))) = true := decide_eq_true c6
      clear c6
      by_cases c7 : (wrap64 (a0)) < (wrap64 (4 * a2))
      · rw [if_pos c7] at H
        have c7b0 : decide ((wrap64 (a0)) < (wrap64 (4 * a2))) = true := decide_eq_true c7
        clear c7
        obtain rfl := Option.some.inj H
        go_enter Try.func19, Try.ntmps19
        go_wp2
        go_ret
        exact ⟨by first | rfl | (simp; done) | (simp [*]; done), by repeat (first | exact Drawn0.refl _ | apply Drawn0.step)⟩
      · rw [if_neg c7] at H
        have c7b0 : decide ((wrap64 (a0)) < (wrap64 (4 * a2))) = false := decide_eq_false c7
        clear c7
        obtain rfl := Option.some.inj H
        go_enter Try.func19, Try.ntmps19
        go_wp2
        go_ret
        exact ⟨by first | rfl | (simp; done) | (simp [*]; done), by repeat (first | exact Drawn0.refl _ | apply Drawn0.step)⟩
    · rw [if_neg c6] at H
      have c6b0 : decide ((wrap64 (4 * a1)) ≤ (wrap64 (a0))) = false := decide_eq_false c6
      clear c6
      obtain rfl := Option.some.inj H
      go_enter Try.func19, Try.ntmps19
      go_wp2
      go_ret
      exact ⟨by first | rfl | (simp; done) | (simp [*]; done), by repeat (first | exact Drawn0.refl _ | apply Drawn0.step)⟩
  · rw [if_neg c5] at H
    have c5b0 : ((Int.tmod a0 2) == 0) = false := beq_eq_false_iff_ne.mpr c5
    have c5b1 : ((Int.tmod a0 2) != 0) = true := bne_iff_ne.mpr c5
    obtain rfl := Option.some.inj H
    go_enter Try.func19, Try.ntmps19
    go_wp2
    go_ret
    exact ⟨by first | rfl | (simp; done) | (simp [*]; done), by repeat (first | exact Drawn0.refl _ | apply Drawn0.step)⟩

end Go.Proofs.Ytnkbfbhhioemoaa.Q
