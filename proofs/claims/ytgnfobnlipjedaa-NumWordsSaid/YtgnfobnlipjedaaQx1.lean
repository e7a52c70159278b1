-- Made by a program of this session (wip/tools/pr.py) out of the translation, over the kit's printer. Not trusted: Lean checks it.
import Derived.Test.YtgnfobnlipjedaaQx0
namespace Go.Proofs.Ytgnfobnlipjedaa.Q
open Go.RowKit Go.Proofs.YtgnfobnlipjedaaW.PrintWords Go.Proofs.YtgnfobnlipjedaaW.PrintLast Go.Proofs.YtgnfobnlipjedaaW.PrintMore
attribute [local go_sem] max2_int min2_int max_two min_two max_three min_three max_four min_four   -- for this text's walks alone
set_option linter.unusedVariables false
set_option linter.unusedSimpArgs false

/-! ### num_Wrap: function 7 -/
def num_Wrap.f (a0 : Int) : Option (Int) := some (wrap64 ((wrap32 ((((a0) % 4294967296) * 2) % 4294967296)) / 2))
set_option maxHeartbeats 8000000 in
set_option maxRecDepth 100000 in
theorem num_Wrap.calls (a0 : Int) (r : Int) (w : World) (h : num_Wrap.f a0 = some r) :
    Calls Try.prog 7 #[.int .i64 a0] w fun e w' => e = .returned (.int .i64 r) ∧ Drawn0 w w' := by
  have H : (some (wrap64 ((wrap32 ((((a0) % 4294967296) * 2) % 4294967296)) / 2))) = some r := h
  clear h
  obtain rfl := Option.some.inj H
  go_enter Try.func7, Try.ntmps7
  go_wp2
  go_ret
  exact ⟨by first | rfl | (simp; done) | (simp [*]; done), by repeat (first | exact Drawn0.refl _ | apply Drawn0.step)⟩

/-! ### camletref01_Wrap: function 8 -/
def camletref01_Wrap.f (a0 : Int) : Option (Int) := if (Int.tmod a0 2147483648) < 0 then (if (wrap64 ((Int.tmod a0 2147483648) + 2147483648)) ≥ 1073741824 then (some (wrap64 ((wrap64 ((Int.tmod a0 2147483648) + 2147483648)) - 2147483648))) else (some (wrap64 ((Int.tmod a0 2147483648) + 2147483648)))) else (if (Int.tmod a0 2147483648) ≥ 1073741824 then (some (wrap64 ((Int.tmod a0 2147483648) - 2147483648))) else (some (Int.tmod a0 2147483648)))
set_option maxHeartbeats 8000000 in
set_option maxRecDepth 100000 in
theorem camletref01_Wrap.calls (a0 : Int) (r : Int) (w : World) (h : camletref01_Wrap.f a0 = some r) :
    Calls Try.prog 8 #[.int .i64 a0] w fun e w' => e = .returned (.int .i64 r) ∧ Drawn0 w w' := by
  have H : (if (Int.tmod a0 2147483648) < 0 then (if (wrap64 ((Int.tmod a0 2147483648) + 2147483648)) ≥ 1073741824 then (some (wrap64 ((wrap64 ((Int.tmod a0 2147483648) + 2147483648)) - 2147483648))) else (some (wrap64 ((Int.tmod a0 2147483648) + 2147483648)))) else (if (Int.tmod a0 2147483648) ≥ 1073741824 then (some (wrap64 ((Int.tmod a0 2147483648) - 2147483648))) else (some (Int.tmod a0 2147483648)))) = some r := h
  clear h
  by_cases c2 : (Int.tmod a0 2147483648) < 0
  · rw [if_pos c2] at H
    have c2b0 : decide ((Int.tmod a0 2147483648) < 0) = true := decide_eq_true c2
    clear c2
    by_cases c3 : (wrap64 ((Int.tmod a0 2147483648) + 2147483648)) ≥ 1073741824
    · rw [if_pos c3] at H
      have c3b0 : decide (1073741824 ≤ (wrap64 ((Int.tmod a0 2147483648) + 2147483648))) = true := decide_eq_true c3
      clear c3
      obtain rfl := Option.some.inj H
      go_enter Try.func8, Try.ntmps8
      go_wp2
      go_ret
      exact ⟨by first | rfl | (simp; done) | (simp [*]; done), by repeat (first | exact Drawn0.refl _ | apply Drawn0.step)⟩
    · rw [if_neg c3] at H
      have c3b0 : decide (1073741824 ≤ (wrap64 ((Int.tmod a0 2147483648) + 2147483648))) = false := decide_eq_false c3
      clear c3
      obtain rfl := Option.some.inj H
      go_enter Try.func8, Try.ntmps8
      go_wp2
      go_ret
      exact ⟨by first | rfl | (simp; done) | (simp [*]; done), by repeat (first | exact Drawn0.refl _ | apply Drawn0.step)⟩
  · rw [if_neg c2] at H
    have c2b0 : decide ((Int.tmod a0 2147483648) < 0) = false := decide_eq_false c2
    clear c2
    by_cases c4 : (Int.tmod a0 2147483648) ≥ 1073741824
    · rw [if_pos c4] at H
      have c4b0 : decide (1073741824 ≤ (Int.tmod a0 2147483648)) = true := decide_eq_true c4
      clear c4
      obtain rfl := Option.some.inj H
      go_enter Try.func8, Try.ntmps8
      go_wp2
      go_ret
      exact ⟨by first | rfl | (simp; done) | (simp [*]; done), by repeat (first | exact Drawn0.refl _ | apply Drawn0.step)⟩
    · rw [if_neg c4] at H
      have c4b0 : decide (1073741824 ≤ (Int.tmod a0 2147483648)) = false := decide_eq_false c4
      clear c4
      obtain rfl := Option.some.inj H
      go_enter Try.func8, Try.ntmps8
      go_wp2
      go_ret
      exact ⟨by first | rfl | (simp; done) | (simp [*]; done), by repeat (first | exact Drawn0.refl _ | apply Drawn0.step)⟩

-- NOT PRINTED: function 18 (num_doers)

end Go.Proofs.Ytgnfobnlipjedaa.Q
