
/- Words for a walk by hand: append of a slice that is read, nil let in. -/
import Derived.Test.YtnkbfbhhioemoaaQx0
import Derived.Test.YtnkbfbhhioemoaaAw
import Derived.Test.YtnkbfbhhioemoaaAwSl
--@needs XAw
--@needs XAwSl
namespace Go.Proofs.Ytnkbfbhhioemoaa.Q
open Go.RowKit Go.Proofs.YtnkbfbhhioemoaaW.PrintWords Go.Proofs.YtnkbfbhhioemoaaW.PrintLast Go.Proofs.YtnkbfbhhioemoaaW.PrintMore
attribute [local go_sem] max2_int min2_int max_two min_two max_three min_three max_four min_four   -- for this text's walks alone
set_option linter.unusedVariables false
set_option linter.unusedSimpArgs false

theorem Kd.C_cells {q : IntKind} {W : World} {A : Option Addr} {l : List Int} (h : Kd.C (Kd.int q) W A l.length l) : (A = none → l.length = 0) ∧ ∀ ad, A = some ad → ∀ j u, (l.map (Value.int q))[j]? = some u → W.cell? (ad.add j) = some u := by
  refine ⟨fun hA => ?_, fun ad hA j u hu => ?_⟩
  · rcases Nat.eq_zero_or_pos l.length with h0 | h0
    · exact h0
    · obtain ⟨ad, h1, _⟩ := h.2.2 h0
      rw [hA] at h1; cases h1
  · rw [List.getElem?_map, Option.map_eq_some_iff] at hu
    obtain ⟨x, hx, rfl⟩ := hu
    have hj : j < l.length := (List.getElem?_eq_some_iff.1 hx).1
    obtain ⟨ad2, e2, hc⟩ := Kd.at_int h (j : Int) (by omega) (by omega)
    rw [hA] at e2
    injection e2 with e2
    subst e2
    rw [Int.toNat_natCast] at hc
    rw [hc]
    congr 2
    unfold rd
    rw [Int.toNat_natCast, List.getD_eq_getElem?_getD, hx]
    rfl
section
variable {P : Program} {ops : Array Oper} {rest : List Oper} {o : Oper} {a : Act} {Q : Exit → Act → World → Prop} {S : Nat → Prop} {w W : World} {L Lv : List (Nat × Blk)}
end
theorem own_form {e size n : Nat} {v : Value} {xs : List Value} {Lv : List (Nat × Blk)} (h : Own e size v n xs Lv) : ∃ A c, v = .slice A n c := by
  obtain ⟨_, ⟨rfl, hn, _⟩ | ⟨g, cap, rfl, _, _⟩⟩ := h
  · exact ⟨none, 0, by rw [hn]⟩
  · exact ⟨_, _, rfl⟩
section
variable {P : Program} {ops : Array Oper} {rest : List Oper} {o : Oper} {a : Act} {Q : Exit → Act → World → Prop} {S : Nat → Prop} {w W : World} {L1 : List (Nat × Blk)}
end
end Go.Proofs.Ytnkbfbhhioemoaa.Q
