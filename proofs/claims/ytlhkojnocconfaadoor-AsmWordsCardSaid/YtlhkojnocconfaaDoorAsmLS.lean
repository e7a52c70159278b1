/- Several texts in one: asm: the reference's SameWords of words with themselves. asm: what the laws of the chapter share. -/
import Derived.Test.YtlhkojnocconfaaDoorQx0
import Derived.Test.YtlhkojnocconfaaDoorQx10
import Derived.Test.YtlhkojnocconfaaDoorAsmLab
import Derived.Test.YtlhkojnocconfaaDoorEvW
import Derived.Test.YtlhkojnocconfaaDoorQx1
import Derived.Test.YtlhkojnocconfaaDoorAsmModel
import Derived.Test.YtlhkojnocconfaaDoorHasmKnows
import Derived.Test.YtlhkojnocconfaaDoorHasmOf
import Derived.Test.YtlhkojnocconfaaDoorHisaPut
import Derived.Test.YtlhkojnocconfaaDoorHisaRight
--@needs XAsmLab
--@needs XEvW
namespace Go.Proofs.YtlhkojnocconfaaDoor.Q
open Go.RowKit Go.Proofs.YtlhkojnocconfaaDoorW.PrintWords Go.Proofs.YtlhkojnocconfaaDoorW.PrintLast Go.Proofs.YtlhkojnocconfaaDoorW.PrintMore
attribute [local go_sem] max2_int min2_int max_two min_two max_three min_three max_four min_four   -- for this text's walks alone
set_option linter.unusedVariables false
set_option linter.unusedSimpArgs false

theorem asm_same : ∀ (l : List Int), l.length ≤ 1000000 → Ev (fun k => camletref40_SameWords.f k l l) true := by
  intro l hl
  have go : ∀ (d i : Nat), i + d = l.length → Ev (fun k => camletref40_SameWords.l0 k l l (i : Int)) true := by
    intro d
    induction d with
    | zero =>
      intro i hi
      refine Ev.step (f := fun _ => some true) (fun k => ?_) (Ev.now _)
      rw [camletref40_SameWords.l0]
      rw [if_neg (by omega)]
    | succ d ih =>
      intro i hi
      have hw : wrap64 ((i : Int) + 1) = ((i + 1 : Nat) : Int) := by rw [aw64 (by omega) (by omega)]; omega
      refine Ev.step (f := fun k => camletref40_SameWords.l0 k l l ((i + 1 : Nat) : Int)) (fun k => ?_) (ih (i + 1) (by omega))
      rw [camletref40_SameWords.l0]
      rw [if_pos (by omega), if_pos (by omega), if_pos (by omega), if_pos rfl, hw]
  unfold camletref40_SameWords.f
  exact Ev.pos rfl (go l.length 0 (by omega))
end Go.Proofs.YtlhkojnocconfaaDoor.Q

--@needs XAsmLab
--@needs XHasmOf
--@needs XEvW
namespace Go.Proofs.YtlhkojnocconfaaDoor.Q
open Go.RowKit Go.Proofs.YtlhkojnocconfaaDoorW.PrintWords Go.Proofs.YtlhkojnocconfaaDoorW.PrintLast Go.Proofs.YtlhkojnocconfaaDoorW.PrintMore
attribute [local go_sem] max2_int min2_int max_two min_two max_three min_three max_four min_four   -- for this text's walks alone
set_option linter.unusedVariables false
set_option linter.unusedSimpArgs false

theorem asm_knows : Ev (fun k => camletlaw40_knows.f k) true := Ev.of (fun k => camletlaw40_knows.mono k) (k := 60) (by kernel_rfl)
theorem asm_few (l : List S36) : ∃ b : Bool, Ev (fun k => camletlaw40_few.f k l) b ∧ (b = true → l.length ≤ 100 ∧ ∀ x ∈ l, x.f0.size ≤ 60 ∧ x.f2.size ≤ 60) := by
  unfold camletlaw40_few.f
  by_cases hl : (l.length : Int) > 100
  · exact ⟨false, Ev.pos hl (Ev.now _), fun h => by cases h⟩
  have go : ∀ (d i : Nat), i + d = l.length → ∃ b : Bool, Ev (fun k => camletlaw40_few.l0 k l (l.length : Int) (i : Int)) b ∧ (b = true → ∀ x ∈ l.drop i, x.f0.size ≤ 60 ∧ x.f2.size ≤ 60) := by
    intro d
    induction d with
    | zero =>
      intro i hi
      refine ⟨true, Ev.step (f := fun _ => some true) (fun k => ?_) (Ev.now _), fun _ => by rw [List.drop_eq_nil_of_le (by omega)]; simp⟩
      rw [camletlaw40_few.l0]
      rw [if_neg (by omega)]
    | succ d ih =>
      intro i hi
      have hlt : i < l.length := by omega
      have hw : wrap64 ((i : Int) + 1) = ((i + 1 : Nat) : Int) := by rw [aw64 (by omega) (by omega)]; omega
      by_cases h0 : ((l[i].f0).size : Int) > 60
      · refine ⟨false, Ev.step (f := fun _ => some false) (fun k => ?_) (Ev.now _), fun h => by cases h⟩
        rw [camletlaw40_few.l0]
        rw [if_pos (by omega), if_pos (by omega), if_pos (by omega), rd_line hlt, if_pos h0]
      by_cases h2 : ((l[i].f2).size : Int) > 60
      · refine ⟨false, Ev.step (f := fun _ => some false) (fun k => ?_) (Ev.now _), fun h => by cases h⟩
        rw [camletlaw40_few.l0]
        rw [if_pos (by omega), if_pos (by omega), if_pos (by omega), rd_line hlt, if_neg h0, if_pos h2]
      obtain ⟨b, hb, hb2⟩ := ih (i + 1) (by omega)
      refine ⟨b, Ev.step (f := fun k => camletlaw40_few.l0 k l (l.length : Int) ((i + 1 : Nat) : Int)) (fun k => ?_) hb, fun h => ?_⟩
      · rw [camletlaw40_few.l0]
        rw [if_pos (by omega), if_pos (by omega), if_pos (by omega), rd_line hlt, if_neg h0, if_neg h2, hw]
      · rw [List.drop_eq_getElem_cons hlt]
        intro x hx
        rcases List.mem_cons.1 hx with rfl | hx
        · exact ⟨by omega, by omega⟩
        · exact hb2 h x hx
  obtain ⟨b, hb, hb2⟩ := go l.length 0 (by omega)
  refine ⟨b, Ev.neg hl hb, fun h => ⟨by omega, ?_⟩⟩
  have := hb2 h
  rw [List.drop_zero] at this
  exact this
theorem asm_ok {l : List S36} (h : ∀ x ∈ l, x.f0.size ≤ 60 ∧ x.f2.size ≤ 60) : asmOk l := fun x hx => by
  have := h x hx
  exact ⟨by omega, by omega⟩
theorem asm_of {l : List S36} (hl : l.length ≤ 16384) (hok : asmOk l) : asm_Of.f l = some (asmGo l l 0 []) := by
  unfold asm_Of.f
  rw [if_pos hok, if_neg (by omega)]
end Go.Proofs.YtlhkojnocconfaaDoor.Q
