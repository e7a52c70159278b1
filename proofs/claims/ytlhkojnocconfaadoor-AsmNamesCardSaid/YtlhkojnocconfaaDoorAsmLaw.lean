/- asm: what the laws of the chapter share. -/
import Derived.Test.YtlhkojnocconfaaDoorQx0
import Derived.Test.YtlhkojnocconfaaDoorQx2
import Derived.Test.YtlhkojnocconfaaDoorAsmLab
import Derived.Test.YtlhkojnocconfaaDoorAsmModel
import Derived.Test.YtlhkojnocconfaaDoorEvW
import Derived.Test.YtlhkojnocconfaaDoorHasmKnows
import Derived.Test.YtlhkojnocconfaaDoorHasmOf
import Derived.Test.YtlhkojnocconfaaDoorHisaPut
import Derived.Test.YtlhkojnocconfaaDoorHisaRight
--@needs XAsmLab
--@needs XHasmOf
--@needs XEvW
namespace Go.Proofs.YtlhkojnocconfaaDoor.Q
open Go.RowKit Go.Proofs.YtlhkojnocconfaaDoorW.PrintWords Go.Proofs.YtlhkojnocconfaaDoorW.PrintLast Go.Proofs.YtlhkojnocconfaaDoorW.PrintMore
attribute [local go_sem] max2_int min2_int max_two min_two max_three min_three max_four min_four   -- for this text's walks alone
set_option linter.unusedVariables false
set_option linter.unusedSimpArgs false

theorem asm_knows : Ev (fun k => camletlaw40_knows.f k) true := Ev.of (fun k => camletlaw40_knows.mono k) (k := 60) (by kernel_rfl)
theorem asm_few (l : List S36) : ∃ b : Bool, Ev (fun k => camletlaw40_few.f k l) b ∧ (b = true → l.length ≤ 100 ∧ ∀ x ∈ l, x.f0.size ≤ 60 ∧ x.f2.size ≤ 60) := by
  unfold camletlaw40_few.f
  by_cases hl : (l.length : Int) > 100
  · exact ⟨false, Ev.pos hl (Ev.now _), fun h => by cases h⟩
  have go : ∀ (d i : Nat), i + d = l.length → ∃ b : Bool, Ev (fun k => camletlaw40_few.l0 k l (l.length : Int) (i : Int)) b ∧ (b = true → ∀ x ∈ l.drop i, x.f0.size ≤ 60 ∧ x.f2.size ≤ 60) := by
    intro d
    induction d with
    | zero =>
      intro i hi
      refine ⟨true, Ev.step (f := fun _ => some true) (fun k => ?_) (Ev.now _), fun _ => by rw [List.drop_eq_nil_of_le (by omega)]; simp⟩
      rw [camletlaw40_few.l0]
      rw [if_neg (by omega)]
    | succ d ih =>
      intro i hi
      have hlt : i < l.length := by omega
      have hw : wrap64 ((i : Int) + 1) = ((i + 1 : Nat) : Int) := by rw [aw64 (by omega) (by omega)]; omega
      by_cases h0 : ((l[i].f0).size : Int) > 60
      · refine ⟨false, Ev.step (f := fun _ => some false) (fun k => ?_) (Ev.now _), fun h => by cases h⟩
        rw [camletlaw40_few.l0]
        rw [if_pos (by omega), if_pos (by omega), if_pos (by omega), rd_line hlt, if_pos h0]
      by_cases h2 : ((l[i].f2).size : Int) > 60
      · refine ⟨false, Ev.step (f := fun _ => some false) (fun k => ?_) (Ev.now _), fun h => by cases h⟩
        rw [camletlaw40_few.l0]
        rw [if_pos (by omega), if_pos (by omega), if_pos (by omega), rd_line hlt, if_neg h0, if_pos h2]
      obtain ⟨b, hb, hb2⟩ := ih (i + 1) (by omega)
      refine ⟨b, Ev.step (f := fun k => camletlaw40_few.l0 k l (l.length : Int) ((i + 1 : Nat) : Int)) (fun k => ?_) hb, fun h => ?_⟩
      · rw [camletlaw40_few.l0]
        rw [if_pos (by omega), if_pos (by omega), if_pos (by omega), rd_line hlt, if_neg h0, if_neg h2, hw]
      · rw [List.drop_eq_getElem_cons hlt]
        intro x hx
        rcases List.mem_cons.1 hx with rfl | hx
        · exact ⟨by omega, by omega⟩
        · exact hb2 h x hx
  obtain ⟨b, hb, hb2⟩ := go l.length 0 (by omega)
  refine ⟨b, Ev.neg hl hb, fun h => ⟨by omega, ?_⟩⟩
  have := hb2 h
  rw [List.drop_zero] at this
  exact this
theorem asm_ok {l : List S36} (h : ∀ x ∈ l, x.f0.size ≤ 60 ∧ x.f2.size ≤ 60) : asmOk l := fun x hx => by
  have := h x hx
  exact ⟨by omega, by omega⟩
theorem asm_of {l : List S36} (hl : l.length ≤ 16384) (hok : asmOk l) : asm_Of.f l = some (asmGo l l 0 []) := by
  unfold asm_Of.f
  rw [if_pos hok, if_neg (by omega)]
/-- what a run through lines without an error has shown -/
theorem asmGo_ok (l : List S36) : ∀ (r : List S36) (i : Nat) (acc : List Int), (asmGo l r i acc).2.2 = 0 →
    ∃ D : List Int, asmGo l r i acc = (acc ++ D, 0, 0) ∧ D.length = r.length ∧ ∀ (j : Nat) (h : j < r.length) (hD : j < D.length), asmWrong l (i + j) r[j] = 0 ∧ isaRight r[j].f1.f0 r[j].f1.f1 r[j].f1.f2 r[j].f1.f3 (asmNum l (i + j) r[j]) = true ∧ D[j] = isaPut r[j].f1.f0 r[j].f1.f1 r[j].f1.f2 r[j].f1.f3 (asmNum l (i + j) r[j])
  | [], i, acc, _ => ⟨[], by rw [asmGo]; simp, rfl, fun j h => by simp at h⟩
  | x :: r, i, acc, h => by
    rw [asmGo] at h ⊢
    by_cases hw : asmWrong l i x ≠ 0
    · rw [if_pos hw] at h; exact absurd h hw
    rw [if_neg hw] at h ⊢
    by_cases hr : isaRight x.f1.f0 x.f1.f1 x.f1.f2 x.f1.f3 (asmNum l i x) = true
    case neg => rw [if_neg hr] at h; exact absurd h (show ¬ ((26 : Int) = 0) by decide)
    rw [if_pos hr] at h ⊢
    obtain ⟨D, h1, h2, h3⟩ := asmGo_ok l r (i + 1) _ h
    refine ⟨isaPut x.f1.f0 x.f1.f1 x.f1.f2 x.f1.f3 (asmNum l i x) :: D, by rw [h1]; simp, by simp [h2], ?_⟩
    intro j hj hD
    cases j with
    | zero => exact ⟨by simpa using hw, hr, rfl⟩
    | succ j =>
      have := h3 j (by simpa using hj) (by simpa using hD)
      rw [show i + 1 + j = i + (j + 1) by omega] at this
      exact this
theorem asmGo_err (l : List S36) : ∀ (r : List S36) (i : Nat) (acc : List Int), (asmGo l r i acc).2.2 ≠ 0 → (asmGo l r i acc).1 = []
  | [], i, acc, h => by rw [asmGo] at h; exact absurd rfl h
  | x :: r, i, acc, h => by
    rw [asmGo] at h ⊢
    by_cases hw : asmWrong l i x ≠ 0
    · rw [if_pos hw]
    rw [if_neg hw] at h ⊢
    by_cases hr : isaRight x.f1.f0 x.f1.f1 x.f1.f2 x.f1.f3 (asmNum l i x) = true
    · rw [if_pos hr] at h ⊢
      exact asmGo_err l r (i + 1) _ h
    · rw [if_neg hr]
end Go.Proofs.YtlhkojnocconfaaDoor.Q
