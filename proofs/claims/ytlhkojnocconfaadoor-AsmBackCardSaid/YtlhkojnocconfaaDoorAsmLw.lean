/- Several texts in one: Words: what a function with a budget of rounds gives from some budget on. asm: the number of a label's line. asm: what the laws of the chapter share. asm: the reference's SameWords of words with themselves. -/
import Derived.Test.YtlhkojnocconfaaDoorQx0
import Derived.Test.YtlhkojnocconfaaDoorQx2
import Derived.Test.YtlhkojnocconfaaDoorAsmModel
import Derived.Test.YtlhkojnocconfaaDoorHisaPut
import Derived.Test.YtlhkojnocconfaaDoorHasmKnows
import Derived.Test.YtlhkojnocconfaaDoorHasmOf
import Derived.Test.YtlhkojnocconfaaDoorHisaRight
import Derived.Test.YtlhkojnocconfaaDoorQx5
namespace Go.Proofs.YtlhkojnocconfaaDoor.Q
open Go.RowKit Go.Proofs.YtlhkojnocconfaaDoorW.PrintWords Go.Proofs.YtlhkojnocconfaaDoorW.PrintLast Go.Proofs.YtlhkojnocconfaaDoorW.PrintMore
attribute [local go_sem] max2_int min2_int max_two min_two max_three min_three max_four min_four   -- for this text's walks alone
set_option linter.unusedVariables false
set_option linter.unusedSimpArgs false

theorem Ev.some {α : Type} {g : Nat → Option α} {r : α} (n : Nat) (h : ∀ k, g (k + n) = some r) : Ev g r := ⟨n, fun k hk => by obtain ⟨j, rfl⟩ : ∃ j, k = j + n := ⟨k - n, by omega⟩; exact h j⟩
theorem Ev.ite {α : Type} {c : Prop} [Decidable c] {f g : Nat → Option α} {r : α} (h1 : c → Ev f r) (h2 : ¬ c → Ev g r) : Ev (fun k => if c then f k else g k) r := by
  by_cases h : c
  · exact Ev.congr (fun k => if_pos h) (h1 h)
  · exact Ev.congr (fun k => if_neg h) (h2 h)
theorem Ev.pos {α : Type} {c : Prop} [Decidable c] {f g : Nat → Option α} {r : α} (h : c) (k : Ev f r) : Ev (fun n => if c then f n else g n) r := Ev.congr (fun _ => if_pos h) k
theorem Ev.neg {α : Type} {c : Prop} [Decidable c] {f g : Nat → Option α} {r : α} (h : ¬ c) (k : Ev g r) : Ev (fun n => if c then f n else g n) r := Ev.congr (fun _ => if_neg h) k
theorem Ev.val {α β : Type} {a : α} {f : Nat → α → Option β} {r : β} {o : Option α} (h : o = Option.some a) (k : Ev (fun n => f n a) r) : Ev (fun n => o.bind (f n)) r := by subst h; exact k
theorem Ev.out {α : Type} {g : Nat → Option α} {r : α} (h : Ev g r) : ∃ k, g k = Option.some r := by
  obtain ⟨K, h⟩ := h
  exact ⟨K, h K (Nat.le_refl _)⟩
end Go.Proofs.YtlhkojnocconfaaDoor.Q

--@needs XAsmModel
--@needs XEvW
namespace Go.Proofs.YtlhkojnocconfaaDoor.Q
open Go.RowKit Go.Proofs.YtlhkojnocconfaaDoorW.PrintWords Go.Proofs.YtlhkojnocconfaaDoorW.PrintLast Go.Proofs.YtlhkojnocconfaaDoorW.PrintMore
attribute [local go_sem] max2_int min2_int max_two min_two max_three min_three max_four min_four   -- for this text's walks alone
set_option linter.unusedVariables false
set_option linter.unusedSimpArgs false

theorem aw64 {n : Int} (h0 : -9223372036854775808 ≤ n) (h1 : n ≤ 9223372036854775807) : wrap64 n = n := by unfold wrap64; omega
theorem rd_line {l : List S36} {i : Nat} (h : i < l.length) : rd_T36 l (i : Int) = l[i] := by
  unfold rd_T36
  rw [Int.toNat_natCast, List.getD_eq_getElem?_getD, List.getElem?_eq_getElem h]
  rfl
end Go.Proofs.YtlhkojnocconfaaDoor.Q

--@needs XAsmLab
--@needs XHasmOf
--@needs XEvW
namespace Go.Proofs.YtlhkojnocconfaaDoor.Q
open Go.RowKit Go.Proofs.YtlhkojnocconfaaDoorW.PrintWords Go.Proofs.YtlhkojnocconfaaDoorW.PrintLast Go.Proofs.YtlhkojnocconfaaDoorW.PrintMore
attribute [local go_sem] max2_int min2_int max_two min_two max_three min_three max_four min_four   -- for this text's walks alone
set_option linter.unusedVariables false
set_option linter.unusedSimpArgs false

theorem asm_knows : Ev (fun k => camletlaw40_knows.f k) true := Ev.of (fun k => camletlaw40_knows.mono k) (k := 60) (by kernel_rfl)
theorem asm_few (l : List S36) : ∃ b : Bool, Ev (fun k => camletlaw40_few.f k l) b ∧ (b = true → l.length ≤ 100 ∧ ∀ x ∈ l, x.f0.size ≤ 60 ∧ x.f2.size ≤ 60) := by
  unfold camletlaw40_few.f
  by_cases hl : (l.length : Int) > 100
  · exact ⟨false, Ev.pos hl (Ev.now _), fun h => by cases h⟩
  have go : ∀ (d i : Nat), i + d = l.length → ∃ b : Bool, Ev (fun k => camletlaw40_few.l0 k l (l.length : Int) (i : Int)) b ∧ (b = true → ∀ x ∈ l.drop i, x.f0.size ≤ 60 ∧ x.f2.size ≤ 60) := by
    intro d
    induction d with
    | zero =>
      intro i hi
      refine ⟨true, Ev.step (f := fun _ => some true) (fun k => ?_) (Ev.now _), fun _ => by rw [List.drop_eq_nil_of_le (by omega)]; simp⟩
      rw [camletlaw40_few.l0]
      rw [if_neg (by omega)]
    | succ d ih =>
      intro i hi
      have hlt : i < l.length := by omega
      have hw : wrap64 ((i : Int) + 1) = ((i + 1 : Nat) : Int) := by rw [aw64 (by omega) (by omega)]; omega
      by_cases h0 : ((l[i].f0).size : Int) > 60
      · refine ⟨false, Ev.step (f := fun _ => some false) (fun k => ?_) (Ev.now _), fun h => by cases h⟩
        rw [camletlaw40_few.l0]
        rw [if_pos (by omega), if_pos (by omega), if_pos (by omega), rd_line hlt, if_pos h0]
      by_cases h2 : ((l[i].f2).size : Int) > 60
      · refine ⟨false, Ev.step (f := fun _ => some false) (fun k => ?_) (Ev.now _), fun h => by cases h⟩
        rw [camletlaw40_few.l0]
        rw [if_pos (by omega), if_pos (by omega), if_pos (by omega), rd_line hlt, if_neg h0, if_pos h2]
      obtain ⟨b, hb, hb2⟩ := ih (i + 1) (by omega)
      refine ⟨b, Ev.step (f := fun k => camletlaw40_few.l0 k l (l.length : Int) ((i + 1 : Nat) : Int)) (fun k => ?_) hb, fun h => ?_⟩
      · rw [camletlaw40_few.l0]
        rw [if_pos (by omega), if_pos (by omega), if_pos (by omega), rd_line hlt, if_neg h0, if_neg h2, hw]
      · rw [List.drop_eq_getElem_cons hlt]
        intro x hx
        rcases List.mem_cons.1 hx with rfl | hx
        · exact ⟨by omega, by omega⟩
        · exact hb2 h x hx
  obtain ⟨b, hb, hb2⟩ := go l.length 0 (by omega)
  refine ⟨b, Ev.neg hl hb, fun h => ⟨by omega, ?_⟩⟩
  have := hb2 h
  rw [List.drop_zero] at this
  exact this
theorem asm_ok {l : List S36} (h : ∀ x ∈ l, x.f0.size ≤ 60 ∧ x.f2.size ≤ 60) : asmOk l := fun x hx => by
  have := h x hx
  exact ⟨by omega, by omega⟩
theorem asm_of {l : List S36} (hl : l.length ≤ 16384) (hok : asmOk l) : asm_Of.f l = some (asmGo l l 0 []) := by
  unfold asm_Of.f
  rw [if_pos hok, if_neg (by omega)]
/-- what a run through lines without an error has shown -/
theorem asmGo_ok (l : List S36) : ∀ (r : List S36) (i : Nat) (acc : List Int), (asmGo l r i acc).2.2 = 0 →
    ∃ D : List Int, asmGo l r i acc = (acc ++ D, 0, 0) ∧ D.length = r.length ∧ ∀ (j : Nat) (h : j < r.length) (hD : j < D.length), asmWrong l (i + j) r[j] = 0 ∧ isaRight r[j].f1.f0 r[j].f1.f1 r[j].f1.f2 r[j].f1.f3 (asmNum l (i + j) r[j]) = true ∧ D[j] = isaPut r[j].f1.f0 r[j].f1.f1 r[j].f1.f2 r[j].f1.f3 (asmNum l (i + j) r[j])
  | [], i, acc, _ => ⟨[], by rw [asmGo]; simp, rfl, fun j h => by simp at h⟩
  | x :: r, i, acc, h => by
    rw [asmGo] at h ⊢
    by_cases hw : asmWrong l i x ≠ 0
    · rw [if_pos hw] at h; exact absurd h hw
    rw [if_neg hw] at h ⊢
    by_cases hr : isaRight x.f1.f0 x.f1.f1 x.f1.f2 x.f1.f3 (asmNum l i x) = true
    case neg => rw [if_neg hr] at h; exact absurd h (show ¬ ((26 : Int) = 0) by decide)
    rw [if_pos hr] at h ⊢
    obtain ⟨D, h1, h2, h3⟩ := asmGo_ok l r (i + 1) _ h
    refine ⟨isaPut x.f1.f0 x.f1.f1 x.f1.f2 x.f1.f3 (asmNum l i x) :: D, by rw [h1]; simp, by simp [h2], ?_⟩
    intro j hj hD
    cases j with
    | zero => exact ⟨by simpa using hw, hr, rfl⟩
    | succ j =>
      have := h3 j (by simpa using hj) (by simpa using hD)
      rw [show i + 1 + j = i + (j + 1) by omega] at this
      exact this
end Go.Proofs.YtlhkojnocconfaaDoor.Q

--@needs XAsmLab
--@needs XEvW
namespace Go.Proofs.YtlhkojnocconfaaDoor.Q
open Go.RowKit Go.Proofs.YtlhkojnocconfaaDoorW.PrintWords Go.Proofs.YtlhkojnocconfaaDoorW.PrintLast Go.Proofs.YtlhkojnocconfaaDoorW.PrintMore
attribute [local go_sem] max2_int min2_int max_two min_two max_three min_three max_four min_four   -- for this text's walks alone
set_option linter.unusedVariables false
set_option linter.unusedSimpArgs false

theorem asm_same : ∀ (l : List Int), l.length ≤ 1000000 → Ev (fun k => camletref40_SameWords.f k l l) true := by
  intro l hl
  have go : ∀ (d i : Nat), i + d = l.length → Ev (fun k => camletref40_SameWords.l0 k l l (i : Int)) true := by
    intro d
    induction d with
    | zero =>
      intro i hi
      refine Ev.step (f := fun _ => some true) (fun k => ?_) (Ev.now _)
      rw [camletref40_SameWords.l0]
      rw [if_neg (by omega)]
    | succ d ih =>
      intro i hi
      have hw : wrap64 ((i : Int) + 1) = ((i + 1 : Nat) : Int) := by rw [aw64 (by omega) (by omega)]; omega
      refine Ev.step (f := fun k => camletref40_SameWords.l0 k l l ((i + 1 : Nat) : Int)) (fun k => ?_) (ih (i + 1) (by omega))
      rw [camletref40_SameWords.l0]
      rw [if_pos (by omega), if_pos (by omega), if_pos (by omega), if_pos rfl, hw]
  unfold camletref40_SameWords.f
  exact Ev.pos rfl (go l.length 0 (by omega))
end Go.Proofs.YtlhkojnocconfaaDoor.Q
