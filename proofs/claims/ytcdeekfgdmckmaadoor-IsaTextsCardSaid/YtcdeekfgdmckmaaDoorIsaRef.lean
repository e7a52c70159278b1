
/- The reference's Right and Put (camletref39) of any instruction are the walk's isaRight and isaPut. -/
import Derived.Test.YtcdeekfgdmckmaaDoorQx0
import Derived.Test.YtcdeekfgdmckmaaDoorQx3
import Derived.Test.YtcdeekfgdmckmaaDoorQx5
import Derived.Test.YtcdeekfgdmckmaaDoorHisaForms
import Derived.Test.YtcdeekfgdmckmaaDoorHisaOf
import Derived.Test.YtcdeekfgdmckmaaDoorHisaPut
import Derived.Test.YtcdeekfgdmckmaaDoorHisaRight
--@needs XHisaRight
--@needs XHisaPut
namespace Go.Proofs.YtcdeekfgdmckmaaDoor.Q
open Go.RowKit Go.Proofs.YtcdeekfgdmckmaaDoorW.PrintWords Go.Proofs.YtcdeekfgdmckmaaDoorW.PrintLast Go.Proofs.YtcdeekfgdmckmaaDoorW.PrintMore
attribute [local go_sem] max2_int min2_int max_two min_two max_three min_three max_four min_four   -- for this text's walks alone
set_option linter.unusedVariables false
set_option linter.unusedSimpArgs false

/-! ### Right -/
def okR (has : Bool) (n : Int) : Bool := if has then (decide (0 ≤ n) && decide (n ≤ 31)) else (n == 0)
def refStep (h : Bool) (n : Int) (rest : Option Bool) : Option Bool := if h = true then (if n < 0 then some false else (if n > 31 then some false else rest)) else (if n = 0 then rest else some false)
theorem refStep_eq (h : Bool) (n : Int) (b : Bool) : refStep h n (some b) = some (okR h n && b) := by
  unfold refStep okR
  cases h
  · rw [if_neg (by decide)]
    by_cases e : n = 0
    · rw [if_pos e, e]; simp
    · rw [if_neg e]; simp [e]
  · rw [if_pos rfl]
    by_cases e : n < 0
    · rw [if_pos e]; simp; omega
    · rw [if_neg e]
      by_cases e2 : n > 31
      · rw [if_pos e2]; simp; omega
      · rw [if_neg e2]; simp; omega
/-- the rows of the table: which registers, whether a number, its span -/
structure RowK where
  d : Bool
  a : Bool
  b : Bool
  n : Bool
  lo : Int
  hi : Int
def rowTail (r : RowK) (N : Int) : Option Bool := if r.n = true then (if N ≥ r.lo then some (decide (N ≤ r.hi)) else some false) else some (N == 0)
theorem rowTail_eq (r : RowK) (N : Int) : rowTail r N = some (if r.n = true then (decide (r.lo ≤ N) && decide (N ≤ r.hi)) else (N == 0)) := by
  unfold rowTail
  cases hn : r.n
  · rw [if_neg (by simp), if_neg (by simp)]
  · rw [if_pos rfl, if_pos rfl]
    by_cases h : N ≥ r.lo
    · rw [if_pos h]; simp; intro _; exact h
    · rw [if_neg h]; simp; omega
def rowsK : List RowK := [⟨false, false, false, false, 0, 0⟩, ⟨true, false, false, true, -32768, 32767⟩, ⟨true, false, false, true, 0, 65535⟩, ⟨true, true, false, true, 0, 65535⟩,
  ⟨true, true, true, false, 0, 0⟩, ⟨true, true, true, false, 0, 0⟩, ⟨true, true, true, false, 0, 0⟩, ⟨true, true, true, false, 0, 0⟩, ⟨true, true, true, false, 0, 0⟩, ⟨true, true, true, false, 0, 0⟩, ⟨true, true, true, false, 0, 0⟩, ⟨true, true, true, false, 0, 0⟩, ⟨true, true, true, false, 0, 0⟩,
  ⟨true, true, false, true, 0, 31⟩, ⟨true, true, false, true, 0, 31⟩, ⟨true, true, false, true, 0, 31⟩, ⟨true, true, false, true, -32768, 32767⟩, ⟨true, true, false, true, -32768, 32767⟩, ⟨false, true, true, true, -32768, 32767⟩,
  ⟨false, true, true, true, -32768, 32767⟩, ⟨false, true, true, true, -32768, 32767⟩, ⟨false, true, true, true, -32768, 32767⟩, ⟨true, false, false, true, -1048576, 1048575⟩, ⟨true, true, false, false, 0, 0⟩]
def row0 : RowK := ⟨false, false, false, false, 0, 0⟩
def rowK (k : Nat) : RowK := rowsK.getD k row0
/-- a sys, by its N -/
def rowS (N : Int) : RowK := if N = 1 then ⟨false, true, false, true, 1, 4⟩ else if N = 2 then ⟨true, false, false, true, 1, 4⟩ else if N = 3 then ⟨true, false, true, true, 1, 4⟩ else if N = 4 then ⟨false, true, false, true, 1, 4⟩ else ⟨false, false, false, true, 1, 4⟩
theorem refRight_lit (k : Nat) (D A B N : Int) (kk : Nat) (hk : kk < 24) : camletref39_Right.f (k + 20) (kk : Int) D A B N = refStep (rowK kk).d D (refStep (rowK kk).a A (refStep (rowK kk).b B (rowTail (rowK kk) N))) := by
  match kk, hk with
  | 0, _ => exact (by show camletref39_Right.f (k + 20) 0 D A B N = refStep (rowK 0).d D (refStep (rowK 0).a A (refStep (rowK 0).b B (rowTail (rowK 0) N))); kernel_rfl)
  | 1, _ => exact (by show camletref39_Right.f (k + 20) 1 D A B N = refStep (rowK 1).d D (refStep (rowK 1).a A (refStep (rowK 1).b B (rowTail (rowK 1) N))); kernel_rfl)
  | 2, _ => exact (by show camletref39_Right.f (k + 20) 2 D A B N = refStep (rowK 2).d D (refStep (rowK 2).a A (refStep (rowK 2).b B (rowTail (rowK 2) N))); kernel_rfl)
  | 3, _ => exact (by show camletref39_Right.f (k + 20) 3 D A B N = refStep (rowK 3).d D (refStep (rowK 3).a A (refStep (rowK 3).b B (rowTail (rowK 3) N))); kernel_rfl)
  | 4, _ => exact (by show camletref39_Right.f (k + 20) 4 D A B N = refStep (rowK 4).d D (refStep (rowK 4).a A (refStep (rowK 4).b B (rowTail (rowK 4) N))); kernel_rfl)
  | 5, _ => exact (by show camletref39_Right.f (k + 20) 5 D A B N = refStep (rowK 5).d D (refStep (rowK 5).a A (refStep (rowK 5).b B (rowTail (rowK 5) N))); kernel_rfl)
  | 6, _ => exact (by show camletref39_Right.f (k + 20) 6 D A B N = refStep (rowK 6).d D (refStep (rowK 6).a A (refStep (rowK 6).b B (rowTail (rowK 6) N))); kernel_rfl)
  | 7, _ => exact (by show camletref39_Right.f (k + 20) 7 D A B N = refStep (rowK 7).d D (refStep (rowK 7).a A (refStep (rowK 7).b B (rowTail (rowK 7) N))); kernel_rfl)
  | 8, _ => exact (by show camletref39_Right.f (k + 20) 8 D A B N = refStep (rowK 8).d D (refStep (rowK 8).a A (refStep (rowK 8).b B (rowTail (rowK 8) N))); kernel_rfl)
  | 9, _ => exact (by show camletref39_Right.f (k + 20) 9 D A B N = refStep (rowK 9).d D (refStep (rowK 9).a A (refStep (rowK 9).b B (rowTail (rowK 9) N))); kernel_rfl)
  | 10, _ => exact (by show camletref39_Right.f (k + 20) 10 D A B N = refStep (rowK 10).d D (refStep (rowK 10).a A (refStep (rowK 10).b B (rowTail (rowK 10) N))); kernel_rfl)
  | 11, _ => exact (by show camletref39_Right.f (k + 20) 11 D A B N = refStep (rowK 11).d D (refStep (rowK 11).a A (refStep (rowK 11).b B (rowTail (rowK 11) N))); kernel_rfl)
  | 12, _ => exact (by show camletref39_Right.f (k + 20) 12 D A B N = refStep (rowK 12).d D (refStep (rowK 12).a A (refStep (rowK 12).b B (rowTail (rowK 12) N))); kernel_rfl)
  | 13, _ => exact (by show camletref39_Right.f (k + 20) 13 D A B N = refStep (rowK 13).d D (refStep (rowK 13).a A (refStep (rowK 13).b B (rowTail (rowK 13) N))); kernel_rfl)
  | 14, _ => exact (by show camletref39_Right.f (k + 20) 14 D A B N = refStep (rowK 14).d D (refStep (rowK 14).a A (refStep (rowK 14).b B (rowTail (rowK 14) N))); kernel_rfl)
  | 15, _ => exact (by show camletref39_Right.f (k + 20) 15 D A B N = refStep (rowK 15).d D (refStep (rowK 15).a A (refStep (rowK 15).b B (rowTail (rowK 15) N))); kernel_rfl)
  | 16, _ => exact (by show camletref39_Right.f (k + 20) 16 D A B N = refStep (rowK 16).d D (refStep (rowK 16).a A (refStep (rowK 16).b B (rowTail (rowK 16) N))); kernel_rfl)
  | 17, _ => exact (by show camletref39_Right.f (k + 20) 17 D A B N = refStep (rowK 17).d D (refStep (rowK 17).a A (refStep (rowK 17).b B (rowTail (rowK 17) N))); kernel_rfl)
  | 18, _ => exact (by show camletref39_Right.f (k + 20) 18 D A B N = refStep (rowK 18).d D (refStep (rowK 18).a A (refStep (rowK 18).b B (rowTail (rowK 18) N))); kernel_rfl)
  | 19, _ => exact (by show camletref39_Right.f (k + 20) 19 D A B N = refStep (rowK 19).d D (refStep (rowK 19).a A (refStep (rowK 19).b B (rowTail (rowK 19) N))); kernel_rfl)
  | 20, _ => exact (by show camletref39_Right.f (k + 20) 20 D A B N = refStep (rowK 20).d D (refStep (rowK 20).a A (refStep (rowK 20).b B (rowTail (rowK 20) N))); kernel_rfl)
  | 21, _ => exact (by show camletref39_Right.f (k + 20) 21 D A B N = refStep (rowK 21).d D (refStep (rowK 21).a A (refStep (rowK 21).b B (rowTail (rowK 21) N))); kernel_rfl)
  | 22, _ => exact (by show camletref39_Right.f (k + 20) 22 D A B N = refStep (rowK 22).d D (refStep (rowK 22).a A (refStep (rowK 22).b B (rowTail (rowK 22) N))); kernel_rfl)
  | 23, _ => exact (by show camletref39_Right.f (k + 20) 23 D A B N = refStep (rowK 23).d D (refStep (rowK 23).a A (refStep (rowK 23).b B (rowTail (rowK 23) N))); kernel_rfl)
  | n + 24, h => exact absurd h (by omega)
theorem rg68 (r : List UInt8) (D A B : Int) : rightGo (68 :: r) D A B = (okR true D && rightGo r 0 A B) := by
  show (if D < 0 ∨ 31 < D then false else rightGo r 0 A B) = _
  unfold okR
  rw [if_pos rfl]
  by_cases h : D < 0 ∨ 31 < D
  · rw [if_pos h]
    rcases h with h | h
    · rw [decide_eq_false (show ¬ 0 ≤ D by omega)]; rfl
    · rw [decide_eq_false (show ¬ D ≤ 31 by omega), Bool.and_false]; rfl
  · rw [if_neg h, decide_eq_true (show 0 ≤ D by omega), decide_eq_true (show D ≤ 31 by omega)]; rfl
theorem rg65 (r : List UInt8) (D A B : Int) : rightGo (65 :: r) D A B = (okR true A && rightGo r D 0 B) := by
  show (if A < 0 ∨ 31 < A then false else rightGo r D 0 B) = _
  unfold okR
  rw [if_pos rfl]
  by_cases h : A < 0 ∨ 31 < A
  · rw [if_pos h]
    rcases h with h | h
    · rw [decide_eq_false (show ¬ 0 ≤ A by omega)]; rfl
    · rw [decide_eq_false (show ¬ A ≤ 31 by omega), Bool.and_false]; rfl
  · rw [if_neg h, decide_eq_true (show 0 ≤ A by omega), decide_eq_true (show A ≤ 31 by omega)]; rfl
theorem rg66 (r : List UInt8) (D A B : Int) : rightGo (66 :: r) D A B = (okR true B && rightGo r D A 0) := by
  show (if B < 0 ∨ 31 < B then false else rightGo r D A 0) = _
  unfold okR
  rw [if_pos rfl]
  by_cases h : B < 0 ∨ 31 < B
  · rw [if_pos h]
    rcases h with h | h
    · rw [decide_eq_false (show ¬ 0 ≤ B by omega)]; rfl
    · rw [decide_eq_false (show ¬ B ≤ 31 by omega), Bool.and_false]; rfl
  · rw [if_neg h, decide_eq_true (show 0 ≤ B by omega), decide_eq_true (show B ≤ 31 by omega)]; rfl
theorem rg0 (D A B : Int) : rightGo [] D A B = (okR false D && okR false A && okR false B) := rfl
theorem okR00 : okR false 0 = true := rfl
theorem and3 (p q r : Bool) : (p && q && r) = (p && (q && r)) := by cases p <;> cases q <;> cases r <;> rfl
theorem regs_none : ∀ D A B, rightGo [] D A B = (okR false D && (okR false A && okR false B)) := fun D A B => by rw [rg0, and3]
theorem regs_D : ∀ D A B, rightGo [68] D A B = (okR true D && (okR false A && okR false B)) := fun D A B => by rw [rg68, rg0, okR00, and3]; simp
theorem regs_A : ∀ D A B, rightGo [65] D A B = (okR false D && (okR true A && okR false B)) := fun D A B => by rw [rg65, rg0, okR00]; generalize okR false D = p; generalize okR true A = q; generalize okR false B = r; cases p <;> cases q <;> cases r <;> rfl
theorem regs_DA : ∀ D A B, rightGo [68, 65] D A B = (okR true D && (okR true A && okR false B)) := fun D A B => by rw [rg68, rg65, rg0, okR00]; generalize okR true D = p; generalize okR true A = q; generalize okR false B = r; cases p <;> cases q <;> cases r <;> rfl
theorem regs_DB : ∀ D A B, rightGo [68, 66] D A B = (okR true D && (okR false A && okR true B)) := fun D A B => by rw [rg68, rg66, rg0, okR00]; generalize okR true D = p; generalize okR false A = q; generalize okR true B = r; cases p <;> cases q <;> cases r <;> rfl
theorem regs_BA : ∀ D A B, rightGo [66, 65] D A B = (okR false D && (okR true A && okR true B)) := fun D A B => by rw [rg66, rg65, rg0, okR00]; generalize okR false D = p; generalize okR true A = q; generalize okR true B = r; cases p <;> cases q <;> cases r <;> rfl
theorem regs_AB : ∀ D A B, rightGo [65, 66] D A B = (okR false D && (okR true A && okR true B)) := fun D A B => by rw [rg65, rg66, rg0, okR00]; generalize okR false D = p; generalize okR true A = q; generalize okR true B = r; cases p <;> cases q <;> cases r <;> rfl
theorem regs_DAB : ∀ D A B, rightGo [68, 65, 66] D A B = (okR true D && (okR true A && okR true B)) := fun D A B => by rw [rg68, rg65, rg66, rg0, okR00]; generalize okR true D = p; generalize okR true A = q; generalize okR true B = r; cases p <;> cases q <;> cases r <;> rfl
theorem isaRight_of {k N : Int} {nm rg : ByteArray} {lo hi : Int} (h : isaOf k N = (nm, rg, lo, hi)) (hn : ¬ nm = ⟨#[]⟩) (D A B : Int) : isaRight k D A B N = ((decide (lo ≤ N) && decide (N ≤ hi)) && rightGo rg.data.toList D A B) := by
  unfold isaRight
  rw [h]
  dsimp only
  by_cases h1 : N < lo
  · rw [if_pos (.inr (.inl h1)), decide_eq_false (show ¬ lo ≤ N by omega)]; rfl
  · by_cases h2 : hi < N
    · rw [if_pos (.inr (.inr h2)), decide_eq_false (show ¬ N ≤ hi by omega), Bool.and_false]; rfl
    · rw [if_neg (by rintro (h | h | h); exact hn h; exact h1 h; exact h2 h), decide_eq_true (show lo ≤ N by omega), decide_eq_true (show N ≤ hi by omega)]; rfl
/-- what both say -/
def rowSays (r : RowK) (D A B N : Int) : Bool := okR r.d D && (okR r.a A && (okR r.b B && (if r.n = true then (decide (r.lo ≤ N) && decide (N ≤ r.hi)) else (N == 0))))
theorem ref_row (r : RowK) (D A B N : Int) : refStep r.d D (refStep r.a A (refStep r.b B (rowTail r N))) = some (rowSays r D A B N) := by
  rw [rowTail_eq, refStep_eq, refStep_eq, refStep_eq]; rfl
theorem zeroN (N : Int) : (decide ((0 : Int) ≤ N) && decide (N ≤ 0)) = (N == 0) := by
  by_cases h : N = 0
  · subst h; rfl
  · rw [beq_eq_false_iff_ne.mpr h]
    by_cases h2 : 0 ≤ N
    · rw [decide_eq_false (show ¬ N ≤ 0 by omega), Bool.and_false]
    · rw [decide_eq_false h2]; rfl
theorem row_swap (p q r t : Bool) : (t && (p && (q && r))) = (p && (q && (r && t))) := by cases p <;> cases q <;> cases r <;> cases t <;> rfl
theorem isaRight_row {k N : Int} {nm rg : ByteArray} {lo hi : Int} {r : RowK} (h : isaOf k N = (nm, rg, lo, hi)) (hn : ¬ nm = ⟨#[]⟩) (hr : ∀ D A B, rightGo rg.data.toList D A B = (okR r.d D && (okR r.a A && okR r.b B)))
    (ht : (decide (lo ≤ N) && decide (N ≤ hi)) = (if r.n = true then (decide (r.lo ≤ N) && decide (N ≤ r.hi)) else (N == 0))) (D A B : Int) : isaRight k D A B N = rowSays r D A B N := by
  rw [isaRight_of h hn, hr, ht, row_swap]; rfl
theorem isaRight_lit (kk : Nat) (hk : kk < 24) (D A B N : Int) : isaRight (kk : Int) D A B N = rowSays (rowK kk) D A B N := by
  match kk, hk with
  | 0, _ => exact isaRight_row (k := 0) (r := rowK 0) rfl (by decide) regs_none (zeroN N) D A B
  | 1, _ => exact isaRight_row (k := 1) (r := rowK 1) rfl (by decide) regs_D rfl D A B
  | 2, _ => exact isaRight_row (k := 2) (r := rowK 2) rfl (by decide) regs_D rfl D A B
  | 3, _ => exact isaRight_row (k := 3) (r := rowK 3) rfl (by decide) regs_DA rfl D A B
  | 4, _ => exact isaRight_row (k := 4) (r := rowK 4) rfl (by decide) regs_DAB (zeroN N) D A B
  | 5, _ => exact isaRight_row (k := 5) (r := rowK 5) rfl (by decide) regs_DAB (zeroN N) D A B
  | 6, _ => exact isaRight_row (k := 6) (r := rowK 6) rfl (by decide) regs_DAB (zeroN N) D A B
  | 7, _ => exact isaRight_row (k := 7) (r := rowK 7) rfl (by decide) regs_DAB (zeroN N) D A B
  | 8, _ => exact isaRight_row (k := 8) (r := rowK 8) rfl (by decide) regs_DAB (zeroN N) D A B
  | 9, _ => exact isaRight_row (k := 9) (r := rowK 9) rfl (by decide) regs_DAB (zeroN N) D A B
  | 10, _ => exact isaRight_row (k := 10) (r := rowK 10) rfl (by decide) regs_DAB (zeroN N) D A B
  | 11, _ => exact isaRight_row (k := 11) (r := rowK 11) rfl (by decide) regs_DAB (zeroN N) D A B
  | 12, _ => exact isaRight_row (k := 12) (r := rowK 12) rfl (by decide) regs_DAB (zeroN N) D A B
  | 13, _ => exact isaRight_row (k := 13) (r := rowK 13) rfl (by decide) regs_DA rfl D A B
  | 14, _ => exact isaRight_row (k := 14) (r := rowK 14) rfl (by decide) regs_DA rfl D A B
  | 15, _ => exact isaRight_row (k := 15) (r := rowK 15) rfl (by decide) regs_DA rfl D A B
  | 16, _ => exact isaRight_row (k := 16) (r := rowK 16) rfl (by decide) regs_DA rfl D A B
  | 17, _ => exact isaRight_row (k := 17) (r := rowK 17) rfl (by decide) regs_DA rfl D A B
  | 18, _ => exact isaRight_row (k := 18) (r := rowK 18) rfl (by decide) regs_BA rfl D A B
  | 19, _ => exact isaRight_row (k := 19) (r := rowK 19) rfl (by decide) regs_AB rfl D A B
  | 20, _ => exact isaRight_row (k := 20) (r := rowK 20) rfl (by decide) regs_AB rfl D A B
  | 21, _ => exact isaRight_row (k := 21) (r := rowK 21) rfl (by decide) regs_AB rfl D A B
  | 22, _ => exact isaRight_row (k := 22) (r := rowK 22) rfl (by decide) regs_D rfl D A B
  | 23, _ => exact isaRight_row (k := 23) (r := rowK 23) rfl (by decide) regs_DA (zeroN N) D A B
  | n + 24, h => exact absurd h (by omega)
theorem isaRight_sys (D A B N : Int) : isaRight 24 D A B N = rowSays (rowS N) D A B N := by
  by_cases h1 : N = 1
  · subst h1; exact isaRight_row (k := 24) (N := 1) (r := rowS 1) rfl (by decide) regs_A rfl D A B
  by_cases h2 : N = 2
  · subst h2; exact isaRight_row (k := 24) (N := 2) (r := rowS 2) rfl (by decide) regs_D rfl D A B
  by_cases h3 : N = 3
  · subst h3; exact isaRight_row (k := 24) (N := 3) (r := rowS 3) rfl (by decide) regs_DB rfl D A B
  by_cases h4 : N = 4
  · subst h4; exact isaRight_row (k := 24) (N := 4) (r := rowS 4) rfl (by decide) regs_A rfl D A B
  have hS : rowS N = ⟨false, false, false, true, 1, 4⟩ := by unfold rowS; rw [if_neg h1, if_neg h2, if_neg h3, if_neg h4]
  rw [hS]
  refine isaRight_row (k := 24) (nm := ⟨#[115, 121, 115]⟩) (rg := ⟨#[]⟩) (lo := 1) (hi := 4) (r := ⟨false, false, false, true, 1, 4⟩) ?_ (by decide) regs_none rfl D A B
  unfold isaOf
  rw [if_neg (by omega)]
  rfl
theorem isaRight_out (k D A B N : Int) (h : k < 0 ∨ 24 < k) : isaRight k D A B N = false := by
  have e : isaOf k N = (⟨#[]⟩, ⟨#[]⟩, 0, 0) := by
    unfold isaOf isaForm
    rw [if_neg (by omega), if_neg (by omega)]
  unfold isaRight
  rw [e, if_pos (.inl rfl)]
theorem refRight_sys (k : Nat) (D A B N : Int) : camletref39_Right.f (k + 20) 24 D A B N = some (rowSays (rowS N) D A B N) := by
  rw [← ref_row]
  by_cases h1 : N = 1
  · subst h1; kernel_rfl
  by_cases h2 : N = 2
  · subst h2; kernel_rfl
  by_cases h3 : N = 3
  · subst h3; kernel_rfl
  by_cases h4 : N = 4
  · subst h4; kernel_rfl
  have hS : rowS N = ⟨false, false, false, true, 1, 4⟩ := by unfold rowS; rw [if_neg h1, if_neg h2, if_neg h3, if_neg h4]
  rw [hS]
  have hH : camletref39_Has.f (k + 20) 24 D A B N = some ⟨#[78]⟩ := by
    show (if N = 1 then camletref39_Has.j3 (k + 17) N (N == 1) else camletref39_Has.j3 (k + 17) N (N == 4)) = _
    rw [if_neg h1, beq_eq_false_iff_ne.mpr h4]
    show (if N = 2 then _ else (if N = 3 then _ else _)) = _
    rw [if_neg h2, if_neg h3]
  have e : ∀ s, s = some (⟨#[78]⟩ : ByteArray) → ((camletref39_name.f 24).bind fun t108 => (if t108.toList = ([] : List UInt8) then (some false) else (s.bind fun t109 => (camletref39_Right.l0 (k + 20) t109 (⟨#[68, 65, 66]⟩ : ByteArray) 0 24 D A B N)))) = refStep false D (refStep false A (refStep false B (rowTail ⟨false, false, false, true, 1, 4⟩ N))) := by
    rintro _ rfl
    kernel_rfl
  exact e _ hH
theorem refRight_out (n : Nat) (k D A B N : Int) (h : k < 0 ∨ 24 < k) : camletref39_Right.f n k D A B N = some false := by
  have e : camletref39_name.f k = some ⟨#[]⟩ := by
    unfold camletref39_name.f
    simp only [Option.bind_some]
    rcases h with h | h
    · rw [if_pos h]
    · rw [if_neg (by omega), if_pos (by simp; omega)]
  have e2 : ∀ s, s = some (⟨#[]⟩ : ByteArray) → (s.bind fun t108 => (if t108.toList = ([] : List UInt8) then (some false) else ((camletref39_Has.f n k D A B N).bind fun t109 => (camletref39_Right.l0 n t109 (⟨#[68, 65, 66]⟩ : ByteArray) 0 k D A B N)))) = some false := by
    rintro _ rfl
    kernel_rfl
  exact e2 _ e
theorem refRight_eq (n : Nat) (k D A B N : Int) : camletref39_Right.f (n + 20) k D A B N = some (isaRight k D A B N) := by
  by_cases h : k < 0 ∨ 24 < k
  · rw [refRight_out _ _ _ _ _ _ h, isaRight_out _ _ _ _ _ h]
  obtain ⟨kk, rfl⟩ : ∃ kk : Nat, k = (kk : Int) := ⟨k.toNat, by omega⟩
  by_cases h2 : kk = 24
  · subst h2
    exact (refRight_sys n D A B N).trans (congrArg some (isaRight_sys D A B N).symm)
  · rw [refRight_lit n D A B N kk (by omega), ref_row, isaRight_lit kk (by omega)]
end Go.Proofs.YtcdeekfgdmckmaaDoor.Q
