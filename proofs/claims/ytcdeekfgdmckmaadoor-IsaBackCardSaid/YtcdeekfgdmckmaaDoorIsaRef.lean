
/- The reference's Right and Put (camletref39) of any instruction are the walk's isaRight and isaPut. -/
import Derived.Test.YtcdeekfgdmckmaaDoorQx0
import Derived.Test.YtcdeekfgdmckmaaDoorQx3
import Derived.Test.YtcdeekfgdmckmaaDoorQx5
import Derived.Test.YtcdeekfgdmckmaaDoorHisaForms
import Derived.Test.YtcdeekfgdmckmaaDoorHisaOf
import Derived.Test.YtcdeekfgdmckmaaDoorHisaPut
import Derived.Test.YtcdeekfgdmckmaaDoorHisaRight
--@needs XHisaRight
--@needs XHisaPut
namespace Go.Proofs.YtcdeekfgdmckmaaDoor.Q
open Go.RowKit Go.Proofs.YtcdeekfgdmckmaaDoorW.PrintWords Go.Proofs.YtcdeekfgdmckmaaDoorW.PrintLast Go.Proofs.YtcdeekfgdmckmaaDoorW.PrintMore
attribute [local go_sem] max2_int min2_int max_two min_two max_three min_three max_four min_four   -- for this text's walks alone
set_option linter.unusedVariables false
set_option linter.unusedSimpArgs false

theorem bits_or_u32_nat (a b : Nat) (ha : a < 4294967296) (hb : b < 4294967296) : bits .or .u32 (a : Int) (b : Int) = ((a ||| b : Nat) : Int) := by
  have hx : a ||| b < 2 ^ 32 := Nat.or_lt_two_pow (by omega) (by omega)
  have e : bits .or .u32 (a : Int) (b : Int) = IntKind.u32.wrap ((BitVec.ofInt 32 (a : Int) ||| BitVec.ofInt 32 (b : Int)).toNat : Int) := rfl
  rw [e, BitVec.toNat_or, BitVec.ofInt_natCast, BitVec.ofInt_natCast, BitVec.toNat_ofNat, BitVec.toNat_ofNat, Nat.mod_eq_of_lt (by omega), Nat.mod_eq_of_lt (by omega)]
  simp [IntKind.wrap, IntKind.signed, IntKind.bits]
  omega
theorem bits_and_u32_nat' (a b : Nat) (ha : a < 4294967296) (hb : b < 4294967296) : bits .and .u32 (a : Int) (b : Int) = ((a &&& b : Nat) : Int) := by
  have hx : a &&& b < 2 ^ 32 := Nat.and_lt_two_pow _ (by omega)
  have e : bits .and .u32 (a : Int) (b : Int) = IntKind.u32.wrap ((BitVec.ofInt 32 (a : Int) &&& BitVec.ofInt 32 (b : Int)).toNat : Int) := rfl
  rw [e, BitVec.toNat_and, BitVec.ofInt_natCast, BitVec.ofInt_natCast, BitVec.toNat_ofNat, BitVec.toNat_ofNat, Nat.mod_eq_of_lt (by omega), Nat.mod_eq_of_lt (by omega)]
  simp [IntKind.wrap, IntKind.signed, IntKind.bits]
  omega
/-- h stands above, v in the field at sh, l below: or is the sum -/
theorem or_field (sh h v l : Nat) (hv : v < 32) (hl : l < 2 ^ sh) : (2 ^ (sh + 5) * h + l) ||| (2 ^ sh * v) = 2 ^ (sh + 5) * h + 2 ^ sh * v + l := by
  have h5 : (2 : Nat) ^ (sh + 5) = 2 ^ sh * 32 := by rw [Nat.pow_add]
  have hl2 : l < 2 ^ (sh + 5) := by rw [h5]; omega
  have hvl : 2 ^ sh * v + l < 2 ^ (sh + 5) := by
    rw [h5]
    have : 2 ^ sh * v ≤ 2 ^ sh * 31 := Nat.mul_le_mul_left _ (by omega)
    omega
  rw [Nat.two_pow_add_eq_or_of_lt hl2, Nat.or_assoc, Nat.or_comm l, ← Nat.two_pow_add_eq_or_of_lt hl, ← Nat.two_pow_add_eq_or_of_lt hvl, Nat.add_assoc]
theorem orAt_sum (pos : Nat) (h l v : Nat) (hp : pos ≤ 2) (hv : v ≤ 31) (hl : l < 2 ^ (21 - 5 * pos)) (hh : 2 ^ (26 - 5 * pos) * h < 4294967296) :
    orAt ((2 ^ (26 - 5 * pos) * h + l : Nat) : Int) (v : Int) pos = ((2 ^ (26 - 5 * pos) * h + 2 ^ (21 - 5 * pos) * v + l : Nat) : Int) := by
  have e1 : 26 - 5 * pos = (21 - 5 * pos) + 5 := by omega
  have hb : 2 ^ (21 - 5 * pos) * v ≤ 2 ^ 21 * 31 := Nat.mul_le_mul (Nat.pow_le_pow_right (by decide) (by omega)) hv
  have hl3 : 2 ^ (21 - 5 * pos) ≤ 2 ^ 21 := Nat.pow_le_pow_right (by decide) (by omega)
  have hdvd : 2 ^ (26 - 5 * pos) * h + l < 4294967296 := by
    -- what stands above is a multiple of the field's end
    have h3 : 2 ^ (26 - 5 * pos) * h + 2 ^ (26 - 5 * pos) ≤ 4294967296 := by
      have hd : 4294967296 = 2 ^ (26 - 5 * pos) * 2 ^ (6 + 5 * pos) := by rw [← Nat.pow_add, show 26 - 5 * pos + (6 + 5 * pos) = 32 by omega]
      rw [hd] at hh ⊢
      have h4 : h < 2 ^ (6 + 5 * pos) := Nat.lt_of_mul_lt_mul_left hh
      calc 2 ^ (26 - 5 * pos) * h + 2 ^ (26 - 5 * pos) = 2 ^ (26 - 5 * pos) * (h + 1) := by rw [Nat.mul_add, Nat.mul_one]
        _ ≤ _ := Nat.mul_le_mul_left _ h4
    have h6 : 2 ^ (21 - 5 * pos) ≤ 2 ^ (26 - 5 * pos) := Nat.pow_le_pow_right (by decide) (by omega)
    omega
  unfold orAt
  have e2 : (v : Int) % 4294967296 * 2 ^ (21 - 5 * pos) % 4294967296 = ((2 ^ (21 - 5 * pos) * v : Nat) : Int) := by
    have e3 : (v : Int) % 4294967296 = v := by omega
    rw [e3]
    have e4 : (v : Int) * 2 ^ (21 - 5 * pos) = ((2 ^ (21 - 5 * pos) * v : Nat) : Int) := by
      rw [Int.mul_comm (v : Int) (2 ^ (21 - 5 * pos))]; push_cast; rfl
    rw [e4]
    omega
  rw [e2, bits_or_u32_nat _ _ hdvd (by omega)]
  congr 1
  rw [e1]
  exact or_field _ _ _ _ (by omega) hl
/-! ### Right -/
def okR (has : Bool) (n : Int) : Bool := if has then (decide (0 ≤ n) && decide (n ≤ 31)) else (n == 0)
/-- the rows of the table: which registers, whether a number, its span -/
structure RowK where
  d : Bool
  a : Bool
  b : Bool
  n : Bool
  lo : Int
  hi : Int
def rowsK : List RowK := [⟨false, false, false, false, 0, 0⟩, ⟨true, false, false, true, -32768, 32767⟩, ⟨true, false, false, true, 0, 65535⟩, ⟨true, true, false, true, 0, 65535⟩,
  ⟨true, true, true, false, 0, 0⟩, ⟨true, true, true, false, 0, 0⟩, ⟨true, true, true, false, 0, 0⟩, ⟨true, true, true, false, 0, 0⟩, ⟨true, true, true, false, 0, 0⟩, ⟨true, true, true, false, 0, 0⟩, ⟨true, true, true, false, 0, 0⟩, ⟨true, true, true, false, 0, 0⟩, ⟨true, true, true, false, 0, 0⟩,
  ⟨true, true, false, true, 0, 31⟩, ⟨true, true, false, true, 0, 31⟩, ⟨true, true, false, true, 0, 31⟩, ⟨true, true, false, true, -32768, 32767⟩, ⟨true, true, false, true, -32768, 32767⟩, ⟨false, true, true, true, -32768, 32767⟩,
  ⟨false, true, true, true, -32768, 32767⟩, ⟨false, true, true, true, -32768, 32767⟩, ⟨false, true, true, true, -32768, 32767⟩, ⟨true, false, false, true, -1048576, 1048575⟩, ⟨true, true, false, false, 0, 0⟩]
def row0 : RowK := ⟨false, false, false, false, 0, 0⟩
def rowK (k : Nat) : RowK := rowsK.getD k row0
/-- a sys, by its N -/
def rowS (N : Int) : RowK := if N = 1 then ⟨false, true, false, true, 1, 4⟩ else if N = 2 then ⟨true, false, false, true, 1, 4⟩ else if N = 3 then ⟨true, false, true, true, 1, 4⟩ else if N = 4 then ⟨false, true, false, true, 1, 4⟩ else ⟨false, false, false, true, 1, 4⟩
theorem rg68 (r : List UInt8) (D A B : Int) : rightGo (68 :: r) D A B = (okR true D && rightGo r 0 A B) := by
  show (if D < 0 ∨ 31 < D then false else rightGo r 0 A B) = _
  unfold okR
  rw [if_pos rfl]
  by_cases h : D < 0 ∨ 31 < D
  · rw [if_pos h]
    rcases h with h | h
    · rw [decide_eq_false (show ¬ 0 ≤ D by omega)]; rfl
    · rw [decide_eq_false (show ¬ D ≤ 31 by omega), Bool.and_false]; rfl
  · rw [if_neg h, decide_eq_true (show 0 ≤ D by omega), decide_eq_true (show D ≤ 31 by omega)]; rfl
theorem rg65 (r : List UInt8) (D A B : Int) : rightGo (65 :: r) D A B = (okR true A && rightGo r D 0 B) := by
  show (if A < 0 ∨ 31 < A then false else rightGo r D 0 B) = _
  unfold okR
  rw [if_pos rfl]
  by_cases h : A < 0 ∨ 31 < A
  · rw [if_pos h]
    rcases h with h | h
    · rw [decide_eq_false (show ¬ 0 ≤ A by omega)]; rfl
    · rw [decide_eq_false (show ¬ A ≤ 31 by omega), Bool.and_false]; rfl
  · rw [if_neg h, decide_eq_true (show 0 ≤ A by omega), decide_eq_true (show A ≤ 31 by omega)]; rfl
theorem rg66 (r : List UInt8) (D A B : Int) : rightGo (66 :: r) D A B = (okR true B && rightGo r D A 0) := by
  show (if B < 0 ∨ 31 < B then false else rightGo r D A 0) = _
  unfold okR
  rw [if_pos rfl]
  by_cases h : B < 0 ∨ 31 < B
  · rw [if_pos h]
    rcases h with h | h
    · rw [decide_eq_false (show ¬ 0 ≤ B by omega)]; rfl
    · rw [decide_eq_false (show ¬ B ≤ 31 by omega), Bool.and_false]; rfl
  · rw [if_neg h, decide_eq_true (show 0 ≤ B by omega), decide_eq_true (show B ≤ 31 by omega)]; rfl
theorem rg0 (D A B : Int) : rightGo [] D A B = (okR false D && okR false A && okR false B) := rfl
theorem okR00 : okR false 0 = true := rfl
theorem and3 (p q r : Bool) : (p && q && r) = (p && (q && r)) := by cases p <;> cases q <;> cases r <;> rfl
theorem regs_none : ∀ D A B, rightGo [] D A B = (okR false D && (okR false A && okR false B)) := fun D A B => by rw [rg0, and3]
theorem regs_D : ∀ D A B, rightGo [68] D A B = (okR true D && (okR false A && okR false B)) := fun D A B => by rw [rg68, rg0, okR00, and3]; simp
theorem regs_A : ∀ D A B, rightGo [65] D A B = (okR false D && (okR true A && okR false B)) := fun D A B => by rw [rg65, rg0, okR00]; generalize okR false D = p; generalize okR true A = q; generalize okR false B = r; cases p <;> cases q <;> cases r <;> rfl
theorem regs_DA : ∀ D A B, rightGo [68, 65] D A B = (okR true D && (okR true A && okR false B)) := fun D A B => by rw [rg68, rg65, rg0, okR00]; generalize okR true D = p; generalize okR true A = q; generalize okR false B = r; cases p <;> cases q <;> cases r <;> rfl
theorem regs_DB : ∀ D A B, rightGo [68, 66] D A B = (okR true D && (okR false A && okR true B)) := fun D A B => by rw [rg68, rg66, rg0, okR00]; generalize okR true D = p; generalize okR false A = q; generalize okR true B = r; cases p <;> cases q <;> cases r <;> rfl
theorem regs_BA : ∀ D A B, rightGo [66, 65] D A B = (okR false D && (okR true A && okR true B)) := fun D A B => by rw [rg66, rg65, rg0, okR00]; generalize okR false D = p; generalize okR true A = q; generalize okR true B = r; cases p <;> cases q <;> cases r <;> rfl
theorem regs_AB : ∀ D A B, rightGo [65, 66] D A B = (okR false D && (okR true A && okR true B)) := fun D A B => by rw [rg65, rg66, rg0, okR00]; generalize okR false D = p; generalize okR true A = q; generalize okR true B = r; cases p <;> cases q <;> cases r <;> rfl
theorem regs_DAB : ∀ D A B, rightGo [68, 65, 66] D A B = (okR true D && (okR true A && okR true B)) := fun D A B => by rw [rg68, rg65, rg66, rg0, okR00]; generalize okR true D = p; generalize okR true A = q; generalize okR true B = r; cases p <;> cases q <;> cases r <;> rfl
theorem isaRight_of {k N : Int} {nm rg : ByteArray} {lo hi : Int} (h : isaOf k N = (nm, rg, lo, hi)) (hn : ¬ nm = ⟨#[]⟩) (D A B : Int) : isaRight k D A B N = ((decide (lo ≤ N) && decide (N ≤ hi)) && rightGo rg.data.toList D A B) := by
  unfold isaRight
  rw [h]
  dsimp only
  by_cases h1 : N < lo
  · rw [if_pos (.inr (.inl h1)), decide_eq_false (show ¬ lo ≤ N by omega)]; rfl
  · by_cases h2 : hi < N
    · rw [if_pos (.inr (.inr h2)), decide_eq_false (show ¬ N ≤ hi by omega), Bool.and_false]; rfl
    · rw [if_neg (by rintro (h | h | h); exact hn h; exact h1 h; exact h2 h), decide_eq_true (show lo ≤ N by omega), decide_eq_true (show N ≤ hi by omega)]; rfl
/-- what both say -/
def rowSays (r : RowK) (D A B N : Int) : Bool := okR r.d D && (okR r.a A && (okR r.b B && (if r.n = true then (decide (r.lo ≤ N) && decide (N ≤ r.hi)) else (N == 0))))
theorem zeroN (N : Int) : (decide ((0 : Int) ≤ N) && decide (N ≤ 0)) = (N == 0) := by
  by_cases h : N = 0
  · subst h; rfl
  · rw [beq_eq_false_iff_ne.mpr h]
    by_cases h2 : 0 ≤ N
    · rw [decide_eq_false (show ¬ N ≤ 0 by omega), Bool.and_false]
    · rw [decide_eq_false h2]; rfl
theorem row_swap (p q r t : Bool) : (t && (p && (q && r))) = (p && (q && (r && t))) := by cases p <;> cases q <;> cases r <;> cases t <;> rfl
theorem isaRight_row {k N : Int} {nm rg : ByteArray} {lo hi : Int} {r : RowK} (h : isaOf k N = (nm, rg, lo, hi)) (hn : ¬ nm = ⟨#[]⟩) (hr : ∀ D A B, rightGo rg.data.toList D A B = (okR r.d D && (okR r.a A && okR r.b B)))
    (ht : (decide (lo ≤ N) && decide (N ≤ hi)) = (if r.n = true then (decide (r.lo ≤ N) && decide (N ≤ r.hi)) else (N == 0))) (D A B : Int) : isaRight k D A B N = rowSays r D A B N := by
  rw [isaRight_of h hn, hr, ht, row_swap]; rfl
theorem isaRight_lit (kk : Nat) (hk : kk < 24) (D A B N : Int) : isaRight (kk : Int) D A B N = rowSays (rowK kk) D A B N := by
  match kk, hk with
  | 0, _ => exact isaRight_row (k := 0) (r := rowK 0) rfl (by decide) regs_none (zeroN N) D A B
  | 1, _ => exact isaRight_row (k := 1) (r := rowK 1) rfl (by decide) regs_D rfl D A B
  | 2, _ => exact isaRight_row (k := 2) (r := rowK 2) rfl (by decide) regs_D rfl D A B
  | 3, _ => exact isaRight_row (k := 3) (r := rowK 3) rfl (by decide) regs_DA rfl D A B
  | 4, _ => exact isaRight_row (k := 4) (r := rowK 4) rfl (by decide) regs_DAB (zeroN N) D A B
  | 5, _ => exact isaRight_row (k := 5) (r := rowK 5) rfl (by decide) regs_DAB (zeroN N) D A B
  | 6, _ => exact isaRight_row (k := 6) (r := rowK 6) rfl (by decide) regs_DAB (zeroN N) D A B
  | 7, _ => exact isaRight_row (k := 7) (r := rowK 7) rfl (by decide) regs_DAB (zeroN N) D A B
  | 8, _ => exact isaRight_row (k := 8) (r := rowK 8) rfl (by decide) regs_DAB (zeroN N) D A B
  | 9, _ => exact isaRight_row (k := 9) (r := rowK 9) rfl (by decide) regs_DAB (zeroN N) D A B
  | 10, _ => exact isaRight_row (k := 10) (r := rowK 10) rfl (by decide) regs_DAB (zeroN N) D A B
  | 11, _ => exact isaRight_row (k := 11) (r := rowK 11) rfl (by decide) regs_DAB (zeroN N) D A B
  | 12, _ => exact isaRight_row (k := 12) (r := rowK 12) rfl (by decide) regs_DAB (zeroN N) D A B
  | 13, _ => exact isaRight_row (k := 13) (r := rowK 13) rfl (by decide) regs_DA rfl D A B
  | 14, _ => exact isaRight_row (k := 14) (r := rowK 14) rfl (by decide) regs_DA rfl D A B
  | 15, _ => exact isaRight_row (k := 15) (r := rowK 15) rfl (by decide) regs_DA rfl D A B
  | 16, _ => exact isaRight_row (k := 16) (r := rowK 16) rfl (by decide) regs_DA rfl D A B
  | 17, _ => exact isaRight_row (k := 17) (r := rowK 17) rfl (by decide) regs_DA rfl D A B
  | 18, _ => exact isaRight_row (k := 18) (r := rowK 18) rfl (by decide) regs_BA rfl D A B
  | 19, _ => exact isaRight_row (k := 19) (r := rowK 19) rfl (by decide) regs_AB rfl D A B
  | 20, _ => exact isaRight_row (k := 20) (r := rowK 20) rfl (by decide) regs_AB rfl D A B
  | 21, _ => exact isaRight_row (k := 21) (r := rowK 21) rfl (by decide) regs_AB rfl D A B
  | 22, _ => exact isaRight_row (k := 22) (r := rowK 22) rfl (by decide) regs_D rfl D A B
  | 23, _ => exact isaRight_row (k := 23) (r := rowK 23) rfl (by decide) regs_DA (zeroN N) D A B
  | n + 24, h => exact absurd h (by omega)
theorem isaRight_sys (D A B N : Int) : isaRight 24 D A B N = rowSays (rowS N) D A B N := by
  by_cases h1 : N = 1
  · subst h1; exact isaRight_row (k := 24) (N := 1) (r := rowS 1) rfl (by decide) regs_A rfl D A B
  by_cases h2 : N = 2
  · subst h2; exact isaRight_row (k := 24) (N := 2) (r := rowS 2) rfl (by decide) regs_D rfl D A B
  by_cases h3 : N = 3
  · subst h3; exact isaRight_row (k := 24) (N := 3) (r := rowS 3) rfl (by decide) regs_DB rfl D A B
  by_cases h4 : N = 4
  · subst h4; exact isaRight_row (k := 24) (N := 4) (r := rowS 4) rfl (by decide) regs_A rfl D A B
  have hS : rowS N = ⟨false, false, false, true, 1, 4⟩ := by unfold rowS; rw [if_neg h1, if_neg h2, if_neg h3, if_neg h4]
  rw [hS]
  refine isaRight_row (k := 24) (nm := ⟨#[115, 121, 115]⟩) (rg := ⟨#[]⟩) (lo := 1) (hi := 4) (r := ⟨false, false, false, true, 1, 4⟩) ?_ (by decide) regs_none rfl D A B
  unfold isaOf
  rw [if_neg (by omega)]
  rfl
end Go.Proofs.YtcdeekfgdmckmaaDoor.Q
