/- isa: an instruction comes back from its word. Out of other texts by wip/tools/pick.py. -/
import Derived.Test.YtlhkojnocconfaaDoorQx0
import Derived.Test.YtlhkojnocconfaaDoorHisaForms
import Derived.Test.YtlhkojnocconfaaDoorHisaOf
import Derived.Test.YtlhkojnocconfaaDoorHisaPut
import Derived.Test.YtlhkojnocconfaaDoorHisaRight
import Derived.Test.YtlhkojnocconfaaDoorHisaShow
import Derived.Test.YtlhkojnocconfaaDoorHisaTake
import Derived.Test.YtlhkojnocconfaaDoorIsaRp
--@needs XHisaTake
--@needs XHisaPut
--@needs XHisaRight
--@needs XHisaShow
--@needs XIsaWord
namespace Go.Proofs.YtlhkojnocconfaaDoor.Q
open Go.RowKit Go.Proofs.YtlhkojnocconfaaDoorW.PrintWords Go.Proofs.YtlhkojnocconfaaDoorW.PrintLast Go.Proofs.YtlhkojnocconfaaDoorW.PrintMore
attribute [local go_sem] max2_int min2_int max_two min_two max_three min_three max_four min_four   -- for this text's walks alone
set_option linter.unusedVariables false
set_option linter.unusedSimpArgs false

theorem bits_or_u32_nat (a b : Nat) (ha : a < 4294967296) (hb : b < 4294967296) : bits .or .u32 (a : Int) (b : Int) = ((a ||| b : Nat) : Int) := by
  have hx : a ||| b < 2 ^ 32 := Nat.or_lt_two_pow (by omega) (by omega)
  have e : bits .or .u32 (a : Int) (b : Int) = IntKind.u32.wrap ((BitVec.ofInt 32 (a : Int) ||| BitVec.ofInt 32 (b : Int)).toNat : Int) := rfl
  rw [e, BitVec.toNat_or, BitVec.ofInt_natCast, BitVec.ofInt_natCast, BitVec.toNat_ofNat, BitVec.toNat_ofNat, Nat.mod_eq_of_lt (by omega), Nat.mod_eq_of_lt (by omega)]
  simp [IntKind.wrap, IntKind.signed, IntKind.bits]
  omega
theorem bits_and_u32_nat' (a b : Nat) (ha : a < 4294967296) (hb : b < 4294967296) : bits .and .u32 (a : Int) (b : Int) = ((a &&& b : Nat) : Int) := by
  have hx : a &&& b < 2 ^ 32 := Nat.and_lt_two_pow _ (by omega)
  have e : bits .and .u32 (a : Int) (b : Int) = IntKind.u32.wrap ((BitVec.ofInt 32 (a : Int) &&& BitVec.ofInt 32 (b : Int)).toNat : Int) := rfl
  rw [e, BitVec.toNat_and, BitVec.ofInt_natCast, BitVec.ofInt_natCast, BitVec.toNat_ofNat, BitVec.toNat_ofNat, Nat.mod_eq_of_lt (by omega), Nat.mod_eq_of_lt (by omega)]
  simp [IntKind.wrap, IntKind.signed, IntKind.bits]
  omega
/-- h stands above, v in the field at sh, l below: or is the sum -/
theorem or_field (sh h v l : Nat) (hv : v < 32) (hl : l < 2 ^ sh) : (2 ^ (sh + 5) * h + l) ||| (2 ^ sh * v) = 2 ^ (sh + 5) * h + 2 ^ sh * v + l := by
  have h5 : (2 : Nat) ^ (sh + 5) = 2 ^ sh * 32 := by rw [Nat.pow_add]
  have hl2 : l < 2 ^ (sh + 5) := by rw [h5]; omega
  have hvl : 2 ^ sh * v + l < 2 ^ (sh + 5) := by
    rw [h5]
    have : 2 ^ sh * v ≤ 2 ^ sh * 31 := Nat.mul_le_mul_left _ (by omega)
    omega
  rw [Nat.two_pow_add_eq_or_of_lt hl2, Nat.or_assoc, Nat.or_comm l, ← Nat.two_pow_add_eq_or_of_lt hl, ← Nat.two_pow_add_eq_or_of_lt hvl, Nat.add_assoc]
theorem orAt_sum (pos : Nat) (h l v : Nat) (hp : pos ≤ 2) (hv : v ≤ 31) (hl : l < 2 ^ (21 - 5 * pos)) (hh : 2 ^ (26 - 5 * pos) * h < 4294967296) :
    orAt ((2 ^ (26 - 5 * pos) * h + l : Nat) : Int) (v : Int) pos = ((2 ^ (26 - 5 * pos) * h + 2 ^ (21 - 5 * pos) * v + l : Nat) : Int) := by
  have e1 : 26 - 5 * pos = (21 - 5 * pos) + 5 := by omega
  have hb : 2 ^ (21 - 5 * pos) * v ≤ 2 ^ 21 * 31 := Nat.mul_le_mul (Nat.pow_le_pow_right (by decide) (by omega)) hv
  have hl3 : 2 ^ (21 - 5 * pos) ≤ 2 ^ 21 := Nat.pow_le_pow_right (by decide) (by omega)
  have hdvd : 2 ^ (26 - 5 * pos) * h + l < 4294967296 := by
    -- what stands above is a multiple of the field's end
    have h3 : 2 ^ (26 - 5 * pos) * h + 2 ^ (26 - 5 * pos) ≤ 4294967296 := by
      have hd : 4294967296 = 2 ^ (26 - 5 * pos) * 2 ^ (6 + 5 * pos) := by rw [← Nat.pow_add, show 26 - 5 * pos + (6 + 5 * pos) = 32 by omega]
      rw [hd] at hh ⊢
      have h4 : h < 2 ^ (6 + 5 * pos) := Nat.lt_of_mul_lt_mul_left hh
      calc 2 ^ (26 - 5 * pos) * h + 2 ^ (26 - 5 * pos) = 2 ^ (26 - 5 * pos) * (h + 1) := by rw [Nat.mul_add, Nat.mul_one]
        _ ≤ _ := Nat.mul_le_mul_left _ h4
    have h6 : 2 ^ (21 - 5 * pos) ≤ 2 ^ (26 - 5 * pos) := Nat.pow_le_pow_right (by decide) (by omega)
    omega
  unfold orAt
  have e2 : (v : Int) % 4294967296 * 2 ^ (21 - 5 * pos) % 4294967296 = ((2 ^ (21 - 5 * pos) * v : Nat) : Int) := by
    have e3 : (v : Int) % 4294967296 = v := by omega
    rw [e3]
    have e4 : (v : Int) * 2 ^ (21 - 5 * pos) = ((2 ^ (21 - 5 * pos) * v : Nat) : Int) := by
      rw [Int.mul_comm (v : Int) (2 ^ (21 - 5 * pos))]; push_cast; rfl
    rw [e4]
    omega
  rw [e2, bits_or_u32_nat _ _ hdvd (by omega)]
  congr 1
  rw [e1]
  exact or_field _ _ _ _ (by omega) hl
/-! ### Right -/
def okR (has : Bool) (n : Int) : Bool := if has then (decide (0 ≤ n) && decide (n ≤ 31)) else (n == 0)
/-- the rows of the table: which registers, whether a number, its span -/
structure RowK where
  d : Bool
  a : Bool
  b : Bool
  n : Bool
  lo : Int
  hi : Int
def rowsK : List RowK := [⟨false, false, false, false, 0, 0⟩, ⟨true, false, false, true, -32768, 32767⟩, ⟨true, false, false, true, 0, 65535⟩, ⟨true, true, false, true, 0, 65535⟩,
  ⟨true, true, true, false, 0, 0⟩, ⟨true, true, true, false, 0, 0⟩, ⟨true, true, true, false, 0, 0⟩, ⟨true, true, true, false, 0, 0⟩, ⟨true, true, true, false, 0, 0⟩, ⟨true, true, true, false, 0, 0⟩, ⟨true, true, true, false, 0, 0⟩, ⟨true, true, true, false, 0, 0⟩, ⟨true, true, true, false, 0, 0⟩,
  ⟨true, true, false, true, 0, 31⟩, ⟨true, true, false, true, 0, 31⟩, ⟨true, true, false, true, 0, 31⟩, ⟨true, true, false, true, -32768, 32767⟩, ⟨true, true, false, true, -32768, 32767⟩, ⟨false, true, true, true, -32768, 32767⟩,
  ⟨false, true, true, true, -32768, 32767⟩, ⟨false, true, true, true, -32768, 32767⟩, ⟨false, true, true, true, -32768, 32767⟩, ⟨true, false, false, true, -1048576, 1048575⟩, ⟨true, true, false, false, 0, 0⟩]
def row0 : RowK := ⟨false, false, false, false, 0, 0⟩
def rowK (k : Nat) : RowK := rowsK.getD k row0
/-- a sys, by its N -/
def rowS (N : Int) : RowK := if N = 1 then ⟨false, true, false, true, 1, 4⟩ else if N = 2 then ⟨true, false, false, true, 1, 4⟩ else if N = 3 then ⟨true, false, true, true, 1, 4⟩ else if N = 4 then ⟨false, true, false, true, 1, 4⟩ else ⟨false, false, false, true, 1, 4⟩
theorem rg68 (r : List UInt8) (D A B : Int) : rightGo (68 :: r) D A B = (okR true D && rightGo r 0 A B) := by
  show (if D < 0 ∨ 31 < D then false else rightGo r 0 A B) = _
  unfold okR
  rw [if_pos rfl]
  by_cases h : D < 0 ∨ 31 < D
  · rw [if_pos h]
    rcases h with h | h
    · rw [decide_eq_false (show ¬ 0 ≤ D by omega)]; rfl
    · rw [decide_eq_false (show ¬ D ≤ 31 by omega), Bool.and_false]; rfl
  · rw [if_neg h, decide_eq_true (show 0 ≤ D by omega), decide_eq_true (show D ≤ 31 by omega)]; rfl
theorem rg65 (r : List UInt8) (D A B : Int) : rightGo (65 :: r) D A B = (okR true A && rightGo r D 0 B) := by
  show (if A < 0 ∨ 31 < A then false else rightGo r D 0 B) = _
  unfold okR
  rw [if_pos rfl]
  by_cases h : A < 0 ∨ 31 < A
  · rw [if_pos h]
    rcases h with h | h
    · rw [decide_eq_false (show ¬ 0 ≤ A by omega)]; rfl
    · rw [decide_eq_false (show ¬ A ≤ 31 by omega), Bool.and_false]; rfl
  · rw [if_neg h, decide_eq_true (show 0 ≤ A by omega), decide_eq_true (show A ≤ 31 by omega)]; rfl
theorem rg66 (r : List UInt8) (D A B : Int) : rightGo (66 :: r) D A B = (okR true B && rightGo r D A 0) := by
  show (if B < 0 ∨ 31 < B then false else rightGo r D A 0) = _
  unfold okR
  rw [if_pos rfl]
  by_cases h : B < 0 ∨ 31 < B
  · rw [if_pos h]
    rcases h with h | h
    · rw [decide_eq_false (show ¬ 0 ≤ B by omega)]; rfl
    · rw [decide_eq_false (show ¬ B ≤ 31 by omega), Bool.and_false]; rfl
  · rw [if_neg h, decide_eq_true (show 0 ≤ B by omega), decide_eq_true (show B ≤ 31 by omega)]; rfl
theorem rg0 (D A B : Int) : rightGo [] D A B = (okR false D && okR false A && okR false B) := rfl
theorem okR00 : okR false 0 = true := rfl
theorem and3 (p q r : Bool) : (p && q && r) = (p && (q && r)) := by cases p <;> cases q <;> cases r <;> rfl
theorem regs_none : ∀ D A B, rightGo [] D A B = (okR false D && (okR false A && okR false B)) := fun D A B => by rw [rg0, and3]
theorem regs_D : ∀ D A B, rightGo [68] D A B = (okR true D && (okR false A && okR false B)) := fun D A B => by rw [rg68, rg0, okR00, and3]; simp
theorem regs_A : ∀ D A B, rightGo [65] D A B = (okR false D && (okR true A && okR false B)) := fun D A B => by rw [rg65, rg0, okR00]; generalize okR false D = p; generalize okR true A = q; generalize okR false B = r; cases p <;> cases q <;> cases r <;> rfl
theorem regs_DA : ∀ D A B, rightGo [68, 65] D A B = (okR true D && (okR true A && okR false B)) := fun D A B => by rw [rg68, rg65, rg0, okR00]; generalize okR true D = p; generalize okR true A = q; generalize okR false B = r; cases p <;> cases q <;> cases r <;> rfl
theorem regs_DB : ∀ D A B, rightGo [68, 66] D A B = (okR true D && (okR false A && okR true B)) := fun D A B => by rw [rg68, rg66, rg0, okR00]; generalize okR true D = p; generalize okR false A = q; generalize okR true B = r; cases p <;> cases q <;> cases r <;> rfl
theorem regs_BA : ∀ D A B, rightGo [66, 65] D A B = (okR false D && (okR true A && okR true B)) := fun D A B => by rw [rg66, rg65, rg0, okR00]; generalize okR false D = p; generalize okR true A = q; generalize okR true B = r; cases p <;> cases q <;> cases r <;> rfl
theorem regs_AB : ∀ D A B, rightGo [65, 66] D A B = (okR false D && (okR true A && okR true B)) := fun D A B => by rw [rg65, rg66, rg0, okR00]; generalize okR false D = p; generalize okR true A = q; generalize okR true B = r; cases p <;> cases q <;> cases r <;> rfl
theorem regs_DAB : ∀ D A B, rightGo [68, 65, 66] D A B = (okR true D && (okR true A && okR true B)) := fun D A B => by rw [rg68, rg65, rg66, rg0, okR00]; generalize okR true D = p; generalize okR true A = q; generalize okR true B = r; cases p <;> cases q <;> cases r <;> rfl
theorem isaRight_of {k N : Int} {nm rg : ByteArray} {lo hi : Int} (h : isaOf k N = (nm, rg, lo, hi)) (hn : ¬ nm = ⟨#[]⟩) (D A B : Int) : isaRight k D A B N = ((decide (lo ≤ N) && decide (N ≤ hi)) && rightGo rg.data.toList D A B) := by
  unfold isaRight
  rw [h]
  dsimp only
  by_cases h1 : N < lo
  · rw [if_pos (.inr (.inl h1)), decide_eq_false (show ¬ lo ≤ N by omega)]; rfl
  · by_cases h2 : hi < N
    · rw [if_pos (.inr (.inr h2)), decide_eq_false (show ¬ N ≤ hi by omega), Bool.and_false]; rfl
    · rw [if_neg (by rintro (h | h | h); exact hn h; exact h1 h; exact h2 h), decide_eq_true (show lo ≤ N by omega), decide_eq_true (show N ≤ hi by omega)]; rfl
/-- what both say -/
def rowSays (r : RowK) (D A B N : Int) : Bool := okR r.d D && (okR r.a A && (okR r.b B && (if r.n = true then (decide (r.lo ≤ N) && decide (N ≤ r.hi)) else (N == 0))))
theorem zeroN (N : Int) : (decide ((0 : Int) ≤ N) && decide (N ≤ 0)) = (N == 0) := by
  by_cases h : N = 0
  · subst h; rfl
  · rw [beq_eq_false_iff_ne.mpr h]
    by_cases h2 : 0 ≤ N
    · rw [decide_eq_false (show ¬ N ≤ 0 by omega), Bool.and_false]
    · rw [decide_eq_false h2]; rfl
theorem row_swap (p q r t : Bool) : (t && (p && (q && r))) = (p && (q && (r && t))) := by cases p <;> cases q <;> cases r <;> cases t <;> rfl
theorem isaRight_row {k N : Int} {nm rg : ByteArray} {lo hi : Int} {r : RowK} (h : isaOf k N = (nm, rg, lo, hi)) (hn : ¬ nm = ⟨#[]⟩) (hr : ∀ D A B, rightGo rg.data.toList D A B = (okR r.d D && (okR r.a A && okR r.b B)))
    (ht : (decide (lo ≤ N) && decide (N ≤ hi)) = (if r.n = true then (decide (r.lo ≤ N) && decide (N ≤ r.hi)) else (N == 0))) (D A B : Int) : isaRight k D A B N = rowSays r D A B N := by
  rw [isaRight_of h hn, hr, ht, row_swap]; rfl
theorem isaRight_lit (kk : Nat) (hk : kk < 24) (D A B N : Int) : isaRight (kk : Int) D A B N = rowSays (rowK kk) D A B N := by
  match kk, hk with
  | 0, _ => exact isaRight_row (k := 0) (r := rowK 0) rfl (by decide) regs_none (zeroN N) D A B
  | 1, _ => exact isaRight_row (k := 1) (r := rowK 1) rfl (by decide) regs_D rfl D A B
  | 2, _ => exact isaRight_row (k := 2) (r := rowK 2) rfl (by decide) regs_D rfl D A B
  | 3, _ => exact isaRight_row (k := 3) (r := rowK 3) rfl (by decide) regs_DA rfl D A B
  | 4, _ => exact isaRight_row (k := 4) (r := rowK 4) rfl (by decide) regs_DAB (zeroN N) D A B
  | 5, _ => exact isaRight_row (k := 5) (r := rowK 5) rfl (by decide) regs_DAB (zeroN N) D A B
  | 6, _ => exact isaRight_row (k := 6) (r := rowK 6) rfl (by decide) regs_DAB (zeroN N) D A B
  | 7, _ => exact isaRight_row (k := 7) (r := rowK 7) rfl (by decide) regs_DAB (zeroN N) D A B
  | 8, _ => exact isaRight_row (k := 8) (r := rowK 8) rfl (by decide) regs_DAB (zeroN N) D A B
  | 9, _ => exact isaRight_row (k := 9) (r := rowK 9) rfl (by decide) regs_DAB (zeroN N) D A B
  | 10, _ => exact isaRight_row (k := 10) (r := rowK 10) rfl (by decide) regs_DAB (zeroN N) D A B
  | 11, _ => exact isaRight_row (k := 11) (r := rowK 11) rfl (by decide) regs_DAB (zeroN N) D A B
  | 12, _ => exact isaRight_row (k := 12) (r := rowK 12) rfl (by decide) regs_DAB (zeroN N) D A B
  | 13, _ => exact isaRight_row (k := 13) (r := rowK 13) rfl (by decide) regs_DA rfl D A B
  | 14, _ => exact isaRight_row (k := 14) (r := rowK 14) rfl (by decide) regs_DA rfl D A B
  | 15, _ => exact isaRight_row (k := 15) (r := rowK 15) rfl (by decide) regs_DA rfl D A B
  | 16, _ => exact isaRight_row (k := 16) (r := rowK 16) rfl (by decide) regs_DA rfl D A B
  | 17, _ => exact isaRight_row (k := 17) (r := rowK 17) rfl (by decide) regs_DA rfl D A B
  | 18, _ => exact isaRight_row (k := 18) (r := rowK 18) rfl (by decide) regs_BA rfl D A B
  | 19, _ => exact isaRight_row (k := 19) (r := rowK 19) rfl (by decide) regs_AB rfl D A B
  | 20, _ => exact isaRight_row (k := 20) (r := rowK 20) rfl (by decide) regs_AB rfl D A B
  | 21, _ => exact isaRight_row (k := 21) (r := rowK 21) rfl (by decide) regs_AB rfl D A B
  | 22, _ => exact isaRight_row (k := 22) (r := rowK 22) rfl (by decide) regs_D rfl D A B
  | 23, _ => exact isaRight_row (k := 23) (r := rowK 23) rfl (by decide) regs_DA (zeroN N) D A B
  | n + 24, h => exact absurd h (by omega)
theorem isaRight_sys (D A B N : Int) : isaRight 24 D A B N = rowSays (rowS N) D A B N := by
  by_cases h1 : N = 1
  · subst h1; exact isaRight_row (k := 24) (N := 1) (r := rowS 1) rfl (by decide) regs_A rfl D A B
  by_cases h2 : N = 2
  · subst h2; exact isaRight_row (k := 24) (N := 2) (r := rowS 2) rfl (by decide) regs_D rfl D A B
  by_cases h3 : N = 3
  · subst h3; exact isaRight_row (k := 24) (N := 3) (r := rowS 3) rfl (by decide) regs_DB rfl D A B
  by_cases h4 : N = 4
  · subst h4; exact isaRight_row (k := 24) (N := 4) (r := rowS 4) rfl (by decide) regs_A rfl D A B
  have hS : rowS N = ⟨false, false, false, true, 1, 4⟩ := by unfold rowS; rw [if_neg h1, if_neg h2, if_neg h3, if_neg h4]
  rw [hS]
  refine isaRight_row (k := 24) (nm := ⟨#[115, 121, 115]⟩) (rg := ⟨#[]⟩) (lo := 1) (hi := 4) (r := ⟨false, false, false, true, 1, 4⟩) ?_ (by decide) regs_none rfl D A B
  unfold isaOf
  rw [if_neg (by omega)]
  rfl
def horner (D A B : Int) : Nat → List UInt8 → Nat
  | h, [] => h
  | h, c :: r => horner D A B (32 * h + (regVal c D A B).toNat) r
theorem putGo_sum (D A B : Int) : ∀ (l : List UInt8) (pos h nn : Nat), pos + l.length ≤ 3 → (∀ c ∈ l, 0 ≤ regVal c D A B ∧ regVal c D A B ≤ 31) → nn < 2 ^ (26 - 5 * (pos + l.length)) → h < 2 ^ (6 + 5 * pos) →
    putGo D A B l pos ((2 ^ (26 - 5 * pos) * h + nn : Nat) : Int) = ((2 ^ (26 - 5 * (pos + l.length)) * horner D A B h l + nn : Nat) : Int)
  | [], pos, h, nn, _, _, _, _ => rfl
  | c :: r, pos, h, nn, hl, hv, hn, hh => by
    rw [List.length_cons] at hl hn ⊢
    obtain ⟨v, hvv⟩ : ∃ v : Nat, regVal c D A B = (v : Int) := ⟨(regVal c D A B).toNat, by have := (hv c (by simp)).1; omega⟩
    have hv31 : v ≤ 31 := by have := (hv c (by simp)).2; omega
    have hp : pos ≤ 2 := by omega
    have hnn : nn < 2 ^ (21 - 5 * pos) := Nat.lt_of_lt_of_le hn (Nat.pow_le_pow_right (by decide) (by omega))
    have hhh : 2 ^ (26 - 5 * pos) * h < 4294967296 := by
      have hd : 4294967296 = 2 ^ (26 - 5 * pos) * 2 ^ (6 + 5 * pos) := by rw [← Nat.pow_add, show 26 - 5 * pos + (6 + 5 * pos) = 32 by omega]
      rw [hd]
      exact Nat.mul_lt_mul_of_pos_left hh (Nat.pow_pos (by decide))
    have e1 := orAt_sum pos h nn v hp hv31 hnn hhh
    have hq2 : 21 - 5 * pos = 26 - 5 * (pos + 1) := by omega
    have hq1 : (2 : Nat) ^ (26 - 5 * pos) = 32 * 2 ^ (26 - 5 * (pos + 1)) := by rw [show 26 - 5 * pos = (26 - 5 * (pos + 1)) + 5 by omega, Nat.pow_add, Nat.mul_comm]
    have e4 : 2 ^ (26 - 5 * pos) * h + 2 ^ (21 - 5 * pos) * v + nn = 2 ^ (26 - 5 * (pos + 1)) * (32 * h + v) + nn := by
      rw [hq1, hq2]
      generalize (2 : Nat) ^ (26 - 5 * (pos + 1)) = q
      rw [Nat.mul_add, Nat.mul_comm 32 q, Nat.mul_assoc]
    show putGo D A B r (pos + 1) (orAt _ (regVal c D A B) pos) = _
    rw [hvv, e1, e4]
    have hh2 : 32 * h + v < 2 ^ (6 + 5 * (pos + 1)) := by
      have : 2 ^ (6 + 5 * (pos + 1)) = 2 ^ (6 + 5 * pos) * 32 := by rw [show 6 + 5 * (pos + 1) = 6 + 5 * pos + 5 by omega, Nat.pow_add]
      omega
    have ih := putGo_sum D A B r (pos + 1) (32 * h + v) nn (by omega) (fun c2 h2 => hv c2 (by simp [h2])) (by rw [show pos + 1 + r.length = pos + (r.length + 1) by omega]; exact hn) hh2
    rw [ih]
    show _ = ((2 ^ (26 - 5 * (pos + (r.length + 1))) * horner D A B (32 * h + (regVal c D A B).toNat) r + nn : Nat) : Int)
    rw [hvv, Int.toNat_natCast, show pos + 1 + r.length = pos + (r.length + 1) by omega]
theorem start_sum (kk : Nat) (hk : kk < 64) (N : Int) : putStart kk N = ((2 ^ 26 * kk + (N % (if (kk : Int) = 22 then 2097152 else 65536)).toNat : Nat) : Int) := by
  unfold putStart
  obtain ⟨m, hm⟩ : ∃ m : Nat, N % 4294967296 = (m : Int) := ⟨(N % 4294967296).toNat, by omega⟩
  have hmb : m < 4294967296 := by omega
  have e1 : (kk : Int) % 4294967296 * 67108864 % 4294967296 = ((2 ^ 26 * kk : Nat) : Int) := by
    have : (kk : Int) % 4294967296 = kk := by omega
    rw [this]
    omega
  rw [e1, hm]
  by_cases h : (kk : Int) = 22
  · rw [if_pos h, if_pos h]
    have e2 := bits_and_u32_nat' m 2097151 hmb (by decide)
    rw [show ((2097151 : Nat) : Int) = 2097151 from rfl, show m &&& 2097151 = m % 2097152 from Nat.and_two_pow_sub_one_eq_mod m 21] at e2
    rw [e2, bits_or_u32_nat _ _ (by omega) (by omega), ← Nat.two_pow_add_eq_or_of_lt (by omega)]
    congr 1
    omega
  · rw [if_neg h, if_neg h]
    have e2 := bits_and_u32_nat' m 65535 hmb (by decide)
    rw [show ((65535 : Nat) : Int) = 65535 from rfl, show m &&& 65535 = m % 65536 from Nat.and_two_pow_sub_one_eq_mod m 16] at e2
    rw [e2, bits_or_u32_nat _ _ (by omega) (by omega), ← Nat.two_pow_add_eq_or_of_lt (by omega)]
    congr 1
    omega
theorem w64 {x : Int} (h : -9223372036854775808 ≤ x ∧ x ≤ 9223372036854775807) : wrap64 x = x := by unfold wrap64; omega
theorem okR_t {n : Int} : okR true n = true ↔ 0 ≤ n ∧ n ≤ 31 := by unfold okR; simp
theorem okR_f {n : Int} : okR false n = true ↔ n = 0 := by unfold okR; simp
theorem right_N24 {D A B N : Int} (hr : isaRight 24 D A B N = true) : 1 ≤ N ∧ N ≤ 4 := by
  unfold isaRight at hr
  split at hr
  · cases hr
  · rename_i h
    have hlh : (isaOf 24 N).2.2 = (1, 4) := by unfold isaOf; split <;> rfl
    rw [hlh] at h
    omega
theorem says_n {d a b : Bool} {lo hi D A B N : Int} (h : rowSays ⟨d, a, b, true, lo, hi⟩ D A B N = true) : okR d D = true ∧ okR a A = true ∧ okR b B = true ∧ lo ≤ N ∧ N ≤ hi := by
  unfold rowSays at h
  simp only [Bool.and_eq_true, if_true, decide_eq_true_eq] at h
  exact ⟨h.1, h.2.1, h.2.2.1, h.2.2.2⟩
theorem says_0 {d a b : Bool} {lo hi D A B N : Int} (h : rowSays ⟨d, a, b, false, lo, hi⟩ D A B N = true) : okR d D = true ∧ okR a A = true ∧ okR b B = true ∧ N = 0 := by
  unfold rowSays at h
  simp only [Bool.and_eq_true, Bool.false_eq_true, if_false, beq_iff_eq] at h
  exact ⟨h.1, h.2.1, h.2.2.1, h.2.2.2⟩
def fieldT (X p : Int) : Int := Int.tmod (wrap64 (Int.tdiv X p)) 32
/-- the number's part: of the low bits, perhaps less what they turn round at -/
def refN (kk : Nat) (X : Int) : Int := if ¬ (kk ∈ ([2, 3, 13, 14, 15, 24] : List Nat)) ∧ (if kk = 22 then 1048576 else 32768) ≤ Int.tmod X (if kk = 22 then 2097152 else 65536) then wrap64 (Int.tmod X (if kk = 22 then 2097152 else 65536) - (if kk = 22 then 2097152 else 65536)) else Int.tmod X (if kk = 22 then 2097152 else 65536)
def fldOf (kk : Nat) (X : Int) : Int × Int × Int := ([(0, 0, 0), (fieldT X 2097152, 0, 0), (fieldT X 2097152, 0, 0), (fieldT X 2097152, fieldT X 65536, 0), (fieldT X 2097152, fieldT X 65536, fieldT X 2048), (fieldT X 2097152, fieldT X 65536, fieldT X 2048), (fieldT X 2097152, fieldT X 65536, fieldT X 2048), (fieldT X 2097152, fieldT X 65536, fieldT X 2048), (fieldT X 2097152, fieldT X 65536, fieldT X 2048), (fieldT X 2097152, fieldT X 65536, fieldT X 2048), (fieldT X 2097152, fieldT X 65536, fieldT X 2048), (fieldT X 2097152, fieldT X 65536, fieldT X 2048), (fieldT X 2097152, fieldT X 65536, fieldT X 2048), (fieldT X 2097152, fieldT X 65536, 0), (fieldT X 2097152, fieldT X 65536, 0), (fieldT X 2097152, fieldT X 65536, 0), (fieldT X 2097152, fieldT X 65536, 0), (fieldT X 2097152, fieldT X 65536, 0), (0, fieldT X 65536, fieldT X 2097152), (0, fieldT X 2097152, fieldT X 65536), (0, fieldT X 2097152, fieldT X 65536), (0, fieldT X 2097152, fieldT X 65536), (fieldT X 2097152, 0, 0), (fieldT X 2097152, fieldT X 65536, 0)] : List (Int × Int × Int)).getD kk (0, 0, 0)
def hasN (kk : Nat) : Bool := ([false, true, true, true, false, false, false, false, false, false, false, false, false, true, true, true, true, true, true, true, true, true, true, false] : List Bool).getD kk false
theorem and_mask (x : Int) (hx0 : 0 ≤ x) (hx1 : x < 4294967296) (b : Nat) (hb : b ≤ 31) : bits BinOp.and IntKind.u32 x ((2 ^ b - 1 : Nat) : Int) = x % ((2 ^ b : Nat) : Int) := by
  obtain ⟨m, rfl⟩ := Int.eq_ofNat_of_zero_le hx0
  have hp : 2 ^ b ≤ 2 ^ 31 := Nat.pow_le_pow_right (by decide) hb
  have := bits_and_u32_nat' m (2 ^ b - 1) (by omega) (by omega)
  show bits BinOp.and IntKind.u32 (m : Int) _ = _
  rw [this, Nat.and_two_pow_sub_one_eq_mod]
  push_cast
  rfl
theorem tb (x : Int) (hx0 : 0 ≤ x) (hx1 : x < 4294967296) (pos : Nat) (p : Int) (hp : (2 : Int) ^ (21 - 5 * (pos : Int)).toNat = p) (hp1 : 2048 ≤ p) (hp2 : p ≤ 2097152) : takeBits x pos = fieldT x p := by
  unfold takeBits fieldT
  rw [hp]
  have hq0 : 0 ≤ x / p := Int.ediv_nonneg hx0 (by omega)
  have hq1 : x / p < 4294967296 := Int.lt_of_le_of_lt (Int.ediv_le_self _ hx0) hx1
  have h1 := and_mask (x / p) hq0 hq1 5 (by decide)
  rw [show ((2 ^ 5 - 1 : Nat) : Int) = 31 from rfl, show ((2 ^ 5 : Nat) : Int) = 32 from rfl] at h1
  rw [h1, i64w _ (by omega), Int.tdiv_eq_ediv_of_nonneg hx0, w64 (by omega), Int.tmod_eq_emod_of_nonneg hq0]
theorem takeRegs (x : Int) (hx0 : 0 ≤ x) (hx1 : x < 4294967296) (N : Int) (kk : Nat) (hk : kk < 24) : takeGo x (isaOf kk N).2.1.data.toList 0 0 0 0 = fldOf kk x := by
  have t0 := tb x hx0 hx1 0 2097152 rfl (by decide) (by decide)
  have t1 := tb x hx0 hx1 1 65536 rfl (by decide) (by decide)
  have t2 := tb x hx0 hx1 2 2048 rfl (by decide) (by decide)
  match kk, hk with
  | 0, _ => exact (by show ((0, 0, 0) : Int × Int × Int) = (0, 0, 0); rfl)
  | 1, _ => exact (by show ((takeBits x 0, 0, 0) : Int × Int × Int) = (fieldT x 2097152, 0, 0); rw [t0])
  | 2, _ => exact (by show ((takeBits x 0, 0, 0) : Int × Int × Int) = (fieldT x 2097152, 0, 0); rw [t0])
  | 3, _ => exact (by show ((takeBits x 0, takeBits x 1, 0) : Int × Int × Int) = (fieldT x 2097152, fieldT x 65536, 0); rw [t0, t1])
  | 4, _ => exact (by show ((takeBits x 0, takeBits x 1, takeBits x 2) : Int × Int × Int) = (fieldT x 2097152, fieldT x 65536, fieldT x 2048); rw [t0, t1, t2])
  | 5, _ => exact (by show ((takeBits x 0, takeBits x 1, takeBits x 2) : Int × Int × Int) = (fieldT x 2097152, fieldT x 65536, fieldT x 2048); rw [t0, t1, t2])
  | 6, _ => exact (by show ((takeBits x 0, takeBits x 1, takeBits x 2) : Int × Int × Int) = (fieldT x 2097152, fieldT x 65536, fieldT x 2048); rw [t0, t1, t2])
  | 7, _ => exact (by show ((takeBits x 0, takeBits x 1, takeBits x 2) : Int × Int × Int) = (fieldT x 2097152, fieldT x 65536, fieldT x 2048); rw [t0, t1, t2])
  | 8, _ => exact (by show ((takeBits x 0, takeBits x 1, takeBits x 2) : Int × Int × Int) = (fieldT x 2097152, fieldT x 65536, fieldT x 2048); rw [t0, t1, t2])
  | 9, _ => exact (by show ((takeBits x 0, takeBits x 1, takeBits x 2) : Int × Int × Int) = (fieldT x 2097152, fieldT x 65536, fieldT x 2048); rw [t0, t1, t2])
  | 10, _ => exact (by show ((takeBits x 0, takeBits x 1, takeBits x 2) : Int × Int × Int) = (fieldT x 2097152, fieldT x 65536, fieldT x 2048); rw [t0, t1, t2])
  | 11, _ => exact (by show ((takeBits x 0, takeBits x 1, takeBits x 2) : Int × Int × Int) = (fieldT x 2097152, fieldT x 65536, fieldT x 2048); rw [t0, t1, t2])
  | 12, _ => exact (by show ((takeBits x 0, takeBits x 1, takeBits x 2) : Int × Int × Int) = (fieldT x 2097152, fieldT x 65536, fieldT x 2048); rw [t0, t1, t2])
  | 13, _ => exact (by show ((takeBits x 0, takeBits x 1, 0) : Int × Int × Int) = (fieldT x 2097152, fieldT x 65536, 0); rw [t0, t1])
  | 14, _ => exact (by show ((takeBits x 0, takeBits x 1, 0) : Int × Int × Int) = (fieldT x 2097152, fieldT x 65536, 0); rw [t0, t1])
  | 15, _ => exact (by show ((takeBits x 0, takeBits x 1, 0) : Int × Int × Int) = (fieldT x 2097152, fieldT x 65536, 0); rw [t0, t1])
  | 16, _ => exact (by show ((takeBits x 0, takeBits x 1, 0) : Int × Int × Int) = (fieldT x 2097152, fieldT x 65536, 0); rw [t0, t1])
  | 17, _ => exact (by show ((takeBits x 0, takeBits x 1, 0) : Int × Int × Int) = (fieldT x 2097152, fieldT x 65536, 0); rw [t0, t1])
  | 18, _ => exact (by show ((0, takeBits x 1, takeBits x 0) : Int × Int × Int) = (0, fieldT x 65536, fieldT x 2097152); rw [t0, t1])
  | 19, _ => exact (by show ((0, takeBits x 0, takeBits x 1) : Int × Int × Int) = (0, fieldT x 2097152, fieldT x 65536); rw [t0, t1])
  | 20, _ => exact (by show ((0, takeBits x 0, takeBits x 1) : Int × Int × Int) = (0, fieldT x 2097152, fieldT x 65536); rw [t0, t1])
  | 21, _ => exact (by show ((0, takeBits x 0, takeBits x 1) : Int × Int × Int) = (0, fieldT x 2097152, fieldT x 65536); rw [t0, t1])
  | 22, _ => exact (by show ((takeBits x 0, 0, 0) : Int × Int × Int) = (fieldT x 2097152, 0, 0); rw [t0])
  | 23, _ => exact (by show ((takeBits x 0, takeBits x 1, 0) : Int × Int × Int) = (fieldT x 2097152, fieldT x 65536, 0); rw [t0, t1])
  | n + 24, h => exact absurd h (by omega)
theorem takeN_lit (x : Int) (hx0 : 0 ≤ x) (hx1 : x < 4294967296) (kk : Nat) (hk : kk < 25) : takeN kk (isaForm kk).2.2.1 (isaForm kk).2.2.2 x = if kk = 24 ∨ hasN kk = true then refN kk x else 0 := by
  have m16 := and_mask x hx0 hx1 16 (by decide)
  have m21 := and_mask x hx0 hx1 21 (by decide)
  rw [show ((2 ^ 16 - 1 : Nat) : Int) = 65535 from rfl, show ((2 ^ 16 : Nat) : Int) = 65536 from rfl] at m16
  rw [show ((2 ^ 21 - 1 : Nat) : Int) = 2097151 from rfl, show ((2 ^ 21 : Nat) : Int) = 2097152 from rfl] at m21
  have t16 : Int.tmod x 65536 = x % 65536 := Int.tmod_eq_emod_of_nonneg hx0
  have t21 : Int.tmod x 2097152 = x % 2097152 := Int.tmod_eq_emod_of_nonneg hx0
  match kk, hk with
  | 0, _ => exact (by show (if (0 : Int) < 0 then _ else (0 : Int)) = if 0 = 24 ∨ hasN 0 = true then _ else (0 : Int); rw [if_neg (by decide), if_neg (by decide)])
  | 1, _ =>
    have e1 : takeN 1 (isaForm 1).2.2.1 (isaForm 1).2.2.2 x = if (-32768 : Int) < 0 ∧ 32767 < bits BinOp.and IntKind.u32 x 65535 then bits BinOp.and IntKind.u32 x 65535 - 65536 else bits BinOp.and IntKind.u32 x 65535 := if_pos (by decide)
    refine Eq.trans e1 (Eq.trans ?_ (if_pos (by decide)).symm)
    rw [m16]
    by_cases hh : Int.tmod x 65536 ≥ 32768
    · rw [show refN 1 x = wrap64 (Int.tmod x 65536 - 65536) from if_pos ⟨by decide, hh⟩, t16, w64 (by omega), if_pos (by omega)]
    · rw [show refN 1 x = Int.tmod x 65536 from if_neg (fun h => hh h.2), t16, if_neg (by omega)]
  | 2, _ =>
    have e1 : takeN 2 (isaForm 2).2.2.1 (isaForm 2).2.2.2 x = if (0 : Int) < 0 ∧ 65535 < bits BinOp.and IntKind.u32 x 65535 then bits BinOp.and IntKind.u32 x 65535 - 65536 else bits BinOp.and IntKind.u32 x 65535 := if_pos (by decide)
    refine Eq.trans e1 (Eq.trans ?_ (if_pos (by decide)).symm)
    rw [m16]
    rw [if_neg (by omega), show refN 2 x = Int.tmod x 65536 from if_neg (fun h => h.1 (by decide)), t16]
  | 3, _ =>
    have e1 : takeN 3 (isaForm 3).2.2.1 (isaForm 3).2.2.2 x = if (0 : Int) < 0 ∧ 65535 < bits BinOp.and IntKind.u32 x 65535 then bits BinOp.and IntKind.u32 x 65535 - 65536 else bits BinOp.and IntKind.u32 x 65535 := if_pos (by decide)
    refine Eq.trans e1 (Eq.trans ?_ (if_pos (by decide)).symm)
    rw [m16]
    rw [if_neg (by omega), show refN 3 x = Int.tmod x 65536 from if_neg (fun h => h.1 (by decide)), t16]
  | 4, _ => exact (by show (if (0 : Int) < 0 then _ else (0 : Int)) = if 4 = 24 ∨ hasN 4 = true then _ else (0 : Int); rw [if_neg (by decide), if_neg (by decide)])
  | 5, _ => exact (by show (if (0 : Int) < 0 then _ else (0 : Int)) = if 5 = 24 ∨ hasN 5 = true then _ else (0 : Int); rw [if_neg (by decide), if_neg (by decide)])
  | 6, _ => exact (by show (if (0 : Int) < 0 then _ else (0 : Int)) = if 6 = 24 ∨ hasN 6 = true then _ else (0 : Int); rw [if_neg (by decide), if_neg (by decide)])
  | 7, _ => exact (by show (if (0 : Int) < 0 then _ else (0 : Int)) = if 7 = 24 ∨ hasN 7 = true then _ else (0 : Int); rw [if_neg (by decide), if_neg (by decide)])
  | 8, _ => exact (by show (if (0 : Int) < 0 then _ else (0 : Int)) = if 8 = 24 ∨ hasN 8 = true then _ else (0 : Int); rw [if_neg (by decide), if_neg (by decide)])
  | 9, _ => exact (by show (if (0 : Int) < 0 then _ else (0 : Int)) = if 9 = 24 ∨ hasN 9 = true then _ else (0 : Int); rw [if_neg (by decide), if_neg (by decide)])
  | 10, _ => exact (by show (if (0 : Int) < 0 then _ else (0 : Int)) = if 10 = 24 ∨ hasN 10 = true then _ else (0 : Int); rw [if_neg (by decide), if_neg (by decide)])
  | 11, _ => exact (by show (if (0 : Int) < 0 then _ else (0 : Int)) = if 11 = 24 ∨ hasN 11 = true then _ else (0 : Int); rw [if_neg (by decide), if_neg (by decide)])
  | 12, _ => exact (by show (if (0 : Int) < 0 then _ else (0 : Int)) = if 12 = 24 ∨ hasN 12 = true then _ else (0 : Int); rw [if_neg (by decide), if_neg (by decide)])
  | 13, _ =>
    have e1 : takeN 13 (isaForm 13).2.2.1 (isaForm 13).2.2.2 x = if (0 : Int) < 0 ∧ 31 < bits BinOp.and IntKind.u32 x 65535 then bits BinOp.and IntKind.u32 x 65535 - 65536 else bits BinOp.and IntKind.u32 x 65535 := if_pos (by decide)
    refine Eq.trans e1 (Eq.trans ?_ (if_pos (by decide)).symm)
    rw [m16]
    rw [if_neg (by omega), show refN 13 x = Int.tmod x 65536 from if_neg (fun h => h.1 (by decide)), t16]
  | 14, _ =>
    have e1 : takeN 14 (isaForm 14).2.2.1 (isaForm 14).2.2.2 x = if (0 : Int) < 0 ∧ 31 < bits BinOp.and IntKind.u32 x 65535 then bits BinOp.and IntKind.u32 x 65535 - 65536 else bits BinOp.and IntKind.u32 x 65535 := if_pos (by decide)
    refine Eq.trans e1 (Eq.trans ?_ (if_pos (by decide)).symm)
    rw [m16]
    rw [if_neg (by omega), show refN 14 x = Int.tmod x 65536 from if_neg (fun h => h.1 (by decide)), t16]
  | 15, _ =>
    have e1 : takeN 15 (isaForm 15).2.2.1 (isaForm 15).2.2.2 x = if (0 : Int) < 0 ∧ 31 < bits BinOp.and IntKind.u32 x 65535 then bits BinOp.and IntKind.u32 x 65535 - 65536 else bits BinOp.and IntKind.u32 x 65535 := if_pos (by decide)
    refine Eq.trans e1 (Eq.trans ?_ (if_pos (by decide)).symm)
    rw [m16]
    rw [if_neg (by omega), show refN 15 x = Int.tmod x 65536 from if_neg (fun h => h.1 (by decide)), t16]
  | 16, _ =>
    have e1 : takeN 16 (isaForm 16).2.2.1 (isaForm 16).2.2.2 x = if (-32768 : Int) < 0 ∧ 32767 < bits BinOp.and IntKind.u32 x 65535 then bits BinOp.and IntKind.u32 x 65535 - 65536 else bits BinOp.and IntKind.u32 x 65535 := if_pos (by decide)
    refine Eq.trans e1 (Eq.trans ?_ (if_pos (by decide)).symm)
    rw [m16]
    by_cases hh : Int.tmod x 65536 ≥ 32768
    · rw [show refN 16 x = wrap64 (Int.tmod x 65536 - 65536) from if_pos ⟨by decide, hh⟩, t16, w64 (by omega), if_pos (by omega)]
    · rw [show refN 16 x = Int.tmod x 65536 from if_neg (fun h => hh h.2), t16, if_neg (by omega)]
  | 17, _ =>
    have e1 : takeN 17 (isaForm 17).2.2.1 (isaForm 17).2.2.2 x = if (-32768 : Int) < 0 ∧ 32767 < bits BinOp.and IntKind.u32 x 65535 then bits BinOp.and IntKind.u32 x 65535 - 65536 else bits BinOp.and IntKind.u32 x 65535 := if_pos (by decide)
    refine Eq.trans e1 (Eq.trans ?_ (if_pos (by decide)).symm)
    rw [m16]
    by_cases hh : Int.tmod x 65536 ≥ 32768
    · rw [show refN 17 x = wrap64 (Int.tmod x 65536 - 65536) from if_pos ⟨by decide, hh⟩, t16, w64 (by omega), if_pos (by omega)]
    · rw [show refN 17 x = Int.tmod x 65536 from if_neg (fun h => hh h.2), t16, if_neg (by omega)]
  | 18, _ =>
    have e1 : takeN 18 (isaForm 18).2.2.1 (isaForm 18).2.2.2 x = if (-32768 : Int) < 0 ∧ 32767 < bits BinOp.and IntKind.u32 x 65535 then bits BinOp.and IntKind.u32 x 65535 - 65536 else bits BinOp.and IntKind.u32 x 65535 := if_pos (by decide)
    refine Eq.trans e1 (Eq.trans ?_ (if_pos (by decide)).symm)
    rw [m16]
    by_cases hh : Int.tmod x 65536 ≥ 32768
    · rw [show refN 18 x = wrap64 (Int.tmod x 65536 - 65536) from if_pos ⟨by decide, hh⟩, t16, w64 (by omega), if_pos (by omega)]
    · rw [show refN 18 x = Int.tmod x 65536 from if_neg (fun h => hh h.2), t16, if_neg (by omega)]
  | 19, _ =>
    have e1 : takeN 19 (isaForm 19).2.2.1 (isaForm 19).2.2.2 x = if (-32768 : Int) < 0 ∧ 32767 < bits BinOp.and IntKind.u32 x 65535 then bits BinOp.and IntKind.u32 x 65535 - 65536 else bits BinOp.and IntKind.u32 x 65535 := if_pos (by decide)
    refine Eq.trans e1 (Eq.trans ?_ (if_pos (by decide)).symm)
    rw [m16]
    by_cases hh : Int.tmod x 65536 ≥ 32768
    · rw [show refN 19 x = wrap64 (Int.tmod x 65536 - 65536) from if_pos ⟨by decide, hh⟩, t16, w64 (by omega), if_pos (by omega)]
    · rw [show refN 19 x = Int.tmod x 65536 from if_neg (fun h => hh h.2), t16, if_neg (by omega)]
  | 20, _ =>
    have e1 : takeN 20 (isaForm 20).2.2.1 (isaForm 20).2.2.2 x = if (-32768 : Int) < 0 ∧ 32767 < bits BinOp.and IntKind.u32 x 65535 then bits BinOp.and IntKind.u32 x 65535 - 65536 else bits BinOp.and IntKind.u32 x 65535 := if_pos (by decide)
    refine Eq.trans e1 (Eq.trans ?_ (if_pos (by decide)).symm)
    rw [m16]
    by_cases hh : Int.tmod x 65536 ≥ 32768
    · rw [show refN 20 x = wrap64 (Int.tmod x 65536 - 65536) from if_pos ⟨by decide, hh⟩, t16, w64 (by omega), if_pos (by omega)]
    · rw [show refN 20 x = Int.tmod x 65536 from if_neg (fun h => hh h.2), t16, if_neg (by omega)]
  | 21, _ =>
    have e1 : takeN 21 (isaForm 21).2.2.1 (isaForm 21).2.2.2 x = if (-32768 : Int) < 0 ∧ 32767 < bits BinOp.and IntKind.u32 x 65535 then bits BinOp.and IntKind.u32 x 65535 - 65536 else bits BinOp.and IntKind.u32 x 65535 := if_pos (by decide)
    refine Eq.trans e1 (Eq.trans ?_ (if_pos (by decide)).symm)
    rw [m16]
    by_cases hh : Int.tmod x 65536 ≥ 32768
    · rw [show refN 21 x = wrap64 (Int.tmod x 65536 - 65536) from if_pos ⟨by decide, hh⟩, t16, w64 (by omega), if_pos (by omega)]
    · rw [show refN 21 x = Int.tmod x 65536 from if_neg (fun h => hh h.2), t16, if_neg (by omega)]
  | 22, _ =>
    have e1 : takeN 22 (isaForm 22).2.2.1 (isaForm 22).2.2.2 x = if (-1048576 : Int) < 0 ∧ 1048575 < bits BinOp.and IntKind.u32 x 2097151 then bits BinOp.and IntKind.u32 x 2097151 - 2097152 else bits BinOp.and IntKind.u32 x 2097151 := if_pos (by decide)
    refine Eq.trans e1 (Eq.trans ?_ (if_pos (by decide)).symm)
    rw [m21]
    by_cases hh : Int.tmod x 2097152 ≥ 1048576
    · rw [show refN 22 x = wrap64 (Int.tmod x 2097152 - 2097152) from if_pos ⟨by decide, hh⟩, t21, w64 (by omega), if_pos (by omega)]
    · rw [show refN 22 x = Int.tmod x 2097152 from if_neg (fun h => hh h.2), t21, if_neg (by omega)]
  | 23, _ => exact (by show (if (0 : Int) < 0 then _ else (0 : Int)) = if 23 = 24 ∨ hasN 23 = true then _ else (0 : Int); rw [if_neg (by decide), if_neg (by decide)])
  | 24, _ =>
    have e1 : takeN 24 (isaForm 24).2.2.1 (isaForm 24).2.2.2 x = if (1 : Int) < 0 ∧ 4 < bits BinOp.and IntKind.u32 x 65535 then bits BinOp.and IntKind.u32 x 65535 - 65536 else bits BinOp.and IntKind.u32 x 65535 := if_pos (by decide)
    refine Eq.trans e1 (Eq.trans ?_ (if_pos (by decide)).symm)
    rw [m16]
    rw [if_neg (by omega), show refN 24 x = Int.tmod x 65536 from if_neg (fun h => h.1 (by decide)), t16]
  | n + 25, h => exact absurd h (by omega)
theorem formName (kk : Nat) (hk : kk < 25) : ¬ (isaForm kk).1 = ⟨#[]⟩ := by
  match kk, hk with
  | 0, _ => exact (by decide)
  | 1, _ => exact (by decide)
  | 2, _ => exact (by decide)
  | 3, _ => exact (by decide)
  | 4, _ => exact (by decide)
  | 5, _ => exact (by decide)
  | 6, _ => exact (by decide)
  | 7, _ => exact (by decide)
  | 8, _ => exact (by decide)
  | 9, _ => exact (by decide)
  | 10, _ => exact (by decide)
  | 11, _ => exact (by decide)
  | 12, _ => exact (by decide)
  | 13, _ => exact (by decide)
  | 14, _ => exact (by decide)
  | 15, _ => exact (by decide)
  | 16, _ => exact (by decide)
  | 17, _ => exact (by decide)
  | 18, _ => exact (by decide)
  | 19, _ => exact (by decide)
  | 20, _ => exact (by decide)
  | 21, _ => exact (by decide)
  | 22, _ => exact (by decide)
  | 23, _ => exact (by decide)
  | 24, _ => exact (by decide)
  | n + 25, h => exact absurd h (by omega)
theorem take_of {k D A B N x : Int} {kk : Nat} (hk : kk < 25) (hkk : k = (kk : Int)) (hr : isaRight k D A B N = true) (hx : isaPut k D A B N = x) (hx0 : 0 ≤ x ∧ x < 4294967296) (hq : x / 67108864 = k) (hN : takeN k (isaForm k).2.2.1 (isaForm k).2.2.2 x = N) (hg : takeGo x (isaOf k N).2.1.data.toList 0 0 0 0 = (D, A, B)) : isa_Take.f x = some (k, D, A, B, N, true) := by
  unfold isa_Take.f
  rw [if_pos hx0, hq, if_neg (by rw [hkk]; exact formName kk hk)]
  dsimp only
  rw [hN, hg]
  exact if_pos ⟨hr, hx⟩
theorem takePut_0 {D A B N : Int} (hr : isaRight 0 D A B N = true) : isa_Take.f (isaPut 0 D A B N) = some (0, D, A, B, N, true) := by
  have hs := hr
  rw [show (0 : Int) = ((0 : Nat) : Int) from rfl, isaRight_lit 0 (by decide)] at hs
  obtain ⟨hD, hA, hB, hn⟩ := says_0 (d := false) (a := false) (b := false) (lo := 0) (hi := 0) hs
  subst hn
  have hD2 := okR_f.1 hD
  have hA2 := okR_f.1 hA
  have hB2 := okR_f.1 hB
  have hsum := putGo_sum D A B [] 0 0 (0 % 65536 : Int).toNat (by decide) (by
    intro c hc
    simp only [List.mem_cons, List.not_mem_nil, or_false] at hc
    skip) (by decide) (by decide)
  have hst := start_sum 0 (by decide) 0
  rw [if_neg (by decide)] at hst
  have hv : isaPut 0 D A B 0 = ((67108864 * 0 + (0 % 65536 : Int).toNat : Nat) : Int) := by
    show putGo D A B [] 0 (putStart ((0 : Nat) : Int) 0) = _
    rw [hst]
    exact hsum
  obtain ⟨x, hx⟩ : ∃ x, isaPut 0 D A B 0 = x := ⟨_, rfl⟩
  rw [hx]
  rw [hx] at hv
  clear hsum hst
  have hx0 : 0 ≤ x ∧ x < 4294967296 := by omega
  have hTN := takeN_lit x hx0.1 hx0.2 0 (by decide)
  have hTR := takeRegs x hx0.1 hx0.2 0 0 (by decide)
  refine take_of (kk := 0) (by decide) rfl hr hx hx0 (by omega) ?_ ?_
  · exact hTN.trans (if_neg (by decide))
  · refine hTR.trans ?_
    show ((0, 0, 0) : Int × Int × Int) = (D, A, B)
    rw [hD2, hA2, hB2]
theorem takePut_1 {D A B N : Int} (hr : isaRight 1 D A B N = true) : isa_Take.f (isaPut 1 D A B N) = some (1, D, A, B, N, true) := by
  have hs := hr
  rw [show (1 : Int) = ((1 : Nat) : Int) from rfl, isaRight_lit 1 (by decide)] at hs
  obtain ⟨hD, hA, hB, hn1, hn2⟩ := says_n (d := true) (a := false) (b := false) (lo := -32768) (hi := 32767) hs
  have hD2 := okR_t.1 hD
  have hA2 := okR_f.1 hA
  have hB2 := okR_f.1 hB
  have hsum := putGo_sum D A B [68] 0 1 (N % 65536 : Int).toNat (by decide) (by
    intro c hc
    simp only [List.mem_cons, List.not_mem_nil, or_false] at hc
    obtain rfl := hc
    exact hD2) (by
    show (N % 65536 : Int).toNat < 2 ^ (26 - 5 * (0 + 1))
    rw [show (2 : Nat) ^ (26 - 5 * (0 + 1)) = 2097152 from rfl]
    omega) (by decide)
  have hst := start_sum 1 (by decide) N
  rw [if_neg (by decide)] at hst
  have hv : isaPut 1 D A B N = ((2097152 * (32 * 1 + D.toNat) + (N % 65536 : Int).toNat : Nat) : Int) := by
    show putGo D A B [68] 0 (putStart ((1 : Nat) : Int) N) = _
    rw [hst]
    exact hsum
  obtain ⟨x, hx⟩ : ∃ x, isaPut 1 D A B N = x := ⟨_, rfl⟩
  rw [hx]
  rw [hx] at hv
  clear hsum hst
  have hx0 : 0 ≤ x ∧ x < 4294967296 := by omega
  have hTN := takeN_lit x hx0.1 hx0.2 1 (by decide)
  have hTR := takeRegs x hx0.1 hx0.2 N 1 (by decide)
  refine take_of (kk := 1) (by decide) rfl hr hx hx0 (by omega) ?_ ?_
  · refine hTN.trans ((if_pos (by decide)).trans ?_)
    have tm : Int.tmod x 65536 = x % 65536 := Int.tmod_eq_emod_of_nonneg hx0.1
    by_cases hh : Int.tmod x 65536 ≥ 32768
    · rw [show refN 1 x = wrap64 (Int.tmod x 65536 - 65536) from if_pos ⟨by decide, hh⟩, tm, w64 (by omega)]
      omega
    · rw [show refN 1 x = Int.tmod x 65536 from if_neg (fun h => hh h.2), tm]
      omega
  · refine hTR.trans ?_
    show ((fieldT x 2097152, 0, 0) : Int × Int × Int) = (D, A, B)
    have f0 : fieldT x 2097152 = D := by
      unfold fieldT
      have hq0 : 0 ≤ x / 2097152 := Int.ediv_nonneg hx0.1 (by decide)
      rw [Int.tdiv_eq_ediv_of_nonneg hx0.1, w64 (by omega), Int.tmod_eq_emod_of_nonneg hq0]
      omega
    rw [f0, hA2, hB2]
theorem takePut_2 {D A B N : Int} (hr : isaRight 2 D A B N = true) : isa_Take.f (isaPut 2 D A B N) = some (2, D, A, B, N, true) := by
  have hs := hr
  rw [show (2 : Int) = ((2 : Nat) : Int) from rfl, isaRight_lit 2 (by decide)] at hs
  obtain ⟨hD, hA, hB, hn1, hn2⟩ := says_n (d := true) (a := false) (b := false) (lo := 0) (hi := 65535) hs
  have hD2 := okR_t.1 hD
  have hA2 := okR_f.1 hA
  have hB2 := okR_f.1 hB
  have hsum := putGo_sum D A B [68] 0 2 (N % 65536 : Int).toNat (by decide) (by
    intro c hc
    simp only [List.mem_cons, List.not_mem_nil, or_false] at hc
    obtain rfl := hc
    exact hD2) (by
    show (N % 65536 : Int).toNat < 2 ^ (26 - 5 * (0 + 1))
    rw [show (2 : Nat) ^ (26 - 5 * (0 + 1)) = 2097152 from rfl]
    omega) (by decide)
  have hst := start_sum 2 (by decide) N
  rw [if_neg (by decide)] at hst
  have hv : isaPut 2 D A B N = ((2097152 * (32 * 2 + D.toNat) + (N % 65536 : Int).toNat : Nat) : Int) := by
    show putGo D A B [68] 0 (putStart ((2 : Nat) : Int) N) = _
    rw [hst]
    exact hsum
  obtain ⟨x, hx⟩ : ∃ x, isaPut 2 D A B N = x := ⟨_, rfl⟩
  rw [hx]
  rw [hx] at hv
  clear hsum hst
  have hx0 : 0 ≤ x ∧ x < 4294967296 := by omega
  have hTN := takeN_lit x hx0.1 hx0.2 2 (by decide)
  have hTR := takeRegs x hx0.1 hx0.2 N 2 (by decide)
  refine take_of (kk := 2) (by decide) rfl hr hx hx0 (by omega) ?_ ?_
  · refine hTN.trans ((if_pos (by decide)).trans ?_)
    have tm : Int.tmod x 65536 = x % 65536 := Int.tmod_eq_emod_of_nonneg hx0.1
    rw [show refN 2 x = Int.tmod x 65536 from if_neg (fun h => h.1 (by decide)), tm]
    omega
  · refine hTR.trans ?_
    show ((fieldT x 2097152, 0, 0) : Int × Int × Int) = (D, A, B)
    have f0 : fieldT x 2097152 = D := by
      unfold fieldT
      have hq0 : 0 ≤ x / 2097152 := Int.ediv_nonneg hx0.1 (by decide)
      rw [Int.tdiv_eq_ediv_of_nonneg hx0.1, w64 (by omega), Int.tmod_eq_emod_of_nonneg hq0]
      omega
    rw [f0, hA2, hB2]
theorem takePut_3 {D A B N : Int} (hr : isaRight 3 D A B N = true) : isa_Take.f (isaPut 3 D A B N) = some (3, D, A, B, N, true) := by
  have hs := hr
  rw [show (3 : Int) = ((3 : Nat) : Int) from rfl, isaRight_lit 3 (by decide)] at hs
  obtain ⟨hD, hA, hB, hn1, hn2⟩ := says_n (d := true) (a := true) (b := false) (lo := 0) (hi := 65535) hs
  have hD2 := okR_t.1 hD
  have hA2 := okR_t.1 hA
  have hB2 := okR_f.1 hB
  have hsum := putGo_sum D A B [68, 65] 0 3 (N % 65536 : Int).toNat (by decide) (by
    intro c hc
    simp only [List.mem_cons, List.not_mem_nil, or_false] at hc
    rcases hc with rfl | rfl
    · exact hD2
    · exact hA2) (by
    show (N % 65536 : Int).toNat < 2 ^ (26 - 5 * (0 + 2))
    rw [show (2 : Nat) ^ (26 - 5 * (0 + 2)) = 65536 from rfl]
    omega) (by decide)
  have hst := start_sum 3 (by decide) N
  rw [if_neg (by decide)] at hst
  have hv : isaPut 3 D A B N = ((65536 * (32 * (32 * 3 + D.toNat) + A.toNat) + (N % 65536 : Int).toNat : Nat) : Int) := by
    show putGo D A B [68, 65] 0 (putStart ((3 : Nat) : Int) N) = _
    rw [hst]
    exact hsum
  obtain ⟨x, hx⟩ : ∃ x, isaPut 3 D A B N = x := ⟨_, rfl⟩
  rw [hx]
  rw [hx] at hv
  clear hsum hst
  have hx0 : 0 ≤ x ∧ x < 4294967296 := by omega
  have hTN := takeN_lit x hx0.1 hx0.2 3 (by decide)
  have hTR := takeRegs x hx0.1 hx0.2 N 3 (by decide)
  refine take_of (kk := 3) (by decide) rfl hr hx hx0 (by omega) ?_ ?_
  · refine hTN.trans ((if_pos (by decide)).trans ?_)
    have tm : Int.tmod x 65536 = x % 65536 := Int.tmod_eq_emod_of_nonneg hx0.1
    rw [show refN 3 x = Int.tmod x 65536 from if_neg (fun h => h.1 (by decide)), tm]
    omega
  · refine hTR.trans ?_
    show ((fieldT x 2097152, fieldT x 65536, 0) : Int × Int × Int) = (D, A, B)
    have f0 : fieldT x 2097152 = D := by
      unfold fieldT
      have hq0 : 0 ≤ x / 2097152 := Int.ediv_nonneg hx0.1 (by decide)
      rw [Int.tdiv_eq_ediv_of_nonneg hx0.1, w64 (by omega), Int.tmod_eq_emod_of_nonneg hq0]
      omega
    have f1 : fieldT x 65536 = A := by
      unfold fieldT
      have hq0 : 0 ≤ x / 65536 := Int.ediv_nonneg hx0.1 (by decide)
      rw [Int.tdiv_eq_ediv_of_nonneg hx0.1, w64 (by omega), Int.tmod_eq_emod_of_nonneg hq0]
      omega
    rw [f0, f1, hB2]
theorem takePut_4 {D A B N : Int} (hr : isaRight 4 D A B N = true) : isa_Take.f (isaPut 4 D A B N) = some (4, D, A, B, N, true) := by
  have hs := hr
  rw [show (4 : Int) = ((4 : Nat) : Int) from rfl, isaRight_lit 4 (by decide)] at hs
  obtain ⟨hD, hA, hB, hn⟩ := says_0 (d := true) (a := true) (b := true) (lo := 0) (hi := 0) hs
  subst hn
  have hD2 := okR_t.1 hD
  have hA2 := okR_t.1 hA
  have hB2 := okR_t.1 hB
  have hsum := putGo_sum D A B [68, 65, 66] 0 4 (0 % 65536 : Int).toNat (by decide) (by
    intro c hc
    simp only [List.mem_cons, List.not_mem_nil, or_false] at hc
    rcases hc with rfl | rfl | rfl
    · exact hD2
    · exact hA2
    · exact hB2) (by decide) (by decide)
  have hst := start_sum 4 (by decide) 0
  rw [if_neg (by decide)] at hst
  have hv : isaPut 4 D A B 0 = ((2048 * (32 * (32 * (32 * 4 + D.toNat) + A.toNat) + B.toNat) + (0 % 65536 : Int).toNat : Nat) : Int) := by
    show putGo D A B [68, 65, 66] 0 (putStart ((4 : Nat) : Int) 0) = _
    rw [hst]
    exact hsum
  obtain ⟨x, hx⟩ : ∃ x, isaPut 4 D A B 0 = x := ⟨_, rfl⟩
  rw [hx]
  rw [hx] at hv
  clear hsum hst
  have hx0 : 0 ≤ x ∧ x < 4294967296 := by omega
  have hTN := takeN_lit x hx0.1 hx0.2 4 (by decide)
  have hTR := takeRegs x hx0.1 hx0.2 0 4 (by decide)
  refine take_of (kk := 4) (by decide) rfl hr hx hx0 (by omega) ?_ ?_
  · exact hTN.trans (if_neg (by decide))
  · refine hTR.trans ?_
    show ((fieldT x 2097152, fieldT x 65536, fieldT x 2048) : Int × Int × Int) = (D, A, B)
    have f0 : fieldT x 2097152 = D := by
      unfold fieldT
      have hq0 : 0 ≤ x / 2097152 := Int.ediv_nonneg hx0.1 (by decide)
      rw [Int.tdiv_eq_ediv_of_nonneg hx0.1, w64 (by omega), Int.tmod_eq_emod_of_nonneg hq0]
      omega
    have f1 : fieldT x 65536 = A := by
      unfold fieldT
      have hq0 : 0 ≤ x / 65536 := Int.ediv_nonneg hx0.1 (by decide)
      rw [Int.tdiv_eq_ediv_of_nonneg hx0.1, w64 (by omega), Int.tmod_eq_emod_of_nonneg hq0]
      omega
    have f2 : fieldT x 2048 = B := by
      unfold fieldT
      have hq0 : 0 ≤ x / 2048 := Int.ediv_nonneg hx0.1 (by decide)
      rw [Int.tdiv_eq_ediv_of_nonneg hx0.1, w64 (by omega), Int.tmod_eq_emod_of_nonneg hq0]
      omega
    rw [f0, f1, f2]
theorem takePut_5 {D A B N : Int} (hr : isaRight 5 D A B N = true) : isa_Take.f (isaPut 5 D A B N) = some (5, D, A, B, N, true) := by
  have hs := hr
  rw [show (5 : Int) = ((5 : Nat) : Int) from rfl, isaRight_lit 5 (by decide)] at hs
  obtain ⟨hD, hA, hB, hn⟩ := says_0 (d := true) (a := true) (b := true) (lo := 0) (hi := 0) hs
  subst hn
  have hD2 := okR_t.1 hD
  have hA2 := okR_t.1 hA
  have hB2 := okR_t.1 hB
  have hsum := putGo_sum D A B [68, 65, 66] 0 5 (0 % 65536 : Int).toNat (by decide) (by
    intro c hc
    simp only [List.mem_cons, List.not_mem_nil, or_false] at hc
    rcases hc with rfl | rfl | rfl
    · exact hD2
    · exact hA2
    · exact hB2) (by decide) (by decide)
  have hst := start_sum 5 (by decide) 0
  rw [if_neg (by decide)] at hst
  have hv : isaPut 5 D A B 0 = ((2048 * (32 * (32 * (32 * 5 + D.toNat) + A.toNat) + B.toNat) + (0 % 65536 : Int).toNat : Nat) : Int) := by
    show putGo D A B [68, 65, 66] 0 (putStart ((5 : Nat) : Int) 0) = _
    rw [hst]
    exact hsum
  obtain ⟨x, hx⟩ : ∃ x, isaPut 5 D A B 0 = x := ⟨_, rfl⟩
  rw [hx]
  rw [hx] at hv
  clear hsum hst
  have hx0 : 0 ≤ x ∧ x < 4294967296 := by omega
  have hTN := takeN_lit x hx0.1 hx0.2 5 (by decide)
  have hTR := takeRegs x hx0.1 hx0.2 0 5 (by decide)
  refine take_of (kk := 5) (by decide) rfl hr hx hx0 (by omega) ?_ ?_
  · exact hTN.trans (if_neg (by decide))
  · refine hTR.trans ?_
    show ((fieldT x 2097152, fieldT x 65536, fieldT x 2048) : Int × Int × Int) = (D, A, B)
    have f0 : fieldT x 2097152 = D := by
      unfold fieldT
      have hq0 : 0 ≤ x / 2097152 := Int.ediv_nonneg hx0.1 (by decide)
      rw [Int.tdiv_eq_ediv_of_nonneg hx0.1, w64 (by omega), Int.tmod_eq_emod_of_nonneg hq0]
      omega
    have f1 : fieldT x 65536 = A := by
      unfold fieldT
      have hq0 : 0 ≤ x / 65536 := Int.ediv_nonneg hx0.1 (by decide)
      rw [Int.tdiv_eq_ediv_of_nonneg hx0.1, w64 (by omega), Int.tmod_eq_emod_of_nonneg hq0]
      omega
    have f2 : fieldT x 2048 = B := by
      unfold fieldT
      have hq0 : 0 ≤ x / 2048 := Int.ediv_nonneg hx0.1 (by decide)
      rw [Int.tdiv_eq_ediv_of_nonneg hx0.1, w64 (by omega), Int.tmod_eq_emod_of_nonneg hq0]
      omega
    rw [f0, f1, f2]
theorem takePut_6 {D A B N : Int} (hr : isaRight 6 D A B N = true) : isa_Take.f (isaPut 6 D A B N) = some (6, D, A, B, N, true) := by
  have hs := hr
  rw [show (6 : Int) = ((6 : Nat) : Int) from rfl, isaRight_lit 6 (by decide)] at hs
  obtain ⟨hD, hA, hB, hn⟩ := says_0 (d := true) (a := true) (b := true) (lo := 0) (hi := 0) hs
  subst hn
  have hD2 := okR_t.1 hD
  have hA2 := okR_t.1 hA
  have hB2 := okR_t.1 hB
  have hsum := putGo_sum D A B [68, 65, 66] 0 6 (0 % 65536 : Int).toNat (by decide) (by
    intro c hc
    simp only [List.mem_cons, List.not_mem_nil, or_false] at hc
    rcases hc with rfl | rfl | rfl
    · exact hD2
    · exact hA2
    · exact hB2) (by decide) (by decide)
  have hst := start_sum 6 (by decide) 0
  rw [if_neg (by decide)] at hst
  have hv : isaPut 6 D A B 0 = ((2048 * (32 * (32 * (32 * 6 + D.toNat) + A.toNat) + B.toNat) + (0 % 65536 : Int).toNat : Nat) : Int) := by
    show putGo D A B [68, 65, 66] 0 (putStart ((6 : Nat) : Int) 0) = _
    rw [hst]
    exact hsum
  obtain ⟨x, hx⟩ : ∃ x, isaPut 6 D A B 0 = x := ⟨_, rfl⟩
  rw [hx]
  rw [hx] at hv
  clear hsum hst
  have hx0 : 0 ≤ x ∧ x < 4294967296 := by omega
  have hTN := takeN_lit x hx0.1 hx0.2 6 (by decide)
  have hTR := takeRegs x hx0.1 hx0.2 0 6 (by decide)
  refine take_of (kk := 6) (by decide) rfl hr hx hx0 (by omega) ?_ ?_
  · exact hTN.trans (if_neg (by decide))
  · refine hTR.trans ?_
    show ((fieldT x 2097152, fieldT x 65536, fieldT x 2048) : Int × Int × Int) = (D, A, B)
    have f0 : fieldT x 2097152 = D := by
      unfold fieldT
      have hq0 : 0 ≤ x / 2097152 := Int.ediv_nonneg hx0.1 (by decide)
      rw [Int.tdiv_eq_ediv_of_nonneg hx0.1, w64 (by omega), Int.tmod_eq_emod_of_nonneg hq0]
      omega
    have f1 : fieldT x 65536 = A := by
      unfold fieldT
      have hq0 : 0 ≤ x / 65536 := Int.ediv_nonneg hx0.1 (by decide)
      rw [Int.tdiv_eq_ediv_of_nonneg hx0.1, w64 (by omega), Int.tmod_eq_emod_of_nonneg hq0]
      omega
    have f2 : fieldT x 2048 = B := by
      unfold fieldT
      have hq0 : 0 ≤ x / 2048 := Int.ediv_nonneg hx0.1 (by decide)
      rw [Int.tdiv_eq_ediv_of_nonneg hx0.1, w64 (by omega), Int.tmod_eq_emod_of_nonneg hq0]
      omega
    rw [f0, f1, f2]
theorem takePut_7 {D A B N : Int} (hr : isaRight 7 D A B N = true) : isa_Take.f (isaPut 7 D A B N) = some (7, D, A, B, N, true) := by
  have hs := hr
  rw [show (7 : Int) = ((7 : Nat) : Int) from rfl, isaRight_lit 7 (by decide)] at hs
  obtain ⟨hD, hA, hB, hn⟩ := says_0 (d := true) (a := true) (b := true) (lo := 0) (hi := 0) hs
  subst hn
  have hD2 := okR_t.1 hD
  have hA2 := okR_t.1 hA
  have hB2 := okR_t.1 hB
  have hsum := putGo_sum D A B [68, 65, 66] 0 7 (0 % 65536 : Int).toNat (by decide) (by
    intro c hc
    simp only [List.mem_cons, List.not_mem_nil, or_false] at hc
    rcases hc with rfl | rfl | rfl
    · exact hD2
    · exact hA2
    · exact hB2) (by decide) (by decide)
  have hst := start_sum 7 (by decide) 0
  rw [if_neg (by decide)] at hst
  have hv : isaPut 7 D A B 0 = ((2048 * (32 * (32 * (32 * 7 + D.toNat) + A.toNat) + B.toNat) + (0 % 65536 : Int).toNat : Nat) : Int) := by
    show putGo D A B [68, 65, 66] 0 (putStart ((7 : Nat) : Int) 0) = _
    rw [hst]
    exact hsum
  obtain ⟨x, hx⟩ : ∃ x, isaPut 7 D A B 0 = x := ⟨_, rfl⟩
  rw [hx]
  rw [hx] at hv
  clear hsum hst
  have hx0 : 0 ≤ x ∧ x < 4294967296 := by omega
  have hTN := takeN_lit x hx0.1 hx0.2 7 (by decide)
  have hTR := takeRegs x hx0.1 hx0.2 0 7 (by decide)
  refine take_of (kk := 7) (by decide) rfl hr hx hx0 (by omega) ?_ ?_
  · exact hTN.trans (if_neg (by decide))
  · refine hTR.trans ?_
    show ((fieldT x 2097152, fieldT x 65536, fieldT x 2048) : Int × Int × Int) = (D, A, B)
    have f0 : fieldT x 2097152 = D := by
      unfold fieldT
      have hq0 : 0 ≤ x / 2097152 := Int.ediv_nonneg hx0.1 (by decide)
      rw [Int.tdiv_eq_ediv_of_nonneg hx0.1, w64 (by omega), Int.tmod_eq_emod_of_nonneg hq0]
      omega
    have f1 : fieldT x 65536 = A := by
      unfold fieldT
      have hq0 : 0 ≤ x / 65536 := Int.ediv_nonneg hx0.1 (by decide)
      rw [Int.tdiv_eq_ediv_of_nonneg hx0.1, w64 (by omega), Int.tmod_eq_emod_of_nonneg hq0]
      omega
    have f2 : fieldT x 2048 = B := by
      unfold fieldT
      have hq0 : 0 ≤ x / 2048 := Int.ediv_nonneg hx0.1 (by decide)
      rw [Int.tdiv_eq_ediv_of_nonneg hx0.1, w64 (by omega), Int.tmod_eq_emod_of_nonneg hq0]
      omega
    rw [f0, f1, f2]
theorem takePut_8 {D A B N : Int} (hr : isaRight 8 D A B N = true) : isa_Take.f (isaPut 8 D A B N) = some (8, D, A, B, N, true) := by
  have hs := hr
  rw [show (8 : Int) = ((8 : Nat) : Int) from rfl, isaRight_lit 8 (by decide)] at hs
  obtain ⟨hD, hA, hB, hn⟩ := says_0 (d := true) (a := true) (b := true) (lo := 0) (hi := 0) hs
  subst hn
  have hD2 := okR_t.1 hD
  have hA2 := okR_t.1 hA
  have hB2 := okR_t.1 hB
  have hsum := putGo_sum D A B [68, 65, 66] 0 8 (0 % 65536 : Int).toNat (by decide) (by
    intro c hc
    simp only [List.mem_cons, List.not_mem_nil, or_false] at hc
    rcases hc with rfl | rfl | rfl
    · exact hD2
    · exact hA2
    · exact hB2) (by decide) (by decide)
  have hst := start_sum 8 (by decide) 0
  rw [if_neg (by decide)] at hst
  have hv : isaPut 8 D A B 0 = ((2048 * (32 * (32 * (32 * 8 + D.toNat) + A.toNat) + B.toNat) + (0 % 65536 : Int).toNat : Nat) : Int) := by
    show putGo D A B [68, 65, 66] 0 (putStart ((8 : Nat) : Int) 0) = _
    rw [hst]
    exact hsum
  obtain ⟨x, hx⟩ : ∃ x, isaPut 8 D A B 0 = x := ⟨_, rfl⟩
  rw [hx]
  rw [hx] at hv
  clear hsum hst
  have hx0 : 0 ≤ x ∧ x < 4294967296 := by omega
  have hTN := takeN_lit x hx0.1 hx0.2 8 (by decide)
  have hTR := takeRegs x hx0.1 hx0.2 0 8 (by decide)
  refine take_of (kk := 8) (by decide) rfl hr hx hx0 (by omega) ?_ ?_
  · exact hTN.trans (if_neg (by decide))
  · refine hTR.trans ?_
    show ((fieldT x 2097152, fieldT x 65536, fieldT x 2048) : Int × Int × Int) = (D, A, B)
    have f0 : fieldT x 2097152 = D := by
      unfold fieldT
      have hq0 : 0 ≤ x / 2097152 := Int.ediv_nonneg hx0.1 (by decide)
      rw [Int.tdiv_eq_ediv_of_nonneg hx0.1, w64 (by omega), Int.tmod_eq_emod_of_nonneg hq0]
      omega
    have f1 : fieldT x 65536 = A := by
      unfold fieldT
      have hq0 : 0 ≤ x / 65536 := Int.ediv_nonneg hx0.1 (by decide)
      rw [Int.tdiv_eq_ediv_of_nonneg hx0.1, w64 (by omega), Int.tmod_eq_emod_of_nonneg hq0]
      omega
    have f2 : fieldT x 2048 = B := by
      unfold fieldT
      have hq0 : 0 ≤ x / 2048 := Int.ediv_nonneg hx0.1 (by decide)
      rw [Int.tdiv_eq_ediv_of_nonneg hx0.1, w64 (by omega), Int.tmod_eq_emod_of_nonneg hq0]
      omega
    rw [f0, f1, f2]
theorem takePut_9 {D A B N : Int} (hr : isaRight 9 D A B N = true) : isa_Take.f (isaPut 9 D A B N) = some (9, D, A, B, N, true) := by
  have hs := hr
  rw [show (9 : Int) = ((9 : Nat) : Int) from rfl, isaRight_lit 9 (by decide)] at hs
  obtain ⟨hD, hA, hB, hn⟩ := says_0 (d := true) (a := true) (b := true) (lo := 0) (hi := 0) hs
  subst hn
  have hD2 := okR_t.1 hD
  have hA2 := okR_t.1 hA
  have hB2 := okR_t.1 hB
  have hsum := putGo_sum D A B [68, 65, 66] 0 9 (0 % 65536 : Int).toNat (by decide) (by
    intro c hc
    simp only [List.mem_cons, List.not_mem_nil, or_false] at hc
    rcases hc with rfl | rfl | rfl
    · exact hD2
    · exact hA2
    · exact hB2) (by decide) (by decide)
  have hst := start_sum 9 (by decide) 0
  rw [if_neg (by decide)] at hst
  have hv : isaPut 9 D A B 0 = ((2048 * (32 * (32 * (32 * 9 + D.toNat) + A.toNat) + B.toNat) + (0 % 65536 : Int).toNat : Nat) : Int) := by
    show putGo D A B [68, 65, 66] 0 (putStart ((9 : Nat) : Int) 0) = _
    rw [hst]
    exact hsum
  obtain ⟨x, hx⟩ : ∃ x, isaPut 9 D A B 0 = x := ⟨_, rfl⟩
  rw [hx]
  rw [hx] at hv
  clear hsum hst
  have hx0 : 0 ≤ x ∧ x < 4294967296 := by omega
  have hTN := takeN_lit x hx0.1 hx0.2 9 (by decide)
  have hTR := takeRegs x hx0.1 hx0.2 0 9 (by decide)
  refine take_of (kk := 9) (by decide) rfl hr hx hx0 (by omega) ?_ ?_
  · exact hTN.trans (if_neg (by decide))
  · refine hTR.trans ?_
    show ((fieldT x 2097152, fieldT x 65536, fieldT x 2048) : Int × Int × Int) = (D, A, B)
    have f0 : fieldT x 2097152 = D := by
      unfold fieldT
      have hq0 : 0 ≤ x / 2097152 := Int.ediv_nonneg hx0.1 (by decide)
      rw [Int.tdiv_eq_ediv_of_nonneg hx0.1, w64 (by omega), Int.tmod_eq_emod_of_nonneg hq0]
      omega
    have f1 : fieldT x 65536 = A := by
      unfold fieldT
      have hq0 : 0 ≤ x / 65536 := Int.ediv_nonneg hx0.1 (by decide)
      rw [Int.tdiv_eq_ediv_of_nonneg hx0.1, w64 (by omega), Int.tmod_eq_emod_of_nonneg hq0]
      omega
    have f2 : fieldT x 2048 = B := by
      unfold fieldT
      have hq0 : 0 ≤ x / 2048 := Int.ediv_nonneg hx0.1 (by decide)
      rw [Int.tdiv_eq_ediv_of_nonneg hx0.1, w64 (by omega), Int.tmod_eq_emod_of_nonneg hq0]
      omega
    rw [f0, f1, f2]
theorem takePut_10 {D A B N : Int} (hr : isaRight 10 D A B N = true) : isa_Take.f (isaPut 10 D A B N) = some (10, D, A, B, N, true) := by
  have hs := hr
  rw [show (10 : Int) = ((10 : Nat) : Int) from rfl, isaRight_lit 10 (by decide)] at hs
  obtain ⟨hD, hA, hB, hn⟩ := says_0 (d := true) (a := true) (b := true) (lo := 0) (hi := 0) hs
  subst hn
  have hD2 := okR_t.1 hD
  have hA2 := okR_t.1 hA
  have hB2 := okR_t.1 hB
  have hsum := putGo_sum D A B [68, 65, 66] 0 10 (0 % 65536 : Int).toNat (by decide) (by
    intro c hc
    simp only [List.mem_cons, List.not_mem_nil, or_false] at hc
    rcases hc with rfl | rfl | rfl
    · exact hD2
    · exact hA2
    · exact hB2) (by decide) (by decide)
  have hst := start_sum 10 (by decide) 0
  rw [if_neg (by decide)] at hst
  have hv : isaPut 10 D A B 0 = ((2048 * (32 * (32 * (32 * 10 + D.toNat) + A.toNat) + B.toNat) + (0 % 65536 : Int).toNat : Nat) : Int) := by
    show putGo D A B [68, 65, 66] 0 (putStart ((10 : Nat) : Int) 0) = _
    rw [hst]
    exact hsum
  obtain ⟨x, hx⟩ : ∃ x, isaPut 10 D A B 0 = x := ⟨_, rfl⟩
  rw [hx]
  rw [hx] at hv
  clear hsum hst
  have hx0 : 0 ≤ x ∧ x < 4294967296 := by omega
  have hTN := takeN_lit x hx0.1 hx0.2 10 (by decide)
  have hTR := takeRegs x hx0.1 hx0.2 0 10 (by decide)
  refine take_of (kk := 10) (by decide) rfl hr hx hx0 (by omega) ?_ ?_
  · exact hTN.trans (if_neg (by decide))
  · refine hTR.trans ?_
    show ((fieldT x 2097152, fieldT x 65536, fieldT x 2048) : Int × Int × Int) = (D, A, B)
    have f0 : fieldT x 2097152 = D := by
      unfold fieldT
      have hq0 : 0 ≤ x / 2097152 := Int.ediv_nonneg hx0.1 (by decide)
      rw [Int.tdiv_eq_ediv_of_nonneg hx0.1, w64 (by omega), Int.tmod_eq_emod_of_nonneg hq0]
      omega
    have f1 : fieldT x 65536 = A := by
      unfold fieldT
      have hq0 : 0 ≤ x / 65536 := Int.ediv_nonneg hx0.1 (by decide)
      rw [Int.tdiv_eq_ediv_of_nonneg hx0.1, w64 (by omega), Int.tmod_eq_emod_of_nonneg hq0]
      omega
    have f2 : fieldT x 2048 = B := by
      unfold fieldT
      have hq0 : 0 ≤ x / 2048 := Int.ediv_nonneg hx0.1 (by decide)
      rw [Int.tdiv_eq_ediv_of_nonneg hx0.1, w64 (by omega), Int.tmod_eq_emod_of_nonneg hq0]
      omega
    rw [f0, f1, f2]
theorem takePut_11 {D A B N : Int} (hr : isaRight 11 D A B N = true) : isa_Take.f (isaPut 11 D A B N) = some (11, D, A, B, N, true) := by
  have hs := hr
  rw [show (11 : Int) = ((11 : Nat) : Int) from rfl, isaRight_lit 11 (by decide)] at hs
  obtain ⟨hD, hA, hB, hn⟩ := says_0 (d := true) (a := true) (b := true) (lo := 0) (hi := 0) hs
  subst hn
  have hD2 := okR_t.1 hD
  have hA2 := okR_t.1 hA
  have hB2 := okR_t.1 hB
  have hsum := putGo_sum D A B [68, 65, 66] 0 11 (0 % 65536 : Int).toNat (by decide) (by
    intro c hc
    simp only [List.mem_cons, List.not_mem_nil, or_false] at hc
    rcases hc with rfl | rfl | rfl
    · exact hD2
    · exact hA2
    · exact hB2) (by decide) (by decide)
  have hst := start_sum 11 (by decide) 0
  rw [if_neg (by decide)] at hst
  have hv : isaPut 11 D A B 0 = ((2048 * (32 * (32 * (32 * 11 + D.toNat) + A.toNat) + B.toNat) + (0 % 65536 : Int).toNat : Nat) : Int) := by
    show putGo D A B [68, 65, 66] 0 (putStart ((11 : Nat) : Int) 0) = _
    rw [hst]
    exact hsum
  obtain ⟨x, hx⟩ : ∃ x, isaPut 11 D A B 0 = x := ⟨_, rfl⟩
  rw [hx]
  rw [hx] at hv
  clear hsum hst
  have hx0 : 0 ≤ x ∧ x < 4294967296 := by omega
  have hTN := takeN_lit x hx0.1 hx0.2 11 (by decide)
  have hTR := takeRegs x hx0.1 hx0.2 0 11 (by decide)
  refine take_of (kk := 11) (by decide) rfl hr hx hx0 (by omega) ?_ ?_
  · exact hTN.trans (if_neg (by decide))
  · refine hTR.trans ?_
    show ((fieldT x 2097152, fieldT x 65536, fieldT x 2048) : Int × Int × Int) = (D, A, B)
    have f0 : fieldT x 2097152 = D := by
      unfold fieldT
      have hq0 : 0 ≤ x / 2097152 := Int.ediv_nonneg hx0.1 (by decide)
      rw [Int.tdiv_eq_ediv_of_nonneg hx0.1, w64 (by omega), Int.tmod_eq_emod_of_nonneg hq0]
      omega
    have f1 : fieldT x 65536 = A := by
      unfold fieldT
      have hq0 : 0 ≤ x / 65536 := Int.ediv_nonneg hx0.1 (by decide)
      rw [Int.tdiv_eq_ediv_of_nonneg hx0.1, w64 (by omega), Int.tmod_eq_emod_of_nonneg hq0]
      omega
    have f2 : fieldT x 2048 = B := by
      unfold fieldT
      have hq0 : 0 ≤ x / 2048 := Int.ediv_nonneg hx0.1 (by decide)
      rw [Int.tdiv_eq_ediv_of_nonneg hx0.1, w64 (by omega), Int.tmod_eq_emod_of_nonneg hq0]
      omega
    rw [f0, f1, f2]
theorem takePut_12 {D A B N : Int} (hr : isaRight 12 D A B N = true) : isa_Take.f (isaPut 12 D A B N) = some (12, D, A, B, N, true) := by
  have hs := hr
  rw [show (12 : Int) = ((12 : Nat) : Int) from rfl, isaRight_lit 12 (by decide)] at hs
  obtain ⟨hD, hA, hB, hn⟩ := says_0 (d := true) (a := true) (b := true) (lo := 0) (hi := 0) hs
  subst hn
  have hD2 := okR_t.1 hD
  have hA2 := okR_t.1 hA
  have hB2 := okR_t.1 hB
  have hsum := putGo_sum D A B [68, 65, 66] 0 12 (0 % 65536 : Int).toNat (by decide) (by
    intro c hc
    simp only [List.mem_cons, List.not_mem_nil, or_false] at hc
    rcases hc with rfl | rfl | rfl
    · exact hD2
    · exact hA2
    · exact hB2) (by decide) (by decide)
  have hst := start_sum 12 (by decide) 0
  rw [if_neg (by decide)] at hst
  have hv : isaPut 12 D A B 0 = ((2048 * (32 * (32 * (32 * 12 + D.toNat) + A.toNat) + B.toNat) + (0 % 65536 : Int).toNat : Nat) : Int) := by
    show putGo D A B [68, 65, 66] 0 (putStart ((12 : Nat) : Int) 0) = _
    rw [hst]
    exact hsum
  obtain ⟨x, hx⟩ : ∃ x, isaPut 12 D A B 0 = x := ⟨_, rfl⟩
  rw [hx]
  rw [hx] at hv
  clear hsum hst
  have hx0 : 0 ≤ x ∧ x < 4294967296 := by omega
  have hTN := takeN_lit x hx0.1 hx0.2 12 (by decide)
  have hTR := takeRegs x hx0.1 hx0.2 0 12 (by decide)
  refine take_of (kk := 12) (by decide) rfl hr hx hx0 (by omega) ?_ ?_
  · exact hTN.trans (if_neg (by decide))
  · refine hTR.trans ?_
    show ((fieldT x 2097152, fieldT x 65536, fieldT x 2048) : Int × Int × Int) = (D, A, B)
    have f0 : fieldT x 2097152 = D := by
      unfold fieldT
      have hq0 : 0 ≤ x / 2097152 := Int.ediv_nonneg hx0.1 (by decide)
      rw [Int.tdiv_eq_ediv_of_nonneg hx0.1, w64 (by omega), Int.tmod_eq_emod_of_nonneg hq0]
      omega
    have f1 : fieldT x 65536 = A := by
      unfold fieldT
      have hq0 : 0 ≤ x / 65536 := Int.ediv_nonneg hx0.1 (by decide)
      rw [Int.tdiv_eq_ediv_of_nonneg hx0.1, w64 (by omega), Int.tmod_eq_emod_of_nonneg hq0]
      omega
    have f2 : fieldT x 2048 = B := by
      unfold fieldT
      have hq0 : 0 ≤ x / 2048 := Int.ediv_nonneg hx0.1 (by decide)
      rw [Int.tdiv_eq_ediv_of_nonneg hx0.1, w64 (by omega), Int.tmod_eq_emod_of_nonneg hq0]
      omega
    rw [f0, f1, f2]
theorem takePut_13 {D A B N : Int} (hr : isaRight 13 D A B N = true) : isa_Take.f (isaPut 13 D A B N) = some (13, D, A, B, N, true) := by
  have hs := hr
  rw [show (13 : Int) = ((13 : Nat) : Int) from rfl, isaRight_lit 13 (by decide)] at hs
  obtain ⟨hD, hA, hB, hn1, hn2⟩ := says_n (d := true) (a := true) (b := false) (lo := 0) (hi := 31) hs
  have hD2 := okR_t.1 hD
  have hA2 := okR_t.1 hA
  have hB2 := okR_f.1 hB
  have hsum := putGo_sum D A B [68, 65] 0 13 (N % 65536 : Int).toNat (by decide) (by
    intro c hc
    simp only [List.mem_cons, List.not_mem_nil, or_false] at hc
    rcases hc with rfl | rfl
    · exact hD2
    · exact hA2) (by
    show (N % 65536 : Int).toNat < 2 ^ (26 - 5 * (0 + 2))
    rw [show (2 : Nat) ^ (26 - 5 * (0 + 2)) = 65536 from rfl]
    omega) (by decide)
  have hst := start_sum 13 (by decide) N
  rw [if_neg (by decide)] at hst
  have hv : isaPut 13 D A B N = ((65536 * (32 * (32 * 13 + D.toNat) + A.toNat) + (N % 65536 : Int).toNat : Nat) : Int) := by
    show putGo D A B [68, 65] 0 (putStart ((13 : Nat) : Int) N) = _
    rw [hst]
    exact hsum
  obtain ⟨x, hx⟩ : ∃ x, isaPut 13 D A B N = x := ⟨_, rfl⟩
  rw [hx]
  rw [hx] at hv
  clear hsum hst
  have hx0 : 0 ≤ x ∧ x < 4294967296 := by omega
  have hTN := takeN_lit x hx0.1 hx0.2 13 (by decide)
  have hTR := takeRegs x hx0.1 hx0.2 N 13 (by decide)
  refine take_of (kk := 13) (by decide) rfl hr hx hx0 (by omega) ?_ ?_
  · refine hTN.trans ((if_pos (by decide)).trans ?_)
    have tm : Int.tmod x 65536 = x % 65536 := Int.tmod_eq_emod_of_nonneg hx0.1
    rw [show refN 13 x = Int.tmod x 65536 from if_neg (fun h => h.1 (by decide)), tm]
    omega
  · refine hTR.trans ?_
    show ((fieldT x 2097152, fieldT x 65536, 0) : Int × Int × Int) = (D, A, B)
    have f0 : fieldT x 2097152 = D := by
      unfold fieldT
      have hq0 : 0 ≤ x / 2097152 := Int.ediv_nonneg hx0.1 (by decide)
      rw [Int.tdiv_eq_ediv_of_nonneg hx0.1, w64 (by omega), Int.tmod_eq_emod_of_nonneg hq0]
      omega
    have f1 : fieldT x 65536 = A := by
      unfold fieldT
      have hq0 : 0 ≤ x / 65536 := Int.ediv_nonneg hx0.1 (by decide)
      rw [Int.tdiv_eq_ediv_of_nonneg hx0.1, w64 (by omega), Int.tmod_eq_emod_of_nonneg hq0]
      omega
    rw [f0, f1, hB2]
theorem takePut_14 {D A B N : Int} (hr : isaRight 14 D A B N = true) : isa_Take.f (isaPut 14 D A B N) = some (14, D, A, B, N, true) := by
  have hs := hr
  rw [show (14 : Int) = ((14 : Nat) : Int) from rfl, isaRight_lit 14 (by decide)] at hs
  obtain ⟨hD, hA, hB, hn1, hn2⟩ := says_n (d := true) (a := true) (b := false) (lo := 0) (hi := 31) hs
  have hD2 := okR_t.1 hD
  have hA2 := okR_t.1 hA
  have hB2 := okR_f.1 hB
  have hsum := putGo_sum D A B [68, 65] 0 14 (N % 65536 : Int).toNat (by decide) (by
    intro c hc
    simp only [List.mem_cons, List.not_mem_nil, or_false] at hc
    rcases hc with rfl | rfl
    · exact hD2
    · exact hA2) (by
    show (N % 65536 : Int).toNat < 2 ^ (26 - 5 * (0 + 2))
    rw [show (2 : Nat) ^ (26 - 5 * (0 + 2)) = 65536 from rfl]
    omega) (by decide)
  have hst := start_sum 14 (by decide) N
  rw [if_neg (by decide)] at hst
  have hv : isaPut 14 D A B N = ((65536 * (32 * (32 * 14 + D.toNat) + A.toNat) + (N % 65536 : Int).toNat : Nat) : Int) := by
    show putGo D A B [68, 65] 0 (putStart ((14 : Nat) : Int) N) = _
    rw [hst]
    exact hsum
  obtain ⟨x, hx⟩ : ∃ x, isaPut 14 D A B N = x := ⟨_, rfl⟩
  rw [hx]
  rw [hx] at hv
  clear hsum hst
  have hx0 : 0 ≤ x ∧ x < 4294967296 := by omega
  have hTN := takeN_lit x hx0.1 hx0.2 14 (by decide)
  have hTR := takeRegs x hx0.1 hx0.2 N 14 (by decide)
  refine take_of (kk := 14) (by decide) rfl hr hx hx0 (by omega) ?_ ?_
  · refine hTN.trans ((if_pos (by decide)).trans ?_)
    have tm : Int.tmod x 65536 = x % 65536 := Int.tmod_eq_emod_of_nonneg hx0.1
    rw [show refN 14 x = Int.tmod x 65536 from if_neg (fun h => h.1 (by decide)), tm]
    omega
  · refine hTR.trans ?_
    show ((fieldT x 2097152, fieldT x 65536, 0) : Int × Int × Int) = (D, A, B)
    have f0 : fieldT x 2097152 = D := by
      unfold fieldT
      have hq0 : 0 ≤ x / 2097152 := Int.ediv_nonneg hx0.1 (by decide)
      rw [Int.tdiv_eq_ediv_of_nonneg hx0.1, w64 (by omega), Int.tmod_eq_emod_of_nonneg hq0]
      omega
    have f1 : fieldT x 65536 = A := by
      unfold fieldT
      have hq0 : 0 ≤ x / 65536 := Int.ediv_nonneg hx0.1 (by decide)
      rw [Int.tdiv_eq_ediv_of_nonneg hx0.1, w64 (by omega), Int.tmod_eq_emod_of_nonneg hq0]
      omega
    rw [f0, f1, hB2]
theorem takePut_15 {D A B N : Int} (hr : isaRight 15 D A B N = true) : isa_Take.f (isaPut 15 D A B N) = some (15, D, A, B, N, true) := by
  have hs := hr
  rw [show (15 : Int) = ((15 : Nat) : Int) from rfl, isaRight_lit 15 (by decide)] at hs
  obtain ⟨hD, hA, hB, hn1, hn2⟩ := says_n (d := true) (a := true) (b := false) (lo := 0) (hi := 31) hs
  have hD2 := okR_t.1 hD
  have hA2 := okR_t.1 hA
  have hB2 := okR_f.1 hB
  have hsum := putGo_sum D A B [68, 65] 0 15 (N % 65536 : Int).toNat (by decide) (by
    intro c hc
    simp only [List.mem_cons, List.not_mem_nil, or_false] at hc
    rcases hc with rfl | rfl
    · exact hD2
    · exact hA2) (by
    show (N % 65536 : Int).toNat < 2 ^ (26 - 5 * (0 + 2))
    rw [show (2 : Nat) ^ (26 - 5 * (0 + 2)) = 65536 from rfl]
    omega) (by decide)
  have hst := start_sum 15 (by decide) N
  rw [if_neg (by decide)] at hst
  have hv : isaPut 15 D A B N = ((65536 * (32 * (32 * 15 + D.toNat) + A.toNat) + (N % 65536 : Int).toNat : Nat) : Int) := by
    show putGo D A B [68, 65] 0 (putStart ((15 : Nat) : Int) N) = _
    rw [hst]
    exact hsum
  obtain ⟨x, hx⟩ : ∃ x, isaPut 15 D A B N = x := ⟨_, rfl⟩
  rw [hx]
  rw [hx] at hv
  clear hsum hst
  have hx0 : 0 ≤ x ∧ x < 4294967296 := by omega
  have hTN := takeN_lit x hx0.1 hx0.2 15 (by decide)
  have hTR := takeRegs x hx0.1 hx0.2 N 15 (by decide)
  refine take_of (kk := 15) (by decide) rfl hr hx hx0 (by omega) ?_ ?_
  · refine hTN.trans ((if_pos (by decide)).trans ?_)
    have tm : Int.tmod x 65536 = x % 65536 := Int.tmod_eq_emod_of_nonneg hx0.1
    rw [show refN 15 x = Int.tmod x 65536 from if_neg (fun h => h.1 (by decide)), tm]
    omega
  · refine hTR.trans ?_
    show ((fieldT x 2097152, fieldT x 65536, 0) : Int × Int × Int) = (D, A, B)
    have f0 : fieldT x 2097152 = D := by
      unfold fieldT
      have hq0 : 0 ≤ x / 2097152 := Int.ediv_nonneg hx0.1 (by decide)
      rw [Int.tdiv_eq_ediv_of_nonneg hx0.1, w64 (by omega), Int.tmod_eq_emod_of_nonneg hq0]
      omega
    have f1 : fieldT x 65536 = A := by
      unfold fieldT
      have hq0 : 0 ≤ x / 65536 := Int.ediv_nonneg hx0.1 (by decide)
      rw [Int.tdiv_eq_ediv_of_nonneg hx0.1, w64 (by omega), Int.tmod_eq_emod_of_nonneg hq0]
      omega
    rw [f0, f1, hB2]
theorem takePut_16 {D A B N : Int} (hr : isaRight 16 D A B N = true) : isa_Take.f (isaPut 16 D A B N) = some (16, D, A, B, N, true) := by
  have hs := hr
  rw [show (16 : Int) = ((16 : Nat) : Int) from rfl, isaRight_lit 16 (by decide)] at hs
  obtain ⟨hD, hA, hB, hn1, hn2⟩ := says_n (d := true) (a := true) (b := false) (lo := -32768) (hi := 32767) hs
  have hD2 := okR_t.1 hD
  have hA2 := okR_t.1 hA
  have hB2 := okR_f.1 hB
  have hsum := putGo_sum D A B [68, 65] 0 16 (N % 65536 : Int).toNat (by decide) (by
    intro c hc
    simp only [List.mem_cons, List.not_mem_nil, or_false] at hc
    rcases hc with rfl | rfl
    · exact hD2
    · exact hA2) (by
    show (N % 65536 : Int).toNat < 2 ^ (26 - 5 * (0 + 2))
    rw [show (2 : Nat) ^ (26 - 5 * (0 + 2)) = 65536 from rfl]
    omega) (by decide)
  have hst := start_sum 16 (by decide) N
  rw [if_neg (by decide)] at hst
  have hv : isaPut 16 D A B N = ((65536 * (32 * (32 * 16 + D.toNat) + A.toNat) + (N % 65536 : Int).toNat : Nat) : Int) := by
    show putGo D A B [68, 65] 0 (putStart ((16 : Nat) : Int) N) = _
    rw [hst]
    exact hsum
  obtain ⟨x, hx⟩ : ∃ x, isaPut 16 D A B N = x := ⟨_, rfl⟩
  rw [hx]
  rw [hx] at hv
  clear hsum hst
  have hx0 : 0 ≤ x ∧ x < 4294967296 := by omega
  have hTN := takeN_lit x hx0.1 hx0.2 16 (by decide)
  have hTR := takeRegs x hx0.1 hx0.2 N 16 (by decide)
  refine take_of (kk := 16) (by decide) rfl hr hx hx0 (by omega) ?_ ?_
  · refine hTN.trans ((if_pos (by decide)).trans ?_)
    have tm : Int.tmod x 65536 = x % 65536 := Int.tmod_eq_emod_of_nonneg hx0.1
    by_cases hh : Int.tmod x 65536 ≥ 32768
    · rw [show refN 16 x = wrap64 (Int.tmod x 65536 - 65536) from if_pos ⟨by decide, hh⟩, tm, w64 (by omega)]
      omega
    · rw [show refN 16 x = Int.tmod x 65536 from if_neg (fun h => hh h.2), tm]
      omega
  · refine hTR.trans ?_
    show ((fieldT x 2097152, fieldT x 65536, 0) : Int × Int × Int) = (D, A, B)
    have f0 : fieldT x 2097152 = D := by
      unfold fieldT
      have hq0 : 0 ≤ x / 2097152 := Int.ediv_nonneg hx0.1 (by decide)
      rw [Int.tdiv_eq_ediv_of_nonneg hx0.1, w64 (by omega), Int.tmod_eq_emod_of_nonneg hq0]
      omega
    have f1 : fieldT x 65536 = A := by
      unfold fieldT
      have hq0 : 0 ≤ x / 65536 := Int.ediv_nonneg hx0.1 (by decide)
      rw [Int.tdiv_eq_ediv_of_nonneg hx0.1, w64 (by omega), Int.tmod_eq_emod_of_nonneg hq0]
      omega
    rw [f0, f1, hB2]
theorem takePut_17 {D A B N : Int} (hr : isaRight 17 D A B N = true) : isa_Take.f (isaPut 17 D A B N) = some (17, D, A, B, N, true) := by
  have hs := hr
  rw [show (17 : Int) = ((17 : Nat) : Int) from rfl, isaRight_lit 17 (by decide)] at hs
  obtain ⟨hD, hA, hB, hn1, hn2⟩ := says_n (d := true) (a := true) (b := false) (lo := -32768) (hi := 32767) hs
  have hD2 := okR_t.1 hD
  have hA2 := okR_t.1 hA
  have hB2 := okR_f.1 hB
  have hsum := putGo_sum D A B [68, 65] 0 17 (N % 65536 : Int).toNat (by decide) (by
    intro c hc
    simp only [List.mem_cons, List.not_mem_nil, or_false] at hc
    rcases hc with rfl | rfl
    · exact hD2
    · exact hA2) (by
    show (N % 65536 : Int).toNat < 2 ^ (26 - 5 * (0 + 2))
    rw [show (2 : Nat) ^ (26 - 5 * (0 + 2)) = 65536 from rfl]
    omega) (by decide)
  have hst := start_sum 17 (by decide) N
  rw [if_neg (by decide)] at hst
  have hv : isaPut 17 D A B N = ((65536 * (32 * (32 * 17 + D.toNat) + A.toNat) + (N % 65536 : Int).toNat : Nat) : Int) := by
    show putGo D A B [68, 65] 0 (putStart ((17 : Nat) : Int) N) = _
    rw [hst]
    exact hsum
  obtain ⟨x, hx⟩ : ∃ x, isaPut 17 D A B N = x := ⟨_, rfl⟩
  rw [hx]
  rw [hx] at hv
  clear hsum hst
  have hx0 : 0 ≤ x ∧ x < 4294967296 := by omega
  have hTN := takeN_lit x hx0.1 hx0.2 17 (by decide)
  have hTR := takeRegs x hx0.1 hx0.2 N 17 (by decide)
  refine take_of (kk := 17) (by decide) rfl hr hx hx0 (by omega) ?_ ?_
  · refine hTN.trans ((if_pos (by decide)).trans ?_)
    have tm : Int.tmod x 65536 = x % 65536 := Int.tmod_eq_emod_of_nonneg hx0.1
    by_cases hh : Int.tmod x 65536 ≥ 32768
    · rw [show refN 17 x = wrap64 (Int.tmod x 65536 - 65536) from if_pos ⟨by decide, hh⟩, tm, w64 (by omega)]
      omega
    · rw [show refN 17 x = Int.tmod x 65536 from if_neg (fun h => hh h.2), tm]
      omega
  · refine hTR.trans ?_
    show ((fieldT x 2097152, fieldT x 65536, 0) : Int × Int × Int) = (D, A, B)
    have f0 : fieldT x 2097152 = D := by
      unfold fieldT
      have hq0 : 0 ≤ x / 2097152 := Int.ediv_nonneg hx0.1 (by decide)
      rw [Int.tdiv_eq_ediv_of_nonneg hx0.1, w64 (by omega), Int.tmod_eq_emod_of_nonneg hq0]
      omega
    have f1 : fieldT x 65536 = A := by
      unfold fieldT
      have hq0 : 0 ≤ x / 65536 := Int.ediv_nonneg hx0.1 (by decide)
      rw [Int.tdiv_eq_ediv_of_nonneg hx0.1, w64 (by omega), Int.tmod_eq_emod_of_nonneg hq0]
      omega
    rw [f0, f1, hB2]
theorem takePut_18 {D A B N : Int} (hr : isaRight 18 D A B N = true) : isa_Take.f (isaPut 18 D A B N) = some (18, D, A, B, N, true) := by
  have hs := hr
  rw [show (18 : Int) = ((18 : Nat) : Int) from rfl, isaRight_lit 18 (by decide)] at hs
  obtain ⟨hD, hA, hB, hn1, hn2⟩ := says_n (d := false) (a := true) (b := true) (lo := -32768) (hi := 32767) hs
  have hD2 := okR_f.1 hD
  have hA2 := okR_t.1 hA
  have hB2 := okR_t.1 hB
  have hsum := putGo_sum D A B [66, 65] 0 18 (N % 65536 : Int).toNat (by decide) (by
    intro c hc
    simp only [List.mem_cons, List.not_mem_nil, or_false] at hc
    rcases hc with rfl | rfl
    · exact hB2
    · exact hA2) (by
    show (N % 65536 : Int).toNat < 2 ^ (26 - 5 * (0 + 2))
    rw [show (2 : Nat) ^ (26 - 5 * (0 + 2)) = 65536 from rfl]
    omega) (by decide)
  have hst := start_sum 18 (by decide) N
  rw [if_neg (by decide)] at hst
  have hv : isaPut 18 D A B N = ((65536 * (32 * (32 * 18 + B.toNat) + A.toNat) + (N % 65536 : Int).toNat : Nat) : Int) := by
    show putGo D A B [66, 65] 0 (putStart ((18 : Nat) : Int) N) = _
    rw [hst]
    exact hsum
  obtain ⟨x, hx⟩ : ∃ x, isaPut 18 D A B N = x := ⟨_, rfl⟩
  rw [hx]
  rw [hx] at hv
  clear hsum hst
  have hx0 : 0 ≤ x ∧ x < 4294967296 := by omega
  have hTN := takeN_lit x hx0.1 hx0.2 18 (by decide)
  have hTR := takeRegs x hx0.1 hx0.2 N 18 (by decide)
  refine take_of (kk := 18) (by decide) rfl hr hx hx0 (by omega) ?_ ?_
  · refine hTN.trans ((if_pos (by decide)).trans ?_)
    have tm : Int.tmod x 65536 = x % 65536 := Int.tmod_eq_emod_of_nonneg hx0.1
    by_cases hh : Int.tmod x 65536 ≥ 32768
    · rw [show refN 18 x = wrap64 (Int.tmod x 65536 - 65536) from if_pos ⟨by decide, hh⟩, tm, w64 (by omega)]
      omega
    · rw [show refN 18 x = Int.tmod x 65536 from if_neg (fun h => hh h.2), tm]
      omega
  · refine hTR.trans ?_
    show ((0, fieldT x 65536, fieldT x 2097152) : Int × Int × Int) = (D, A, B)
    have f0 : fieldT x 2097152 = B := by
      unfold fieldT
      have hq0 : 0 ≤ x / 2097152 := Int.ediv_nonneg hx0.1 (by decide)
      rw [Int.tdiv_eq_ediv_of_nonneg hx0.1, w64 (by omega), Int.tmod_eq_emod_of_nonneg hq0]
      omega
    have f1 : fieldT x 65536 = A := by
      unfold fieldT
      have hq0 : 0 ≤ x / 65536 := Int.ediv_nonneg hx0.1 (by decide)
      rw [Int.tdiv_eq_ediv_of_nonneg hx0.1, w64 (by omega), Int.tmod_eq_emod_of_nonneg hq0]
      omega
    rw [f0, f1, hD2]
theorem takePut_19 {D A B N : Int} (hr : isaRight 19 D A B N = true) : isa_Take.f (isaPut 19 D A B N) = some (19, D, A, B, N, true) := by
  have hs := hr
  rw [show (19 : Int) = ((19 : Nat) : Int) from rfl, isaRight_lit 19 (by decide)] at hs
  obtain ⟨hD, hA, hB, hn1, hn2⟩ := says_n (d := false) (a := true) (b := true) (lo := -32768) (hi := 32767) hs
  have hD2 := okR_f.1 hD
  have hA2 := okR_t.1 hA
  have hB2 := okR_t.1 hB
  have hsum := putGo_sum D A B [65, 66] 0 19 (N % 65536 : Int).toNat (by decide) (by
    intro c hc
    simp only [List.mem_cons, List.not_mem_nil, or_false] at hc
    rcases hc with rfl | rfl
    · exact hA2
    · exact hB2) (by
    show (N % 65536 : Int).toNat < 2 ^ (26 - 5 * (0 + 2))
    rw [show (2 : Nat) ^ (26 - 5 * (0 + 2)) = 65536 from rfl]
    omega) (by decide)
  have hst := start_sum 19 (by decide) N
  rw [if_neg (by decide)] at hst
  have hv : isaPut 19 D A B N = ((65536 * (32 * (32 * 19 + A.toNat) + B.toNat) + (N % 65536 : Int).toNat : Nat) : Int) := by
    show putGo D A B [65, 66] 0 (putStart ((19 : Nat) : Int) N) = _
    rw [hst]
    exact hsum
  obtain ⟨x, hx⟩ : ∃ x, isaPut 19 D A B N = x := ⟨_, rfl⟩
  rw [hx]
  rw [hx] at hv
  clear hsum hst
  have hx0 : 0 ≤ x ∧ x < 4294967296 := by omega
  have hTN := takeN_lit x hx0.1 hx0.2 19 (by decide)
  have hTR := takeRegs x hx0.1 hx0.2 N 19 (by decide)
  refine take_of (kk := 19) (by decide) rfl hr hx hx0 (by omega) ?_ ?_
  · refine hTN.trans ((if_pos (by decide)).trans ?_)
    have tm : Int.tmod x 65536 = x % 65536 := Int.tmod_eq_emod_of_nonneg hx0.1
    by_cases hh : Int.tmod x 65536 ≥ 32768
    · rw [show refN 19 x = wrap64 (Int.tmod x 65536 - 65536) from if_pos ⟨by decide, hh⟩, tm, w64 (by omega)]
      omega
    · rw [show refN 19 x = Int.tmod x 65536 from if_neg (fun h => hh h.2), tm]
      omega
  · refine hTR.trans ?_
    show ((0, fieldT x 2097152, fieldT x 65536) : Int × Int × Int) = (D, A, B)
    have f0 : fieldT x 2097152 = A := by
      unfold fieldT
      have hq0 : 0 ≤ x / 2097152 := Int.ediv_nonneg hx0.1 (by decide)
      rw [Int.tdiv_eq_ediv_of_nonneg hx0.1, w64 (by omega), Int.tmod_eq_emod_of_nonneg hq0]
      omega
    have f1 : fieldT x 65536 = B := by
      unfold fieldT
      have hq0 : 0 ≤ x / 65536 := Int.ediv_nonneg hx0.1 (by decide)
      rw [Int.tdiv_eq_ediv_of_nonneg hx0.1, w64 (by omega), Int.tmod_eq_emod_of_nonneg hq0]
      omega
    rw [f0, f1, hD2]
theorem takePut_20 {D A B N : Int} (hr : isaRight 20 D A B N = true) : isa_Take.f (isaPut 20 D A B N) = some (20, D, A, B, N, true) := by
  have hs := hr
  rw [show (20 : Int) = ((20 : Nat) : Int) from rfl, isaRight_lit 20 (by decide)] at hs
  obtain ⟨hD, hA, hB, hn1, hn2⟩ := says_n (d := false) (a := true) (b := true) (lo := -32768) (hi := 32767) hs
  have hD2 := okR_f.1 hD
  have hA2 := okR_t.1 hA
  have hB2 := okR_t.1 hB
  have hsum := putGo_sum D A B [65, 66] 0 20 (N % 65536 : Int).toNat (by decide) (by
    intro c hc
    simp only [List.mem_cons, List.not_mem_nil, or_false] at hc
    rcases hc with rfl | rfl
    · exact hA2
    · exact hB2) (by
    show (N % 65536 : Int).toNat < 2 ^ (26 - 5 * (0 + 2))
    rw [show (2 : Nat) ^ (26 - 5 * (0 + 2)) = 65536 from rfl]
    omega) (by decide)
  have hst := start_sum 20 (by decide) N
  rw [if_neg (by decide)] at hst
  have hv : isaPut 20 D A B N = ((65536 * (32 * (32 * 20 + A.toNat) + B.toNat) + (N % 65536 : Int).toNat : Nat) : Int) := by
    show putGo D A B [65, 66] 0 (putStart ((20 : Nat) : Int) N) = _
    rw [hst]
    exact hsum
  obtain ⟨x, hx⟩ : ∃ x, isaPut 20 D A B N = x := ⟨_, rfl⟩
  rw [hx]
  rw [hx] at hv
  clear hsum hst
  have hx0 : 0 ≤ x ∧ x < 4294967296 := by omega
  have hTN := takeN_lit x hx0.1 hx0.2 20 (by decide)
  have hTR := takeRegs x hx0.1 hx0.2 N 20 (by decide)
  refine take_of (kk := 20) (by decide) rfl hr hx hx0 (by omega) ?_ ?_
  · refine hTN.trans ((if_pos (by decide)).trans ?_)
    have tm : Int.tmod x 65536 = x % 65536 := Int.tmod_eq_emod_of_nonneg hx0.1
    by_cases hh : Int.tmod x 65536 ≥ 32768
    · rw [show refN 20 x = wrap64 (Int.tmod x 65536 - 65536) from if_pos ⟨by decide, hh⟩, tm, w64 (by omega)]
      omega
    · rw [show refN 20 x = Int.tmod x 65536 from if_neg (fun h => hh h.2), tm]
      omega
  · refine hTR.trans ?_
    show ((0, fieldT x 2097152, fieldT x 65536) : Int × Int × Int) = (D, A, B)
    have f0 : fieldT x 2097152 = A := by
      unfold fieldT
      have hq0 : 0 ≤ x / 2097152 := Int.ediv_nonneg hx0.1 (by decide)
      rw [Int.tdiv_eq_ediv_of_nonneg hx0.1, w64 (by omega), Int.tmod_eq_emod_of_nonneg hq0]
      omega
    have f1 : fieldT x 65536 = B := by
      unfold fieldT
      have hq0 : 0 ≤ x / 65536 := Int.ediv_nonneg hx0.1 (by decide)
      rw [Int.tdiv_eq_ediv_of_nonneg hx0.1, w64 (by omega), Int.tmod_eq_emod_of_nonneg hq0]
      omega
    rw [f0, f1, hD2]
theorem takePut_21 {D A B N : Int} (hr : isaRight 21 D A B N = true) : isa_Take.f (isaPut 21 D A B N) = some (21, D, A, B, N, true) := by
  have hs := hr
  rw [show (21 : Int) = ((21 : Nat) : Int) from rfl, isaRight_lit 21 (by decide)] at hs
  obtain ⟨hD, hA, hB, hn1, hn2⟩ := says_n (d := false) (a := true) (b := true) (lo := -32768) (hi := 32767) hs
  have hD2 := okR_f.1 hD
  have hA2 := okR_t.1 hA
  have hB2 := okR_t.1 hB
  have hsum := putGo_sum D A B [65, 66] 0 21 (N % 65536 : Int).toNat (by decide) (by
    intro c hc
    simp only [List.mem_cons, List.not_mem_nil, or_false] at hc
    rcases hc with rfl | rfl
    · exact hA2
    · exact hB2) (by
    show (N % 65536 : Int).toNat < 2 ^ (26 - 5 * (0 + 2))
    rw [show (2 : Nat) ^ (26 - 5 * (0 + 2)) = 65536 from rfl]
    omega) (by decide)
  have hst := start_sum 21 (by decide) N
  rw [if_neg (by decide)] at hst
  have hv : isaPut 21 D A B N = ((65536 * (32 * (32 * 21 + A.toNat) + B.toNat) + (N % 65536 : Int).toNat : Nat) : Int) := by
    show putGo D A B [65, 66] 0 (putStart ((21 : Nat) : Int) N) = _
    rw [hst]
    exact hsum
  obtain ⟨x, hx⟩ : ∃ x, isaPut 21 D A B N = x := ⟨_, rfl⟩
  rw [hx]
  rw [hx] at hv
  clear hsum hst
  have hx0 : 0 ≤ x ∧ x < 4294967296 := by omega
  have hTN := takeN_lit x hx0.1 hx0.2 21 (by decide)
  have hTR := takeRegs x hx0.1 hx0.2 N 21 (by decide)
  refine take_of (kk := 21) (by decide) rfl hr hx hx0 (by omega) ?_ ?_
  · refine hTN.trans ((if_pos (by decide)).trans ?_)
    have tm : Int.tmod x 65536 = x % 65536 := Int.tmod_eq_emod_of_nonneg hx0.1
    by_cases hh : Int.tmod x 65536 ≥ 32768
    · rw [show refN 21 x = wrap64 (Int.tmod x 65536 - 65536) from if_pos ⟨by decide, hh⟩, tm, w64 (by omega)]
      omega
    · rw [show refN 21 x = Int.tmod x 65536 from if_neg (fun h => hh h.2), tm]
      omega
  · refine hTR.trans ?_
    show ((0, fieldT x 2097152, fieldT x 65536) : Int × Int × Int) = (D, A, B)
    have f0 : fieldT x 2097152 = A := by
      unfold fieldT
      have hq0 : 0 ≤ x / 2097152 := Int.ediv_nonneg hx0.1 (by decide)
      rw [Int.tdiv_eq_ediv_of_nonneg hx0.1, w64 (by omega), Int.tmod_eq_emod_of_nonneg hq0]
      omega
    have f1 : fieldT x 65536 = B := by
      unfold fieldT
      have hq0 : 0 ≤ x / 65536 := Int.ediv_nonneg hx0.1 (by decide)
      rw [Int.tdiv_eq_ediv_of_nonneg hx0.1, w64 (by omega), Int.tmod_eq_emod_of_nonneg hq0]
      omega
    rw [f0, f1, hD2]
theorem takePut_22 {D A B N : Int} (hr : isaRight 22 D A B N = true) : isa_Take.f (isaPut 22 D A B N) = some (22, D, A, B, N, true) := by
  have hs := hr
  rw [show (22 : Int) = ((22 : Nat) : Int) from rfl, isaRight_lit 22 (by decide)] at hs
  obtain ⟨hD, hA, hB, hn1, hn2⟩ := says_n (d := true) (a := false) (b := false) (lo := -1048576) (hi := 1048575) hs
  have hD2 := okR_t.1 hD
  have hA2 := okR_f.1 hA
  have hB2 := okR_f.1 hB
  have hsum := putGo_sum D A B [68] 0 22 (N % 2097152 : Int).toNat (by decide) (by
    intro c hc
    simp only [List.mem_cons, List.not_mem_nil, or_false] at hc
    obtain rfl := hc
    exact hD2) (by
    show (N % 2097152 : Int).toNat < 2 ^ (26 - 5 * (0 + 1))
    rw [show (2 : Nat) ^ (26 - 5 * (0 + 1)) = 2097152 from rfl]
    omega) (by decide)
  have hst := start_sum 22 (by decide) N
  rw [if_pos (by decide)] at hst
  have hv : isaPut 22 D A B N = ((2097152 * (32 * 22 + D.toNat) + (N % 2097152 : Int).toNat : Nat) : Int) := by
    show putGo D A B [68] 0 (putStart ((22 : Nat) : Int) N) = _
    rw [hst]
    exact hsum
  obtain ⟨x, hx⟩ : ∃ x, isaPut 22 D A B N = x := ⟨_, rfl⟩
  rw [hx]
  rw [hx] at hv
  clear hsum hst
  have hx0 : 0 ≤ x ∧ x < 4294967296 := by omega
  have hTN := takeN_lit x hx0.1 hx0.2 22 (by decide)
  have hTR := takeRegs x hx0.1 hx0.2 N 22 (by decide)
  refine take_of (kk := 22) (by decide) rfl hr hx hx0 (by omega) ?_ ?_
  · refine hTN.trans ((if_pos (by decide)).trans ?_)
    have tm : Int.tmod x 2097152 = x % 2097152 := Int.tmod_eq_emod_of_nonneg hx0.1
    by_cases hh : Int.tmod x 2097152 ≥ 1048576
    · rw [show refN 22 x = wrap64 (Int.tmod x 2097152 - 2097152) from if_pos ⟨by decide, hh⟩, tm, w64 (by omega)]
      omega
    · rw [show refN 22 x = Int.tmod x 2097152 from if_neg (fun h => hh h.2), tm]
      omega
  · refine hTR.trans ?_
    show ((fieldT x 2097152, 0, 0) : Int × Int × Int) = (D, A, B)
    have f0 : fieldT x 2097152 = D := by
      unfold fieldT
      have hq0 : 0 ≤ x / 2097152 := Int.ediv_nonneg hx0.1 (by decide)
      rw [Int.tdiv_eq_ediv_of_nonneg hx0.1, w64 (by omega), Int.tmod_eq_emod_of_nonneg hq0]
      omega
    rw [f0, hA2, hB2]
theorem takePut_23 {D A B N : Int} (hr : isaRight 23 D A B N = true) : isa_Take.f (isaPut 23 D A B N) = some (23, D, A, B, N, true) := by
  have hs := hr
  rw [show (23 : Int) = ((23 : Nat) : Int) from rfl, isaRight_lit 23 (by decide)] at hs
  obtain ⟨hD, hA, hB, hn⟩ := says_0 (d := true) (a := true) (b := false) (lo := 0) (hi := 0) hs
  subst hn
  have hD2 := okR_t.1 hD
  have hA2 := okR_t.1 hA
  have hB2 := okR_f.1 hB
  have hsum := putGo_sum D A B [68, 65] 0 23 (0 % 65536 : Int).toNat (by decide) (by
    intro c hc
    simp only [List.mem_cons, List.not_mem_nil, or_false] at hc
    rcases hc with rfl | rfl
    · exact hD2
    · exact hA2) (by decide) (by decide)
  have hst := start_sum 23 (by decide) 0
  rw [if_neg (by decide)] at hst
  have hv : isaPut 23 D A B 0 = ((65536 * (32 * (32 * 23 + D.toNat) + A.toNat) + (0 % 65536 : Int).toNat : Nat) : Int) := by
    show putGo D A B [68, 65] 0 (putStart ((23 : Nat) : Int) 0) = _
    rw [hst]
    exact hsum
  obtain ⟨x, hx⟩ : ∃ x, isaPut 23 D A B 0 = x := ⟨_, rfl⟩
  rw [hx]
  rw [hx] at hv
  clear hsum hst
  have hx0 : 0 ≤ x ∧ x < 4294967296 := by omega
  have hTN := takeN_lit x hx0.1 hx0.2 23 (by decide)
  have hTR := takeRegs x hx0.1 hx0.2 0 23 (by decide)
  refine take_of (kk := 23) (by decide) rfl hr hx hx0 (by omega) ?_ ?_
  · exact hTN.trans (if_neg (by decide))
  · refine hTR.trans ?_
    show ((fieldT x 2097152, fieldT x 65536, 0) : Int × Int × Int) = (D, A, B)
    have f0 : fieldT x 2097152 = D := by
      unfold fieldT
      have hq0 : 0 ≤ x / 2097152 := Int.ediv_nonneg hx0.1 (by decide)
      rw [Int.tdiv_eq_ediv_of_nonneg hx0.1, w64 (by omega), Int.tmod_eq_emod_of_nonneg hq0]
      omega
    have f1 : fieldT x 65536 = A := by
      unfold fieldT
      have hq0 : 0 ≤ x / 65536 := Int.ediv_nonneg hx0.1 (by decide)
      rw [Int.tdiv_eq_ediv_of_nonneg hx0.1, w64 (by omega), Int.tmod_eq_emod_of_nonneg hq0]
      omega
    rw [f0, f1, hB2]
theorem takePut_S1 {D A B : Int} (hr : isaRight 24 D A B 1 = true) : isa_Take.f (isaPut 24 D A B 1) = some (24, D, A, B, 1, true) := by
  have hs := hr
  rw [isaRight_sys] at hs
  obtain ⟨hD, hA, hB, _, _⟩ := says_n (d := false) (a := true) (b := false) (lo := 1) (hi := 4) hs
  have hD2 := okR_f.1 hD
  have hA2 := okR_t.1 hA
  have hB2 := okR_f.1 hB
  have hsum := putGo_sum D A B [65] 0 24 1 (by decide) (by
    intro c hc
    simp only [List.mem_cons, List.not_mem_nil, or_false] at hc
    obtain rfl := hc
    exact hA2) (by decide) (by decide)
  have hst : putStart 24 1 = ((2 ^ (26 - 5 * 0) * 24 + 1 : Nat) : Int) := start_sum 24 (by decide) 1
  have hv : isaPut 24 D A B 1 = ((2097152 * (32 * 24 + A.toNat) + 1 : Nat) : Int) := by
    show putGo D A B [65] 0 (putStart 24 1) = _
    rw [hst]
    exact hsum
  obtain ⟨x, hx⟩ : ∃ x, isaPut 24 D A B 1 = x := ⟨_, rfl⟩
  rw [hx]
  rw [hx] at hv
  clear hsum hst
  have hx0 : 0 ≤ x ∧ x < 4294967296 := by omega
  have hTN := takeN_lit x hx0.1 hx0.2 24 (by decide)
  have t0 := tb x hx0.1 hx0.2 0 2097152 rfl (by decide) (by decide)
  have t1 := tb x hx0.1 hx0.2 1 65536 rfl (by decide) (by decide)
  refine take_of (kk := 24) (by decide) rfl hr hx hx0 (by omega) ?_ ?_
  · refine hTN.trans ((if_pos (by decide)).trans ?_)
    have tm : Int.tmod x 65536 = x % 65536 := Int.tmod_eq_emod_of_nonneg hx0.1
    rw [show refN 24 x = Int.tmod x 65536 from if_neg (fun h => h.1 (by decide)), tm]
    omega
  · show ((0, takeBits x 0, 0) : Int × Int × Int) = (D, A, B)
    have f0 : fieldT x 2097152 = A := by
      unfold fieldT
      have hq0 : 0 ≤ x / 2097152 := Int.ediv_nonneg hx0.1 (by decide)
      rw [Int.tdiv_eq_ediv_of_nonneg hx0.1, w64 (by omega), Int.tmod_eq_emod_of_nonneg hq0]
      omega
    rw [t0, f0, hD2, hB2]
theorem takePut_S2 {D A B : Int} (hr : isaRight 24 D A B 2 = true) : isa_Take.f (isaPut 24 D A B 2) = some (24, D, A, B, 2, true) := by
  have hs := hr
  rw [isaRight_sys] at hs
  obtain ⟨hD, hA, hB, _, _⟩ := says_n (d := true) (a := false) (b := false) (lo := 1) (hi := 4) hs
  have hD2 := okR_t.1 hD
  have hA2 := okR_f.1 hA
  have hB2 := okR_f.1 hB
  have hsum := putGo_sum D A B [68] 0 24 2 (by decide) (by
    intro c hc
    simp only [List.mem_cons, List.not_mem_nil, or_false] at hc
    obtain rfl := hc
    exact hD2) (by decide) (by decide)
  have hst : putStart 24 2 = ((2 ^ (26 - 5 * 0) * 24 + 2 : Nat) : Int) := start_sum 24 (by decide) 2
  have hv : isaPut 24 D A B 2 = ((2097152 * (32 * 24 + D.toNat) + 2 : Nat) : Int) := by
    show putGo D A B [68] 0 (putStart 24 2) = _
    rw [hst]
    exact hsum
  obtain ⟨x, hx⟩ : ∃ x, isaPut 24 D A B 2 = x := ⟨_, rfl⟩
  rw [hx]
  rw [hx] at hv
  clear hsum hst
  have hx0 : 0 ≤ x ∧ x < 4294967296 := by omega
  have hTN := takeN_lit x hx0.1 hx0.2 24 (by decide)
  have t0 := tb x hx0.1 hx0.2 0 2097152 rfl (by decide) (by decide)
  have t1 := tb x hx0.1 hx0.2 1 65536 rfl (by decide) (by decide)
  refine take_of (kk := 24) (by decide) rfl hr hx hx0 (by omega) ?_ ?_
  · refine hTN.trans ((if_pos (by decide)).trans ?_)
    have tm : Int.tmod x 65536 = x % 65536 := Int.tmod_eq_emod_of_nonneg hx0.1
    rw [show refN 24 x = Int.tmod x 65536 from if_neg (fun h => h.1 (by decide)), tm]
    omega
  · show ((takeBits x 0, 0, 0) : Int × Int × Int) = (D, A, B)
    have f0 : fieldT x 2097152 = D := by
      unfold fieldT
      have hq0 : 0 ≤ x / 2097152 := Int.ediv_nonneg hx0.1 (by decide)
      rw [Int.tdiv_eq_ediv_of_nonneg hx0.1, w64 (by omega), Int.tmod_eq_emod_of_nonneg hq0]
      omega
    rw [t0, f0, hA2, hB2]
theorem takePut_S3 {D A B : Int} (hr : isaRight 24 D A B 3 = true) : isa_Take.f (isaPut 24 D A B 3) = some (24, D, A, B, 3, true) := by
  have hs := hr
  rw [isaRight_sys] at hs
  obtain ⟨hD, hA, hB, _, _⟩ := says_n (d := true) (a := false) (b := true) (lo := 1) (hi := 4) hs
  have hD2 := okR_t.1 hD
  have hA2 := okR_f.1 hA
  have hB2 := okR_t.1 hB
  have hsum := putGo_sum D A B [68, 66] 0 24 3 (by decide) (by
    intro c hc
    simp only [List.mem_cons, List.not_mem_nil, or_false] at hc
    rcases hc with rfl | rfl
    · exact hD2
    · exact hB2) (by decide) (by decide)
  have hst : putStart 24 3 = ((2 ^ (26 - 5 * 0) * 24 + 3 : Nat) : Int) := start_sum 24 (by decide) 3
  have hv : isaPut 24 D A B 3 = ((65536 * (32 * (32 * 24 + D.toNat) + B.toNat) + 3 : Nat) : Int) := by
    show putGo D A B [68, 66] 0 (putStart 24 3) = _
    rw [hst]
    exact hsum
  obtain ⟨x, hx⟩ : ∃ x, isaPut 24 D A B 3 = x := ⟨_, rfl⟩
  rw [hx]
  rw [hx] at hv
  clear hsum hst
  have hx0 : 0 ≤ x ∧ x < 4294967296 := by omega
  have hTN := takeN_lit x hx0.1 hx0.2 24 (by decide)
  have t0 := tb x hx0.1 hx0.2 0 2097152 rfl (by decide) (by decide)
  have t1 := tb x hx0.1 hx0.2 1 65536 rfl (by decide) (by decide)
  refine take_of (kk := 24) (by decide) rfl hr hx hx0 (by omega) ?_ ?_
  · refine hTN.trans ((if_pos (by decide)).trans ?_)
    have tm : Int.tmod x 65536 = x % 65536 := Int.tmod_eq_emod_of_nonneg hx0.1
    rw [show refN 24 x = Int.tmod x 65536 from if_neg (fun h => h.1 (by decide)), tm]
    omega
  · show ((takeBits x 0, 0, takeBits x 1) : Int × Int × Int) = (D, A, B)
    have f0 : fieldT x 2097152 = D := by
      unfold fieldT
      have hq0 : 0 ≤ x / 2097152 := Int.ediv_nonneg hx0.1 (by decide)
      rw [Int.tdiv_eq_ediv_of_nonneg hx0.1, w64 (by omega), Int.tmod_eq_emod_of_nonneg hq0]
      omega
    have f1 : fieldT x 65536 = B := by
      unfold fieldT
      have hq0 : 0 ≤ x / 65536 := Int.ediv_nonneg hx0.1 (by decide)
      rw [Int.tdiv_eq_ediv_of_nonneg hx0.1, w64 (by omega), Int.tmod_eq_emod_of_nonneg hq0]
      omega
    rw [t0, f0, t1, f1, hA2]
theorem takePut_S4 {D A B : Int} (hr : isaRight 24 D A B 4 = true) : isa_Take.f (isaPut 24 D A B 4) = some (24, D, A, B, 4, true) := by
  have hs := hr
  rw [isaRight_sys] at hs
  obtain ⟨hD, hA, hB, _, _⟩ := says_n (d := false) (a := true) (b := false) (lo := 1) (hi := 4) hs
  have hD2 := okR_f.1 hD
  have hA2 := okR_t.1 hA
  have hB2 := okR_f.1 hB
  have hsum := putGo_sum D A B [65] 0 24 4 (by decide) (by
    intro c hc
    simp only [List.mem_cons, List.not_mem_nil, or_false] at hc
    obtain rfl := hc
    exact hA2) (by decide) (by decide)
  have hst : putStart 24 4 = ((2 ^ (26 - 5 * 0) * 24 + 4 : Nat) : Int) := start_sum 24 (by decide) 4
  have hv : isaPut 24 D A B 4 = ((2097152 * (32 * 24 + A.toNat) + 4 : Nat) : Int) := by
    show putGo D A B [65] 0 (putStart 24 4) = _
    rw [hst]
    exact hsum
  obtain ⟨x, hx⟩ : ∃ x, isaPut 24 D A B 4 = x := ⟨_, rfl⟩
  rw [hx]
  rw [hx] at hv
  clear hsum hst
  have hx0 : 0 ≤ x ∧ x < 4294967296 := by omega
  have hTN := takeN_lit x hx0.1 hx0.2 24 (by decide)
  have t0 := tb x hx0.1 hx0.2 0 2097152 rfl (by decide) (by decide)
  have t1 := tb x hx0.1 hx0.2 1 65536 rfl (by decide) (by decide)
  refine take_of (kk := 24) (by decide) rfl hr hx hx0 (by omega) ?_ ?_
  · refine hTN.trans ((if_pos (by decide)).trans ?_)
    have tm : Int.tmod x 65536 = x % 65536 := Int.tmod_eq_emod_of_nonneg hx0.1
    rw [show refN 24 x = Int.tmod x 65536 from if_neg (fun h => h.1 (by decide)), tm]
    omega
  · show ((0, takeBits x 0, 0) : Int × Int × Int) = (D, A, B)
    have f0 : fieldT x 2097152 = A := by
      unfold fieldT
      have hq0 : 0 ≤ x / 2097152 := Int.ediv_nonneg hx0.1 (by decide)
      rw [Int.tdiv_eq_ediv_of_nonneg hx0.1, w64 (by omega), Int.tmod_eq_emod_of_nonneg hq0]
      omega
    rw [t0, f0, hD2, hB2]
theorem takePut (k D A B N : Int) (hr : isaRight k D A B N = true) : isa_Take.f (isaPut k D A B N) = some (k, D, A, B, N, true) := by
  obtain ⟨kk, rfl, hk⟩ := right_kind hr
  match kk, hk, hr with
  | 0, _, hr => exact takePut_0 hr
  | 1, _, hr => exact takePut_1 hr
  | 2, _, hr => exact takePut_2 hr
  | 3, _, hr => exact takePut_3 hr
  | 4, _, hr => exact takePut_4 hr
  | 5, _, hr => exact takePut_5 hr
  | 6, _, hr => exact takePut_6 hr
  | 7, _, hr => exact takePut_7 hr
  | 8, _, hr => exact takePut_8 hr
  | 9, _, hr => exact takePut_9 hr
  | 10, _, hr => exact takePut_10 hr
  | 11, _, hr => exact takePut_11 hr
  | 12, _, hr => exact takePut_12 hr
  | 13, _, hr => exact takePut_13 hr
  | 14, _, hr => exact takePut_14 hr
  | 15, _, hr => exact takePut_15 hr
  | 16, _, hr => exact takePut_16 hr
  | 17, _, hr => exact takePut_17 hr
  | 18, _, hr => exact takePut_18 hr
  | 19, _, hr => exact takePut_19 hr
  | 20, _, hr => exact takePut_20 hr
  | 21, _, hr => exact takePut_21 hr
  | 22, _, hr => exact takePut_22 hr
  | 23, _, hr => exact takePut_23 hr
  | 24, _, hr =>
    have hb := right_N24 hr
    have h4 : N = 1 ∨ N = 2 ∨ N = 3 ∨ N = 4 := by omega
    rcases h4 with rfl | rfl | rfl | rfl
    · exact takePut_S1 hr
    · exact takePut_S2 hr
    · exact takePut_S3 hr
    · exact takePut_S4 hr
  | n + 25, h, _ => exact absurd h (by omega)
end Go.Proofs.YtlhkojnocconfaaDoor.Q
