/- Several texts in one: The reference's Right and Put (camletref39) of any instruction are the walk's isaRight and isaPut. The reference's Put (camletref39) of an instruction that is right is the walk's isaPut. asm: the reference's Label, Labels, one and Of, of any lines. The reference's Same of words with themselves. -/
import Derived.Test.YtbjfchkfhbpclaaQx0
import Derived.Test.YtbjfchkfhbpclaaQx4
import Derived.Test.YtbjfchkfhbpclaaQx6
import Derived.Test.YtbjfchkfhbpclaaHisaForms
import Derived.Test.YtbjfchkfhbpclaaHisaOf
import Derived.Test.YtbjfchkfhbpclaaHisaPut
import Derived.Test.YtbjfchkfhbpclaaHisaRight
import Derived.Test.YtbjfchkfhbpclaaQx7
import Derived.Test.YtbjfchkfhbpclaaQx2
import Derived.Test.YtbjfchkfhbpclaaQx3
import Derived.Test.YtbjfchkfhbpclaaQx8
import Derived.Test.YtbjfchkfhbpclaaQx9
import Derived.Test.YtbjfchkfhbpclaaAsmModel
import Derived.Test.YtbjfchkfhbpclaaEvW
--@needs XHisaRight
--@needs XHisaPut
namespace Go.Proofs.Ytbjfchkfhbpclaa.Q
open Go.RowKit Go.Proofs.YtbjfchkfhbpclaaW.PrintWords Go.Proofs.YtbjfchkfhbpclaaW.PrintLast Go.Proofs.YtbjfchkfhbpclaaW.PrintMore
attribute [local go_sem] max2_int min2_int max_two min_two max_three min_three max_four min_four   -- for this text's walks alone
set_option linter.unusedVariables false
set_option linter.unusedSimpArgs false

theorem bits_or_u32_nat (a b : Nat) (ha : a < 4294967296) (hb : b < 4294967296) : bits .or .u32 (a : Int) (b : Int) = ((a ||| b : Nat) : Int) := by
  have hx : a ||| b < 2 ^ 32 := Nat.or_lt_two_pow (by omega) (by omega)
  have e : bits .or .u32 (a : Int) (b : Int) = IntKind.u32.wrap ((BitVec.ofInt 32 (a : Int) ||| BitVec.ofInt 32 (b : Int)).toNat : Int) := rfl
  rw [e, BitVec.toNat_or, BitVec.ofInt_natCast, BitVec.ofInt_natCast, BitVec.toNat_ofNat, BitVec.toNat_ofNat, Nat.mod_eq_of_lt (by omega), Nat.mod_eq_of_lt (by omega)]
  simp [IntKind.wrap, IntKind.signed, IntKind.bits]
  omega
theorem bits_and_u32_nat' (a b : Nat) (ha : a < 4294967296) (hb : b < 4294967296) : bits .and .u32 (a : Int) (b : Int) = ((a &&& b : Nat) : Int) := by
  have hx : a &&& b < 2 ^ 32 := Nat.and_lt_two_pow _ (by omega)
  have e : bits .and .u32 (a : Int) (b : Int) = IntKind.u32.wrap ((BitVec.ofInt 32 (a : Int) &&& BitVec.ofInt 32 (b : Int)).toNat : Int) := rfl
  rw [e, BitVec.toNat_and, BitVec.ofInt_natCast, BitVec.ofInt_natCast, BitVec.toNat_ofNat, BitVec.toNat_ofNat, Nat.mod_eq_of_lt (by omega), Nat.mod_eq_of_lt (by omega)]
  simp [IntKind.wrap, IntKind.signed, IntKind.bits]
  omega
/-- h stands above, v in the field at sh, l below: or is the sum -/
theorem or_field (sh h v l : Nat) (hv : v < 32) (hl : l < 2 ^ sh) : (2 ^ (sh + 5) * h + l) ||| (2 ^ sh * v) = 2 ^ (sh + 5) * h + 2 ^ sh * v + l := by
  have h5 : (2 : Nat) ^ (sh + 5) = 2 ^ sh * 32 := by rw [Nat.pow_add]
  have hl2 : l < 2 ^ (sh + 5) := by rw [h5]; omega
  have hvl : 2 ^ sh * v + l < 2 ^ (sh + 5) := by
    rw [h5]
    have : 2 ^ sh * v ≤ 2 ^ sh * 31 := Nat.mul_le_mul_left _ (by omega)
    omega
  rw [Nat.two_pow_add_eq_or_of_lt hl2, Nat.or_assoc, Nat.or_comm l, ← Nat.two_pow_add_eq_or_of_lt hl, ← Nat.two_pow_add_eq_or_of_lt hvl, Nat.add_assoc]
theorem orAt_sum (pos : Nat) (h l v : Nat) (hp : pos ≤ 2) (hv : v ≤ 31) (hl : l < 2 ^ (21 - 5 * pos)) (hh : 2 ^ (26 - 5 * pos) * h < 4294967296) :
    orAt ((2 ^ (26 - 5 * pos) * h + l : Nat) : Int) (v : Int) pos = ((2 ^ (26 - 5 * pos) * h + 2 ^ (21 - 5 * pos) * v + l : Nat) : Int) := by
  have e1 : 26 - 5 * pos = (21 - 5 * pos) + 5 := by omega
  have hb : 2 ^ (21 - 5 * pos) * v ≤ 2 ^ 21 * 31 := Nat.mul_le_mul (Nat.pow_le_pow_right (by decide) (by omega)) hv
  have hl3 : 2 ^ (21 - 5 * pos) ≤ 2 ^ 21 := Nat.pow_le_pow_right (by decide) (by omega)
  have hdvd : 2 ^ (26 - 5 * pos) * h + l < 4294967296 := by
    -- what stands above is a multiple of the field's end
    have h3 : 2 ^ (26 - 5 * pos) * h + 2 ^ (26 - 5 * pos) ≤ 4294967296 := by
      have hd : 4294967296 = 2 ^ (26 - 5 * pos) * 2 ^ (6 + 5 * pos) := by rw [← Nat.pow_add, show 26 - 5 * pos + (6 + 5 * pos) = 32 by omega]
      rw [hd] at hh ⊢
      have h4 : h < 2 ^ (6 + 5 * pos) := Nat.lt_of_mul_lt_mul_left hh
      calc 2 ^ (26 - 5 * pos) * h + 2 ^ (26 - 5 * pos) = 2 ^ (26 - 5 * pos) * (h + 1) := by rw [Nat.mul_add, Nat.mul_one]
        _ ≤ _ := Nat.mul_le_mul_left _ h4
    have h6 : 2 ^ (21 - 5 * pos) ≤ 2 ^ (26 - 5 * pos) := Nat.pow_le_pow_right (by decide) (by omega)
    omega
  unfold orAt
  have e2 : (v : Int) % 4294967296 * 2 ^ (21 - 5 * pos) % 4294967296 = ((2 ^ (21 - 5 * pos) * v : Nat) : Int) := by
    have e3 : (v : Int) % 4294967296 = v := by omega
    rw [e3]
    have e4 : (v : Int) * 2 ^ (21 - 5 * pos) = ((2 ^ (21 - 5 * pos) * v : Nat) : Int) := by
      rw [Int.mul_comm (v : Int) (2 ^ (21 - 5 * pos))]; push_cast; rfl
    rw [e4]
    omega
  rw [e2, bits_or_u32_nat _ _ hdvd (by omega)]
  congr 1
  rw [e1]
  exact or_field _ _ _ _ (by omega) hl
/-! ### Right -/
def okR (has : Bool) (n : Int) : Bool := if has then (decide (0 ≤ n) && decide (n ≤ 31)) else (n == 0)
def refStep (h : Bool) (n : Int) (rest : Option Bool) : Option Bool := if h = true then (if n < 0 then some false else (if n > 31 then some false else rest)) else (if n = 0 then rest else some false)
theorem refStep_eq (h : Bool) (n : Int) (b : Bool) : refStep h n (some b) = some (okR h n && b) := by
  unfold refStep okR
  cases h
  · rw [if_neg (by decide)]
    by_cases e : n = 0
    · rw [if_pos e, e]; simp
    · rw [if_neg e]; simp [e]
  · rw [if_pos rfl]
    by_cases e : n < 0
    · rw [if_pos e]; simp; omega
    · rw [if_neg e]
      by_cases e2 : n > 31
      · rw [if_pos e2]; simp; omega
      · rw [if_neg e2]; simp; omega
/-- the rows of the table: which registers, whether a number, its span -/
structure RowK where
  d : Bool
  a : Bool
  b : Bool
  n : Bool
  lo : Int
  hi : Int
def rowTail (r : RowK) (N : Int) : Option Bool := if r.n = true then (if N ≥ r.lo then some (decide (N ≤ r.hi)) else some false) else some (N == 0)
theorem rowTail_eq (r : RowK) (N : Int) : rowTail r N = some (if r.n = true then (decide (r.lo ≤ N) && decide (N ≤ r.hi)) else (N == 0)) := by
  unfold rowTail
  cases hn : r.n
  · rw [if_neg (by simp), if_neg (by simp)]
  · rw [if_pos rfl, if_pos rfl]
    by_cases h : N ≥ r.lo
    · rw [if_pos h]; simp; intro _; exact h
    · rw [if_neg h]; simp; omega
def rowsK : List RowK := [⟨false, false, false, false, 0, 0⟩, ⟨true, false, false, true, -32768, 32767⟩, ⟨true, false, false, true, 0, 65535⟩, ⟨true, true, false, true, 0, 65535⟩,
  ⟨true, true, true, false, 0, 0⟩, ⟨true, true, true, false, 0, 0⟩, ⟨true, true, true, false, 0, 0⟩, ⟨true, true, true, false, 0, 0⟩, ⟨true, true, true, false, 0, 0⟩, ⟨true, true, true, false, 0, 0⟩, ⟨true, true, true, false, 0, 0⟩, ⟨true, true, true, false, 0, 0⟩, ⟨true, true, true, false, 0, 0⟩,
  ⟨true, true, false, true, 0, 31⟩, ⟨true, true, false, true, 0, 31⟩, ⟨true, true, false, true, 0, 31⟩, ⟨true, true, false, true, -32768, 32767⟩, ⟨true, true, false, true, -32768, 32767⟩, ⟨false, true, true, true, -32768, 32767⟩,
  ⟨false, true, true, true, -32768, 32767⟩, ⟨false, true, true, true, -32768, 32767⟩, ⟨false, true, true, true, -32768, 32767⟩, ⟨true, false, false, true, -1048576, 1048575⟩, ⟨true, true, false, false, 0, 0⟩]
def row0 : RowK := ⟨false, false, false, false, 0, 0⟩
def rowK (k : Nat) : RowK := rowsK.getD k row0
/-- a sys, by its N -/
def rowS (N : Int) : RowK := if N = 1 then ⟨false, true, false, true, 1, 4⟩ else if N = 2 then ⟨true, false, false, true, 1, 4⟩ else if N = 3 then ⟨true, false, true, true, 1, 4⟩ else if N = 4 then ⟨false, true, false, true, 1, 4⟩ else ⟨false, false, false, true, 1, 4⟩
def rowOf (k N : Int) : RowK := if k = 24 then rowS N else rowK k.toNat
theorem refRight_lit (k : Nat) (D A B N : Int) (kk : Nat) (hk : kk < 24) : camletref39_Right.f (k + 20) (kk : Int) D A B N = refStep (rowK kk).d D (refStep (rowK kk).a A (refStep (rowK kk).b B (rowTail (rowK kk) N))) := by
  match kk, hk with
  | 0, _ => exact (by show camletref39_Right.f (k + 20) 0 D A B N = refStep (rowK 0).d D (refStep (rowK 0).a A (refStep (rowK 0).b B (rowTail (rowK 0) N))); kernel_rfl)
  | 1, _ => exact (by show camletref39_Right.f (k + 20) 1 D A B N = refStep (rowK 1).d D (refStep (rowK 1).a A (refStep (rowK 1).b B (rowTail (rowK 1) N))); kernel_rfl)
  | 2, _ => exact (by show camletref39_Right.f (k + 20) 2 D A B N = refStep (rowK 2).d D (refStep (rowK 2).a A (refStep (rowK 2).b B (rowTail (rowK 2) N))); kernel_rfl)
  | 3, _ => exact (by show camletref39_Right.f (k + 20) 3 D A B N = refStep (rowK 3).d D (refStep (rowK 3).a A (refStep (rowK 3).b B (rowTail (rowK 3) N))); kernel_rfl)
  | 4, _ => exact (by show camletref39_Right.f (k + 20) 4 D A B N = refStep (rowK 4).d D (refStep (rowK 4).a A (refStep (rowK 4).b B (rowTail (rowK 4) N))); kernel_rfl)
  | 5, _ => exact (by show camletref39_Right.f (k + 20) 5 D A B N = refStep (rowK 5).d D (refStep (rowK 5).a A (refStep (rowK 5).b B (rowTail (rowK 5) N))); kernel_rfl)
  | 6, _ => exact (by show camletref39_Right.f (k + 20) 6 D A B N = refStep (rowK 6).d D (refStep (rowK 6).a A (refStep (rowK 6).b B (rowTail (rowK 6) N))); kernel_rfl)
  | 7, _ => exact (by show camletref39_Right.f (k + 20) 7 D A B N = refStep (rowK 7).d D (refStep (rowK 7).a A (refStep (rowK 7).b B (rowTail (rowK 7) N))); kernel_rfl)
  | 8, _ => exact (by show camletref39_Right.f (k + 20) 8 D A B N = refStep (rowK 8).d D (refStep (rowK 8).a A (refStep (rowK 8).b B (rowTail (rowK 8) N))); kernel_rfl)
  | 9, _ => exact (by show camletref39_Right.f (k + 20) 9 D A B N = refStep (rowK 9).d D (refStep (rowK 9).a A (refStep (rowK 9).b B (rowTail (rowK 9) N))); kernel_rfl)
  | 10, _ => exact (by show camletref39_Right.f (k + 20) 10 D A B N = refStep (rowK 10).d D (refStep (rowK 10).a A (refStep (rowK 10).b B (rowTail (rowK 10) N))); kernel_rfl)
  | 11, _ => exact (by show camletref39_Right.f (k + 20) 11 D A B N = refStep (rowK 11).d D (refStep (rowK 11).a A (refStep (rowK 11).b B (rowTail (rowK 11) N))); kernel_rfl)
  | 12, _ => exact (by show camletref39_Right.f (k + 20) 12 D A B N = refStep (rowK 12).d D (refStep (rowK 12).a A (refStep (rowK 12).b B (rowTail (rowK 12) N))); kernel_rfl)
  | 13, _ => exact (by show camletref39_Right.f (k + 20) 13 D A B N = refStep (rowK 13).d D (refStep (rowK 13).a A (refStep (rowK 13).b B (rowTail (rowK 13) N))); kernel_rfl)
  | 14, _ => exact (by show camletref39_Right.f (k + 20) 14 D A B N = refStep (rowK 14).d D (refStep (rowK 14).a A (refStep (rowK 14).b B (rowTail (rowK 14) N))); kernel_rfl)
  | 15, _ => exact (by show camletref39_Right.f (k + 20) 15 D A B N = refStep (rowK 15).d D (refStep (rowK 15).a A (refStep (rowK 15).b B (rowTail (rowK 15) N))); kernel_rfl)
  | 16, _ => exact (by show camletref39_Right.f (k + 20) 16 D A B N = refStep (rowK 16).d D (refStep (rowK 16).a A (refStep (rowK 16).b B (rowTail (rowK 16) N))); kernel_rfl)
  | 17, _ => exact (by show camletref39_Right.f (k + 20) 17 D A B N = refStep (rowK 17).d D (refStep (rowK 17).a A (refStep (rowK 17).b B (rowTail (rowK 17) N))); kernel_rfl)
  | 18, _ => exact (by show camletref39_Right.f (k + 20) 18 D A B N = refStep (rowK 18).d D (refStep (rowK 18).a A (refStep (rowK 18).b B (rowTail (rowK 18) N))); kernel_rfl)
  | 19, _ => exact (by show camletref39_Right.f (k + 20) 19 D A B N = refStep (rowK 19).d D (refStep (rowK 19).a A (refStep (rowK 19).b B (rowTail (rowK 19) N))); kernel_rfl)
  | 20, _ => exact (by show camletref39_Right.f (k + 20) 20 D A B N = refStep (rowK 20).d D (refStep (rowK 20).a A (refStep (rowK 20).b B (rowTail (rowK 20) N))); kernel_rfl)
  | 21, _ => exact (by show camletref39_Right.f (k + 20) 21 D A B N = refStep (rowK 21).d D (refStep (rowK 21).a A (refStep (rowK 21).b B (rowTail (rowK 21) N))); kernel_rfl)
  | 22, _ => exact (by show camletref39_Right.f (k + 20) 22 D A B N = refStep (rowK 22).d D (refStep (rowK 22).a A (refStep (rowK 22).b B (rowTail (rowK 22) N))); kernel_rfl)
  | 23, _ => exact (by show camletref39_Right.f (k + 20) 23 D A B N = refStep (rowK 23).d D (refStep (rowK 23).a A (refStep (rowK 23).b B (rowTail (rowK 23) N))); kernel_rfl)
  | n + 24, h => exact absurd h (by omega)
theorem rg68 (r : List UInt8) (D A B : Int) : rightGo (68 :: r) D A B = (okR true D && rightGo r 0 A B) := by
  show (if D < 0 ∨ 31 < D then false else rightGo r 0 A B) = _
  unfold okR
  rw [if_pos rfl]
  by_cases h : D < 0 ∨ 31 < D
  · rw [if_pos h]
    rcases h with h | h
    · rw [decide_eq_false (show ¬ 0 ≤ D by omega)]; rfl
    · rw [decide_eq_false (show ¬ D ≤ 31 by omega), Bool.and_false]; rfl
  · rw [if_neg h, decide_eq_true (show 0 ≤ D by omega), decide_eq_true (show D ≤ 31 by omega)]; rfl
theorem rg65 (r : List UInt8) (D A B : Int) : rightGo (65 :: r) D A B = (okR true A && rightGo r D 0 B) := by
  show (if A < 0 ∨ 31 < A then false else rightGo r D 0 B) = _
  unfold okR
  rw [if_pos rfl]
  by_cases h : A < 0 ∨ 31 < A
  · rw [if_pos h]
    rcases h with h | h
    · rw [decide_eq_false (show ¬ 0 ≤ A by omega)]; rfl
    · rw [decide_eq_false (show ¬ A ≤ 31 by omega), Bool.and_false]; rfl
  · rw [if_neg h, decide_eq_true (show 0 ≤ A by omega), decide_eq_true (show A ≤ 31 by omega)]; rfl
theorem rg66 (r : List UInt8) (D A B : Int) : rightGo (66 :: r) D A B = (okR true B && rightGo r D A 0) := by
  show (if B < 0 ∨ 31 < B then false else rightGo r D A 0) = _
  unfold okR
  rw [if_pos rfl]
  by_cases h : B < 0 ∨ 31 < B
  · rw [if_pos h]
    rcases h with h | h
    · rw [decide_eq_false (show ¬ 0 ≤ B by omega)]; rfl
    · rw [decide_eq_false (show ¬ B ≤ 31 by omega), Bool.and_false]; rfl
  · rw [if_neg h, decide_eq_true (show 0 ≤ B by omega), decide_eq_true (show B ≤ 31 by omega)]; rfl
theorem rg0 (D A B : Int) : rightGo [] D A B = (okR false D && okR false A && okR false B) := rfl
theorem okR00 : okR false 0 = true := rfl
/-- which registers, as a list -/
def rowRegs (r : RowK) (l : List UInt8) : Prop := ∀ D A B, rightGo l D A B = (okR r.d D && (okR r.a A && okR r.b B))
theorem and3 (p q r : Bool) : (p && q && r) = (p && (q && r)) := by cases p <;> cases q <;> cases r <;> rfl
theorem regs_none : ∀ D A B, rightGo [] D A B = (okR false D && (okR false A && okR false B)) := fun D A B => by rw [rg0, and3]
theorem regs_D : ∀ D A B, rightGo [68] D A B = (okR true D && (okR false A && okR false B)) := fun D A B => by rw [rg68, rg0, okR00, and3]; simp
theorem regs_A : ∀ D A B, rightGo [65] D A B = (okR false D && (okR true A && okR false B)) := fun D A B => by rw [rg65, rg0, okR00]; generalize okR false D = p; generalize okR true A = q; generalize okR false B = r; cases p <;> cases q <;> cases r <;> rfl
theorem regs_DA : ∀ D A B, rightGo [68, 65] D A B = (okR true D && (okR true A && okR false B)) := fun D A B => by rw [rg68, rg65, rg0, okR00]; generalize okR true D = p; generalize okR true A = q; generalize okR false B = r; cases p <;> cases q <;> cases r <;> rfl
theorem regs_DB : ∀ D A B, rightGo [68, 66] D A B = (okR true D && (okR false A && okR true B)) := fun D A B => by rw [rg68, rg66, rg0, okR00]; generalize okR true D = p; generalize okR false A = q; generalize okR true B = r; cases p <;> cases q <;> cases r <;> rfl
theorem regs_BA : ∀ D A B, rightGo [66, 65] D A B = (okR false D && (okR true A && okR true B)) := fun D A B => by rw [rg66, rg65, rg0, okR00]; generalize okR false D = p; generalize okR true A = q; generalize okR true B = r; cases p <;> cases q <;> cases r <;> rfl
theorem regs_AB : ∀ D A B, rightGo [65, 66] D A B = (okR false D && (okR true A && okR true B)) := fun D A B => by rw [rg65, rg66, rg0, okR00]; generalize okR false D = p; generalize okR true A = q; generalize okR true B = r; cases p <;> cases q <;> cases r <;> rfl
theorem regs_DAB : ∀ D A B, rightGo [68, 65, 66] D A B = (okR true D && (okR true A && okR true B)) := fun D A B => by rw [rg68, rg65, rg66, rg0, okR00]; generalize okR true D = p; generalize okR true A = q; generalize okR true B = r; cases p <;> cases q <;> cases r <;> rfl
theorem isaRight_of {k N : Int} {nm rg : ByteArray} {lo hi : Int} (h : isaOf k N = (nm, rg, lo, hi)) (hn : ¬ nm = ⟨#[]⟩) (D A B : Int) : isaRight k D A B N = ((decide (lo ≤ N) && decide (N ≤ hi)) && rightGo rg.data.toList D A B) := by
  unfold isaRight
  rw [h]
  dsimp only
  by_cases h1 : N < lo
  · rw [if_pos (.inr (.inl h1)), decide_eq_false (show ¬ lo ≤ N by omega)]; rfl
  · by_cases h2 : hi < N
    · rw [if_pos (.inr (.inr h2)), decide_eq_false (show ¬ N ≤ hi by omega), Bool.and_false]; rfl
    · rw [if_neg (by rintro (h | h | h); exact hn h; exact h1 h; exact h2 h), decide_eq_true (show lo ≤ N by omega), decide_eq_true (show N ≤ hi by omega)]; rfl
/-- what both say -/
def rowSays (r : RowK) (D A B N : Int) : Bool := okR r.d D && (okR r.a A && (okR r.b B && (if r.n = true then (decide (r.lo ≤ N) && decide (N ≤ r.hi)) else (N == 0))))
theorem ref_row (r : RowK) (D A B N : Int) : refStep r.d D (refStep r.a A (refStep r.b B (rowTail r N))) = some (rowSays r D A B N) := by
  rw [rowTail_eq, refStep_eq, refStep_eq, refStep_eq]; rfl
theorem zeroN (N : Int) : (decide ((0 : Int) ≤ N) && decide (N ≤ 0)) = (N == 0) := by
  by_cases h : N = 0
  · subst h; rfl
  · rw [beq_eq_false_iff_ne.mpr h]
    by_cases h2 : 0 ≤ N
    · rw [decide_eq_false (show ¬ N ≤ 0 by omega), Bool.and_false]
    · rw [decide_eq_false h2]; rfl
theorem row_swap (p q r t : Bool) : (t && (p && (q && r))) = (p && (q && (r && t))) := by cases p <;> cases q <;> cases r <;> cases t <;> rfl
theorem isaRight_row {k N : Int} {nm rg : ByteArray} {lo hi : Int} {r : RowK} (h : isaOf k N = (nm, rg, lo, hi)) (hn : ¬ nm = ⟨#[]⟩) (hr : ∀ D A B, rightGo rg.data.toList D A B = (okR r.d D && (okR r.a A && okR r.b B)))
    (ht : (decide (lo ≤ N) && decide (N ≤ hi)) = (if r.n = true then (decide (r.lo ≤ N) && decide (N ≤ r.hi)) else (N == 0))) (D A B : Int) : isaRight k D A B N = rowSays r D A B N := by
  rw [isaRight_of h hn, hr, ht, row_swap]; rfl
theorem isaRight_lit (kk : Nat) (hk : kk < 24) (D A B N : Int) : isaRight (kk : Int) D A B N = rowSays (rowK kk) D A B N := by
  match kk, hk with
  | 0, _ => exact isaRight_row (k := 0) (r := rowK 0) rfl (by decide) regs_none (zeroN N) D A B
  | 1, _ => exact isaRight_row (k := 1) (r := rowK 1) rfl (by decide) regs_D rfl D A B
  | 2, _ => exact isaRight_row (k := 2) (r := rowK 2) rfl (by decide) regs_D rfl D A B
  | 3, _ => exact isaRight_row (k := 3) (r := rowK 3) rfl (by decide) regs_DA rfl D A B
  | 4, _ => exact isaRight_row (k := 4) (r := rowK 4) rfl (by decide) regs_DAB (zeroN N) D A B
  | 5, _ => exact isaRight_row (k := 5) (r := rowK 5) rfl (by decide) regs_DAB (zeroN N) D A B
  | 6, _ => exact isaRight_row (k := 6) (r := rowK 6) rfl (by decide) regs_DAB (zeroN N) D A B
  | 7, _ => exact isaRight_row (k := 7) (r := rowK 7) rfl (by decide) regs_DAB (zeroN N) D A B
  | 8, _ => exact isaRight_row (k := 8) (r := rowK 8) rfl (by decide) regs_DAB (zeroN N) D A B
  | 9, _ => exact isaRight_row (k := 9) (r := rowK 9) rfl (by decide) regs_DAB (zeroN N) D A B
  | 10, _ => exact isaRight_row (k := 10) (r := rowK 10) rfl (by decide) regs_DAB (zeroN N) D A B
  | 11, _ => exact isaRight_row (k := 11) (r := rowK 11) rfl (by decide) regs_DAB (zeroN N) D A B
  | 12, _ => exact isaRight_row (k := 12) (r := rowK 12) rfl (by decide) regs_DAB (zeroN N) D A B
  | 13, _ => exact isaRight_row (k := 13) (r := rowK 13) rfl (by decide) regs_DA rfl D A B
  | 14, _ => exact isaRight_row (k := 14) (r := rowK 14) rfl (by decide) regs_DA rfl D A B
  | 15, _ => exact isaRight_row (k := 15) (r := rowK 15) rfl (by decide) regs_DA rfl D A B
  | 16, _ => exact isaRight_row (k := 16) (r := rowK 16) rfl (by decide) regs_DA rfl D A B
  | 17, _ => exact isaRight_row (k := 17) (r := rowK 17) rfl (by decide) regs_DA rfl D A B
  | 18, _ => exact isaRight_row (k := 18) (r := rowK 18) rfl (by decide) regs_BA rfl D A B
  | 19, _ => exact isaRight_row (k := 19) (r := rowK 19) rfl (by decide) regs_AB rfl D A B
  | 20, _ => exact isaRight_row (k := 20) (r := rowK 20) rfl (by decide) regs_AB rfl D A B
  | 21, _ => exact isaRight_row (k := 21) (r := rowK 21) rfl (by decide) regs_AB rfl D A B
  | 22, _ => exact isaRight_row (k := 22) (r := rowK 22) rfl (by decide) regs_D rfl D A B
  | 23, _ => exact isaRight_row (k := 23) (r := rowK 23) rfl (by decide) regs_DA (zeroN N) D A B
  | n + 24, h => exact absurd h (by omega)
theorem isaRight_sys (D A B N : Int) : isaRight 24 D A B N = rowSays (rowS N) D A B N := by
  by_cases h1 : N = 1
  · subst h1; exact isaRight_row (k := 24) (N := 1) (r := rowS 1) rfl (by decide) regs_A rfl D A B
  by_cases h2 : N = 2
  · subst h2; exact isaRight_row (k := 24) (N := 2) (r := rowS 2) rfl (by decide) regs_D rfl D A B
  by_cases h3 : N = 3
  · subst h3; exact isaRight_row (k := 24) (N := 3) (r := rowS 3) rfl (by decide) regs_DB rfl D A B
  by_cases h4 : N = 4
  · subst h4; exact isaRight_row (k := 24) (N := 4) (r := rowS 4) rfl (by decide) regs_A rfl D A B
  have hS : rowS N = ⟨false, false, false, true, 1, 4⟩ := by unfold rowS; rw [if_neg h1, if_neg h2, if_neg h3, if_neg h4]
  rw [hS]
  refine isaRight_row (k := 24) (nm := ⟨#[115, 121, 115]⟩) (rg := ⟨#[]⟩) (lo := 1) (hi := 4) (r := ⟨false, false, false, true, 1, 4⟩) ?_ (by decide) regs_none rfl D A B
  unfold isaOf
  rw [if_neg (by omega)]
  rfl
theorem isaRight_out (k D A B N : Int) (h : k < 0 ∨ 24 < k) : isaRight k D A B N = false := by
  have e : isaOf k N = (⟨#[]⟩, ⟨#[]⟩, 0, 0) := by
    unfold isaOf isaForm
    rw [if_neg (by omega), if_neg (by omega)]
  unfold isaRight
  rw [e, if_pos (.inl rfl)]
theorem refRight_sys (k : Nat) (D A B N : Int) : camletref39_Right.f (k + 20) 24 D A B N = some (rowSays (rowS N) D A B N) := by
  rw [← ref_row]
  by_cases h1 : N = 1
  · subst h1; kernel_rfl
  by_cases h2 : N = 2
  · subst h2; kernel_rfl
  by_cases h3 : N = 3
  · subst h3; kernel_rfl
  by_cases h4 : N = 4
  · subst h4; kernel_rfl
  have hS : rowS N = ⟨false, false, false, true, 1, 4⟩ := by unfold rowS; rw [if_neg h1, if_neg h2, if_neg h3, if_neg h4]
  rw [hS]
  have hH : camletref39_Has.f (k + 20) 24 D A B N = some ⟨#[78]⟩ := by
    show (if N = 1 then camletref39_Has.j3 (k + 17) N (N == 1) else camletref39_Has.j3 (k + 17) N (N == 4)) = _
    rw [if_neg h1, beq_eq_false_iff_ne.mpr h4]
    show (if N = 2 then _ else (if N = 3 then _ else _)) = _
    rw [if_neg h2, if_neg h3]
  have e : ∀ s, s = some (⟨#[78]⟩ : ByteArray) → ((camletref39_name.f 24).bind fun t108 => (if t108.toList = ([] : List UInt8) then (some false) else (s.bind fun t109 => (camletref39_Right.l0 (k + 20) t109 (⟨#[68, 65, 66]⟩ : ByteArray) 0 24 D A B N)))) = refStep false D (refStep false A (refStep false B (rowTail ⟨false, false, false, true, 1, 4⟩ N))) := by
    rintro _ rfl
    kernel_rfl
  exact e _ hH
theorem refRight_out (n : Nat) (k D A B N : Int) (h : k < 0 ∨ 24 < k) : camletref39_Right.f n k D A B N = some false := by
  have e : camletref39_name.f k = some ⟨#[]⟩ := by
    unfold camletref39_name.f
    simp only [Option.bind_some]
    rcases h with h | h
    · rw [if_pos h]
    · rw [if_neg (by omega), if_pos (by simp; omega)]
  have e2 : ∀ s, s = some (⟨#[]⟩ : ByteArray) → (s.bind fun t108 => (if t108.toList = ([] : List UInt8) then (some false) else ((camletref39_Has.f n k D A B N).bind fun t109 => (camletref39_Right.l0 n t109 (⟨#[68, 65, 66]⟩ : ByteArray) 0 k D A B N)))) = some false := by
    rintro _ rfl
    kernel_rfl
  exact e2 _ e
theorem refRight_eq (n : Nat) (k D A B N : Int) : camletref39_Right.f (n + 20) k D A B N = some (isaRight k D A B N) := by
  by_cases h : k < 0 ∨ 24 < k
  · rw [refRight_out _ _ _ _ _ _ h, isaRight_out _ _ _ _ _ h]
  obtain ⟨kk, rfl⟩ : ∃ kk : Nat, k = (kk : Int) := ⟨k.toNat, by omega⟩
  by_cases h2 : kk = 24
  · subst h2
    exact (refRight_sys n D A B N).trans (congrArg some (isaRight_sys D A B N).symm)
  · rw [refRight_lit n D A B N kk (by omega), ref_row, isaRight_lit kk (by omega)]
end Go.Proofs.Ytbjfchkfhbpclaa.Q

--@needs XIsaRef
namespace Go.Proofs.Ytbjfchkfhbpclaa.Q
open Go.RowKit Go.Proofs.YtbjfchkfhbpclaaW.PrintWords Go.Proofs.YtbjfchkfhbpclaaW.PrintLast Go.Proofs.YtbjfchkfhbpclaaW.PrintMore
attribute [local go_sem] max2_int min2_int max_two min_two max_three min_three max_four min_four   -- for this text's walks alone
set_option linter.unusedVariables false
set_option linter.unusedSimpArgs false

/-- the reference's loop over the letters -/
def refGo (D A B N P : Int) : List Nat → Int → List Int → Option (Int × Int)
  | [], w, _ => some (w % 4294967296, 0)
  | c :: r, w, pw => if c = 78 then (if N < 0 then refGo D A B N P r (wrap64 (w + (wrap64 (N + P)))) pw else refGo D A B N P r (wrap64 (w + N)) pw)
      else refGo D A B N P r (wrap64 (w + (wrap64 ((if c = 68 then D else if c = 65 then A else B) * pw.headD 0)))) pw.tail
def pows : List Int := [2097152, 65536, 2048]
def lettersK : List (List Nat) := [[], [68, 78], [68, 78], [68, 65, 78], [68, 65, 66], [68, 65, 66], [68, 65, 66], [68, 65, 66], [68, 65, 66], [68, 65, 66], [68, 65, 66], [68, 65, 66], [68, 65, 66], [68, 65, 78], [68, 65, 78], [68, 65, 78], [68, 65, 78], [68, 65, 78], [66, 65, 78], [65, 66, 78], [65, 66, 78], [65, 66, 78], [68, 78], [68, 65]]
theorem refPut_lit (n : Nat) (D A B N : Int) (kk : Nat) (hk : kk < 24) : camletref39_Put.f (n + 60) (kk : Int) D A B N = (camletref39_Right.f (n + 60) (kk : Int) D A B N).bind fun t => if t = true then refGo D A B N (if kk = 22 then 2097152 else 65536) (lettersK.getD kk []) (67108864 * kk) pows else some (0, 26) := by
  match kk, hk with
  | 0, _ => exact (by show camletref39_Put.f (n + 60) 0 D A B N = (camletref39_Right.f (n + 60) 0 D A B N).bind fun t => if t = true then refGo D A B N 65536 [] 0 pows else some (0, 26); kernel_rfl)
  | 1, _ => exact (by show camletref39_Put.f (n + 60) 1 D A B N = (camletref39_Right.f (n + 60) 1 D A B N).bind fun t => if t = true then refGo D A B N 65536 [68, 78] 67108864 pows else some (0, 26); kernel_rfl)
  | 2, _ => exact (by show camletref39_Put.f (n + 60) 2 D A B N = (camletref39_Right.f (n + 60) 2 D A B N).bind fun t => if t = true then refGo D A B N 65536 [68, 78] 134217728 pows else some (0, 26); kernel_rfl)
  | 3, _ => exact (by show camletref39_Put.f (n + 60) 3 D A B N = (camletref39_Right.f (n + 60) 3 D A B N).bind fun t => if t = true then refGo D A B N 65536 [68, 65, 78] 201326592 pows else some (0, 26); kernel_rfl)
  | 4, _ => exact (by show camletref39_Put.f (n + 60) 4 D A B N = (camletref39_Right.f (n + 60) 4 D A B N).bind fun t => if t = true then refGo D A B N 65536 [68, 65, 66] 268435456 pows else some (0, 26); kernel_rfl)
  | 5, _ => exact (by show camletref39_Put.f (n + 60) 5 D A B N = (camletref39_Right.f (n + 60) 5 D A B N).bind fun t => if t = true then refGo D A B N 65536 [68, 65, 66] 335544320 pows else some (0, 26); kernel_rfl)
  | 6, _ => exact (by show camletref39_Put.f (n + 60) 6 D A B N = (camletref39_Right.f (n + 60) 6 D A B N).bind fun t => if t = true then refGo D A B N 65536 [68, 65, 66] 402653184 pows else some (0, 26); kernel_rfl)
  | 7, _ => exact (by show camletref39_Put.f (n + 60) 7 D A B N = (camletref39_Right.f (n + 60) 7 D A B N).bind fun t => if t = true then refGo D A B N 65536 [68, 65, 66] 469762048 pows else some (0, 26); kernel_rfl)
  | 8, _ => exact (by show camletref39_Put.f (n + 60) 8 D A B N = (camletref39_Right.f (n + 60) 8 D A B N).bind fun t => if t = true then refGo D A B N 65536 [68, 65, 66] 536870912 pows else some (0, 26); kernel_rfl)
  | 9, _ => exact (by show camletref39_Put.f (n + 60) 9 D A B N = (camletref39_Right.f (n + 60) 9 D A B N).bind fun t => if t = true then refGo D A B N 65536 [68, 65, 66] 603979776 pows else some (0, 26); kernel_rfl)
  | 10, _ => exact (by show camletref39_Put.f (n + 60) 10 D A B N = (camletref39_Right.f (n + 60) 10 D A B N).bind fun t => if t = true then refGo D A B N 65536 [68, 65, 66] 671088640 pows else some (0, 26); kernel_rfl)
  | 11, _ => exact (by show camletref39_Put.f (n + 60) 11 D A B N = (camletref39_Right.f (n + 60) 11 D A B N).bind fun t => if t = true then refGo D A B N 65536 [68, 65, 66] 738197504 pows else some (0, 26); kernel_rfl)
  | 12, _ => exact (by show camletref39_Put.f (n + 60) 12 D A B N = (camletref39_Right.f (n + 60) 12 D A B N).bind fun t => if t = true then refGo D A B N 65536 [68, 65, 66] 805306368 pows else some (0, 26); kernel_rfl)
  | 13, _ => exact (by show camletref39_Put.f (n + 60) 13 D A B N = (camletref39_Right.f (n + 60) 13 D A B N).bind fun t => if t = true then refGo D A B N 65536 [68, 65, 78] 872415232 pows else some (0, 26); kernel_rfl)
  | 14, _ => exact (by show camletref39_Put.f (n + 60) 14 D A B N = (camletref39_Right.f (n + 60) 14 D A B N).bind fun t => if t = true then refGo D A B N 65536 [68, 65, 78] 939524096 pows else some (0, 26); kernel_rfl)
  | 15, _ => exact (by show camletref39_Put.f (n + 60) 15 D A B N = (camletref39_Right.f (n + 60) 15 D A B N).bind fun t => if t = true then refGo D A B N 65536 [68, 65, 78] 1006632960 pows else some (0, 26); kernel_rfl)
  | 16, _ => exact (by show camletref39_Put.f (n + 60) 16 D A B N = (camletref39_Right.f (n + 60) 16 D A B N).bind fun t => if t = true then refGo D A B N 65536 [68, 65, 78] 1073741824 pows else some (0, 26); kernel_rfl)
  | 17, _ => exact (by show camletref39_Put.f (n + 60) 17 D A B N = (camletref39_Right.f (n + 60) 17 D A B N).bind fun t => if t = true then refGo D A B N 65536 [68, 65, 78] 1140850688 pows else some (0, 26); kernel_rfl)
  | 18, _ => exact (by show camletref39_Put.f (n + 60) 18 D A B N = (camletref39_Right.f (n + 60) 18 D A B N).bind fun t => if t = true then refGo D A B N 65536 [66, 65, 78] 1207959552 pows else some (0, 26); kernel_rfl)
  | 19, _ => exact (by show camletref39_Put.f (n + 60) 19 D A B N = (camletref39_Right.f (n + 60) 19 D A B N).bind fun t => if t = true then refGo D A B N 65536 [65, 66, 78] 1275068416 pows else some (0, 26); kernel_rfl)
  | 20, _ => exact (by show camletref39_Put.f (n + 60) 20 D A B N = (camletref39_Right.f (n + 60) 20 D A B N).bind fun t => if t = true then refGo D A B N 65536 [65, 66, 78] 1342177280 pows else some (0, 26); kernel_rfl)
  | 21, _ => exact (by show camletref39_Put.f (n + 60) 21 D A B N = (camletref39_Right.f (n + 60) 21 D A B N).bind fun t => if t = true then refGo D A B N 65536 [65, 66, 78] 1409286144 pows else some (0, 26); kernel_rfl)
  | 22, _ => exact (by show camletref39_Put.f (n + 60) 22 D A B N = (camletref39_Right.f (n + 60) 22 D A B N).bind fun t => if t = true then refGo D A B N 2097152 [68, 78] 1476395008 pows else some (0, 26); kernel_rfl)
  | 23, _ => exact (by show camletref39_Put.f (n + 60) 23 D A B N = (camletref39_Right.f (n + 60) 23 D A B N).bind fun t => if t = true then refGo D A B N 65536 [68, 65] 1543503872 pows else some (0, 26); kernel_rfl)
  | n + 24, h => exact absurd h (by omega)
def horner (D A B : Int) : Nat → List UInt8 → Nat
  | h, [] => h
  | h, c :: r => horner D A B (32 * h + (regVal c D A B).toNat) r
theorem putGo_sum (D A B : Int) : ∀ (l : List UInt8) (pos h nn : Nat), pos + l.length ≤ 3 → (∀ c ∈ l, 0 ≤ regVal c D A B ∧ regVal c D A B ≤ 31) → nn < 2 ^ (26 - 5 * (pos + l.length)) → h < 2 ^ (6 + 5 * pos) →
    putGo D A B l pos ((2 ^ (26 - 5 * pos) * h + nn : Nat) : Int) = ((2 ^ (26 - 5 * (pos + l.length)) * horner D A B h l + nn : Nat) : Int)
  | [], pos, h, nn, _, _, _, _ => rfl
  | c :: r, pos, h, nn, hl, hv, hn, hh => by
    rw [List.length_cons] at hl hn ⊢
    obtain ⟨v, hvv⟩ : ∃ v : Nat, regVal c D A B = (v : Int) := ⟨(regVal c D A B).toNat, by have := (hv c (by simp)).1; omega⟩
    have hv31 : v ≤ 31 := by have := (hv c (by simp)).2; omega
    have hp : pos ≤ 2 := by omega
    have hnn : nn < 2 ^ (21 - 5 * pos) := Nat.lt_of_lt_of_le hn (Nat.pow_le_pow_right (by decide) (by omega))
    have hhh : 2 ^ (26 - 5 * pos) * h < 4294967296 := by
      have hd : 4294967296 = 2 ^ (26 - 5 * pos) * 2 ^ (6 + 5 * pos) := by rw [← Nat.pow_add, show 26 - 5 * pos + (6 + 5 * pos) = 32 by omega]
      rw [hd]
      exact Nat.mul_lt_mul_of_pos_left hh (Nat.pow_pos (by decide))
    have e1 := orAt_sum pos h nn v hp hv31 hnn hhh
    have hq2 : 21 - 5 * pos = 26 - 5 * (pos + 1) := by omega
    have hq1 : (2 : Nat) ^ (26 - 5 * pos) = 32 * 2 ^ (26 - 5 * (pos + 1)) := by rw [show 26 - 5 * pos = (26 - 5 * (pos + 1)) + 5 by omega, Nat.pow_add, Nat.mul_comm]
    have e4 : 2 ^ (26 - 5 * pos) * h + 2 ^ (21 - 5 * pos) * v + nn = 2 ^ (26 - 5 * (pos + 1)) * (32 * h + v) + nn := by
      rw [hq1, hq2]
      generalize (2 : Nat) ^ (26 - 5 * (pos + 1)) = q
      rw [Nat.mul_add, Nat.mul_comm 32 q, Nat.mul_assoc]
    show putGo D A B r (pos + 1) (orAt _ (regVal c D A B) pos) = _
    rw [hvv, e1, e4]
    have hh2 : 32 * h + v < 2 ^ (6 + 5 * (pos + 1)) := by
      have : 2 ^ (6 + 5 * (pos + 1)) = 2 ^ (6 + 5 * pos) * 32 := by rw [show 6 + 5 * (pos + 1) = 6 + 5 * pos + 5 by omega, Nat.pow_add]
      omega
    have ih := putGo_sum D A B r (pos + 1) (32 * h + v) nn (by omega) (fun c2 h2 => hv c2 (by simp [h2])) (by rw [show pos + 1 + r.length = pos + (r.length + 1) by omega]; exact hn) hh2
    rw [ih]
    show _ = ((2 ^ (26 - 5 * (pos + (r.length + 1))) * horner D A B (32 * h + (regVal c D A B).toNat) r + nn : Nat) : Int)
    rw [hvv, Int.toNat_natCast, show pos + 1 + r.length = pos + (r.length + 1) by omega]
theorem start_sum (kk : Nat) (hk : kk < 64) (N : Int) : putStart kk N = ((2 ^ 26 * kk + (N % (if (kk : Int) = 22 then 2097152 else 65536)).toNat : Nat) : Int) := by
  unfold putStart
  obtain ⟨m, hm⟩ : ∃ m : Nat, N % 4294967296 = (m : Int) := ⟨(N % 4294967296).toNat, by omega⟩
  have hmb : m < 4294967296 := by omega
  have e1 : (kk : Int) % 4294967296 * 67108864 % 4294967296 = ((2 ^ 26 * kk : Nat) : Int) := by
    have : (kk : Int) % 4294967296 = kk := by omega
    rw [this]
    omega
  rw [e1, hm]
  by_cases h : (kk : Int) = 22
  · rw [if_pos h, if_pos h]
    have e2 := bits_and_u32_nat' m 2097151 hmb (by decide)
    rw [show ((2097151 : Nat) : Int) = 2097151 from rfl, show m &&& 2097151 = m % 2097152 from Nat.and_two_pow_sub_one_eq_mod m 21] at e2
    rw [e2, bits_or_u32_nat _ _ (by omega) (by omega), ← Nat.two_pow_add_eq_or_of_lt (by omega)]
    congr 1
    omega
  · rw [if_neg h, if_neg h]
    have e2 := bits_and_u32_nat' m 65535 hmb (by decide)
    rw [show ((65535 : Nat) : Int) = 65535 from rfl, show m &&& 65535 = m % 65536 from Nat.and_two_pow_sub_one_eq_mod m 16] at e2
    rw [e2, bits_or_u32_nat _ _ (by omega) (by omega), ← Nat.two_pow_add_eq_or_of_lt (by omega)]
    congr 1
    omega
theorem w64 {x : Int} (h : -9223372036854775808 ≤ x ∧ x ≤ 9223372036854775807) : wrap64 x = x := by unfold wrap64; omega
theorem okR_t {n : Int} : okR true n = true ↔ 0 ≤ n ∧ n ≤ 31 := by unfold okR; simp
theorem okR_f {n : Int} : okR false n = true ↔ n = 0 := by unfold okR; simp
theorem right_N24 {D A B N : Int} (hr : isaRight 24 D A B N = true) : 1 ≤ N ∧ N ≤ 4 := by
  unfold isaRight at hr
  split at hr
  · cases hr
  · rename_i h
    have hlh : (isaOf 24 N).2.2 = (1, 4) := by unfold isaOf; split <;> rfl
    rw [hlh] at h
    omega
theorem says_n {d a b : Bool} {lo hi D A B N : Int} (h : rowSays ⟨d, a, b, true, lo, hi⟩ D A B N = true) : okR d D = true ∧ okR a A = true ∧ okR b B = true ∧ lo ≤ N ∧ N ≤ hi := by
  unfold rowSays at h
  simp only [Bool.and_eq_true, if_true, decide_eq_true_eq] at h
  exact ⟨h.1, h.2.1, h.2.2.1, h.2.2.2⟩
theorem says_0 {d a b : Bool} {lo hi D A B N : Int} (h : rowSays ⟨d, a, b, false, lo, hi⟩ D A B N = true) : okR d D = true ∧ okR a A = true ∧ okR b B = true ∧ N = 0 := by
  unfold rowSays at h
  simp only [Bool.and_eq_true, Bool.false_eq_true, if_false, beq_iff_eq] at h
  exact ⟨h.1, h.2.1, h.2.2.1, h.2.2.2⟩
theorem cls_none (kk : Nat) (hk : kk < 64) (h22 : ¬ (kk : Int) = 22) {lo hi D A B N : Int}  (h : rowSays ⟨false, false, false, false, lo, hi⟩ D A B N = true) : refGo D A B N 65536 [] (67108864 * kk) pows = some (putGo D A B [] 0 (putStart kk N), 0) := by
  obtain ⟨hD, hA, hB, hn⟩ := says_0 h
  have hD2 := okR_f.1 hD
  have hA2 := okR_f.1 hA
  have hB2 := okR_f.1 hB
  subst hn
  have hs := putGo_sum D A B [] 0 kk ((0 : Int) % 65536).toNat (by decide) (by
    intro c hc
    simp only [List.mem_cons, List.not_mem_nil, or_false] at hc
    skip) (by decide) (by simpa using hk)
  rw [start_sum kk hk 0, if_neg h22]
  refine Eq.trans ?_ (congrArg (fun x => some (x, (0 : Int))) hs.symm)
  show some ((67108864 * (kk : Int)) % 4294967296, (0 : Int)) = _
  have hh : horner D A B kk [] = kk := rfl
  rw [hh]
  rw [show 26 - 5 * (0 + ([] : List UInt8).length) = 26 from rfl]
  congr 2
  omega
theorem cls_DN (kk : Nat) (hk : kk < 64) (h22 : ¬ (kk : Int) = 22) {lo hi D A B N : Int} (hN : -65536 ≤ lo ∧ hi < 65536) (h : rowSays ⟨true, false, false, true, lo, hi⟩ D A B N = true) : refGo D A B N 65536 [68, 78] (67108864 * kk) pows = some (putGo D A B [68] 0 (putStart kk N), 0) := by
  obtain ⟨hD, hA, hB, hn1, hn2⟩ := says_n h
  have hD2 := okR_t.1 hD
  have hA2 := okR_f.1 hA
  have hB2 := okR_f.1 hB
  have hs := putGo_sum D A B [68] 0 kk (N % 65536).toNat (by decide) (by
    intro c hc
    simp only [List.mem_cons, List.not_mem_nil, or_false] at hc
    obtain rfl := hc
    exact hD2) (by
    show (N % 65536).toNat < 2 ^ (26 - 5 * (0 + 1))
    rw [show (2 : Nat) ^ (26 - 5 * (0 + 1)) = 2097152 from rfl]
    omega) (by simpa using hk)
  rw [start_sum kk hk N, if_neg h22]
  refine Eq.trans ?_ (congrArg (fun x => some (x, (0 : Int))) hs.symm)
  show (if N < 0 then some ((wrap64 (wrap64 (67108864 * (kk : Int) + wrap64 (D * 2097152)) + wrap64 (N + 65536))) % 4294967296, (0 : Int)) else some ((wrap64 (wrap64 (67108864 * (kk : Int) + wrap64 (D * 2097152)) + N)) % 4294967296, (0 : Int))) = _
  have hh : horner D A B kk [68] = (32 * kk + D.toNat) := rfl
  rw [hh]
  rw [show 26 - 5 * (0 + ([68] : List UInt8).length) = 21 from rfl]
  by_cases hneg : N < 0
  · rw [if_pos hneg]
    rw [w64 (x := D * 2097152) (by omega), w64 (x := 67108864 * (kk : Int) + D * 2097152) (by omega), w64 (x := N + 65536) (by omega), w64 (x := 67108864 * (kk : Int) + D * 2097152 + (N + 65536)) (by omega)]
    congr 2
    omega
  · rw [if_neg hneg]
    rw [w64 (x := D * 2097152) (by omega), w64 (x := 67108864 * (kk : Int) + D * 2097152) (by omega), w64 (x := 67108864 * (kk : Int) + D * 2097152 + N) (by omega)]
    congr 2
    omega
theorem cls_DNj (kk : Nat) (hk : kk < 64) (h22 : (kk : Int) = 22) {lo hi D A B N : Int} (hN : -2097152 ≤ lo ∧ hi < 2097152) (h : rowSays ⟨true, false, false, true, lo, hi⟩ D A B N = true) : refGo D A B N 2097152 [68, 78] (67108864 * kk) pows = some (putGo D A B [68] 0 (putStart kk N), 0) := by
  obtain ⟨hD, hA, hB, hn1, hn2⟩ := says_n h
  have hD2 := okR_t.1 hD
  have hA2 := okR_f.1 hA
  have hB2 := okR_f.1 hB
  have hs := putGo_sum D A B [68] 0 kk (N % 2097152).toNat (by decide) (by
    intro c hc
    simp only [List.mem_cons, List.not_mem_nil, or_false] at hc
    obtain rfl := hc
    exact hD2) (by
    show (N % 2097152).toNat < 2 ^ (26 - 5 * (0 + 1))
    rw [show (2 : Nat) ^ (26 - 5 * (0 + 1)) = 2097152 from rfl]
    omega) (by simpa using hk)
  rw [start_sum kk hk N, if_pos h22]
  refine Eq.trans ?_ (congrArg (fun x => some (x, (0 : Int))) hs.symm)
  show (if N < 0 then some ((wrap64 (wrap64 (67108864 * (kk : Int) + wrap64 (D * 2097152)) + wrap64 (N + 2097152))) % 4294967296, (0 : Int)) else some ((wrap64 (wrap64 (67108864 * (kk : Int) + wrap64 (D * 2097152)) + N)) % 4294967296, (0 : Int))) = _
  have hh : horner D A B kk [68] = (32 * kk + D.toNat) := rfl
  rw [hh]
  rw [show 26 - 5 * (0 + ([68] : List UInt8).length) = 21 from rfl]
  by_cases hneg : N < 0
  · rw [if_pos hneg]
    rw [w64 (x := D * 2097152) (by omega), w64 (x := 67108864 * (kk : Int) + D * 2097152) (by omega), w64 (x := N + 2097152) (by omega), w64 (x := 67108864 * (kk : Int) + D * 2097152 + (N + 2097152)) (by omega)]
    congr 2
    omega
  · rw [if_neg hneg]
    rw [w64 (x := D * 2097152) (by omega), w64 (x := 67108864 * (kk : Int) + D * 2097152) (by omega), w64 (x := 67108864 * (kk : Int) + D * 2097152 + N) (by omega)]
    congr 2
    omega
theorem cls_DAN (kk : Nat) (hk : kk < 64) (h22 : ¬ (kk : Int) = 22) {lo hi D A B N : Int} (hN : -65536 ≤ lo ∧ hi < 65536) (h : rowSays ⟨true, true, false, true, lo, hi⟩ D A B N = true) : refGo D A B N 65536 [68, 65, 78] (67108864 * kk) pows = some (putGo D A B [68, 65] 0 (putStart kk N), 0) := by
  obtain ⟨hD, hA, hB, hn1, hn2⟩ := says_n h
  have hD2 := okR_t.1 hD
  have hA2 := okR_t.1 hA
  have hB2 := okR_f.1 hB
  have hs := putGo_sum D A B [68, 65] 0 kk (N % 65536).toNat (by decide) (by
    intro c hc
    simp only [List.mem_cons, List.not_mem_nil, or_false] at hc
    rcases hc with rfl | rfl
    · exact hD2
    · exact hA2) (by
    show (N % 65536).toNat < 2 ^ (26 - 5 * (0 + 2))
    rw [show (2 : Nat) ^ (26 - 5 * (0 + 2)) = 65536 from rfl]
    omega) (by simpa using hk)
  rw [start_sum kk hk N, if_neg h22]
  refine Eq.trans ?_ (congrArg (fun x => some (x, (0 : Int))) hs.symm)
  show (if N < 0 then some ((wrap64 (wrap64 (wrap64 (67108864 * (kk : Int) + wrap64 (D * 2097152)) + wrap64 (A * 65536)) + wrap64 (N + 65536))) % 4294967296, (0 : Int)) else some ((wrap64 (wrap64 (wrap64 (67108864 * (kk : Int) + wrap64 (D * 2097152)) + wrap64 (A * 65536)) + N)) % 4294967296, (0 : Int))) = _
  have hh : horner D A B kk [68, 65] = (32 * (32 * kk + D.toNat) + A.toNat) := rfl
  rw [hh]
  rw [show 26 - 5 * (0 + ([68, 65] : List UInt8).length) = 16 from rfl]
  by_cases hneg : N < 0
  · rw [if_pos hneg]
    rw [w64 (x := D * 2097152) (by omega), w64 (x := 67108864 * (kk : Int) + D * 2097152) (by omega), w64 (x := A * 65536) (by omega), w64 (x := 67108864 * (kk : Int) + D * 2097152 + A * 65536) (by omega), w64 (x := N + 65536) (by omega), w64 (x := 67108864 * (kk : Int) + D * 2097152 + A * 65536 + (N + 65536)) (by omega)]
    congr 2
    omega
  · rw [if_neg hneg]
    rw [w64 (x := D * 2097152) (by omega), w64 (x := 67108864 * (kk : Int) + D * 2097152) (by omega), w64 (x := A * 65536) (by omega), w64 (x := 67108864 * (kk : Int) + D * 2097152 + A * 65536) (by omega), w64 (x := 67108864 * (kk : Int) + D * 2097152 + A * 65536 + N) (by omega)]
    congr 2
    omega
theorem cls_BAN (kk : Nat) (hk : kk < 64) (h22 : ¬ (kk : Int) = 22) {lo hi D A B N : Int} (hN : -65536 ≤ lo ∧ hi < 65536) (h : rowSays ⟨false, true, true, true, lo, hi⟩ D A B N = true) : refGo D A B N 65536 [66, 65, 78] (67108864 * kk) pows = some (putGo D A B [66, 65] 0 (putStart kk N), 0) := by
  obtain ⟨hD, hA, hB, hn1, hn2⟩ := says_n h
  have hD2 := okR_f.1 hD
  have hA2 := okR_t.1 hA
  have hB2 := okR_t.1 hB
  have hs := putGo_sum D A B [66, 65] 0 kk (N % 65536).toNat (by decide) (by
    intro c hc
    simp only [List.mem_cons, List.not_mem_nil, or_false] at hc
    rcases hc with rfl | rfl
    · exact hB2
    · exact hA2) (by
    show (N % 65536).toNat < 2 ^ (26 - 5 * (0 + 2))
    rw [show (2 : Nat) ^ (26 - 5 * (0 + 2)) = 65536 from rfl]
    omega) (by simpa using hk)
  rw [start_sum kk hk N, if_neg h22]
  refine Eq.trans ?_ (congrArg (fun x => some (x, (0 : Int))) hs.symm)
  show (if N < 0 then some ((wrap64 (wrap64 (wrap64 (67108864 * (kk : Int) + wrap64 (B * 2097152)) + wrap64 (A * 65536)) + wrap64 (N + 65536))) % 4294967296, (0 : Int)) else some ((wrap64 (wrap64 (wrap64 (67108864 * (kk : Int) + wrap64 (B * 2097152)) + wrap64 (A * 65536)) + N)) % 4294967296, (0 : Int))) = _
  have hh : horner D A B kk [66, 65] = (32 * (32 * kk + B.toNat) + A.toNat) := rfl
  rw [hh]
  rw [show 26 - 5 * (0 + ([66, 65] : List UInt8).length) = 16 from rfl]
  by_cases hneg : N < 0
  · rw [if_pos hneg]
    rw [w64 (x := B * 2097152) (by omega), w64 (x := 67108864 * (kk : Int) + B * 2097152) (by omega), w64 (x := A * 65536) (by omega), w64 (x := 67108864 * (kk : Int) + B * 2097152 + A * 65536) (by omega), w64 (x := N + 65536) (by omega), w64 (x := 67108864 * (kk : Int) + B * 2097152 + A * 65536 + (N + 65536)) (by omega)]
    congr 2
    omega
  · rw [if_neg hneg]
    rw [w64 (x := B * 2097152) (by omega), w64 (x := 67108864 * (kk : Int) + B * 2097152) (by omega), w64 (x := A * 65536) (by omega), w64 (x := 67108864 * (kk : Int) + B * 2097152 + A * 65536) (by omega), w64 (x := 67108864 * (kk : Int) + B * 2097152 + A * 65536 + N) (by omega)]
    congr 2
    omega
theorem cls_ABN (kk : Nat) (hk : kk < 64) (h22 : ¬ (kk : Int) = 22) {lo hi D A B N : Int} (hN : -65536 ≤ lo ∧ hi < 65536) (h : rowSays ⟨false, true, true, true, lo, hi⟩ D A B N = true) : refGo D A B N 65536 [65, 66, 78] (67108864 * kk) pows = some (putGo D A B [65, 66] 0 (putStart kk N), 0) := by
  obtain ⟨hD, hA, hB, hn1, hn2⟩ := says_n h
  have hD2 := okR_f.1 hD
  have hA2 := okR_t.1 hA
  have hB2 := okR_t.1 hB
  have hs := putGo_sum D A B [65, 66] 0 kk (N % 65536).toNat (by decide) (by
    intro c hc
    simp only [List.mem_cons, List.not_mem_nil, or_false] at hc
    rcases hc with rfl | rfl
    · exact hA2
    · exact hB2) (by
    show (N % 65536).toNat < 2 ^ (26 - 5 * (0 + 2))
    rw [show (2 : Nat) ^ (26 - 5 * (0 + 2)) = 65536 from rfl]
    omega) (by simpa using hk)
  rw [start_sum kk hk N, if_neg h22]
  refine Eq.trans ?_ (congrArg (fun x => some (x, (0 : Int))) hs.symm)
  show (if N < 0 then some ((wrap64 (wrap64 (wrap64 (67108864 * (kk : Int) + wrap64 (A * 2097152)) + wrap64 (B * 65536)) + wrap64 (N + 65536))) % 4294967296, (0 : Int)) else some ((wrap64 (wrap64 (wrap64 (67108864 * (kk : Int) + wrap64 (A * 2097152)) + wrap64 (B * 65536)) + N)) % 4294967296, (0 : Int))) = _
  have hh : horner D A B kk [65, 66] = (32 * (32 * kk + A.toNat) + B.toNat) := rfl
  rw [hh]
  rw [show 26 - 5 * (0 + ([65, 66] : List UInt8).length) = 16 from rfl]
  by_cases hneg : N < 0
  · rw [if_pos hneg]
    rw [w64 (x := A * 2097152) (by omega), w64 (x := 67108864 * (kk : Int) + A * 2097152) (by omega), w64 (x := B * 65536) (by omega), w64 (x := 67108864 * (kk : Int) + A * 2097152 + B * 65536) (by omega), w64 (x := N + 65536) (by omega), w64 (x := 67108864 * (kk : Int) + A * 2097152 + B * 65536 + (N + 65536)) (by omega)]
    congr 2
    omega
  · rw [if_neg hneg]
    rw [w64 (x := A * 2097152) (by omega), w64 (x := 67108864 * (kk : Int) + A * 2097152) (by omega), w64 (x := B * 65536) (by omega), w64 (x := 67108864 * (kk : Int) + A * 2097152 + B * 65536) (by omega), w64 (x := 67108864 * (kk : Int) + A * 2097152 + B * 65536 + N) (by omega)]
    congr 2
    omega
theorem cls_DA (kk : Nat) (hk : kk < 64) (h22 : ¬ (kk : Int) = 22) {lo hi D A B N : Int}  (h : rowSays ⟨true, true, false, false, lo, hi⟩ D A B N = true) : refGo D A B N 65536 [68, 65] (67108864 * kk) pows = some (putGo D A B [68, 65] 0 (putStart kk N), 0) := by
  obtain ⟨hD, hA, hB, hn⟩ := says_0 h
  have hD2 := okR_t.1 hD
  have hA2 := okR_t.1 hA
  have hB2 := okR_f.1 hB
  subst hn
  have hs := putGo_sum D A B [68, 65] 0 kk ((0 : Int) % 65536).toNat (by decide) (by
    intro c hc
    simp only [List.mem_cons, List.not_mem_nil, or_false] at hc
    rcases hc with rfl | rfl
    · exact hD2
    · exact hA2) (by
    show ((0 : Int) % 65536).toNat < 2 ^ (26 - 5 * (0 + 2))
    rw [show (2 : Nat) ^ (26 - 5 * (0 + 2)) = 65536 from rfl]
    omega) (by simpa using hk)
  rw [start_sum kk hk 0, if_neg h22]
  refine Eq.trans ?_ (congrArg (fun x => some (x, (0 : Int))) hs.symm)
  show some ((wrap64 (wrap64 (67108864 * (kk : Int) + wrap64 (D * 2097152)) + wrap64 (A * 65536))) % 4294967296, (0 : Int)) = _
  have hh : horner D A B kk [68, 65] = (32 * (32 * kk + D.toNat) + A.toNat) := rfl
  rw [hh]
  rw [show 26 - 5 * (0 + ([68, 65] : List UInt8).length) = 16 from rfl]
  rw [w64 (x := D * 2097152) (by omega), w64 (x := 67108864 * (kk : Int) + D * 2097152) (by omega), w64 (x := A * 65536) (by omega), w64 (x := 67108864 * (kk : Int) + D * 2097152 + A * 65536) (by omega)]
  congr 2
  omega
theorem cls_DAB (kk : Nat) (hk : kk < 64) (h22 : ¬ (kk : Int) = 22) {lo hi D A B N : Int}  (h : rowSays ⟨true, true, true, false, lo, hi⟩ D A B N = true) : refGo D A B N 65536 [68, 65, 66] (67108864 * kk) pows = some (putGo D A B [68, 65, 66] 0 (putStart kk N), 0) := by
  obtain ⟨hD, hA, hB, hn⟩ := says_0 h
  have hD2 := okR_t.1 hD
  have hA2 := okR_t.1 hA
  have hB2 := okR_t.1 hB
  subst hn
  have hs := putGo_sum D A B [68, 65, 66] 0 kk ((0 : Int) % 65536).toNat (by decide) (by
    intro c hc
    simp only [List.mem_cons, List.not_mem_nil, or_false] at hc
    rcases hc with rfl | rfl | rfl
    · exact hD2
    · exact hA2
    · exact hB2) (by
    show ((0 : Int) % 65536).toNat < 2 ^ (26 - 5 * (0 + 3))
    rw [show (2 : Nat) ^ (26 - 5 * (0 + 3)) = 2048 from rfl]
    omega) (by simpa using hk)
  rw [start_sum kk hk 0, if_neg h22]
  refine Eq.trans ?_ (congrArg (fun x => some (x, (0 : Int))) hs.symm)
  show some ((wrap64 (wrap64 (wrap64 (67108864 * (kk : Int) + wrap64 (D * 2097152)) + wrap64 (A * 65536)) + wrap64 (B * 2048))) % 4294967296, (0 : Int)) = _
  have hh : horner D A B kk [68, 65, 66] = (32 * (32 * (32 * kk + D.toNat) + A.toNat) + B.toNat) := rfl
  rw [hh]
  rw [show 26 - 5 * (0 + ([68, 65, 66] : List UInt8).length) = 11 from rfl]
  rw [w64 (x := D * 2097152) (by omega), w64 (x := 67108864 * (kk : Int) + D * 2097152) (by omega), w64 (x := A * 65536) (by omega), w64 (x := 67108864 * (kk : Int) + D * 2097152 + A * 65536) (by omega), w64 (x := B * 2048) (by omega), w64 (x := 67108864 * (kk : Int) + D * 2097152 + A * 65536 + B * 2048) (by omega)]
  congr 2
  omega
theorem cls_S1 {D A B : Int} (h : rowSays (rowS 1) D A B 1 = true) : refGo D A B 1 65536 [78, 65] 1610612736 pows = some (putGo D A B [65] 0 (putStart 24 1), 0) := by
  obtain ⟨hD, hA, hB, hn1, hn2⟩ := says_n (d := false) (a := true) (b := false) (lo := 1) (hi := 4) h
  have hD2 := okR_f.1 hD
  have hA2 := okR_t.1 hA
  have hB2 := okR_f.1 hB
  have hs := putGo_sum D A B [65] 0 24 1 (by decide) (by
    intro c hc
    simp only [List.mem_cons, List.not_mem_nil, or_false] at hc
    obtain rfl := hc
    exact hA2) (by decide) (by decide)
  have hp : putStart 24 1 = ((2 ^ (26 - 5 * 0) * 24 + 1 : Nat) : Int) := start_sum 24 (by decide) 1
  rw [hp]
  refine Eq.trans ?_ (congrArg (fun x => some (x, (0 : Int))) hs.symm)
  have hh : horner D A B 24 [65] = (32 * 24 + A.toNat) := rfl
  rw [hh]
  rw [show 26 - 5 * (0 + ([65] : List UInt8).length) = 21 from rfl]
  rw [refGo, if_pos rfl, if_neg (by decide), w64 (by decide)]
  rw [refGo, if_neg (by decide), if_neg (by decide), if_pos rfl, show List.headD pows (0 : Int) = 2097152 from rfl, w64 (x := A * 2097152) (by omega), w64 (x := _ + A * 2097152) (by omega)]
  rw [refGo]
  congr 2
  omega
theorem cls_S2 {D A B : Int} (h : rowSays (rowS 2) D A B 2 = true) : refGo D A B 2 65536 [78, 68] 1610612736 pows = some (putGo D A B [68] 0 (putStart 24 2), 0) := by
  obtain ⟨hD, hA, hB, hn1, hn2⟩ := says_n (d := true) (a := false) (b := false) (lo := 1) (hi := 4) h
  have hD2 := okR_t.1 hD
  have hA2 := okR_f.1 hA
  have hB2 := okR_f.1 hB
  have hs := putGo_sum D A B [68] 0 24 2 (by decide) (by
    intro c hc
    simp only [List.mem_cons, List.not_mem_nil, or_false] at hc
    obtain rfl := hc
    exact hD2) (by decide) (by decide)
  have hp : putStart 24 2 = ((2 ^ (26 - 5 * 0) * 24 + 2 : Nat) : Int) := start_sum 24 (by decide) 2
  rw [hp]
  refine Eq.trans ?_ (congrArg (fun x => some (x, (0 : Int))) hs.symm)
  have hh : horner D A B 24 [68] = (32 * 24 + D.toNat) := rfl
  rw [hh]
  rw [show 26 - 5 * (0 + ([68] : List UInt8).length) = 21 from rfl]
  rw [refGo, if_pos rfl, if_neg (by decide), w64 (by decide)]
  rw [refGo, if_neg (by decide), if_pos rfl, show List.headD pows (0 : Int) = 2097152 from rfl, w64 (x := D * 2097152) (by omega), w64 (x := _ + D * 2097152) (by omega)]
  rw [refGo]
  congr 2
  omega
theorem cls_S3 {D A B : Int} (h : rowSays (rowS 3) D A B 3 = true) : refGo D A B 3 65536 [78, 68, 66] 1610612736 pows = some (putGo D A B [68, 66] 0 (putStart 24 3), 0) := by
  obtain ⟨hD, hA, hB, hn1, hn2⟩ := says_n (d := true) (a := false) (b := true) (lo := 1) (hi := 4) h
  have hD2 := okR_t.1 hD
  have hA2 := okR_f.1 hA
  have hB2 := okR_t.1 hB
  have hs := putGo_sum D A B [68, 66] 0 24 3 (by decide) (by
    intro c hc
    simp only [List.mem_cons, List.not_mem_nil, or_false] at hc
    rcases hc with rfl | rfl
    · exact hD2
    · exact hB2) (by decide) (by decide)
  have hp : putStart 24 3 = ((2 ^ (26 - 5 * 0) * 24 + 3 : Nat) : Int) := start_sum 24 (by decide) 3
  rw [hp]
  refine Eq.trans ?_ (congrArg (fun x => some (x, (0 : Int))) hs.symm)
  have hh : horner D A B 24 [68, 66] = (32 * (32 * 24 + D.toNat) + B.toNat) := rfl
  rw [hh]
  rw [show 26 - 5 * (0 + ([68, 66] : List UInt8).length) = 16 from rfl]
  rw [refGo, if_pos rfl, if_neg (by decide), w64 (by decide)]
  rw [refGo, if_neg (by decide), if_pos rfl, show List.headD pows (0 : Int) = 2097152 from rfl, w64 (x := D * 2097152) (by omega), w64 (x := _ + D * 2097152) (by omega)]
  rw [refGo, if_neg (by decide), if_neg (by decide), if_neg (by decide), show List.headD pows.tail (0 : Int) = 65536 from rfl, w64 (x := B * 65536) (by omega), w64 (x := _ + B * 65536) (by omega)]
  rw [refGo]
  congr 2
  omega
theorem cls_S4 {D A B : Int} (h : rowSays (rowS 4) D A B 4 = true) : refGo D A B 4 65536 [78, 65] 1610612736 pows = some (putGo D A B [65] 0 (putStart 24 4), 0) := by
  obtain ⟨hD, hA, hB, hn1, hn2⟩ := says_n (d := false) (a := true) (b := false) (lo := 1) (hi := 4) h
  have hD2 := okR_f.1 hD
  have hA2 := okR_t.1 hA
  have hB2 := okR_f.1 hB
  have hs := putGo_sum D A B [65] 0 24 4 (by decide) (by
    intro c hc
    simp only [List.mem_cons, List.not_mem_nil, or_false] at hc
    obtain rfl := hc
    exact hA2) (by decide) (by decide)
  have hp : putStart 24 4 = ((2 ^ (26 - 5 * 0) * 24 + 4 : Nat) : Int) := start_sum 24 (by decide) 4
  rw [hp]
  refine Eq.trans ?_ (congrArg (fun x => some (x, (0 : Int))) hs.symm)
  have hh : horner D A B 24 [65] = (32 * 24 + A.toNat) := rfl
  rw [hh]
  rw [show 26 - 5 * (0 + ([65] : List UInt8).length) = 21 from rfl]
  rw [refGo, if_pos rfl, if_neg (by decide), w64 (by decide)]
  rw [refGo, if_neg (by decide), if_neg (by decide), if_pos rfl, show List.headD pows (0 : Int) = 2097152 from rfl, w64 (x := A * 2097152) (by omega), w64 (x := _ + A * 2097152) (by omega)]
  rw [refGo]
  congr 2
  omega
theorem refGo_lit (kk : Nat) (hk : kk < 24) (D A B N : Int) (h : rowSays (rowK kk) D A B N = true) : refGo D A B N (if kk = 22 then 2097152 else 65536) (lettersK.getD kk []) (67108864 * kk) pows = some (isaPut kk D A B N, 0) := by
  match kk, hk, h with
  | 0, _, h => exact cls_none 0 (by decide) (by decide) h
  | 1, _, h => exact cls_DN 1 (by decide) (by decide) (by decide) h
  | 2, _, h => exact cls_DN 2 (by decide) (by decide) (by decide) h
  | 3, _, h => exact cls_DAN 3 (by decide) (by decide) (by decide) h
  | 4, _, h => exact cls_DAB 4 (by decide) (by decide) h
  | 5, _, h => exact cls_DAB 5 (by decide) (by decide) h
  | 6, _, h => exact cls_DAB 6 (by decide) (by decide) h
  | 7, _, h => exact cls_DAB 7 (by decide) (by decide) h
  | 8, _, h => exact cls_DAB 8 (by decide) (by decide) h
  | 9, _, h => exact cls_DAB 9 (by decide) (by decide) h
  | 10, _, h => exact cls_DAB 10 (by decide) (by decide) h
  | 11, _, h => exact cls_DAB 11 (by decide) (by decide) h
  | 12, _, h => exact cls_DAB 12 (by decide) (by decide) h
  | 13, _, h => exact cls_DAN 13 (by decide) (by decide) (by decide) h
  | 14, _, h => exact cls_DAN 14 (by decide) (by decide) (by decide) h
  | 15, _, h => exact cls_DAN 15 (by decide) (by decide) (by decide) h
  | 16, _, h => exact cls_DAN 16 (by decide) (by decide) (by decide) h
  | 17, _, h => exact cls_DAN 17 (by decide) (by decide) (by decide) h
  | 18, _, h => exact cls_BAN 18 (by decide) (by decide) (by decide) h
  | 19, _, h => exact cls_ABN 19 (by decide) (by decide) (by decide) h
  | 20, _, h => exact cls_ABN 20 (by decide) (by decide) (by decide) h
  | 21, _, h => exact cls_ABN 21 (by decide) (by decide) (by decide) h
  | 22, _, h => exact cls_DNj 22 (by decide) (by decide) (by decide) h
  | 23, _, h => exact cls_DA 23 (by decide) (by decide) h
  | n + 24, h, _ => exact absurd h (by omega)
theorem refPut_sys (n : Nat) (D A B N : Int) : camletref39_Put.f (n + 60) 24 D A B N = isa_Put.f 24 D A B N := by
  have hR := refRight_eq (n + 40) 24 D A B N
  rw [show n + 40 + 20 = n + 60 by omega] at hR
  unfold isa_Put.f
  by_cases hr : isaRight 24 D A B N = true
  · rw [if_pos hr]
    have hs := hr
    rw [isaRight_sys] at hs
    have hb : 1 ≤ N ∧ N ≤ 4 := by
      have := right_N24 hr
      exact this
    have h4 : N = 1 ∨ N = 2 ∨ N = 3 ∨ N = 4 := by omega
    rw [hr] at hR
    rcases h4 with rfl | rfl | rfl | rfl
    · have e : camletref39_Put.f (n + 60) 24 D A B 1 = (camletref39_Right.f (n + 60) 24 D A B 1).bind fun t => if t = true then refGo D A B 1 65536 [78, 65] 1610612736 pows else some (0, 26) := by kernel_rfl
      rw [e, hR]
      exact cls_S1 hs
    · have e : camletref39_Put.f (n + 60) 24 D A B 2 = (camletref39_Right.f (n + 60) 24 D A B 2).bind fun t => if t = true then refGo D A B 2 65536 [78, 68] 1610612736 pows else some (0, 26) := by kernel_rfl
      rw [e, hR]
      exact cls_S2 hs
    · have e : camletref39_Put.f (n + 60) 24 D A B 3 = (camletref39_Right.f (n + 60) 24 D A B 3).bind fun t => if t = true then refGo D A B 3 65536 [78, 68, 66] 1610612736 pows else some (0, 26) := by kernel_rfl
      rw [e, hR]
      exact cls_S3 hs
    · have e : camletref39_Put.f (n + 60) 24 D A B 4 = (camletref39_Right.f (n + 60) 24 D A B 4).bind fun t => if t = true then refGo D A B 4 65536 [78, 65] 1610612736 pows else some (0, 26) := by kernel_rfl
      rw [e, hR]
      exact cls_S4 hs
  · rw [if_neg hr]
    have hf : isaRight 24 D A B N = false := by simpa using hr
    rw [hf] at hR
    unfold camletref39_Put.f
    rw [hR]
    rfl
theorem refPut_eq (n : Nat) (k D A B N : Int) : camletref39_Put.f (n + 60) k D A B N = isa_Put.f k D A B N := by
  have hR := refRight_eq (n + 40) k D A B N
  rw [show n + 40 + 20 = n + 60 by omega] at hR
  by_cases hr : isaRight k D A B N = true
  · have hk : ¬ (k < 0 ∨ 24 < k) := fun h => by rw [isaRight_out _ _ _ _ _ h] at hr; cases hr
    obtain ⟨kk, rfl⟩ : ∃ kk : Nat, k = (kk : Int) := ⟨k.toNat, by omega⟩
    by_cases h2 : kk = 24
    · subst h2
      exact refPut_sys n D A B N
    · rw [refPut_lit n D A B N kk (by omega), hR, hr]
      have hs := hr
      rw [isaRight_lit kk (by omega)] at hs
      unfold isa_Put.f
      rw [if_pos hr]
      exact refGo_lit kk (by omega) D A B N hs
  · have hf : isaRight k D A B N = false := by simpa using hr
    unfold isa_Put.f
    rw [if_neg hr]
    rw [hf] at hR
    unfold camletref39_Put.f
    rw [hR]
    rfl
end Go.Proofs.Ytbjfchkfhbpclaa.Q

--@needs XAsmModel
--@needs XIsaRefPut
--@needs XEvW
namespace Go.Proofs.Ytbjfchkfhbpclaa.Q
open Go.RowKit Go.Proofs.YtbjfchkfhbpclaaW.PrintWords Go.Proofs.YtbjfchkfhbpclaaW.PrintLast Go.Proofs.YtbjfchkfhbpclaaW.PrintMore
attribute [local go_sem] max2_int min2_int max_two min_two max_three min_three max_four min_four   -- for this text's walks alone
set_option linter.unusedVariables false
set_option linter.unusedSimpArgs false

theorem aw64 {n : Int} (h0 : -9223372036854775808 ≤ n) (h1 : n ≤ 9223372036854775807) : wrap64 n = n := by unfold wrap64; omega
theorem ref40_Label_go (s : ByteArray) (hs : s.size ≤ 9223372036854775807) : ∀ (d i : Nat), i + d = s.size → Ev (fun k => camletref40_Label.l0 k s (i : Int)) ((s.data.toList.drop i).all fun c => decide (lch (c.toNat : Int))) := by
  have hl : s.data.toList.length = s.size := Array.length_toList
  intro d
  induction d with
  | zero =>
    intro i hi
    refine Ev.step (f := fun _ => some true) (fun k => ?_) ?_
    · rw [camletref40_Label.l0]; rw [if_neg (by omega)]
    · rw [List.drop_eq_nil_of_le (by omega)]; exact Ev.now _
  | succ d ih =>
    intro i hi
    have hlt : i < s.data.toList.length := by omega
    have hw : wrap64 ((i : Int) + 1) = ((i + 1 : Nat) : Int) := by rw [aw64 (by omega) (by omega)]; omega
    have hn := ih (i + 1) (by omega)
    rw [List.drop_eq_getElem_cons hlt, List.all_cons]
    by_cases hc : lch ((s.data.toList[i]).toNat : Int)
    · rw [decide_eq_true hc, Bool.true_and]
      refine Ev.step (f := fun k => camletref40_Label.l0 k s ((i + 1 : Nat) : Int)) (fun k => ?_) hn
      rw [camletref40_Label.l0]
      rw [if_pos (by omega), if_pos (by omega), hw, asm_bt_at s i hlt]
      generalize ((s.data.toList[i]).toNat : Int) = b at *
      unfold lch at hc
      clear hn ih hw
      repeat' split
      all_goals first | rfl | (exfalso; omega)
    · rw [decide_eq_false hc, Bool.false_and]
      refine Ev.step (f := fun _ => some false) (fun k => ?_) (Ev.now _)
      rw [camletref40_Label.l0]
      rw [if_pos (by omega), if_pos (by omega), hw, asm_bt_at s i hlt]
      generalize ((s.data.toList[i]).toNat : Int) = b at *
      unfold lch at hc
      clear hn ih hw
      repeat' split
      all_goals first | rfl | (exfalso; omega)
theorem ref40_Label_eq (s : ByteArray) (hs : s.size ≤ 9223372036854775807) : Ev (fun k => camletref40_Label.f k s) (labelB s) := by
  have hj : ∀ b : Bool, b = true → Ev (fun k => camletref40_Label.j0 k s b) false := by
    intro b hb
    subst hb
    refine Ev.step (f := fun _ => some false) (fun k => ?_) (Ev.now _)
    rw [camletref40_Label.j0]
    rw [if_pos rfl]
  unfold camletref40_Label.f labelB
  by_cases h0 : (s.size : Int) < 1
  · refine Ev.pos h0 ?_
    have e : s.toList = ([] : List UInt8) := by
      rw [toList_nil]
      have hl : s.data.toList.length = s.size := Array.length_toList
      exact List.eq_nil_of_length_eq_zero (by omega)
    rw [decide_eq_true e]
    have := hj true rfl
    simpa using this
  · refine Ev.neg h0 ?_
    have e : ¬ s.toList = ([] : List UInt8) := by
      rw [toList_nil]
      intro e
      have hl : s.data.toList.length = s.size := Array.length_toList
      rw [e, List.length_nil] at hl
      omega
    rw [decide_eq_false e]
    by_cases h1 : (s.size : Int) > 32
    · have := hj _ (decide_eq_true h1)
      rw [decide_eq_false (show ¬ (s.size : Int) ≤ 32 by omega)]
      simpa using this
    · rw [decide_eq_true (show (s.size : Int) ≤ 32 by omega)]
      have hg := ref40_Label_go s hs s.size 0 (by omega)
      rw [List.drop_zero] at hg
      simp only [Bool.not_false, Bool.and_true]
      refine Ev.step (f := fun k => camletref40_Label.l0 k s ((0 : Nat) : Int)) (fun k => ?_) hg
      rw [camletref40_Label.j0]
      rw [if_neg (by rw [decide_eq_false h1]; decide)]
      rfl
theorem ref40_ways_eq (k : Int) : camletref40_ways.f k = some (goesB k) := by
  unfold camletref40_ways.f goesB
  by_cases h1 : k = 1
  · subst h1; rfl
  by_cases h2 : k = 19
  · simp [h2]
  by_cases h3 : k = 20
  · simp [h3]
  by_cases h4 : k = 21
  · simp [h4]
  by_cases h5 : k = 22
  · simp [h5]
  simp [h1, h2, h3, h4, h5]
/-- the number of the first line with a label, or -1 -/
def labelsV (l : List S44) (s : ByteArray) : Int := (firstF l (skey s)).getD (-1)
theorem labelsV_empty {l : List S44} {s : ByteArray} (h : s.toList = []) : labelsV l s = -1 := by
  unfold labelsV skey
  rw [(toList_nil s).1 h, firstF_nil]
  rfl
theorem rd_line {l : List S44} {i : Nat} (h : i < l.length) : rd_T44 l (i : Int) = l[i] := by
  unfold rd_T44
  rw [Int.toNat_natCast, List.getD_eq_getElem?_getD, List.getElem?_eq_getElem h]
  rfl
def goOn (l : List S44) (s : ByteArray) (i : Nat) : Int := match (l.drop i).findIdx? (fun x => x.f0.data.toList == s.data.toList) with | some n => ((i + n : Nat) : Int) | none => -1
theorem goOn_zero {l : List S44} {s : ByteArray} (h : ¬ s.toList = []) : goOn l s 0 = labelsV l s := by
  rw [toList_nil] at h
  unfold goOn labelsV firstF skey
  dsimp only
  rw [if_neg h, List.drop_zero]
  cases l.findIdx? (fun x => x.f0.data.toList == s.data.toList) with
  | none => rfl
  | some n => simp
theorem goOn_hit {l : List S44} {s : ByteArray} {i : Nat} (h : i < l.length) (he : l[i].f0.toList = s.toList) : goOn l s i = i := by
  rw [ByteArray.toList_eq, ByteArray.toList_eq] at he
  unfold goOn
  rw [List.drop_eq_getElem_cons h, List.findIdx?_cons, beq_iff_eq.mpr he]
  simp
theorem goOn_miss {l : List S44} {s : ByteArray} {i : Nat} (h : i < l.length) (he : ¬ l[i].f0.toList = s.toList) : goOn l s i = goOn l s (i + 1) := by
  rw [ByteArray.toList_eq, ByteArray.toList_eq] at he
  unfold goOn
  rw [List.drop_eq_getElem_cons h, List.findIdx?_cons, beq_eq_false_iff_ne.mpr he]
  cases (l.drop (i + 1)).findIdx? (fun x => x.f0.data.toList == s.data.toList) with
  | none => rfl
  | some n => simp; omega
theorem goOn_end {l : List S44} {s : ByteArray} {i : Nat} (h : l.length ≤ i) : goOn l s i = -1 := by
  unfold goOn
  rw [List.drop_eq_nil_of_le h]
  rfl
theorem ref40_Labels_eq (l : List S44) (hl : l.length ≤ 9223372036854775806) (s : ByteArray) : Ev (fun k => camletref40_Labels.f k l s) (labelsV l s) := by
  by_cases h : s.toList = []
  · rw [labelsV_empty h]
    refine Ev.some 2 (fun k => ?_)
    unfold camletref40_Labels.f
    rw [camletref40_Labels.l0]
    have e : (s.toList != ([] : List UInt8)) = false := bne_eq_false_iff_eq.mpr h
    rw [e]
    split <;> (rw [camletref40_Labels.j1]; rw [if_neg (by decide)])
  rw [← goOn_zero h]
  have e : (s.toList != ([] : List UInt8)) = true := bne_iff_ne.mpr h
  have go : ∀ (d i : Nat), i + d = l.length → Ev (fun k => camletref40_Labels.l0 k l s (i : Int)) (goOn l s i) := by
    intro d
    induction d with
    | zero =>
      intro i hi
      rw [goOn_end (by omega)]
      refine Ev.some 2 (fun k => ?_)
      rw [camletref40_Labels.l0]
      rw [if_neg (by omega)]
      rw [camletref40_Labels.j1]
      rw [if_neg (by decide)]
    | succ d ih =>
      intro i hi
      have hlt : i < l.length := by omega
      have hw : wrap64 ((i : Int) + 1) = ((i + 1 : Nat) : Int) := by rw [aw64 (by omega) (by omega)]; omega
      refine Ev.step (f := fun k => camletref40_Labels.j1 k l s (i : Int) true) (fun k => ?_) ?_
      · rw [camletref40_Labels.l0]
        rw [if_pos (by omega), e]
      by_cases he : l[i].f0.toList = s.toList
      · rw [goOn_hit hlt he]
        refine Ev.step (f := fun _ => some (i : Int)) (fun k => ?_) (Ev.now _)
        rw [camletref40_Labels.j1]
        rw [if_pos rfl, if_pos (by omega), if_pos (by omega), rd_line hlt, if_pos he]
      · rw [goOn_miss hlt he]
        refine Ev.step (f := fun k => camletref40_Labels.l0 k l s ((i + 1 : Nat) : Int)) (fun k => ?_) (ih (i + 1) (by omega))
        rw [camletref40_Labels.j1]
        rw [if_pos rfl, if_pos (by omega), if_pos (by omega), rd_line hlt, if_neg he, hw]
  exact go l.length 0 (by omega)
theorem asm_Labels_eq (l : List S44) (hl : l.length ≤ 9223372036854775806) (s : ByteArray) : Ev (fun k => asm_Labels.f k l s) (labelsV l s) := by
  unfold asm_Labels.f
  by_cases h : s.toList = []
  · rw [labelsV_empty h]
    have go : ∀ (d i : Nat), i + d = l.length → Ev (fun k => asm_Labels.l0 k s l (l.length : Int) (i : Int)) (-1) := by
      intro d
      induction d with
      | zero =>
        intro i hi
        refine Ev.step (f := fun _ => some (-1)) (fun k => ?_) (Ev.now _)
        rw [asm_Labels.l0]
        rw [if_neg (by omega)]
      | succ d ih =>
        intro i hi
        have hw : wrap64 ((i : Int) + 1) = ((i + 1 : Nat) : Int) := by rw [aw64 (by omega) (by omega)]; omega
        refine Ev.step (f := fun k => asm_Labels.l0 k s l (l.length : Int) ((i + 1 : Nat) : Int)) (fun k => ?_) (ih (i + 1) (by omega))
        rw [asm_Labels.l0]
        rw [if_pos (by omega), if_pos (by omega), if_pos (by omega), if_pos h, hw]
    exact go l.length 0 (by omega)
  rw [← goOn_zero h]
  have go : ∀ (d i : Nat), i + d = l.length → Ev (fun k => asm_Labels.l0 k s l (l.length : Int) (i : Int)) (goOn l s i) := by
    intro d
    induction d with
    | zero =>
      intro i hi
      rw [goOn_end (by omega)]
      refine Ev.step (f := fun _ => some (-1)) (fun k => ?_) (Ev.now _)
      rw [asm_Labels.l0]
      rw [if_neg (by omega)]
    | succ d ih =>
      intro i hi
      have hlt : i < l.length := by omega
      have hw : wrap64 ((i : Int) + 1) = ((i + 1 : Nat) : Int) := by rw [aw64 (by omega) (by omega)]; omega
      by_cases he : l[i].f0.toList = s.toList
      · rw [goOn_hit hlt he]
        refine Ev.step (f := fun _ => some (i : Int)) (fun k => ?_) (Ev.now _)
        rw [asm_Labels.l0]
        rw [if_pos (by omega), if_pos (by omega), if_pos (by omega), if_neg h, rd_line hlt, if_pos he]
      · rw [goOn_miss hlt he]
        refine Ev.step (f := fun k => asm_Labels.l0 k s l (l.length : Int) ((i + 1 : Nat) : Int)) (fun k => ?_) (ih (i + 1) (by omega))
        rw [asm_Labels.l0]
        rw [if_pos (by omega), if_pos (by omega), if_pos (by omega), if_neg h, rd_line hlt, if_neg he, hw]
  exact go l.length 0 (by omega)
/-- a line's own label is found, at it or before -/
theorem firstF_own {l : List S44} {i : Nat} (h : i < l.length) (hn : ¬ l[i].f0.toList = []) : ∃ a : Nat, firstF l (skey l[i].f0) = some (a : Int) ∧ a ≤ i := by
  rw [toList_nil] at hn
  unfold firstF skey
  dsimp only
  rw [if_neg hn]
  cases hf : l.findIdx? (fun x => x.f0.data.toList == l[i].f0.data.toList) with
  | none =>
    exfalso
    rw [List.findIdx?_eq_none_iff] at hf
    have := hf l[i] (List.getElem_mem h)
    simp at this
  | some n =>
    refine ⟨n, rfl, ?_⟩
    obtain ⟨hlt, _, hmin⟩ := List.findIdx?_eq_some_iff_getElem.1 hf
    rcases Nat.lt_or_ge i n with hin | hin
    · exfalso
      have := hmin i hin
      simp at this
    · exact hin
def putV (o0 o1 o2 o3 n : Int) : Int × Int := if isaRight o0 o1 o2 o3 n = true then (isaPut o0 o1 o2 o3 n, 0) else (0, 26)
theorem ref39_Put_ev (o0 o1 o2 o3 n : Int) : Ev (fun k => camletref39_Put.f k o0 o1 o2 o3 n) (putV o0 o1 o2 o3 n) := by
  refine Ev.some 60 (fun k => ?_)
  rw [refPut_eq]
  unfold isa_Put.f putV
  split <;> rfl
def oneV (l : List S44) (i : Nat) (x : S44) : Int × Int :=
  if asmWrong l i x ≠ 0 then (0, asmWrong l i x) else putV x.f1.f0 x.f1.f1 x.f1.f2 x.f1.f3 (asmNum l i x)
theorem labelsV_range {l : List S44} {s : ByteArray} (hl : l.length ≤ 16384) : -1 ≤ labelsV l s ∧ labelsV l s ≤ 16384 := by
  unfold labelsV
  cases h : firstF l (skey s) with
  | none => exact ⟨by decide, by decide⟩
  | some a => have := firstF_lt h; exact ⟨by show -1 ≤ a; omega, by show a ≤ 16384; omega⟩
theorem labelsV_some {l : List S44} {s : ByteArray} : (firstF l (skey s)).isSome = true ↔ ¬ labelsV l s < 0 := by
  unfold labelsV
  cases h : firstF l (skey s) with
  | none => simp
  | some a => have := firstF_lt h; simp; omega
theorem labelsV_getD {l : List S44} {s : ByteArray} (h : ¬ labelsV l s < 0) : (firstF l (skey s)).getD 0 = labelsV l s := by
  unfold labelsV at h ⊢
  cases hf : firstF l (skey s) with
  | none => rw [hf] at h; exact absurd (by decide) h
  | some a => rfl
theorem ref40_one_eq (l : List S44) (hl : l.length ≤ 16384) (i : Nat) (hi : i < l.length) (f0 f2 : ByteArray) (o0 o1 o2 o3 o4 : Int) (hx : l[i] = ⟨f0, ⟨o0, o1, o2, o3, o4⟩, f2⟩) (h0 : f0.size ≤ 9223372036854775807) (h2 : f2.size ≤ 9223372036854775807) :
    Ev (fun k => camletref40_one.f k l (i : Int)) (oneV l i ⟨f0, ⟨o0, o1, o2, o3, o4⟩, f2⟩) := by
  have hL0 := ref40_Labels_eq l (by omega) f0
  have hL2 := ref40_Labels_eq l (by omega) f2
  have r0 := labelsV_range (s := f0) hl
  have r2 := labelsV_range (s := f2) hl
  have own : ¬ f0.toList = [] → ¬ labelsV l f0 < 0 := by
    intro h
    have h' := firstF_own hi (by rw [hx]; exact h)
    rw [hx] at h'
    obtain ⟨a, ha, _⟩ := h'
    rw [← labelsV_some, ha]
    rfl
  have j1 : ∀ b : Bool, Ev (fun k => camletref40_one.j1 k l (i : Int) b f0 o0 o1 o2 o3 o4 f2) (if b = true then (0, 9) else if f2.toList = [] then putV o0 o1 o2 o3 o4 else if goesB o0 = false then (0, 1) else if labelsV l f2 < 0 then (0, 25) else if o0 = 1 then putV o0 o1 o2 o3 (2 * labelsV l f2 + 1) else putV o0 o1 o2 o3 (labelsV l f2 - i - 1)) := by
    intro b
    cases b with
    | true =>
      refine Ev.step (f := fun _ => some (0, 9)) (fun k => ?_) (Ev.now _)
      rw [camletref40_one.j1]
      rw [if_pos rfl]
    | false =>
    rw [if_neg (by decide)]
    refine Ev.step (f := fun k => if f2.toList = ([] : List UInt8) then ((camletref39_Put.f k o0 o1 o2 o3 o4).bind fun bt => (some (bt.1, bt.2))) else ((camletref40_ways.f o0).bind fun t150 => (if t150 = true then ((camletref40_Labels.f k l f2).bind fun t151 => (if t151 < 0 then (some (0, 25)) else (if o0 = 1 then ((camletref39_Put.f k o0 o1 o2 o3 (wrap64 ((wrap64 (2 * t151)) + 1))).bind fun bt => (some (bt.1, bt.2))) else ((camletref39_Put.f k o0 o1 o2 o3 (wrap64 ((wrap64 (t151 - (i : Int))) - 1))).bind fun bt => (some (bt.1, bt.2)))))) else (some (0, 1))))) (fun k => ?_) ?_
    · rw [camletref40_one.j1]
      rw [if_neg (by decide)]
    by_cases he : f2.toList = ([] : List UInt8)
    · rw [if_pos he]
      exact Ev.pos he (Ev.bind (ref39_Put_ev _ _ _ _ _) (Ev.now _))
    rw [if_neg he]
    refine Ev.neg he (Ev.val (ref40_ways_eq o0) ?_)
    cases hg : goesB o0 with
    | false => exact Ev.neg (by decide) (Ev.now _)
    | true =>
    rw [if_neg (by decide)]
    refine Ev.pos rfl (Ev.bind hL2 ?_)
    by_cases hlt : labelsV l f2 < 0
    · rw [if_pos hlt]; exact Ev.pos hlt (Ev.now _)
    rw [if_neg hlt]
    refine Ev.neg hlt ?_
    have w1 : wrap64 (wrap64 (2 * labelsV l f2) + 1) = 2 * labelsV l f2 + 1 := by rw [aw64 (n := 2 * labelsV l f2) (by omega) (by omega), aw64 (by omega) (by omega)]
    have w2 : wrap64 (wrap64 (labelsV l f2 - (i : Int)) - 1) = labelsV l f2 - i - 1 := by rw [aw64 (n := labelsV l f2 - (i : Int)) (by omega) (by omega), aw64 (by omega) (by omega)]
    rw [w1, w2]
    by_cases ho : o0 = 1
    · rw [if_pos ho]; exact Ev.pos ho (Ev.bind (ref39_Put_ev _ _ _ _ _) (Ev.now _))
    · rw [if_neg ho]; exact Ev.neg ho (Ev.bind (ref39_Put_ev _ _ _ _ _) (Ev.now _))
  generalize hJ1 : (fun b : Bool => (if b = true then ((0, 9) : Int × Int) else if f2.toList = [] then putV o0 o1 o2 o3 o4 else if goesB o0 = false then (0, 1) else if labelsV l f2 < 0 then (0, 25) else if o0 = 1 then putV o0 o1 o2 o3 (2 * labelsV l f2 + 1) else putV o0 o1 o2 o3 (labelsV l f2 - i - 1))) = J1
  have j1' : ∀ b : Bool, Ev (fun k => camletref40_one.j1 k l (i : Int) b f0 o0 o1 o2 o3 o4 f2) (J1 b) := by
    intro b
    have := j1 b
    rw [← hJ1]
    exact this
  have j0 : ∀ b : Bool, Ev (fun k => camletref40_one.j0 k l (i : Int) b f0 o0 o1 o2 o3 o4 f2) (if b = true then (0, 3) else if f0.toList = [] then J1 false else J1 (decide (labelsV l f0 < i))) := by
    intro b
    cases b with
    | true =>
      refine Ev.step (f := fun _ => some (0, 3)) (fun k => ?_) (Ev.now _)
      rw [camletref40_one.j0]
      rw [if_pos rfl]
    | false =>
    rw [if_neg (by decide)]
    refine Ev.step (f := fun k => if f0.toList = ([] : List UInt8) then (camletref40_one.j1 k l (i : Int) false f0 o0 o1 o2 o3 o4 f2) else ((camletref40_Labels.f k l f0).bind fun t147 => (camletref40_one.j1 k l (i : Int) (decide (t147 < (i : Int))) f0 o0 o1 o2 o3 o4 f2))) (fun k => ?_) ?_
    · rw [camletref40_one.j0]
      rw [if_neg (by decide)]
    by_cases he : f0.toList = ([] : List UInt8)
    · rw [if_pos he]; exact Ev.pos he (j1' false)
    · rw [if_neg he]; exact Ev.neg he (Ev.bind hL0 (j1' _))
  have hB0 := ref40_Label_eq f0 h0
  have hB2 := ref40_Label_eq f2 h2
  have main : Ev (fun k => camletref40_one.f k l (i : Int)) (if (mayB f0 && mayB f2) = false then (0, 3) else if f0.toList = [] then J1 false else J1 (decide (labelsV l f0 < i))) := by
    unfold camletref40_one.f
    rw [rd_line hi, hx]
    dsimp only
    refine Ev.pos (by omega) (Ev.pos (by omega) ?_)
    unfold mayB
    by_cases e0 : f0.toList = ([] : List UInt8)
    · refine Ev.pos e0 ?_
      rw [if_pos e0]
      by_cases e2 : f2.toList = ([] : List UInt8)
      · refine Ev.pos e2 ?_
        rw [if_pos e2]
        exact j0 false
      · refine Ev.neg e2 ?_
        rw [if_neg e2]
        refine Ev.bind hB2 ?_
        have := j0 (!labelB f2)
        cases hb : labelB f2 <;> (rw [hb] at this; exact this)
    · refine Ev.neg e0 ?_
      rw [if_neg e0]
      refine Ev.bind hB0 ?_
      cases hb0 : labelB f0 with
      | false =>
        refine Ev.neg (by decide) ?_
        exact j0 true
      | true =>
      refine Ev.pos rfl ?_
      by_cases e2 : f2.toList = ([] : List UInt8)
      · refine Ev.pos e2 ?_
        rw [if_pos e2]
        exact j0 false
      · refine Ev.neg e2 ?_
        rw [if_neg e2]
        refine Ev.bind hB2 ?_
        have := j0 (!labelB f2)
        cases hb : labelB f2 <;> (rw [hb] at this; exact this)
  have fin : (if (mayB f0 && mayB f2) = false then ((0, 3) : Int × Int) else if f0.toList = [] then J1 false else J1 (decide (labelsV l f0 < i))) = oneV l i ⟨f0, ⟨o0, o1, o2, o3, o4⟩, f2⟩ := by
    rw [← hJ1]
    unfold oneV asmWrong asmNum
    dsimp only
    by_cases hm : (mayB f0 && mayB f2) = false
    · have hm' : mayB f0 = false ∨ mayB f2 = false := by
        cases h : mayB f0 <;> simp_all
      rw [if_pos hm]
      simp only [if_pos hm']
      exact (if_pos (by decide)).symm
    rw [if_neg hm]
    have hm' : ¬ (mayB f0 = false ∨ mayB f2 = false) := by
      cases h : mayB f0 <;> simp_all
    simp only [if_neg hm']
    have tw : ((firstF l (skey f0)).isSome = true ∧ (firstF l (skey f0)).getD 0 < (i : Int)) ↔ (¬ f0.toList = [] ∧ labelsV l f0 < i) := by
      constructor
      · intro ⟨a, b⟩
        have hne : ¬ f0.toList = [] := by
          intro e
          rw [labelsV_some, labelsV_empty e] at a
          exact a (by decide)
        rw [labelsV_getD (own hne)] at b
        exact ⟨hne, b⟩
      · intro ⟨a, b⟩
        exact ⟨labelsV_some.2 (own a), by rw [labelsV_getD (own a)]; exact b⟩
    by_cases e0 : f0.toList = []
    · rw [if_pos e0]
      have htw : ¬ ((firstF l (skey f0)).isSome = true ∧ (firstF l (skey f0)).getD 0 < (i : Int)) := fun h => (tw.1 h).1 e0
      simp only [if_neg htw, if_neg (show ¬ (false = true) by decide)]
      by_cases e2 : f2.toList = []
      · simp [e2]
      · cases hg : goesB o0 with
        | false => simp [e2]
        | true =>
          by_cases hs : labelsV l f2 < 0
          · have hs' : (firstF l (skey f2)).isSome = false := by rw [Bool.eq_false_iff]; intro h; exact (labelsV_some.1 h) hs
            simp [e2, hs, hs']
          · have hs' : (firstF l (skey f2)).isSome = true := labelsV_some.2 hs
            have hd := labelsV_getD hs
            simp [e2, hs, hs', hd]
            split <;> rfl
    · rw [if_neg e0]
      by_cases ht : labelsV l f0 < i
      · have htw : ((firstF l (skey f0)).isSome = true ∧ (firstF l (skey f0)).getD 0 < (i : Int)) := tw.2 ⟨e0, ht⟩
        simp only [if_pos htw, decide_eq_true ht]
        simp
      · have htw : ¬ ((firstF l (skey f0)).isSome = true ∧ (firstF l (skey f0)).getD 0 < (i : Int)) := fun h => ht (tw.1 h).2
        simp only [if_neg htw, decide_eq_false ht, if_neg (show ¬ (false = true) by decide)]
        by_cases e2 : f2.toList = []
        · simp [e2]
        · cases hg : goesB o0 with
          | false => simp [e2]
          | true =>
            by_cases hs : labelsV l f2 < 0
            · have hs' : (firstF l (skey f2)).isSome = false := by rw [Bool.eq_false_iff]; intro h; exact (labelsV_some.1 h) hs
              simp [e2, hs, hs']
            · have hs' : (firstF l (skey f2)).isSome = true := labelsV_some.2 hs
              have hd := labelsV_getD hs
              simp [e2, hs, hs', hd]
              split <;> rfl
  rw [← fin]
  exact main
theorem ref40_Of_go (l : List S44) (hl : l.length ≤ 16384) (hok : asmOk l) : ∀ (d i : Nat) (acc : List Int), i + d = l.length → acc.length ≤ i → Ev (fun k => camletref40_Of.l0 k l acc (i : Int)) (asmGo l (l.drop i) i acc) := by
  intro d
  induction d with
  | zero =>
    intro i acc hi ha
    rw [List.drop_eq_nil_of_le (by omega), asmGo]
    refine Ev.step (f := fun _ => some (acc, 0, 0)) (fun k => ?_) (Ev.now _)
    rw [camletref40_Of.l0]
    rw [if_neg (by omega)]
  | succ d ih =>
    intro i acc hi ha
    have hlt : i < l.length := by omega
    have hs := hok _ (List.getElem_mem hlt)
    obtain ⟨x, hx⟩ : ∃ x, l[i] = x := ⟨_, rfl⟩
    rw [hx] at hs
    obtain ⟨f0, ⟨o0, o1, o2, o3, o4⟩, f2⟩ := x
    have h1 := ref40_one_eq l hl i hlt f0 f2 o0 o1 o2 o3 o4 hx hs.1 hs.2
    have hw : wrap64 ((i : Int) + 1) = ((i + 1 : Nat) : Int) := by rw [aw64 (by omega) (by omega)]; omega
    refine Ev.step (f := fun k => (camletref40_one.f k l (i : Int)).bind fun bt159 => (if bt159.2 = 0 then (if acc.length < 35184372088832 then (camletref40_Of.l0 k l (acc ++ [bt159.1]) ((i + 1 : Nat) : Int)) else (none)) else (some (([] : List Int), (i : Int), bt159.2)))) (fun k => ?_) ?_
    · rw [camletref40_Of.l0]
      rw [if_pos (by omega), hw]
    refine Ev.bind h1 ?_
    rw [List.drop_eq_getElem_cons hlt, hx, asmGo]
    unfold oneV putV
    dsimp only
    by_cases hw0 : asmWrong l i ⟨f0, ⟨o0, o1, o2, o3, o4⟩, f2⟩ ≠ 0
    · simp only [if_pos hw0]
      exact Ev.neg hw0 (Ev.now _)
    simp only [if_neg hw0]
    by_cases hr : isaRight o0 o1 o2 o3 (asmNum l i ⟨f0, ⟨o0, o1, o2, o3, o4⟩, f2⟩) = true
    · simp only [if_pos hr]
      exact Ev.pos trivial (Ev.pos (by omega) (ih (i + 1) _ (by omega) (by rw [List.length_append, List.length_singleton]; omega)))
    · simp only [if_neg hr]
      exact Ev.neg (by decide) (Ev.now _)
theorem ref40_Of_eq (l : List S44) (hok : asmOk l) : Ev (fun k => camletref40_Of.f k l) (if 16384 < (l.length : Int) then ([], 16384, 4) else asmGo l l 0 []) := by
  unfold camletref40_Of.f
  by_cases h : 16384 < (l.length : Int)
  · rw [if_pos h]; exact Ev.pos h (Ev.now _)
  · rw [if_neg h]
    refine Ev.neg h ?_
    have := ref40_Of_go l (by omega) hok l.length 0 [] (by omega) (by simp)
    rw [List.drop_zero] at this
    exact this
theorem asmGo_len (l : List S44) : ∀ (r : List S44) (i : Nat) (acc : List Int), (asmGo l r i acc).1.length ≤ acc.length + r.length
  | [], i, acc => by rw [asmGo]; simp
  | x :: r, i, acc => by
    rw [asmGo]
    by_cases h : asmWrong l i x ≠ 0
    · rw [if_pos h]; simp
    rw [if_neg h]
    split
    · have := asmGo_len l r (i + 1) (acc ++ [isaPut x.f1.f0 x.f1.f1 x.f1.f2 x.f1.f3 (asmNum l i x)])
      simp at this ⊢
      omega
    · simp
end Go.Proofs.Ytbjfchkfhbpclaa.Q

--@needs XEvW
namespace Go.Proofs.Ytbjfchkfhbpclaa.Q
open Go.RowKit Go.Proofs.YtbjfchkfhbpclaaW.PrintWords Go.Proofs.YtbjfchkfhbpclaaW.PrintLast Go.Proofs.YtbjfchkfhbpclaaW.PrintMore
attribute [local go_sem] max2_int min2_int max_two min_two max_three min_three max_four min_four   -- for this text's walks alone
set_option linter.unusedVariables false
set_option linter.unusedSimpArgs false

theorem iw64 {n : Int} (h0 : -9223372036854775808 ≤ n) (h1 : n ≤ 9223372036854775807) : wrap64 n = n := by unfold wrap64; omega
theorem img_same : ∀ (l : List Int), l.length ≤ 9223372036854775807 → Ev (fun k => camletref41_Same.f k l l) true := by
  intro l hl
  have go : ∀ (d i : Nat), i + d = l.length → Ev (fun k => camletref41_Same.l0 k l l (l.length : Int) (i : Int)) true := by
    intro d
    induction d with
    | zero =>
      intro i hi
      refine Ev.step (f := fun _ => some true) (fun k => ?_) (Ev.now _)
      rw [camletref41_Same.l0]; rw [if_neg (by omega)]
    | succ d ih =>
      intro i hi
      refine Ev.step (f := fun k => camletref41_Same.l0 k l l (l.length : Int) ((i + 1 : Nat) : Int)) (fun k => ?_) (ih (i + 1) (by omega))
      rw [camletref41_Same.l0]
      rw [if_pos (by omega), if_pos (by omega), if_pos (by omega), if_pos (by omega), if_pos rfl, iw64 (by omega) (by omega)]
      rfl
  unfold camletref41_Same.f
  exact Ev.pos rfl (go l.length 0 (by omega))
theorem img_same44 (l : List Int) (a : Int) (hl : l.length ≤ 9223372036854775807) : Ev (fun k => camletref44_Same.f k l a l a) true := by
  unfold camletref44_Same.f
  exact Ev.pos rfl (Ev.bind (img_same l hl) (Ev.now _))
end Go.Proofs.Ytbjfchkfhbpclaa.Q
