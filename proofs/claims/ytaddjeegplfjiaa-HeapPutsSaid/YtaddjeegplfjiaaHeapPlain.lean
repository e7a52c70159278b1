/- heap: the first word of a block, as plain numbers (heap.Head, heap.Split, and the reference's). -/
import Derived.Test.YtaddjeegplfjiaaQx0
import Derived.Test.YtaddjeegplfjiaaQx1
namespace Go.Proofs.Ytaddjeegplfjiaa.Q
open Go.RowKit Go.Proofs.YtaddjeegplfjiaaW.PrintWords Go.Proofs.YtaddjeegplfjiaaW.PrintLast Go.Proofs.YtaddjeegplfjiaaW.PrintMore
attribute [local go_sem] max2_int min2_int max_two min_two max_three min_three max_four min_four   -- for this text's walks alone
set_option linter.unusedVariables false
set_option linter.unusedSimpArgs false

theorem band_u32 (a b : Nat) (ha : a < 4294967296) (hb : b < 4294967296) : bits .and .u32 (a : Int) (b : Int) = ((a &&& b : Nat) : Int) := by
  have hx : a &&& b < 2 ^ 32 := Nat.and_lt_two_pow _ (by omega)
  have e : bits .and .u32 (a : Int) (b : Int) = IntKind.u32.wrap ((BitVec.ofInt 32 (a : Int) &&& BitVec.ofInt 32 (b : Int)).toNat : Int) := rfl
  rw [e, BitVec.toNat_and, BitVec.ofInt_natCast, BitVec.ofInt_natCast, BitVec.toNat_ofNat, BitVec.toNat_ofNat, Nat.mod_eq_of_lt (by omega), Nat.mod_eq_of_lt (by omega)]
  simp [IntKind.wrap, IntKind.signed, IntKind.bits]
  omega
theorem band_mask (x : Int) (hx0 : 0 ≤ x) (hx1 : x < 4294967296) (b : Nat) (hb : b ≤ 31) : bits BinOp.and IntKind.u32 x ((2 ^ b - 1 : Nat) : Int) = x % ((2 ^ b : Nat) : Int) := by
  obtain ⟨m, rfl⟩ := Int.eq_ofNat_of_zero_le hx0
  have hp : 2 ^ b ≤ 2 ^ 31 := Nat.pow_le_pow_right (by decide) hb
  have := band_u32 m (2 ^ b - 1) (by omega) (by omega)
  show bits BinOp.and IntKind.u32 (m : Int) _ = _
  rw [this, Nat.and_two_pow_sub_one_eq_mod]
  push_cast
  rfl
theorem wr64 {n : Int} (h : -9223372036854775808 ≤ n ∧ n ≤ 9223372036854775807) : wrap64 n = n := by unfold wrap64; omega
def hMost (k : Int) : Int := if k = 0 then 8 else if k = 1 then 256 else 1
def headOk (k t s : Int) : Prop := 0 ≤ k ∧ k ≤ 2 ∧ 0 ≤ t ∧ t ≤ 1023 ∧ (k = 0 ∨ t = 0) ∧ 1 ≤ s ∧ s ≤ hMost k
instance (k t s : Int) : Decidable (headOk k t s) := by unfold headOk; infer_instance
theorem hMost_le (k : Int) : hMost k ≤ 256 := by unfold hMost; split <;> (try split) <;> decide
theorem heap_Head_eq (k t s : Int) : heap_Head.f k t s = some (if headOk k t s then (1 + 2 * k + 16 * t + 16384 * s, 0) else (0, 2)) := by
  unfold heap_Head.f
  simp only [Option.bind_some]
  by_cases h : headOk k t s
  · rw [if_pos h]
    obtain ⟨h1, h2, h3, h4, h5, h6, h7⟩ := h
    have hm : rd [8, 256, 1] k = hMost k := by
      have : k = 0 ∨ k = 1 ∨ k = 2 := by omega
      rcases this with rfl | rfl | rfl <;> rfl
    have h8 := hMost_le k
    have e : wrap64 (wrap64 (wrap64 (1 + wrap64 (2 * k)) + wrap64 (16 * t)) + wrap64 (16384 * s)) % 4294967296 = 1 + 2 * k + 16 * t + 16384 * s := by
      rw [wr64 (n := 2 * k) (by omega), wr64 (n := 16 * t) (by omega), wr64 (n := 16384 * s) (by omega), wr64 (n := 1 + 2 * k) (by omega), wr64 (n := 1 + 2 * k + 16 * t) (by omega), wr64 (by omega)]
      omega
    rw [if_neg (by omega), if_neg (by omega), if_neg (by omega), if_neg (by omega), hm, e]
    by_cases hk : k = 0
    · rw [if_pos hk, if_neg (by omega), if_pos (by omega), if_pos (by simp; omega), if_neg (by omega)]
    · rw [if_neg hk, if_pos (by omega), if_neg (by omega), if_pos (by omega), if_pos (by simp; omega), if_neg (by omega)]
  · rw [if_neg h]
    by_cases c1 : k < 0
    · rw [if_pos c1]
    rw [if_neg c1]
    by_cases c2 : k ≥ 3
    · rw [if_pos c2]
    rw [if_neg c2]
    by_cases c3 : t < 0
    · rw [if_pos c3]
    rw [if_neg c3]
    by_cases c4 : t > 1023
    · rw [if_pos c4]
    rw [if_neg c4]
    have hm : rd [8, 256, 1] k = hMost k := by
      have : k = 0 ∨ k = 1 ∨ k = 2 := by omega
      rcases this with rfl | rfl | rfl <;> rfl
    rw [hm]
    have hl : k < (([8, 256, 1] : List Int).length : Int) := by simp; omega
    by_cases c5 : k = 0
    · rw [if_pos c5]
      by_cases c6 : s < 1
      · rw [if_pos c6]
      rw [if_neg c6, if_pos (by omega), if_pos hl]
      by_cases c7 : s > hMost k
      · rw [if_pos c7]
      exact absurd ⟨by omega, by omega, by omega, by omega, .inl c5, by omega, by omega⟩ h
    · rw [if_neg c5]
      by_cases c6 : t = 0
      · rw [if_pos c6]
        by_cases c8 : s < 1
        · rw [if_pos c8]
        rw [if_neg c8, if_pos (by omega), if_pos hl]
        by_cases c7 : s > hMost k
        · rw [if_pos c7]
        exact absurd ⟨by omega, by omega, by omega, by omega, .inr c6, by omega, by omega⟩ h
      · rw [if_neg c6]
/-- what a block's first word says -/
def splOk (w : Int) : Prop := w % 2 = 1 ∧ headOk (w % 16 / 2) (w / 16 % 1024) (w / 16384)
instance (w : Int) : Decidable (splOk w) := by unfold splOk; infer_instance
def splV (w : Int) : Int × Int × Int × Bool := if splOk w then (w % 16 / 2, w / 16 % 1024, w / 16384, true) else (0, 0, 0, false)
theorem spl_sum {w : Int} (h0 : 0 ≤ w) (h : headOk (w % 16 / 2) (w / 16 % 1024) (w / 16384)) : 1 + 2 * (w % 16 / 2) + 16 * (w / 16 % 1024) + 16384 * (w / 16384) = w ↔ w % 2 = 1 := by omega
theorem heap_Split_eq (w : Int) (h0 : 0 ≤ w) (h1 : w < 4294967296) : heap_Split.f w = some (splV w) := by
  unfold heap_Split.f splV
  have m7 := band_mask (w / 2) (by omega) (by omega) 3 (by decide)
  have m10 := band_mask (w / 16) (by omega) (by omega) 10 (by decide)
  rw [show ((2 ^ 3 - 1 : Nat) : Int) = 7 from rfl, show ((2 ^ 3 : Nat) : Int) = 8 from rfl] at m7
  rw [show ((2 ^ 10 - 1 : Nat) : Int) = 1023 from rfl, show ((2 ^ 10 : Nat) : Int) = 1024 from rfl] at m10
  rw [m7, m10, wr64 (n := w / 2 % 8) (by omega), wr64 (n := w / 16 % 1024) (by omega), wr64 (n := w / 16384) (by omega), show w / 2 % 8 = w % 16 / 2 by omega, heap_Head_eq]
  simp only [Option.bind_some]
  by_cases h : headOk (w % 16 / 2) (w / 16 % 1024) (w / 16384)
  · rw [if_pos h]
    have hs := spl_sum h0 h
    by_cases h2 : w % 2 = 1
    · rw [if_pos rfl, if_pos (hs.2 h2), if_pos ⟨h2, h⟩]
    · rw [if_pos rfl, if_neg (fun e => h2 (hs.1 e)), if_neg (fun e => h2 e.1)]
  · rw [if_neg h, if_neg (by decide), if_neg (fun e => h e.2)]
end Go.Proofs.Ytaddjeegplfjiaa.Q
