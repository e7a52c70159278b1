
/- The reference's Put (camletref39) of an instruction that is right is the walk's isaPut. -/
import Derived.Test.YtcdeekfgdmckmaaDoorQx0
import Derived.Test.YtcdeekfgdmckmaaDoorQx5
import Derived.Test.YtcdeekfgdmckmaaDoorQx6
import Derived.Test.YtcdeekfgdmckmaaDoorHisaOf
import Derived.Test.YtcdeekfgdmckmaaDoorHisaPut
import Derived.Test.YtcdeekfgdmckmaaDoorHisaRight
import Derived.Test.YtcdeekfgdmckmaaDoorIsaRef
--@needs XIsaRef
namespace Go.Proofs.YtcdeekfgdmckmaaDoor.Q
open Go.RowKit Go.Proofs.YtcdeekfgdmckmaaDoorW.PrintWords Go.Proofs.YtcdeekfgdmckmaaDoorW.PrintLast Go.Proofs.YtcdeekfgdmckmaaDoorW.PrintMore
attribute [local go_sem] max2_int min2_int max_two min_two max_three min_three max_four min_four   -- for this text's walks alone
set_option linter.unusedVariables false
set_option linter.unusedSimpArgs false

def horner (D A B : Int) : Nat → List UInt8 → Nat
  | h, [] => h
  | h, c :: r => horner D A B (32 * h + (regVal c D A B).toNat) r
theorem putGo_sum (D A B : Int) : ∀ (l : List UInt8) (pos h nn : Nat), pos + l.length ≤ 3 → (∀ c ∈ l, 0 ≤ regVal c D A B ∧ regVal c D A B ≤ 31) → nn < 2 ^ (26 - 5 * (pos + l.length)) → h < 2 ^ (6 + 5 * pos) →
    putGo D A B l pos ((2 ^ (26 - 5 * pos) * h + nn : Nat) : Int) = ((2 ^ (26 - 5 * (pos + l.length)) * horner D A B h l + nn : Nat) : Int)
  | [], pos, h, nn, _, _, _, _ => rfl
  | c :: r, pos, h, nn, hl, hv, hn, hh => by
    rw [List.length_cons] at hl hn ⊢
    obtain ⟨v, hvv⟩ : ∃ v : Nat, regVal c D A B = (v : Int) := ⟨(regVal c D A B).toNat, by have := (hv c (by simp)).1; omega⟩
    have hv31 : v ≤ 31 := by have := (hv c (by simp)).2; omega
    have hp : pos ≤ 2 := by omega
    have hnn : nn < 2 ^ (21 - 5 * pos) := Nat.lt_of_lt_of_le hn (Nat.pow_le_pow_right (by decide) (by omega))
    have hhh : 2 ^ (26 - 5 * pos) * h < 4294967296 := by
      have hd : 4294967296 = 2 ^ (26 - 5 * pos) * 2 ^ (6 + 5 * pos) := by rw [← Nat.pow_add, show 26 - 5 * pos + (6 + 5 * pos) = 32 by omega]
      rw [hd]
      exact Nat.mul_lt_mul_of_pos_left hh (Nat.pow_pos (by decide))
    have e1 := orAt_sum pos h nn v hp hv31 hnn hhh
    have hq2 : 21 - 5 * pos = 26 - 5 * (pos + 1) := by omega
    have hq1 : (2 : Nat) ^ (26 - 5 * pos) = 32 * 2 ^ (26 - 5 * (pos + 1)) := by rw [show 26 - 5 * pos = (26 - 5 * (pos + 1)) + 5 by omega, Nat.pow_add, Nat.mul_comm]
    have e4 : 2 ^ (26 - 5 * pos) * h + 2 ^ (21 - 5 * pos) * v + nn = 2 ^ (26 - 5 * (pos + 1)) * (32 * h + v) + nn := by
      rw [hq1, hq2]
      generalize (2 : Nat) ^ (26 - 5 * (pos + 1)) = q
      rw [Nat.mul_add, Nat.mul_comm 32 q, Nat.mul_assoc]
    show putGo D A B r (pos + 1) (orAt _ (regVal c D A B) pos) = _
    rw [hvv, e1, e4]
    have hh2 : 32 * h + v < 2 ^ (6 + 5 * (pos + 1)) := by
      have : 2 ^ (6 + 5 * (pos + 1)) = 2 ^ (6 + 5 * pos) * 32 := by rw [show 6 + 5 * (pos + 1) = 6 + 5 * pos + 5 by omega, Nat.pow_add]
      omega
    have ih := putGo_sum D A B r (pos + 1) (32 * h + v) nn (by omega) (fun c2 h2 => hv c2 (by simp [h2])) (by rw [show pos + 1 + r.length = pos + (r.length + 1) by omega]; exact hn) hh2
    rw [ih]
    show _ = ((2 ^ (26 - 5 * (pos + (r.length + 1))) * horner D A B (32 * h + (regVal c D A B).toNat) r + nn : Nat) : Int)
    rw [hvv, Int.toNat_natCast, show pos + 1 + r.length = pos + (r.length + 1) by omega]
theorem start_sum (kk : Nat) (hk : kk < 64) (N : Int) : putStart kk N = ((2 ^ 26 * kk + (N % (if (kk : Int) = 22 then 2097152 else 65536)).toNat : Nat) : Int) := by
  unfold putStart
  obtain ⟨m, hm⟩ : ∃ m : Nat, N % 4294967296 = (m : Int) := ⟨(N % 4294967296).toNat, by omega⟩
  have hmb : m < 4294967296 := by omega
  have e1 : (kk : Int) % 4294967296 * 67108864 % 4294967296 = ((2 ^ 26 * kk : Nat) : Int) := by
    have : (kk : Int) % 4294967296 = kk := by omega
    rw [this]
    omega
  rw [e1, hm]
  by_cases h : (kk : Int) = 22
  · rw [if_pos h, if_pos h]
    have e2 := bits_and_u32_nat' m 2097151 hmb (by decide)
    rw [show ((2097151 : Nat) : Int) = 2097151 from rfl, show m &&& 2097151 = m % 2097152 from Nat.and_two_pow_sub_one_eq_mod m 21] at e2
    rw [e2, bits_or_u32_nat _ _ (by omega) (by omega), ← Nat.two_pow_add_eq_or_of_lt (by omega)]
    congr 1
    omega
  · rw [if_neg h, if_neg h]
    have e2 := bits_and_u32_nat' m 65535 hmb (by decide)
    rw [show ((65535 : Nat) : Int) = 65535 from rfl, show m &&& 65535 = m % 65536 from Nat.and_two_pow_sub_one_eq_mod m 16] at e2
    rw [e2, bits_or_u32_nat _ _ (by omega) (by omega), ← Nat.two_pow_add_eq_or_of_lt (by omega)]
    congr 1
    omega
theorem w64 {x : Int} (h : -9223372036854775808 ≤ x ∧ x ≤ 9223372036854775807) : wrap64 x = x := by unfold wrap64; omega
theorem okR_t {n : Int} : okR true n = true ↔ 0 ≤ n ∧ n ≤ 31 := by unfold okR; simp
theorem okR_f {n : Int} : okR false n = true ↔ n = 0 := by unfold okR; simp
theorem right_N24 {D A B N : Int} (hr : isaRight 24 D A B N = true) : 1 ≤ N ∧ N ≤ 4 := by
  unfold isaRight at hr
  split at hr
  · cases hr
  · rename_i h
    have hlh : (isaOf 24 N).2.2 = (1, 4) := by unfold isaOf; split <;> rfl
    rw [hlh] at h
    omega
theorem says_n {d a b : Bool} {lo hi D A B N : Int} (h : rowSays ⟨d, a, b, true, lo, hi⟩ D A B N = true) : okR d D = true ∧ okR a A = true ∧ okR b B = true ∧ lo ≤ N ∧ N ≤ hi := by
  unfold rowSays at h
  simp only [Bool.and_eq_true, if_true, decide_eq_true_eq] at h
  exact ⟨h.1, h.2.1, h.2.2.1, h.2.2.2⟩
theorem says_0 {d a b : Bool} {lo hi D A B N : Int} (h : rowSays ⟨d, a, b, false, lo, hi⟩ D A B N = true) : okR d D = true ∧ okR a A = true ∧ okR b B = true ∧ N = 0 := by
  unfold rowSays at h
  simp only [Bool.and_eq_true, Bool.false_eq_true, if_false, beq_iff_eq] at h
  exact ⟨h.1, h.2.1, h.2.2.1, h.2.2.2⟩
end Go.Proofs.YtcdeekfgdmckmaaDoor.Q
