
/- The reference's reading of digits is num.Read's; what is shown is read. -/
import Derived.Test.YtcdeekfgdmckmaaDoorQx0
import Derived.Test.YtcdeekfgdmckmaaDoorQx8
import Derived.Test.YtcdeekfgdmckmaaDoorHnumRead
--@needs XHnumRead
import Derived.Lib.AtoiAll
namespace Go.Proofs.YtcdeekfgdmckmaaDoor.Q
open Go.RowKit Go.Proofs.YtcdeekfgdmckmaaDoorW.PrintWords Go.Proofs.YtcdeekfgdmckmaaDoorW.PrintLast Go.Proofs.YtcdeekfgdmckmaaDoorW.PrintMore
attribute [local go_sem] max2_int min2_int max_two min_two max_three min_three max_four min_four   -- for this text's walks alone
set_option linter.unusedVariables false
set_option linter.unusedSimpArgs false

/-- the number that digits spell, behind a number -/
def dstep (a : Nat) (c : UInt8) : Nat := a * 10 + (c.toNat - 48)
def decVal (a : Nat) (l : List UInt8) : Nat := l.foldl dstep a
theorem decVal_nil (a : Nat) : decVal a [] = a := by unfold decVal; exact List.foldl_nil
theorem decVal_cons (a : Nat) (c : UInt8) (r : List UInt8) : decVal a (c :: r) = decVal (dstep a c) r := by unfold decVal; exact List.foldl_cons ..
theorem dstep_is (a : Nat) (c : UInt8) : dstep a c = a * 10 + (c.toNat - 48) := by unfold dstep; exact Eq.refl _
theorem dstep_le (a : Nat) (c : UInt8) : a ≤ dstep a c := by rw [dstep_is]; generalize c.toNat = n; omega
attribute [local irreducible] decVal dstep
theorem decVal_le (l : List UInt8) : ∀ acc, acc ≤ decVal acc l := by
  induction l with
  | nil => intro acc; rw [decVal_nil]; exact Nat.le_refl _
  | cons c r ih => intro acc; rw [decVal_cons]; exact Nat.le_trans (dstep_le acc c) (ih _)
theorem decVal_append (l r : List UInt8) : ∀ acc, decVal acc (l ++ r) = decVal (decVal acc l) r := by
  induction l with
  | nil => intro acc; rw [decVal_nil, List.nil_append]
  | cons c l ih => intro acc; rw [List.cons_append, decVal_cons, decVal_cons]; exact ih _
def digL (l : List UInt8) : Prop := ∀ c ∈ l, 48 ≤ c.toNat ∧ c.toNat ≤ 57
theorem parse_dig (l : List UInt8) : ∀ acc, acc < 18446744073709551616 → digL l → (decVal acc l < 18446744073709551616 → Lib.parseUint10 acc l = .ok (decVal acc l)) ∧ (18446744073709551616 ≤ decVal acc l → Lib.parseUint10 acc l = .range) := by
  induction l with
  | nil =>
    intro acc h _
    rw [decVal_nil]
    exact ⟨fun _ => by rw [Lib.parseUint10], fun h2 => by omega⟩
  | cons c r ih =>
    intro acc ha hd
    have hc := hd c (by simp)
    have hr : digL r := fun x hx => hd x (by simp [hx])
    have hle := decVal_le r (dstep acc c)
    have hst := dstep_is acc c
    rw [decVal_cons, Lib.parseUint10, if_pos hc, ← hst]
    clear hd
    generalize dstep acc c = e at hle hst ⊢
    have ih2 := ih e
    clear ih
    generalize decVal e r = v at hle ih2 ⊢
    generalize c.toNat = n at hc hst
    by_cases h1 : 1844674407370955162 ≤ acc
    · rw [if_pos h1]
      exact ⟨fun h2 => by omega, fun _ => rfl⟩
    · rw [if_neg h1]
      by_cases h2 : 18446744073709551616 ≤ e
      · rw [if_pos h2]
        exact ⟨fun h2 => by omega, fun _ => rfl⟩
      · rw [if_neg h2]
        exact ih2 (by omega) hr
theorem atoi_dig (l : List UInt8) (hne : l ≠ []) (hd : digL l) : (decVal 0 l < 9223372036854775808 → Lib.atoiAll l = .ok (decVal 0 l : Int)) ∧ (9223372036854775808 ≤ decVal 0 l → Lib.atoiAll l = .range) := by
  cases l with
  | nil => exact absurd rfl hne
  | cons c r =>
    have hc := hd c (by simp)
    have h43 : ¬ (c.toNat = 43 ∨ c.toNat = 45) := by omega
    have h45 : ¬ c.toNat = 45 := by omega
    obtain ⟨p1, p2⟩ := parse_dig (c :: r) 0 (by omega) hd
    have e : Lib.parseMag (if c.toNat = 43 ∨ c.toNat = 45 then r else c :: r) = Lib.parseUint10 0 (c :: r) := by
      rw [if_neg h43]
      unfold Lib.parseMag
      rw [if_neg (by simp)]
    generalize hv : decVal 0 (c :: r) = v at *
    constructor
    · intro h
      simp only [Lib.atoiAll, e, p1 (by omega)]
      rw [if_neg (by omega), if_neg (by omega), if_neg h45]
    · intro h
      by_cases h2 : v < 18446744073709551616
      · simp only [Lib.atoiAll, e, p1 h2]
        rw [if_pos ⟨h45, h⟩]
      · simp only [Lib.atoiAll, e, p2 (by omega)]
theorem readEnd_dig (l : List UInt8) (hne : l ≠ []) (hd : digL l) (m : Int) (hm : m ≤ 9223372036854775807) : readEnd (Lib.atoiAll l) m = if m < (decVal 0 l : Int) then (0, 2) else ((decVal 0 l : Int), 0) := by
  obtain ⟨p1, p2⟩ := atoi_dig l hne hd
  generalize decVal 0 l = v at *
  by_cases h : v < 9223372036854775808
  · rw [p1 h]; rfl
  · rw [p2 (by omega), if_pos (by omega)]; rfl
theorem data_len (s : ByteArray) : s.data.toList.length = s.size := by rw [Array.length_toList]; rfl
theorem bt_data (s : ByteArray) (i : Nat) (h : i < s.size) : bt s (i : Int) = ((s.data.toList[i]'(by rw [data_len]; exact h)).toNat : Int) := by
  unfold bt
  have h2 : (i : Int).toNat < s.size := by simpa using h
  rw [dif_pos h2]
  rfl
theorem dig_data (s : ByteArray) (h : allDig s) : digL s.data.toList := by
  intro c hc
  obtain ⟨i, hi, rfl⟩ := List.getElem_of_mem hc
  have hi2 : i < s.size := by rw [← data_len]; exact hi
  have := h i hi2
  rw [bt_data s i hi2] at this
  omega
/-- digits of a number spell it -/
theorem dec_val (u : Nat) : decVal 0 (Lib.decDigits u) = u ∧ digL (Lib.decDigits u) ∧ (Lib.decDigits u ≠ []) ∧ (10 ≤ u → (Lib.decDigits u).head? ≠ some 48) := by
  have hch : ∀ d : Nat, d < 10 → (UInt8.ofNat (48 + d)).toNat = 48 + d := by intro d hd; simp [UInt8.toNat_ofNat]; omega
  induction u using Nat.strongRecOn with
  | _ u ih =>
    rw [Lib.decDigits]
    by_cases h : u < 10
    · rw [dif_pos h]
      refine ⟨?_, ?_, by simp, fun h2 => by omega⟩
      · rw [decVal_cons, decVal_nil, dstep_is, hch u h]; omega
      · intro c hc
        rw [List.mem_singleton.mp hc, hch u h]
        omega
    · rw [dif_neg h]
      obtain ⟨h1, h2, h3, h4⟩ := ih (u / 10) (by omega)
      refine ⟨?_, ?_, by simp, fun _ => ?_⟩
      · rw [decVal_append, h1, decVal_cons, decVal_nil, dstep_is, hch (u % 10) (by omega)]
        omega
      · intro c hc
        rcases List.mem_append.mp hc with hc | hc
        · exact h2 c hc
        · rw [List.mem_singleton.mp hc, hch (u % 10) (by omega)]
          omega
      · cases hl : Lib.decDigits (u / 10) with
        | nil => exact absurd hl h3
        | cons c r =>
          simp only [List.cons_append, List.head?_cons]
          by_cases h5 : 10 ≤ u / 10
          · have := h4 h5
            rw [hl] at this
            simpa using this
          · have h6 : Lib.decDigits (u / 10) = [UInt8.ofNat (48 + u / 10)] := by rw [Lib.decDigits, dif_pos (by omega)]
            rw [h6] at hl
            injection hl with hl1 _
            rw [← hl1]
            intro e
            have := congrArg UInt8.toNat (Option.some.inj e)
            rw [hch (u / 10) (by omega)] at this
            have e48 : (48 : UInt8).toNat = 48 := rfl
            omega
end Go.Proofs.YtcdeekfgdmckmaaDoor.Q
